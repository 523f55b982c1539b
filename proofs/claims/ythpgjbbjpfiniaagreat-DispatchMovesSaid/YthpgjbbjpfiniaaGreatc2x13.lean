/- DispatchMoves: for every input the given law returns true, and its arguments read as before. No condition. -/
import Derived.Test.YthpgjbbjpfiniaaGreatc2x12
import Derived.Test.YthpgjbbjpfiniaaGreatc2x11
import Derived.Test.YthpgjbbjpfiniaaGreatc2x2
namespace Go.Proofs.YthpgjbbjpfiniaaGreat
open Go.RowKit
set_option linter.unusedSimpArgs false
set_option linter.unusedVariables false
abbrev QbK:Op→Int:=Qc.cost
abbrev Jw:Op→Qa:=Qc.tour
theorem QgN {p:Pr} (hp:OkP p) (t:Qa):0≤(YJ p t).1∧(YJ p t).1≤262400000:=by
 unfold YJ;cases h:W0 p t with
 | inr q=>simp
 | inl u =>
  have:=VG hp h;exact ⟨this.1,this.2.1⟩
def QgB (p:Pr) (t:Qa):Option Op:=if (YJ p t).2=0 then some ⟨t,(YJ p t).1⟩ else none
def Qb2 (p:Pr) (ts:List Qa):List Op:=ts.filterMap (QgB p)
theorem Qgs (p:Pr) (ts:List Qa) (t:Qa):Qb2 p (ts++[t])=Qb2 p ts++(QgB p t).toList:=by
 unfold Qb2
 rw[List.filterMap_append]
 cases h:QgB p t<;>simp[h]
theorem QfU (p:Pr) (ts:List Qa):(Qb2 p ts).length≤ts.length:=List.length_filterMap_le _ _
theorem QhQ {p:Pr} {ts:List Qa} {x:Op} (h:x∈Qb2 p ts):x.tour∈ts∧(YJ p x.tour).2=0∧x.cost=(YJ p x.tour).1:=by
 obtain ⟨t,h1,h2⟩:=List.mem_filterMap.1 h;unfold QgB at h2
 split at h2
 ·injection h2 with h2;subst h2
  exact ⟨h1,by assumption,rfl⟩
 ·cases h2
theorem Qnc {p:Pr} (hp:OkP p) {ts:List Qa}: ∀x∈Qb2 p ts,0≤x.cost∧x.cost≤1000000000:=fun x hx=>by
 have h1:=(QhQ hx).2.2;have h2:=QgN hp x.tour
 omega
theorem Qns {F:Nat} (hF:40000≤F) {p:Pr} (hp:OkP p) (hc:Qo p=some 0) (hn:p.Road.Edges.length≤600) (L:List Qa) (hl:L.length≤1000) :
  iter (Wn F p L) (((L.length:Nat):Int).toNat+1) ([],0)=some (Qb2 p L):=by
 have:=Y2 (body:=Wn F p L) L (fun k=>Qb2 p (L.take k)) (fun m k=>(m,k)) (fun _ _=>none) (Qb2 p L) (by omega) (fun k t ht _=> ?_) (fun _=>by simp only[Wn,oun,List.take_length];simp) (((L.length:Nat):Int).toNat+1) (by simp)
 ·rw[QW _ _ (fun _ _ _=>rfl)] at this
  exact this
 ·have hk:=Qv ht;have hk2:((k:Int)<(L.length:Nat)):=by omega
  have h1:=QfU p (L.take k)
  rw[Yn (Nat.le_of_lt hk)] at h1
  simp only[Wn,oun,hk2,decide_true,cond_true,Qt,ht,Option.bind_some,Qo9 hF hp hc hn,Jj]
  rw[YO ht,Qgs]
  unfold QgB
  by_cases h:(YJ p t).2=0
  ·rw[if_pos h]
   simp only[h,decide_true,cond_true]
   rw[Ym (by simp;omega)]
   rfl
  ·rw[if_neg h]
   simp only[h,decide_false,cond_false,Option.bind_some,Option.toList_none,List.append_nil]
theorem Qik (c:Int): ∀(n:Nat) (Z R:List Op) (f:Nat),Z.length=n→n<f→n≤100000→Srt QbK Z →
  ∃Z1 Z2,Z=Z1++Z2∧iter (Y7 ((Z++R).map QbK) c) f (n:Int)=some ((Z1.length:Nat):Int)∧(∀z∈Z1,z.cost≤c)∧ ∀z∈Z2,c<z.cost
 | _,_,_,0,_,h,_,_=>by omega
 | 0,Z,R,f+1,hZ,_,_,_=>by
  have:Z=[]:=List.eq_nil_of_length_eq_zero hZ;subst this;exact ⟨[],[],rfl,by simp[iter,Y7,QI],by simp,by simp⟩
 | n+1,Z,R,f+1,hZ,hf,hb,hs=>by
  obtain ⟨Y,y,rfl⟩: ∃Y y,Z=Y++[y]:=by
   have:Z≠[]:=by intro e;rw[e] at hZ;simp at hZ
   exact ⟨Z.dropLast,Z.getLast this,(List.dropLast_concat_getLast this).symm⟩
  have hY:Y.length=n:=by simpa using hZ
  have h0:(0:Int)<((n+1:Nat):Int):=by omega
  have e1:w64 (((n+1:Nat):Int)-1)=(n:Int):=by rw[Yj (by omega) (by omega)];omega
  have g1:((Y++[y]++R).map QbK)[n]? =some y.cost:=by
   rw[List.getElem?_map,List.append_assoc,List.getElem?_append_right (by omega),hY]
   simp
  have hp:=List.pairwise_append.1 hs
  by_cases h:c<y.cost
  ·obtain ⟨Z1,Z2,k1,k2,k3,k4⟩:=Qik c n Y (y::R) f hY (by omega) (by omega) hp.1;refine ⟨Z1,Z2++[y],by rw[k1];simp,?_,k3,fun z hz=> ?_⟩
   ·have e2:Y++[y]++R=Y++y::R:=by simp
    rw[e2] at g1 ⊢
    simp only[iter,Y7,h0,decide_true,cond_true,e1,Qt,g1,Option.bind_some,h,QI,k2]
   ·rcases List.mem_append.1 hz with hz | hz
    ·exact k4 z hz
    ·rw[List.mem_singleton.1 hz];exact h
  ·refine ⟨Y++[y],[],by simp,?_,fun z hz=> ?_,by simp⟩
   ·simp only[iter,Y7,h0,decide_true,cond_true,e1,Qt,g1,Option.bind_some,h,decide_false,cond_false,QI]
    rw[hZ]
   ·rcases List.mem_append.1 hz with hz | hz
    ·have:=hp.2.2 z hz y (by simp)
     simp only[QbK] at this
     omega
    ·rw[List.mem_singleton.1 hz];omega
theorem Qpn (f:Op→Int) (g:Op→Qa) (Z1 Z2:List Op) (x:Op) (hl:(Z1++Z2).length≤100000):(Option.bind (WO ((Z1++Z2).map g) 0 ((Z1.length:Nat):Int)) fun l1 =>
      Option.bind (Z7 [] l1) fun l2 =>
      Option.bind (Z7 l2 [g x]) fun l3 =>
      Option.bind (WO ((Z1++Z2).map g) ((Z1.length:Nat):Int) ((((Z1++Z2).map g).length:Nat):Int)) fun l4 =>
      Option.bind (Z7 l3 l4) fun l5 =>
      Option.bind (WO ((Z1++Z2).map f) 0 ((Z1.length:Nat):Int)) fun l6 =>
      Option.bind (Z7 [] l6) fun l7 =>
      Option.bind (Z7 l7 [f x]) fun l8 =>
      Option.bind (WO ((Z1++Z2).map f) ((Z1.length:Nat):Int) ((((Z1++Z2).map f).length:Nat):Int)) fun l9 =>
      Option.bind (Z7 l8 l9) fun l10 =>
      some (l5,l10))=some ((Z1++x::Z2).map g,(Z1++x::Z2).map f):=by
 simp only[List.length_append] at hl
 rw[VT (by simp),QbA (by simp),VT (by simp),QbA (by simp)]
 simp only[Option.bind_some]
 rw[Ym (by simp;omega)]
 simp only[Option.bind_some]
 rw[Ym (by simp;omega)]
 simp only[Option.bind_some]
 rw[Ym (by simp;omega)]
 simp only[Option.bind_some]
 rw[Ym (by simp;omega)]
 simp only[Option.bind_some]
 rw[Ym (by simp;omega)]
 simp only[Option.bind_some]
 rw[Ym (by simp;omega)]
 simp[List.map_append]
theorem Qio {F:Nat} (hF:40000≤F) {p:Pr} (hp:OkP p) (hc:Qo p=some 0) {t:Qa} {d:Int} (hs:t.Stops.length≤1000): ∀(r i:Nat) (L:List Op) (f:Nat),i+r=2*t.Stops.length+1→r<f→Srt QbK L→YL QbK (Qb2 p (V6 t d i)) L →
  ∃L',iter (Y8 F p t d) f (L.map Jw,L.map QbK,(i:Int))=some (L'.map Jw)∧Srt QbK L'∧YL QbK (Qb2 p ((Qbs t.Stops d).map (toT t.Vehicle))) L'
 | _,_,_,0,_,h,_,_=>by omega
 | 0,i,L,f+1,hi,_,h1,h2=>by
  have e1:w64 (2*((t.Stops.length:Nat):Int))=((2*t.Stops.length:Nat):Int):=by rw[Yj (by omega) (by omega)];omega
  have: ¬((i:Int)≤((2*t.Stops.length:Nat):Int)):=by omega
  refine ⟨L,?_,h1,?_⟩
  ·simp only[iter,Y8,oun,e1,this,decide_false,cond_false,Option.bind_some,QI]
  ·have e2:V6 t d i=(Qbs t.Stops d).map (toT t.Vehicle):=by
    unfold V6 Qbs
    rw[show min i (2*t.Stops.length+1)=2*t.Stops.length+1 by omega]
   rw[←e2];exact h2
 | r+1,i,L,f+1,hi,hf,h1,h2=>by
  have e1:w64 (2*((t.Stops.length:Nat):Int))=((2*t.Stops.length:Nat):Int):=by rw[Yj (by omega) (by omega)];omega
  have hlt:((i:Int)≤((2*t.Stops.length:Nat):Int)):=by omega
  have e2:w64 ((i:Int)+1)=((i+1:Nat):Int):=by rw[Yj (by omega) (by omega)];omega
  have e3:w64 (Int.tdiv (i:Int) 2)=((i/2:Nat):Int):=by
   rw[show Int.tdiv (i:Int) 2=((i/2:Nat):Int) from rfl,Yj (by omega) (by omega)]
  have e4:(decide (Int.tmod (i:Int) 2=1))=decide (i%2=1):=by
   rw[show Int.tmod (i:Int) 2=((i%2:Nat):Int) from rfl]
   congr 1
   exact propext (by omega)
  have hcand:Zv t.Stops d ((i/2:Nat):Int) (decide (i%2=1))=some (Jy t.Stops d i):=QjG (by omega) hs;have hcost:=QeH hp hc ⟨t.Vehicle,Jy t.Stops d i⟩;have hfs:=Qel t d (j:=i) (by omega);have hlen:L.length≤2001:=by
   rw[←h2.perm.length_eq]
   refine Nat.le_trans (QfU _ _) ?_
   rw[Qfs];omega
  by_cases h:(YJ p ⟨t.Vehicle,Jy t.Stops d i⟩).2=0
  ·have hop:QgB p ⟨t.Vehicle,Jy t.Stops d i⟩=some ⟨⟨t.Vehicle,Jy t.Stops d i⟩,(YJ p ⟨t.Vehicle,Jy t.Stops d i⟩).1⟩:=by unfold QgB;rw[if_pos h]
   generalize hx:(⟨⟨t.Vehicle,Jy t.Stops d i⟩,(YJ p ⟨t.Vehicle,Jy t.Stops d i⟩).1⟩:Op)=x at hop
   obtain ⟨Z1,Z2,k1,k2,k3,k4⟩:=Qik (YJ p ⟨t.Vehicle,Jy t.Stops d i⟩).1 L.length L [] F rfl (by omega) (by omega) h1;have hxc:x.cost=(YJ p ⟨t.Vehicle,Jy t.Stops d i⟩).1:=by rw[←hx]
   rw[List.append_nil] at k2
   obtain ⟨j1,j2⟩:=QfY (k:=QbK) (x:=x) (by rw[←k1];exact h1) (fun z hz=>by have:=k4 z hz;simp only[QbK];omega) (fun z hz=>by have:=k3 z hz;simp only[QbK];omega)
   rw[←k1] at j2
   have h3:YL QbK (Qb2 p (V6 t d (i+1))) (Z1++x::Z2):=by
    rw[hfs,Qgs,hop]
    exact YL.trans (h2.append (YL.refl _)) j2
   obtain ⟨L',q1,q2,q3⟩:=Qio hF hp hc hs r (i+1) (Z1++x::Z2) f (by omega) (by omega) j1 h3;refine ⟨L',?_,q2,q3⟩;have hmi:=Qpn QbK Jw Z1 Z2 x (by rw[←k1];omega)
   rw[←k1] at hmi
   have hx1:Jw x=⟨t.Vehicle,Jy t.Stops d i⟩:=by rw[←hx]
   have hx2:QbK x=(YJ p ⟨t.Vehicle,Jy t.Stops d i⟩).1:=hxc
   rw[hx1,hx2] at hmi
   simp only[iter,Y8,oun,e1,hlt,decide_true,cond_true,e3,e4,hcand,Option.bind_some,hcost,h,Bool.not_true,cond_false,List.length_map,k2]
   rw[List.length_map,List.length_map] at hmi
   rw[hmi]
   simp only[Option.bind_some,e2,QI,q1]
  ·have hop:QgB p ⟨t.Vehicle,Jy t.Stops d i⟩=none:=by unfold QgB;rw[if_neg h]
   obtain ⟨L',q1,q2,q3⟩:=Qio hF hp hc hs r (i+1) L f (by omega) (by omega) h1 (by rw[hfs,Qgs,hop];simpa using h2);refine ⟨L',?_,q2,q3⟩
   simp only[iter,Y8,oun,e1,hlt,decide_true,cond_true,e3,e4,hcand,Option.bind_some,hcost,h,decide_false,Bool.not_false,e2,QI,q1]
end Go.Proofs.YthpgjbbjpfiniaaGreat
namespace Go.Proofs.YthpgjbbjpfiniaaGreat
open Go.RowKit
set_option linter.unusedSimpArgs false
set_option linter.unusedVariables false
theorem Qn5 (l:List Int):l.length≤(QiO l).length:=by unfold QiO;split<;>simp
theorem Qly {s:List Int} {d:Int} {i:Nat} (h:i<2*s.length+1):s.length+1≤(Jy s d i).length:=by
 unfold Jy QhE;refine Nat.le_trans ?_ (Qn5 _)
 simp;omega
theorem QhJ {p:Pr} {t:Qa} (h:40<t.Stops.length):(YJ p t).2≠0:=by
 unfold YJ W0
 split
 ·rename_i z hz
  split at hz
  ·cases hz
  ·first | rw[if_pos h] at hz | skip
   cases hz
 ·rename_i q hq
  split at hq
  ·injection hq with hq;subst hq;decide
  ·first | rw[if_pos h] at hq | skip
   injection hq with hq;subst hq;decide
theorem Qnd {p:Pr} {t:Qa} {d:Int} (h:40≤t.Stops.length):Qb2 p ((Qbs t.Stops d).map (toT t.Vehicle))=[]:=by
 unfold Qb2
 rw[List.filterMap_eq_nil_iff]
 intro u hu;obtain ⟨s,h1,rfl⟩:=List.mem_map.1 hu;obtain ⟨i,h2,rfl⟩:=List.mem_map.1 h1;have:=Qly (s:=t.Stops) (d:=d) (List.mem_range.1 h2);unfold QgB
 rw[if_neg]
 exact QhJ (by simp only[toT];omega)
structure OkO (p:Pr) (t:Qa) (d:Int) (L:List Op):Prop where
 chk:Qo p=some 0
 ok:OkP p
 v0:0≤t.Vehicle
 v1:t.Vehicle<((p.Vehicles.length:Nat):Int)
 d0:0≤d
 d1:d<((p.Demands.length:Nat):Int)
 new:d∉t.Stops
 srt:Srt QbK L
 stab:YL QbK (Qb2 p ((Qbs t.Stops d).map (toT t.Vehicle))) L
theorem Qpx {t:Qa} {d:Int} (hs:t.Stops.length≤1000):iter (Y6 t d) (((t.Stops.length:Nat):Int).toNat+1) 0=some (bif decide (d∈t.Stops) then .inr ([],6) else .inl ()):=by
 have:=YQ (body:=Y6 t d) t.Stops (fun k y=>bif decide (y=d) then some (.inr ([],6)) else none) (.inl ():Unit⊕(List Qa×Int)) (by omega) (fun k y hy=> ?_) (by simp[Y6]) (((t.Stops.length:Nat):Int).toNat+1) (by simp)
 ·rw[this,Qkm]
  have:(t.Stops.any fun y=>decide (y=d))=decide (d∈t.Stops):=by
   rw[Bool.eq_iff_iff]
   simp only[List.any_eq_true,decide_eq_true_eq]
   exact ⟨fun ⟨y,h1,h2⟩=>h2▸h1,fun h=>⟨d,h,rfl⟩⟩
  rw[this]
 ·have hk:=Qv hy;have hk2:((k:Int)<(t.Stops.length:Nat)):=by omega
  simp only[Y6,hk2,decide_true,cond_true,Qt,hy,Option.bind_some]
  cases decide (y=d)<;>rfl
def QjE (p:Pr) (t:Qa) (d:Int):Bool:=decide (t.Vehicle<0)||(decide (((p.Vehicles.length:Nat):Int)≤t.Vehicle)||(decide (d<0)||decide (((p.Demands.length:Nat):Int)≤d)))
theorem Qbg {F:Nat} (hF:40000≤F) (p:Pr) (hn:p.Road.Edges.length≤600) (t:Qa) (hs:t.Stops.length≤1000) (d:Int) :
  ∃L e,QU F p t d=some (L,e)∧Yu F p t d=some (L.map Jw,e)∧((e≠0∧L=[])∨(e=0∧OkO p t d L))∧(Qo p=some 0→QjE p t d=false→e=bif decide (d∈t.Stops) then 6 else 0):=by
 unfold QU Yu
 rw[ZO (by omega) p hn]
 rcases QcF p hn with ⟨h1,h2⟩ | ⟨e,h1,h2⟩
 ·rw[h1]
  simp only[Option.bind_some,decide_true,Bool.not_true,cond_false,Zn]
  have hb:(decide (t.Vehicle<0)||(decide (((p.Vehicles.length:Nat):Int)≤t.Vehicle)||(decide (d<0)||decide (((p.Demands.length:Nat):Int)≤d))))=QjE p t d:=rfl
  rw[hb]
  cases hbi:QjE p t d with
  | true=>exact ⟨[],7,rfl,rfl,.inl ⟨by decide,rfl⟩,fun _ h=>by cases h⟩
  | false =>
   simp only[cond_false,QcI _ hs,Option.bind_some,Qpx hs]
   unfold QjE at hbi
   simp only[Bool.or_eq_false_iff,decide_eq_false_iff_not] at hbi
   by_cases hd:d∈t.Stops
   ·simp only[hd,decide_true,cond_true,QI]
    exact ⟨[],6,rfl,rfl,.inl ⟨by decide,rfl⟩,fun _ _=>rfl⟩
   ·simp only[hd,decide_false,cond_false,QI]
    obtain ⟨L',q1,q2,q3⟩:=Qio hF h2 h1 hs (2*t.Stops.length+1) 0 [] F (t:=t) (d:=d) (by omega) (by omega) List.Pairwise.nil (by simp[V6,Qb2];exact YL.refl _)
    simp only[List.map_nil] at q1
    rw[show ((0:Nat):Int)=0 from rfl] at q1
    rw[q1]
    by_cases hl:40≤t.Stops.length
    ·have hl':(40:Int)≤((t.Stops.length:Nat):Int):=by omega
     have:L'=[]:=by rw[Qnd hl] at q3;exact (q3.perm.symm.eq_nil)
     subst this;exact ⟨[],0,by simp only[hl',decide_true,cond_true],rfl,.inr ⟨rfl,h1,h2,by omega,by omega,by omega,by omega,hd,q2,q3⟩,fun _ _=>rfl⟩
    ·have hl': ¬(40:Int)≤((t.Stops.length:Nat):Int):=by omega
     have hcl:((Qbs t.Stops d).map (toT t.Vehicle)).length≤1000:=by simp[Qbs];omega
     obtain ⟨L2,j1,j2,j3⟩:=QlS (F:=F) (L:=Qb2 p ((Qbs t.Stops d).map (toT t.Vehicle))) (Nat.le_trans (QfU _ _) hcl) hF (Qnc h2);have:L2=L':=j2.unique q2 (j3.symm.trans q3);subst this;refine ⟨L2,0,?_,rfl,.inr ⟨rfl,h1,h2,by omega,by omega,by omega,by omega,hd,q2,q3⟩,fun _ _=>rfl⟩
     simp only[hl',decide_false,cond_false,QiI hs hF,Option.bind_some,Qns hF h2 h1 hn _ hcl,j1]
 ·rw[h2]
  simp only[Option.bind_some]
  rw[show decide (e=0)=false by simpa using h1]
  exact ⟨[],e,rfl,rfl,.inl ⟨h1,rfl⟩,fun h=>by injection h with h;exact absurd h h1⟩
theorem Qhx (L:List Op) (hl:L.length≤10000):iter (Wm L) (((L.length:Nat):Int).toNat+1) ([],0)=some (L.map Jw):=by
 have:=Y2 (body:=Wm L) L (fun k=>(L.take k).map Jw) (fun m k=>(m,k)) (fun _ _=>none) (L.map Jw) (by omega) (fun k x hx _=> ?_) (fun _=>by simp only[Wm,oun,List.take_length];simp) (((L.length:Nat):Int).toNat+1) (by simp)
 ·rw[QW _ _ (fun _ _ _=>rfl)] at this
  exact this
 ·have hk:=Qv hx;have hk2:((k:Int)<(L.length:Nat)):=by omega
  simp only[Wm,oun,hk2,decide_true,cond_true,Qt,hx,Option.bind_some,Jj]
  rw[Ym (by simp;omega),YO hx]
  simp
theorem OkO.len {p:Pr} {t:Qa} {d:Int} {L:List Op} (h:OkO p t d L) (hs:t.Stops.length≤1000):L.length≤2001:=by
 rw[←h.stab.perm.length_eq]
 refine Nat.le_trans (QfU _ _) ?_
 simp[Qbs];omega
theorem Qhw {F:Nat} (hF:40000≤F) (p:Pr) (hn:p.Road.Edges.length≤600) (t:Qa) (hs:t.Stops.length≤1000) (d:Int) :
  Jz F p t d=Yu F p t d∧V8 F p t d=YG F p t d:=by
 obtain ⟨L,e,h1,h2,h3,_⟩:=Qbg hF p hn t hs d;have hl:L.length≤2001:=by
  rcases h3 with ⟨_,rfl⟩ | ⟨_,h3⟩
  ·simp
  ·exact h3.len hs
 constructor
 ·unfold Jz
  rw[h1,h2]
  simp only[Option.bind_some,oun,Qhx L (by omega)]
 ·unfold V8 YG
  rw[h1,h2]
  simp only[Option.bind_some,oun,List.length_map]
  cases decide (e=0) with
  | false=>rfl
  | true =>
   simp only[Bool.not_true,cond_false]
   by_cases h0:L=[]
   ·subst h0;rfl
   ·obtain ⟨x,M,rfl⟩:=List.exists_cons_of_ne_nil h0;have: ¬((((x::M).length:Nat):Int)=0):=by simp;omega
    simp only[this,decide_false,cond_false,List.map_cons]
    rfl
theorem QeB {F:Nat} (hF:40000≤F) {p:Pr} (hn:p.Road.Edges.length≤600) {t:Qa} (hs:t.Stops.length≤1000) {d:Int} (hc:Qo p=some 0) (hb:QjE p t d=false) (hd:d∉t.Stops) :
  ∃L,QU F p t d=some (L,0)∧OkO p t d L:=by
 obtain ⟨L,e,h1,h2,h3,h4⟩:=Qbg hF p hn t hs d;have:=h4 hc hb
 rw[show decide (d∈t.Stops)=false by simpa using hd] at this
 have he:e=0:=this;subst he;rcases h3 with ⟨h,_⟩ | ⟨_,h3⟩
 ·exact absurd rfl h
 ·exact ⟨L,h1,h3⟩
theorem Qlo {F:Nat} {p:Pr} {t:Qa} {d e:Int} {L:List Op} (h:QU F p t d=some (L,e)) (hl:L.length≤10000):Jz F p t d=some (L.map Jw,e):=by
 unfold Jz
 rw[h]
 simp only[Option.bind_some,oun,Qhx L hl]
theorem QiX (a:List Int) (h:a.length≤1000000):JJ a a=some true:=by
 unfold JJ;have:=YQ (body:=JD a a) a (fun _ _=>none) (.inl ():Unit⊕Bool) (by omega) (fun k y hy=> ?_) (by simp[JD]) (((a.length:Nat):Int).toNat+1) (by simp)
 ·rw[this,QW _ _ (fun _ _ _=>rfl)]
  simp[QI]
 ·have hk:=Qv hy;have hk2:((k:Int)<(a.length:Nat)):=by omega
  simp only[JD,hk2,decide_true,cond_true,Qt,hy,Option.bind_some,Bool.not_true,cond_false,Jj]
theorem Qlr (a:List Qa) (h:a.length≤1000000) (h2: ∀x∈a,x.Stops.length≤1000000):Wz a a=some true:=by
 unfold Wz;have:=YQ (body:=JE a a) a (fun _ _=>none) (.inl ():Unit⊕Bool) (by omega) (fun k y hy=> ?_) (by simp[JE]) (((a.length:Nat):Int).toNat+1) (by simp)
 ·rw[this,QW _ _ (fun _ _ _=>rfl)]
  simp[QI]
 ·have hk:=Qv hy;have hk2:((k:Int)<(a.length:Nat)):=by omega
  simp only[JE,hk2,decide_true,cond_true,Qt,hy,Option.bind_some,Bool.not_true,cond_false,Jj,QiX _ (h2 y (List.mem_of_getElem? hy))]
theorem QlG {p:Pr} {ts:List Qa} {x:Op} (h:x∈Qb2 p ts):x.tour.Stops.length≤40:=by
 rcases Nat.lt_or_ge 40 x.tour.Stops.length with h1 | h1
 ·exact absurd (QhQ h).2.1 (QhJ h1)
 ·exact h1
theorem OkO.stops {p:Pr} {t:Qa} {d:Int} {L:List Op} (h:OkO p t d L): ∀x∈L,x.tour.Stops.length≤40:=fun x hx=>QlG (h.stab.perm.symm.subset hx)
end Go.Proofs.YthpgjbbjpfiniaaGreat
namespace Go.Proofs.YthpgjbbjpfiniaaGreat
open Go.RowKit
set_option linter.unusedSimpArgs false
set_option linter.unusedVariables false
abbrev Pl:=Qf
theorem QdC {α ρ:Type} (p:α→Bool) (g:α→ρ) (fin:ρ): ∀l:List α,first (fun x=>bif p x then some (g x) else none) fin l=(match l.find? p with | some x=>g x | none=>fin)
 | []=>rfl
 | x::r=>by
  simp only[first,List.find?]
  cases h:p x with
  | true=>rfl
  | false=>exact QdC p g fin r
def ofP (x:Pl) (v:Int):Qa:=(x.Tours.find? fun t=>decide (t.Vehicle=v)).getD ⟨v,[]⟩
def wo (d:Int) (l:List Int):List Int:=l.filter fun k=> !decide (k=d)
def Qbv (t:Qa):Bool:=t.Stops.any fun s=>decide (0≤s)
theorem Qhv {x:Pl} (v:Int) (hx:x.Tours.length≤1000):QaP x v=some (ofP x v)∧Vq x v=some (ofP x v):=by
 have key: ∀body:Int→Option (Int⊕(Unit⊕Qa)),(∀k,body k=bif decide (k<((x.Tours.length:Nat):Int)) then Option.bind (getI x.Tours k) fun x2=>bif decide (x2.Vehicle=v) then some (.inr (.inr x2)) else some (.inl (w64 (k+1))) else some (.inr (.inl ()))) →
   (Option.bind (iter body (((x.Tours.length:Nat):Int).toNat+1) 0) fun o_=>QI o_ (fun _=>some (Qa.mk v [])) (fun r=>some r))=some (ofP x v):=by
  intro body hb
  rw[Qcp x.Tours (fun t=>bif decide (t.Vehicle=v) then some (Sum.inr t) else none) (Sum.inl ()) (by omega) (fun k t hk=>by
    have h1:((k:Int)<((x.Tours.length:Nat):Int)):=by have:=Qv hk;omega
    rw[hb]
    simp only[h1,decide_true,cond_true,Qt,hk,Option.bind_some]
    cases decide (t.Vehicle=v)<;>rfl) (by rw[hb];simp) _ (by simp),Option.bind_some,QdC]
  unfold ofP;cases x.Tours.find? fun t=>decide (t.Vehicle=v)<;>rfl
 exact ⟨key _ fun k=>rfl,key _ fun k=>rfl⟩
theorem Qjd {p:Int→Bool} {body:Int→Option (Int⊕(Unit⊕Int))} {l:List Int} (hl:l.length≤1000000) (hb: ∀k,body k=bif decide (k<((l.length:Nat):Int)) then Option.bind (getI l k) fun x1=>bif p x1 then some (.inr (.inr k)) else some (.inl (w64 (k+1))) else some (.inr (.inl ()))) :
  (∃k:Nat,k<l.length∧(∀y∈l.take k,p y=false)∧(∀y,l[k]? =some y→p y=true)∧iter body (((l.length:Nat):Int).toNat+1) 0=some (.inr (k:Int))) ∨
  ((∀y∈l,p y=false)∧iter body (((l.length:Nat):Int).toNat+1) 0=some (.inl ())):=by
 rw[YQ l (fun k x=>bif p x then some (Sum.inr (k:Int)) else none) (Sum.inl ()) (by omega) (fun k x hk=>by
   have h1:((k:Int)<((l.length:Nat):Int)):=by have:=Qv hk;omega
   rw[hb]
   simp only[h1,decide_true,cond_true,Qt,hk,Option.bind_some]
   cases p x<;>rfl) (by rw[hb];simp) _ (by simp)]
 have key: ∀(m:List Int) (n:Nat),(∃k:Nat,k<m.length∧(∀y∈m.take k,p y=false)∧(∀y,m[k]? =some y→p y=true)∧YM (fun k x=>bif p x then some (Sum.inr (k:Int)) else none) (Sum.inl ():Unit⊕Int) n m= .inr ((n+k:Nat):Int)) ∨
   ((∀y∈m,p y=false)∧YM (fun k x=>bif p x then some (Sum.inr (k:Int)) else none) (Sum.inl ():Unit⊕Int) n m= .inl ()):=by
  intro m
  induction m with
  | nil=>exact fun n=> .inr ⟨by simp,rfl⟩
  | cons x r ih =>
   intro n;cases hp:p x with
   | true=>exact .inl ⟨0,by simp,by simp,fun y hy=>by simp at hy;rw[←hy];exact hp,by simp[YM,hp]⟩
   | false =>
    rcases ih (n+1) with ⟨k,h1,h2,h3,h4⟩ | ⟨h1,h2⟩
    ·refine .inl ⟨k+1,by simp;omega,fun y hy=> ?_,fun y hy=>h3 y (by simpa using hy),?_⟩
     ·simp only[List.take_succ_cons,List.mem_cons] at hy
      rcases hy with rfl | hy
      ·exact hp
      ·exact h2 y hy
     ·simp only[YM,hp,cond_false]
      rw[h4];congr 2;omega
    ·refine .inr ⟨fun y hy=> ?_,?_⟩
     ·rcases List.mem_cons.1 hy with rfl | hy
      ·exact hp
      ·exact h1 y hy
     ·simp only[YM,hp,cond_false];exact h2
 rcases key l 0 with ⟨k,h1,h2,h3,h4⟩ | ⟨h1,h2⟩
 ·exact .inl ⟨k,h1,h2,h3,by rw[h4];simp⟩
 ·exact .inr ⟨h1,by rw[h2]⟩
theorem Qm7 {p:Int→Bool} {l:List Int} (h: ∀y∈l,p y=false):l.any p=false:=by
 rw[List.any_eq_false]
 exact fun y hy=>by rw[h y hy];simp
theorem Qqj {p:Int→Bool} {l:List Int} {k:Nat} (hk:k<l.length) (h: ∀y,l[k]? =some y→p y=true):l.any p=true:=by
 rw[List.any_eq_true]
 exact ⟨l[k],List.getElem_mem hk,h _ (List.getElem?_eq_getElem hk)⟩
theorem QgC {t:Qa} (hl:t.Stops.length≤1000000):Vg t=some (Qbv t)∧J1 t=some (Qbv t):=by
 constructor
 ·unfold Vg Jc JZ;rcases Qjd (p:=fun s=>decide (0≤s)) (body:=Wv t.Stops) hl (fun k=>rfl) with ⟨k,h1,h2,h3,h4⟩ | ⟨h1,h2⟩
  ·rw[h4]
   have h5:(0:Int)≤(k:Int):=by omega
   simp only[Option.bind_some,QI,h5,decide_true,Qbv,Qqj h1 h3]
  ·rw[h2]
   simp only[Option.bind_some,QI,Qbv,Qm7 h1]
   rfl
 ·unfold J1
  rw[Qcp t.Stops (fun s=>bif decide (0≤s) then some (Sum.inr true) else none) (Sum.inl ()) (by omega) (fun k s hk=>by
   have h1:((k:Int)<((t.Stops.length:Nat):Int)):=by have:=Qv hk;omega
   simp only[Wc,h1,decide_true,cond_true,Qt,hk,Option.bind_some]
   cases decide (0≤s)<;>rfl) (by simp[Wc]) _ (by simp),Option.bind_some,QdC]
  unfold Qbv;cases h:t.Stops.find? fun s=>decide (0≤s) with
  | none =>
   rw[List.find?_eq_none] at h
   have:t.Stops.any (fun s=>decide (0≤s))=false:=by rw[List.any_eq_false];exact h
   rw[this];rfl
  | some s =>
   have h1:=List.find?_some h;have h2:=List.mem_of_find?_eq_some h;have:t.Stops.any (fun s=>decide (0≤s))=true:=by rw[List.any_eq_true];exact ⟨s,h2,h1⟩
   rw[this];rfl
theorem QkZ {l:List Int} (d:Int) (hl:l.length≤1000000):JF l d=some (wo d l):=by
 unfold JF;have:=Qje l (fun (o:List Int) k=>(o,k)) (body:=ZY l d) (fun o x=> .inl (if x=d then o else o++[x])) (fun o=>o) (fun o k=>o=wo d (l.take k)) (by omega) (fun k x o hk ho=>by
  have h0:=Qv hk;have h1:((k:Int)<((l.length:Nat):Int)):=by omega
  have hw:wo d (l.take (k+1))=wo d (l.take k)++if x=d then [] else [x]:=by
   rw[YO hk];unfold wo;rw[List.filter_append]
   by_cases h:x=d<;>simp[h]
  refine ⟨?_,fun o' h=> ?_⟩
  ·simp only[ZY,oun,h1,decide_true,cond_true,Qt,hk,Option.bind_some]
   by_cases h:x=d
   ·simp[h]
   ·have hle:o.length≤k:=by rw[ho];exact Nat.le_trans (List.length_filter_le _ _) (by simp;omega)
    simp only[h,decide_false,Bool.not_false,cond_true,if_false]
    rw[Ym (by simp;omega)]
    rfl
  ·injection h with h
   subst h
   rw[hw,ho]
   by_cases h:x=d<;>simp[h]) (fun o ho=>by simp[ZY,oun]) (((l.length:Nat):Int).toNat+1) [] rfl (by simp)
 rw[this]
 have key: ∀(m:List Int) (o:List Int),each (fun o x=>(.inl (if x=d then o else o++[x]):List Int⊕List Int)) (fun o=>o) m o=o++wo d m:=by
  intro m
  induction m with
  | nil=>intro o;simp[each,wo]
  | cons x r ih =>
   intro o
   simp only[each]
   rw[ih]
   by_cases h:x=d<;>simp[h,wo]
 rw[key];rfl
theorem Qod {l:List Int} (d:Int) (hl:l.length≤1000000):J9 l d=some (decide (d∈l)):=by
 unfold J9
 rw[Qcp l (fun s=>bif decide (s=d) then some (Sum.inr true) else none) (Sum.inl ()) (by omega) (fun k s hk=>by
  have h1:((k:Int)<((l.length:Nat):Int)):=by have:=Qv hk;omega
  simp only[Va,h1,decide_true,cond_true,Qt,hk,Option.bind_some]
  cases decide (s=d)<;>rfl) (by simp[Va]) _ (by simp),Option.bind_some,QdC]
 cases h:l.find? fun s=>decide (s=d) with
 | none =>
  rw[List.find?_eq_none] at h
  have: ¬d∈l:=fun hm=>by have:=h d hm;simp at this
  simp[this,QI]
 | some s =>
  have h1:=List.find?_some h;have h2:=List.mem_of_find?_eq_some h;have h3:s=d:=by simpa using h1
  rw[h3] at h2
  simp[h2,QI]
theorem QhK {l:List Int} {d:Int} (hl:l.length≤100000): ∀(r j i f:Nat) (s:List Int),j+r=l.length→r<f→i<j→s.length=l.length→s.take i=wo d (l.take j)→s.drop j=l.drop j →
  ∃s',iter (YF l d) f (s,(i:Int),(j:Int))=some (s',((wo d l).length:Int))∧s'.length=l.length∧s'.take (wo d l).length=wo d l∧(wo d l).length≤l.length
 | 0,j,i,f+1,s,hj,_,hij,hs,ht,hd=>by
  have h1: ¬((j:Int)<((l.length:Nat):Int)):=by omega
  have e:l.take j=l:=List.take_of_length_le (by omega)
  rw[e] at ht
  have hi:(wo d l).length=i:=by rw[←ht];simp;omega
  refine ⟨s,?_,hs,by rw[hi];exact ht,List.length_filter_le _ _⟩
  simp only[iter,YF,oun,h1,decide_false,cond_false,hi]
  rfl
 | r+1,j,i,f+1,s,hj,hf,hij,hs,ht,hd=>by
  have h1:((j:Int)<((l.length:Nat):Int)):=by omega
  obtain ⟨x,hx⟩: ∃x,l[j]? =some x:=⟨_,List.getElem?_eq_getElem (by omega)⟩
  have hsx:s[j]? =some x:=by
   have e1:s[j]? =(s.drop j)[0]? :=by simp
   rw[e1,hd];simpa using hx
  obtain ⟨y,hy⟩: ∃y,s[i]? =some y:=⟨_,List.getElem?_eq_getElem (by omega)⟩
  have hw:wo d (l.take (j+1))=wo d (l.take j)++if x=d then [] else [x]:=by
   rw[YO hx];unfold wo;rw[List.filter_append]
   by_cases h:x=d<;>simp[h]
  have e2:w64 ((i:Int)+1)=((i+1:Nat):Int):=Wq (by omega);have e3:w64 ((j:Int)+1)=((j+1:Nat):Int):=Wq (by omega)
  by_cases h:x=d
  ·obtain ⟨s',g1,g2⟩:=QhK hl r (j+1) i f s (by omega) (by omega) (by omega) hs (by rw[hw];simp[h,ht]) (by rw[←List.drop_drop,hd];simp);refine ⟨s',?_,g2⟩
   rw[←g1]
   simp only[iter,YF,J7,oun,h1,decide_true,cond_true,Qt,hsx,Option.bind_some,h,Bool.not_true,cond_false,e3]
   rfl
  ·have hlt:i<s.length:=by omega
   obtain ⟨s',g1,g2⟩:=QhK hl r (j+1) (i+1) f (s.set i x) (by omega) (by omega) (by omega) (by simpa using hs) (by
     rw[hw,if_neg h,←ht]
     rw[List.take_add_one,List.take_set_of_le (Nat.le_refl _)]
     simp[hlt]) (by
     rw[List.drop_set_of_lt (by omega),←List.drop_drop,hd];simp)
   refine ⟨s',?_,g2⟩
   rw[←g1]
   simp only[iter,YF,J7,oun,h1,decide_true,cond_true,Qt,hsx,hy,Option.bind_some,h,decide_false,Bool.not_false,e2,e3,Yl,Int.toNat_natCast]
   rfl
theorem Qgj {d:Int} {l:List Int} (h: ∀y∈l,decide (y=d)=false):wo d l=l:=by
 unfold wo
 rw[List.filter_eq_self]
 exact fun y hy=>by rw[h y hy];rfl
theorem Qqn {F:Nat} (hF:40000≤F) {l:List Int} (d:Int) (hl:l.length≤30000):ZN F l d=some (wo d l):=by
 unfold ZN JY;rcases Qjd (p:=fun s=>decide (s=d)) (body:=Wu l d) (l:=l) (by omega) (fun k=>rfl) with ⟨k,h1,h2,h3,h4⟩ | ⟨h1,h2⟩
 ·rw[h4]
  have h5: ¬((k:Int)= -1):=by omega
  have hw:wo d (l.take (k+1))=l.take k:=by
   obtain ⟨x,hx⟩: ∃x,l[k]? =some x:=⟨_,List.getElem?_eq_getElem h1⟩
   have hxd:x=d:=by simpa using h3 x hx
   rw[YO hx]
   have:=Qgj h2;unfold wo at this ⊢
   rw[List.filter_append,this];simp[hxd]
  obtain ⟨s',g1,g2,g3,g4⟩:=QhK (d:=d) (by omega) (l.length-(k+1)) (k+1) k F l (by omega) (by omega) (by omega) rfl hw.symm rfl
  simp only[Option.bind_some,QI,h5,decide_false,cond_false,Wq (show k<9223372036854775807 by omega)]
  rw[g1]
  simp only[Option.bind_some,oun]
  rw[QbA (by omega)]
  have e1:(Qfk s' (((wo d l).length:Nat):Int) 0).take (wo d l).length=wo d l:=by
   unfold Qfk
   rw[List.take_append_of_le_length (by simp;omega)]
   simp[g3]
  have e2:WO (Qfk s' (((wo d l).length:Nat):Int) 0) 0 (((wo d l).length:Nat):Int)=some (wo d l):=by
   unfold WO
   rw[if_pos ⟨by omega,by omega,by rw[QcL];omega⟩]
   simp only[Int.toNat_natCast,Int.toNat_zero,List.drop_zero,e1]
  rw[Option.bind_some,e2];rfl
 ·rw[h2]
  simp only[Option.bind_some,QI,decide_true,cond_true]
  rw[Qgj h1]
theorem QnZ {α:Type} (l:List α) (hl:l.length≤1000):QhH l=some l:=by
 unfold QhH
 simp
 omega
theorem QfG {F:Nat} (hF:40000≤F) {l:List Int} (d:Int) (hl:l.length≤1000):J6 F l d=some (wo d l):=by
 unfold J6
 rw[QnZ l hl,Option.bind_some,Qqn hF d (by omega)];rfl
theorem Qpg (a b:Int):Vf a b=some (if a<b then -1 else if b<a then 1 else 0):=by
 unfold Vf Qau
 simp only[Option.bind_some,decide_true,Bool.not_true,cond_false]
 by_cases h:a<b
 ·simp[h]
 ·by_cases h2:b<a<;>simp[h,h2]
theorem Qrg (a b:Int):Qcm [a,b]=some (if a=0 then b else a):=by
 unfold Qcm
 rw[Qcp [a,b] (fun x=>bif !decide (x=0) then some (Sum.inr x) else none) (Sum.inl ()) (by simp) (fun k x hk=>by
  have h1:((k:Int)<(([a,b].length:Nat):Int)):=by have:=Qv hk;omega
  simp only[QbD,h1,decide_true,cond_true,Qt,hk,Option.bind_some]
  cases decide (x=0)<;>rfl) (by simp[QbD]) _ (by simp),Option.bind_some]
 by_cases ha:a=0
 ·by_cases hb:b=0
  ·simp[first,ha,hb,QI]
  ·simp[first,ha,hb,QI]
 ·simp[first,ha,QI]
def JO (x:Qb):Int:=((x.plan.Left.length:Nat):Int)*1000000000000+x.cost
def QbP (x:Qb):Prop:=0≤x.cost∧x.cost<1000000000000
theorem QhI {a b:Qb} (ha:QbP a) (hb:QbP b): ∃z,Q6 a b=some z∧(z<0↔JO a<JO b):=by
 unfold Q6
 simp only[Qpg,Option.bind_some,Qrg]
 refine ⟨_,rfl,?_⟩;unfold JO;obtain ⟨a0,a1⟩:=ha;obtain ⟨b0,b1⟩:=hb
 by_cases h1:((a.plan.Left.length:Nat):Int)<((b.plan.Left.length:Nat):Int)
 ·rw[if_pos h1,if_neg (by decide)];omega
 ·by_cases h2:((b.plan.Left.length:Nat):Int)<((a.plan.Left.length:Nat):Int)
  ·rw[if_neg h1,if_pos h2,if_neg (by decide)];omega
  ·rw[if_neg h1,if_neg h2,if_pos rfl]
   by_cases h3:a.cost<b.cost
   ·rw[if_pos h3];omega
   ·by_cases h4:b.cost<a.cost
    ·rw[if_neg h3,if_pos h4];omega
    ·rw[if_neg h3,if_neg h4];omega
end Go.Proofs.YthpgjbbjpfiniaaGreat
namespace Go.Proofs.YthpgjbbjpfiniaaGreat
open Go.RowKit
set_option linter.unusedSimpArgs false
set_option linter.unusedVariables false
theorem Qnl {p:Pr} (hp:OkP p) {a:Int} (ha:0≤a∧a<p.Road.Nodes):Zy p a a=⟨0,0⟩:=by
 obtain ⟨h1,_⟩:=QeV hp ha;have h2:=h1.best 0 a ⟨0,0⟩ .nil;have h3:=J8 hp ha ha;unfold Zy at h3 ⊢
 generalize lab (Qeq p a) a=l at *
 have h4:=h2.2;unfold Lg.le at h4;cases l
 simp only at h2 h3 h4 ⊢
 congr 1<;>omega
theorem Qkv {p:Pr} (hp:OkP p) (v:Int):(YJ p ⟨v,[]⟩).1=0:=by
 unfold YJ;cases h:W0 p ⟨v,[]⟩ with
 | inr q=>rfl
 | inl u =>
  obtain ⟨z,y,hf,_,e2⟩:=Qge h;have hv:=hp.ve u.2.2 (by
   have:=hf.hv;unfold getI at this
   rw[if_pos hf.t0] at this
   exact List.mem_of_getElem? this)
  have h1:z=(x0 u.2.2,[]):=by
   have:=hf.fol;injection this with this
   exact this.symm
  have h6:y.Node=u.2.2.Depot:=by
   have hom:=hf.hom;unfold QaR at hom
   repeat' split at hom
   all_goals first | (cases hom;done) | (injection hom with hom;subst hom;rfl)
  simp only[e2,h1,List.nil_append,QaX,h6,Qnl hp ⟨hv.d0,hv.d1⟩]
  rfl
def VO (h:Op→Option Op):List Op→Nat→Option (Nat×Op×Int)→Option (Nat×Op×Int)
 | [],_,s=>s
 | x::r,k,s=>VO h r (k+1) (match h x with
  | none=>s
  | some y=>match s with
   | none=>some (k,y,w64 (y.cost-x.cost))
   | some z=>if w64 (y.cost-x.cost)<z.2.2 then some (k,y,w64 (y.cost-x.cost)) else s)
def QhN (s:Option (Nat×Op×Int)):Int×List Int×Int×Int:=match s with
 | none=>(0,[],0,-1)
 | some z=>(z.2.1.tour.Vehicle,z.2.1.tour.Stops,z.2.1.cost,((z.1:Nat):Int))
def Qfp (s:Option (Nat×Op×Int)):Int×Int×Int×List Int:=match s with
 | none=>(-1,0,0,[])
 | some z=>(((z.1:Nat):Int),z.2.2,z.2.1.tour.Vehicle,z.2.1.tour.Stops)
def V0 (F:Nat) (p:Pr) (d:Int) (x:Op):Option Op:=match QU F p x.tour d with
 | some (y::_,_)=>some y
 | _=>none
def QpT (F:Nat) (p:Pr) (d:Int) (T:List Op):Prop:= ∀x∈T,x.cost=(YJ p x.tour).1∧ ∃L e,QU F p x.tour d=some (L,e)∧Yu F p x.tour d=some (L.map Jw,e)∧((e≠0∧L=[])∨(e=0∧OkO p x.tour d L))
theorem QeC {F:Nat} {p:Pr} {T:List Op} {d:Int} (hT:T.length≤1000) (ha:QpT F p d T): ∀(rest:List Op) (k:Nat) (s:Option (Nat×Op×Int)) (f:Nat),T.drop k=rest→k≤T.length→rest.length<f→(∀z,s=some z→ ∃x,T[z.1]? =some x∧z.2.2=w64 (z.2.1.cost-x.cost)) →
  iter (Ja F p T d) f ((QhN s).1,(QhN s).2.1,(QhN s).2.2.1,(QhN s).2.2.2,(k:Int))=some (QhN (VO (V0 F p d) rest k s))
 | [],k,s,0,_,_,h,_=>by simp at h
 | _::_,k,s,0,_,_,h,_=>by simp at h
 | [],k,s,f+1,hd,hk,_,_=>by
  have:k=T.length:=by have:=congrArg List.length hd;simp at this;omega
  have h1: ¬((k:Int)<((T.length:Nat):Int)):=by omega
  simp only[iter,Ja,oun,h1,decide_false,cond_false,Option.bind_some,QI,VO]
 | x::rest,k,s,f+1,hd,hk,hf,hs=>by
  have hx:T[k]? =some x:=by
   have:=congrArg List.head? hd
   rwa [List.head?_drop] at this
  have hlt:=Qv hx;have h1:((k:Int)<((T.length:Nat):Int)):=by omega
  have hd2:T.drop (k+1)=rest:=by rw[←List.drop_drop,hd];rfl
  have e1:w64 ((k:Int)+1)=((k+1:Nat):Int):=by rw[Yj (by omega) (by omega)];omega
  obtain ⟨_,L,e,ho,_⟩:=ha x (List.mem_of_getElem? hx);have hh:V0 F p d x=L.head? :=by unfold V0;rw[ho];cases L<;>rfl
  rw[VO,hh]
  cases L with
  | nil =>
   have ih:=QeC hT ha rest (k+1) s f hd2 (by omega) (by simp at hf;omega) hs
   simp only[iter,Ja,oun,h1,decide_true,cond_true,Qt,hx,Option.bind_some,ho,List.length_nil,e1,QI,List.head?_nil]
   exact ih
  | cons y M =>
   have hl:(0:Int)<(((y::M).length:Nat):Int):=by simp only[List.length_cons];omega
   have g0:getI (y::M) 0=some y:=rfl;cases s with
   | none =>
    have ih:=QeC hT ha rest (k+1) (some (k,y,w64 (y.cost-x.cost))) f hd2 (by omega) (by simp at hf;omega) (fun z hz=>by injection hz with hz;subst hz;exact ⟨x,hx,rfl⟩)
    simp only[iter,Ja,oun,h1,decide_true,cond_true,Qt,hx,Option.bind_some,ho,hl,QhN,g0,show decide ((-1:Int)<0)=true from rfl,e1,QI,List.head?_cons]
    exact ih
   | some z =>
    obtain ⟨u,hu,hz⟩:=hs z rfl;have hz0: ¬(((z.1:Nat):Int)<0):=by omega
    by_cases hc:w64 (y.cost-x.cost)<z.2.2
    ·have ih:=QeC hT ha rest (k+1) (some (k,y,w64 (y.cost-x.cost))) f hd2 (by omega) (by simp at hf;omega) (fun z hz=>by injection hz with hz;subst hz;exact ⟨x,hx,rfl⟩);have hc2:=hc
     rw[hz] at hc2
     simp only[iter,Ja,oun,h1,decide_true,cond_true,Qt,hx,Option.bind_some,ho,hl,QhN,g0,hz0,decide_false,cond_false,hu,hc2,e1,QI,List.head?_cons]
     rw[if_pos hc]
     exact ih
    ·have ih:=QeC hT ha rest (k+1) (some z) f hd2 (by omega) (by simp at hf;omega) hs;have hc2:=hc
     rw[hz] at hc2
     simp only[iter,Ja,oun,h1,decide_true,cond_true,Qt,hx,Option.bind_some,ho,hl,QhN,g0,hz0,decide_false,cond_false,hu,hc2,e1,QI,List.head?_cons]
     rw[if_neg hc]
     exact ih
end Go.Proofs.YthpgjbbjpfiniaaGreat
namespace Go.Proofs.YthpgjbbjpfiniaaGreat
open Go.RowKit
set_option linter.unusedSimpArgs false
set_option linter.unusedVariables false
theorem Qne (l:List Int):(QiO l).getLast? =some (-1):=by
 unfold QiO;split
 ·assumption
 ·simp
theorem QlI (l:List Int) {e:Int} (he:0≤e):(QiO l).count e=l.count e:=by
 unfold QiO;split
 ·rfl
 ·rw[List.count_append,List.count_singleton,if_neg (by simp;omega)];rfl
theorem QgL (s:List Int) (d:Int) (i:Nat):(Jy s d i).getLast? =some (-1):=Qne _
theorem Qb0 (s:List Int) (d:Int) (i:Nat) {e:Int} (he:0≤e):(Jy s d i).count e=s.count e+if e=d then 1 else 0:=by
 unfold Jy QhE
 rw[QlI _ he,List.count_append,List.count_append,List.count_cons]
 have h1:(bif decide (i%2=1) then [(-1:Int)] else []).count e=0:=by
  cases decide (i%2=1)
  ·rfl
  ·rw[cond_true,List.count_singleton,if_neg (by simp;omega)]
 have h2:s.count e=(s.take (i/2)).count e+(s.drop (i/2)).count e:=by rw[←List.count_append,List.take_append_drop]
 rw[h1,h2]
 by_cases h:e=d
 ·subst h;simp;omega
 ·have: ¬(d==e)=true:=by simp;exact fun h'=>h h'.symm
  simp[h,this]
theorem Qlz (s:List Int) {d:Int} (hd:0≤d) (i:Nat):2≤(Jy s d i).length:=by
 have h1:=QgL s d i;have h2:=Qb0 s d i hd
 rw[if_pos rfl] at h2
 generalize Jy s d i=l at *
 match l,h1,h2 with
 | [],_,h2=>simp at h2
 | [a],h1,h2 =>
  simp at h1;subst h1
  rw[List.count_singleton,if_neg (by simp;omega)] at h2
  omega
 | _::_::_,_,_=>simp
structure IsO (p:Pr) (t:Qa) (d:Int) (y:Op):Prop where
 cand: ∃i,i<2*t.Stops.length+1∧y.tour=⟨t.Vehicle,Jy t.Stops d i⟩
 ok:(YJ p y.tour).2=0
 cost:y.cost=(YJ p y.tour).1
theorem OkO.isO {p:Pr} {t:Qa} {d:Int} {L:List Op} (h:OkO p t d L) {y:Op} (hy:y∈L):IsO p t d y:=by
 obtain ⟨h1,h2,h3⟩:=QhQ (h.stab.perm.symm.subset hy);obtain ⟨s,g1,g2⟩:=List.mem_map.1 h1;obtain ⟨i,g3,g4⟩:=List.mem_map.1 g1;exact ⟨⟨i,List.mem_range.1 g3,by rw[←g2,←g4];rfl⟩,h2,h3⟩
def hdT:List Op→Qa
 | []=>⟨0,[]⟩
 | y::_=>y.tour
theorem Qjz {F:Nat} {p:Pr} {t:Qa} {d e:Int} {L:List Op} (h:Yu F p t d=some (L.map Jw,e)) (he:(e≠0∧L=[])∨(e=0∧OkO p t d L)) :
  ∃e',YG F p t d=some (hdT L,e')∧(e'=0↔L≠[])∧(e≠0→e'=e)∧(e=0→L=[]→e'=40):=by
 unfold YG
 rw[h]
 simp only[Option.bind_some,oun]
 rcases he with ⟨h1,rfl⟩ | ⟨rfl,h2⟩
 ·rw[show decide (e=0)=false by simpa using h1]
  exact ⟨e,rfl,by simpa using h1,fun _=>rfl,fun h=>absurd h h1⟩
 ·cases L with
  | nil=>exact ⟨40,rfl,by decide,fun h=>absurd rfl h,fun _ _=>rfl⟩
  | cons y M =>
   have: ¬(((((y::M).map Jw).length:Nat):Int)=0):=by simp;omega
   simp only[decide_true,Bool.not_true,cond_false,this,decide_false,List.map_cons]
   exact ⟨0,rfl,by simp,fun h=>absurd rfl h,fun _ h=>by cases h⟩
theorem QeD {F:Nat} {p:Pr} {T:List Op} {d:Int} (hp:OkP p) (hc:Qo p=some 0) (hT:T.length≤1000) (ha:QpT F p d T): ∀(rest:List Op) (k:Nat) (s:Option (Nat×Op×Int)) (f:Nat),T.drop k=rest→k≤T.length→rest.length<f →
  iter (YD F p (T.map Jw) d) f ((Qfp s).1,(Qfp s).2.1,(Qfp s).2.2.1,(Qfp s).2.2.2,(k:Int))=some ((Qfp (VO (V0 F p d) rest k s)).1,(Qfp (VO (V0 F p d) rest k s)).2.2.1,(Qfp (VO (V0 F p d) rest k s)).2.2.2)
 | [],k,s,0,_,_,h=>by simp at h
 | _::_,k,s,0,_,_,h=>by simp at h
 | [],k,s,f+1,hd,hk,_=>by
  have:k=T.length:=by have:=congrArg List.length hd;simp at this;omega
  have h1: ¬((k:Int)<(((T.map Jw).length:Nat):Int)):=by simp;omega
  simp only[iter,YD,oun,h1,decide_false,cond_false,Option.bind_some,QI,VO]
 | x::rest,k,s,f+1,hd,hk,hf=>by
  have hx:T[k]? =some x:=by
   have:=congrArg List.head? hd
   rwa [List.head?_drop] at this
  have hlt:=Qv hx;have h1:((k:Int)<(((T.map Jw).length:Nat):Int)):=by simp;omega
  have hd2:T.drop (k+1)=rest:=by rw[←List.drop_drop,hd];rfl
  have e1:w64 ((k:Int)+1)=((k+1:Nat):Int):=by rw[Yj (by omega) (by omega)];omega
  have hx2:(T.map Jw)[k]? =some x.tour:=by rw[List.getElem?_map,hx];rfl
  obtain ⟨hcx,L,e,ho,hr,hL⟩:=ha x (List.mem_of_getElem? hx);have hh:V0 F p d x=L.head? :=by unfold V0;rw[ho];cases L<;>rfl
  obtain ⟨e',hb,he',_⟩:=Qjz hr hL
  rw[VO,hh]
  cases L with
  | nil =>
   have ih:=QeD hp hc hT ha rest (k+1) s f hd2 (by omega) (by simp at hf;omega);have: ¬e'=0:=by simpa using he'
   simp only[iter,YD,oun,h1,decide_true,cond_true,Qt,hx2,Option.bind_some,hb,hdT,this,decide_false,Bool.not_false,e1,QI,List.head?_nil]
   exact ih
  | cons y M =>
   have:e'=0:=by simpa using he'
   subst this;have hy:y.cost=(YJ p y.tour).1:=by
    rcases hL with ⟨_,h⟩ | ⟨_,h⟩
    ·cases h
    ·exact (h.isO (y:=y) (by simp)).cost
   have c1:Ys p ⟨y.tour.Vehicle,y.tour.Stops⟩=some (YJ p y.tour):=QeH hp hc _;have c2:Ys p x.tour=some (YJ p x.tour):=QeH hp hc _;cases s with
   | none =>
    have ih:=QeD hp hc hT ha rest (k+1) (some (k,y,w64 (y.cost-x.cost))) f hd2 (by omega) (by simp at hf;omega)
    simp only[iter,YD,oun,h1,decide_true,cond_true,Qt,hx2,Option.bind_some,hb,hdT,decide_true,Bool.not_true,cond_false,c1,c2,Qfp,show decide ((-1:Int)<0)=true from rfl,←hy,←hcx,e1,QI,List.head?_cons]
    exact ih
   | some z =>
    have hz0: ¬(((z.1:Nat):Int)<0):=by omega
    by_cases hcc:w64 (y.cost-x.cost)<z.2.2
    ·have ih:=QeD hp hc hT ha rest (k+1) (some (k,y,w64 (y.cost-x.cost))) f hd2 (by omega) (by simp at hf;omega)
     simp only[iter,YD,oun,h1,decide_true,cond_true,Qt,hx2,Option.bind_some,hb,hdT,decide_true,Bool.not_true,cond_false,c1,c2,Qfp,hz0,decide_false,hcc,←hy,←hcx,e1,QI,List.head?_cons]
     exact ih
    ·have ih:=QeD hp hc hT ha rest (k+1) (some z) f hd2 (by omega) (by simp at hf;omega)
     simp only[iter,YD,oun,h1,decide_true,cond_true,Qt,hx2,Option.bind_some,hb,hdT,decide_true,Bool.not_true,cond_false,c1,c2,Qfp,hz0,decide_false,hcc,←hy,←hcx,e1,QI,List.head?_cons]
     exact ih
theorem Qij (h:Op→Option Op): ∀(rest:List Op) (k:Nat) (s:Option (Nat×Op×Int)) (z:Nat×Op×Int),VO h rest k s=some z→s=some z∨ ∃i x,rest[i]? =some x∧z.1=k+i∧h x=some z.2.1
 | [],_,_,_,hz=> .inl hz
 | x::r,k,s,z,hz=>by
  rw[VO] at hz
  rcases Qij h r (k+1) _ z hz with h1 | ⟨i,y,g1,g2,g3⟩
  ·cases hx:h x with
   | none=>rw[hx] at h1;exact .inl h1
   | some y =>
    rw[hx] at h1
    have hn: ∀w:Int,some (k,y,w)=some z→ ∃i x',(x::r)[i]? =some x'∧z.1=k+i∧h x'=some z.2.1:=fun w hw=>by
     injection hw with hw;subst hw
     exact ⟨0,x,rfl,rfl,hx⟩
    cases s with
    | none=>exact .inr (hn _ h1)
    | some u =>
     simp only at h1
     split at h1
     ·exact .inr (hn _ h1)
     ·exact .inl h1
  ·exact .inr ⟨i+1,y,by simpa using g1,by omega,g3⟩
theorem QdI (h:Op→Option Op): ∀(rest:List Op) (k:Nat) (z:Nat×Op×Int),VO h rest k (some z)≠none
 | [],_,_=>by simp[VO]
 | x::r,k,z=>by
  rw[VO]
  cases h x with
  | none=>exact QdI h r (k+1) z
  | some y =>
   simp only
   split
   ·exact QdI h r (k+1) _
   ·exact QdI h r (k+1) _
theorem Qii (h:Op→Option Op): ∀(rest:List Op) (k:Nat),VO h rest k none=none→ ∀x∈rest,h x=none
 | [],_,_=>by simp
 | x::r,k,hn=>by
  rw[VO] at hn
  cases hx:h x with
  | none =>
   rw[hx] at hn
   intro y hy;rcases List.mem_cons.1 hy with rfl | hy
   ·exact hx
   ·exact Qii h r (k+1) hn y hy
  | some y =>
   rw[hx] at hn
   exact absurd hn (QdI h r (k+1) _)
def Qd5 (h:Op→Option Op) (d:Int) (s:List Op×List Int):List Op×List Int:=match VO h s.1 0 none with
 | none=>(s.1,s.2++[d])
 | some z=>(s.1.set z.1 z.2.1,s.2)
def Wj (n:Nat):List Op:=(List.range n).map fun (i:Nat)=>⟨⟨(i:Int),[]⟩,0⟩
def QcE (F:Nat) (p:Pr):Nat→List Op×List Int
 | 0=>(Wj p.Vehicles.length,[])
 | k+1=>Qd5 (V0 F p k) k (QcE F p k)
structure Qq2 (p:Pr) (i:Nat) (x:Op):Prop where
 veh:x.tour.Vehicle=(i:Int)
 cost:x.cost=(YJ p x.tour).1
 len:x.tour.Stops.length≤40
 full:x.tour.Stops≠[]→(YJ p x.tour).2=0∧2≤x.tour.Stops.length∧x.tour.Stops.getLast? =some (-1)
def cnB (T:List Op) (e:Int):Nat:=(T.map fun x=>x.tour.Stops.count e).sum
structure Qll (F:Nat) (p:Pr) (k:Nat) (s:List Op×List Int):Prop where
 len:s.1.length=p.Vehicles.length
 tour: ∀(i:Nat) (x:Op),s.1[i]? =some x→Qq2 p i x
 once: ∀e:Nat,cnB s.1 (e:Int)+s.2.count (e:Int)=if e<k then 1 else 0
 lo: ∀e∈s.2,0≤e∧e<(k:Int)
 asc:s.2.Pairwise (· < ·)
 ll:s.2.length≤k
 left: ∀e∈s.2,∀(i:Nat) (x:Op),s.1[i]? =some x→x.tour.Stops=[]→V0 F p e x=none
theorem Qmv: ∀(T:List Op) (i:Nat) (x y:Op) (e:Int),T[i]? =some x→cnB (T.set i y) e+x.tour.Stops.count e=cnB T e+y.tour.Stops.count e
 | [],i,_,_,_,h=>by simp at h
 | z::T,0,x,y,e,h=>by
  simp at h;subst h
  simp[cnB];omega
 | z::T,i+1,x,y,e,h=>by
  have:=Qmv T i x y e (by simpa using h)
  simp[cnB] at this ⊢;omega
theorem Qmf {n i:Nat} {x:Op} (h:(Wj n)[i]? =some x):x=⟨⟨(i:Int),[]⟩,0⟩:=by
 unfold Wj at h
 rw[List.getElem?_map] at h
 cases hr:(List.range n)[i]? with
 | none=>rw[hr] at h;cases h
 | some j =>
  rw[hr] at h
  have:=List.getElem?_eq_some_iff.1 hr;obtain ⟨h1,h2⟩:=this
  simp at h2;subst h2
  simp at h
  exact h.symm
theorem QnD (n:Nat) (e:Int):cnB (Wj n) e=0:=by
 unfold cnB Wj
 rw[List.map_map]
 induction n with
 | zero=>rfl
 | succ n ih=>rw[List.range_succ,List.map_append,List.sum_append,ih];rfl
theorem QnE {F:Nat} {p:Pr} (hp:OkP p):Qll F p 0 (Wj p.Vehicles.length,[]) where
 len:=by simp[Wj]
 tour:=fun i x hx=>by
  rw[Qmf hx]
  exact ⟨rfl,(Qkv hp _).symm,by simp,fun h=>absurd rfl h⟩
 once:=fun e=>by simp[QnD]
 lo:=by simp
 asc:=List.Pairwise.nil
 ll:=by simp
 left:=by simp
theorem Qoe {F:Nat} {p:Pr} {d:Int} {x y:Op} (h:V0 F p d x=some y) (ha: ∃L e,QU F p x.tour d=some (L,e)∧((e≠0∧L=[])∨(e=0∧OkO p x.tour d L))):IsO p x.tour d y∧y.tour.Stops.length≤40:=by
 obtain ⟨L,e,h1,h2⟩:=ha;unfold V0 at h
 rw[h1] at h
 cases L with
 | nil=>cases h
 | cons z M =>
  injection h with h;subst h
  rcases h2 with ⟨_,h2⟩ | ⟨_,h2⟩
  ·cases h2
  ·exact ⟨h2.isO (by simp),h2.stops _ (by simp)⟩
theorem Qq3 {F:Nat} (hF:40000≤F) {p:Pr} (hn:p.Road.Edges.length≤600) {k:Nat} {s:List Op×List Int} (h:Qll F p k s) (d:Int):QpT F p d s.1:=fun x hx=>by
 obtain ⟨i,hi⟩:=List.getElem?_of_mem hx;have h1:=h.tour i x hi;obtain ⟨L,e,g1,g2,g3,_⟩:=Qbg hF p hn x.tour (by have:=h1.len;omega) d;exact ⟨h1.cost,L,e,g1,g2,g3⟩
theorem Qo3 {F:Nat} (hF:40000≤F) {p:Pr} (hn:p.Road.Edges.length≤600) {k:Nat} {s:List Op×List Int} (h:Qll F p k s):Qll F p (k+1) (Qd5 (V0 F p k) k s):=by
 have ha:=Qq3 hF hn h k;unfold Qd5;cases hz:VO (V0 F p k) s.1 0 none with
 | none =>
  have hno:=Qii _ _ _ hz;refine ⟨h.len,h.tour,fun e=> ?_,fun e he=> ?_,?_,?_,fun e he i x hi hx=> ?_⟩
  ·have:=h.once e
   show cnB s.1 (e:Int)+(s.2++[(k:Int)]).count (e:Int)=_
   rw[List.count_append,List.count_singleton]
   by_cases hek:e=k
   ·subst hek;simp at this ⊢;omega
   ·have h1: ¬(((k:Int)==(e:Int))=true):=by simp;omega
    rw[if_neg h1]
    by_cases h2:e<k
    ·rw[if_pos (by omega)];rw[if_pos h2] at this;omega
    ·rw[if_neg (by omega)];rw[if_neg h2] at this;omega
  ·rcases List.mem_append.1 he with h1 | h1
   ·have:=h.lo e h1;omega
   ·rw[List.mem_singleton.1 h1];omega
  ·refine List.pairwise_append.2 ⟨h.asc,by simp,fun a ha b hb=> ?_⟩
   rw[List.mem_singleton.1 hb];exact (h.lo a ha).2
  ·have:=h.ll;simp;omega
  ·rcases List.mem_append.1 he with h1 | h1
   ·exact h.left e h1 i x hi hx
   ·rw[List.mem_singleton.1 h1];exact hno x (List.mem_of_getElem? hi)
 | some z =>
  obtain ⟨i,x,hi,hzi,hy⟩: ∃i x,s.1[i]? =some x∧z.1=i∧V0 F p k x=some z.2.1:=by
   rcases Qij _ _ _ _ _ hz with h1 | ⟨i,x,h1,h2,h3⟩
   ·cases h1
   ·exact ⟨i,x,h1,by omega,h3⟩
  obtain ⟨hcx,L,e,g1,_,g3⟩:=ha x (List.mem_of_getElem? hi);obtain ⟨hO,hl⟩:=Qoe hy ⟨L,e,g1,g3⟩;obtain ⟨j,_,hj⟩:=hO.cand;have hx:=h.tour i x hi;have hcount: ∀e:Nat,z.2.1.tour.Stops.count (e:Int)=x.tour.Stops.count (e:Int)+if e=k then 1 else 0:=fun e=>by
   rw[hj]
   show (Jy x.tour.Stops k j).count (e:Int)=_
   rw[Qb0 _ _ _ (by omega)]
   by_cases h1:e=k
   ·subst h1;simp
   ·rw[if_neg (by omega),if_neg h1]
  have htwo:2≤z.2.1.tour.Stops.length:=by rw[hj];exact Qlz _ (by omega) _
  have hlast:z.2.1.tour.Stops.getLast? =some (-1):=by rw[hj];exact QgL _ _ _
  have hg: ∀(j:Nat) (w:Op),(s.1.set z.1 z.2.1)[j]? =some w→(j=i∧w=z.2.1)∨s.1[j]? =some w:=fun j w hw=>by
   rw[List.getElem?_set,hzi] at hw
   split at hw
   ·rename_i h1
    split at hw
    ·injection hw with hw;exact .inl ⟨h1.symm,hw.symm⟩
    ·cases hw
   ·exact .inr hw
  refine ⟨by show (s.1.set _ _).length=_;rw[List.length_set];exact h.len,fun j w hw=> ?_,fun e=> ?_,fun e he=> ?_,h.asc,by have:=h.ll;show s.2.length≤_;omega,fun e he j w hw hws=> ?_⟩
  ·rcases hg j w hw with ⟨rfl,rfl⟩ | h1
   ·exact ⟨by rw[hj];exact hx.veh,hO.cost,hl,fun _=>⟨hO.ok,htwo,hlast⟩⟩
   ·exact h.tour j w h1
  ·have h1:=Qmv s.1 i x z.2.1 (e:Int) hi;have h2:=h.once e
   rw[hcount e] at h1
   show cnB (s.1.set z.1 z.2.1) (e:Int)+s.2.count (e:Int)=_
   rw[hzi]
   by_cases hek:e=k
   ·subst hek;rw[if_neg (by omega)] at h2;rw[if_pos (by omega)];rw[if_pos rfl] at h1;omega
   ·rw[if_neg hek] at h1
    by_cases h3:e<k
    ·rw[if_pos h3] at h2;rw[if_pos (by omega)];omega
    ·rw[if_neg h3] at h2;rw[if_neg (by omega)];omega
  ·have:=h.lo e he;omega
  ·rcases hg j w hw with ⟨_,rfl⟩ | h1
   ·rw[hws] at htwo;simp at htwo
   ·exact h.left e he j w h1 hws
theorem QeZ {F:Nat} (hF:40000≤F) {p:Pr} (hp:OkP p) (hn:p.Road.Edges.length≤600): ∀k,Qll F p k (QcE F p k)
 | 0=>QnE hp
 | k+1=>Qo3 hF hn (QeZ hF hp hn k)
end Go.Proofs.YthpgjbbjpfiniaaGreat
namespace Go.Proofs.YthpgjbbjpfiniaaGreat
open Go.RowKit
set_option linter.unusedSimpArgs false
set_option linter.unusedVariables false
theorem Qqx (y:Op):Qc.mk (Qa.mk y.tour.Vehicle y.tour.Stops) y.cost=y:=rfl
theorem Qlx {F:Nat} (hF:40000≤F) {p:Pr} (hp:OkP p) (hc:Qo p=some 0) (hn:p.Road.Edges.length≤600) (hv:p.Vehicles.length≤1000) (hd:p.Demands.length≤1000) {k:Nat} (hk:k<p.Demands.length) {s:List Op×List Int} (h:Qll F p k s) :
  Wt F p (s.1,s.2,(k:Int))=some (.inl ((Qd5 (V0 F p k) k s).1,(Qd5 (V0 F p k) k s).2,((k+1:Nat):Int))) ∧
  ZG F p (s.1.map Jw,s.2,(k:Int))=some (.inl ((Qd5 (V0 F p k) k s).1.map Jw,(Qd5 (V0 F p k) k s).2,((k+1:Nat):Int))):=by
 have ha:=Qq3 hF hn h k;have hlen:=h.len;have hll:=h.ll;have h1:((k:Int)<((p.Demands.length:Nat):Int)):=by omega
 have e1:w64 ((k:Int)+1)=((k+1:Nat):Int):=by rw[Yj (by omega) (by omega)];omega
 have q1:=QeC (F:=F) (p:=p) (T:=s.1) (d:=k) (by omega) ha s.1 0 none (((s.1.length:Nat):Int).toNat+1) (by simp) (by omega) (by simp) (fun z hz=>by cases hz);have q2:=QeD (F:=F) (p:=p) (T:=s.1) (d:=k) hp hc (by omega) ha s.1 0 none (((s.1.length:Nat):Int).toNat+1) (by simp) (by omega) (by simp);have hml:(s.1.map Jw).length=s.1.length:=by simp
 have q1':iter (Ja F p s.1 (k:Int)) (((s.1.length:Nat):Int).toNat+1) (0,[],0,-1,0)=some (QhN (VO (V0 F p k) s.1 0 none)):=q1;have q2':iter (YD F p (s.1.map Jw) (k:Int)) (((s.1.length:Nat):Int).toNat+1) (-1,0,0,[],0)=some ((Qfp (VO (V0 F p k) s.1 0 none)).1,(Qfp (VO (V0 F p k) s.1 0 none)).2.2.1,(Qfp (VO (V0 F p k) s.1 0 none)).2.2.2):=q2;unfold Wt ZG Qd5
 simp only[oun,h1,decide_true,cond_true,hml,q1',q2',Option.bind_some]
 cases hz:VO (V0 F p k) s.1 0 none with
 | none =>
  simp only[QhN,Qfp,show decide ((-1:Int)<0)=true from rfl,cond_true,e1,Option.bind_some]
  rw[Ym (by simp;omega)]
  exact ⟨rfl,rfl⟩
 | some z =>
  obtain ⟨i,x,hi,hzi⟩: ∃i x,s.1[i]? =some x∧z.1=i:=by
   rcases Qij _ _ _ _ _ hz with h1 | ⟨i,x,h1,h2,h3⟩
   ·cases h1
   ·exact ⟨i,x,h1,by omega⟩
  have hz0: ¬(((z.1:Nat):Int)<0):=by omega
  have g1:s.1[z.1]? =some x:=by rw[hzi];exact hi
  have g2:(s.1.map Jw)[z.1]? =some x.tour:=by rw[List.getElem?_map,g1];rfl
  simp only[QhN,Qfp,hz0,decide_false,cond_false,Qt,g1,g2,Option.bind_some,e1,Yl,Int.toNat_natCast,Qqx]
  first | exact ⟨rfl,by rw[List.map_set]⟩ | simp[List.map_set]
theorem QhD {F:Nat} (hF:40000≤F) {p:Pr} (hp:OkP p) (hc:Qo p=some 0) (hn:p.Road.Edges.length≤600) (hv:p.Vehicles.length≤1000) (hd:p.Demands.length≤1000): ∀(r k f:Nat),k+r=p.Demands.length→r<f →
  iter (Wt F p) f ((QcE F p k).1,(QcE F p k).2,(k:Int))=some (QcE F p p.Demands.length) ∧
  iter (ZG F p) f ((QcE F p k).1.map Jw,(QcE F p k).2,(k:Int))=some ((QcE F p p.Demands.length).1.map Jw,(QcE F p p.Demands.length).2)
 | _,_,0,_,h=>by omega
 | 0,k,f+1,hk,_=>by
  have:k=p.Demands.length:=by omega
  subst this
  simp only[iter,Wt,ZG,oun,Int.lt_irrefl,decide_false,cond_false,Option.bind_some,QI]
  first | exact ⟨rfl,rfl⟩ | exact ⟨trivial,trivial⟩ | simp
 | r+1,k,f+1,hk,hf=>by
  obtain ⟨h1,h2⟩:=Qlx hF hp hc hn hv hd (by omega) (QeZ hF hp hn k);obtain ⟨i1,i2⟩:=QhD hF hp hc hn hv hd r (k+1) f (by omega) (by omega)
  simp only[iter,h1,h2,Option.bind_some,QI]
  exact ⟨i1,i2⟩
def Qbn (T:List Op):List Qa:=(T.map Jw).filter fun t=>decide (0<t.Stops.length)
theorem QiD (T:List Op) (x:Op):Qbn (T++[x])=Qbn T++if 0<x.tour.Stops.length then [x.tour] else []:=by
 unfold Qbn
 rw[List.map_append,List.filter_append]
 by_cases h:0<x.tour.Stops.length
 ·simp[h]
 ·simp[h]
theorem Qe2 (T:List Op):(Qbn T).length≤T.length:=by
 unfold Qbn;refine Nat.le_trans (List.length_filter_le _ _) (by simp)
theorem QnF (T:List Op) (hT:T.length≤1000) :
  iter (Vj T) (((T.length:Nat):Int).toNat+1) ([],0)=some (Qbn T) ∧
  iter (Js (T.map Jw)) ((((T.map Jw).length:Nat):Int).toNat+1) ([],0)=some (Qbn T):=by
 have hml:(T.map Jw).length=T.length:=by simp
 constructor
 ·have:=Y2 (body:=Vj T) T (fun k=>Qbn (T.take k)) (fun m k=>(m,k)) (fun _ _=>none) (Qbn T) (by omega) (fun k x hx _=> ?_) (fun _=>by simp only[Vj,oun,List.take_length];simp) (((T.length:Nat):Int).toNat+1) (by simp)
  ·rw[QW _ _ (fun _ _ _=>rfl)] at this
   exact this
  ·have hk:=Qv hx;have hk2:((k:Int)<(T.length:Nat)):=by omega
   have hul:=Qe2 (T.take k)
   rw[Yn (Nat.le_of_lt hk)] at hul
   simp only[Vj,oun,hk2,decide_true,cond_true,Qt,hx,Option.bind_some,Jj]
   rw[YO hx,QiD]
   by_cases h:0<x.tour.Stops.length
   ·have h':(0:Int)<((x.tour.Stops.length:Nat):Int):=by omega
    simp only[h,h',decide_true,cond_true,if_true]
    rw[Ym (by simp;omega)]
    rfl
   ·have h': ¬(0:Int)<((x.tour.Stops.length:Nat):Int):=by omega
    simp only[h,h',decide_false,cond_false,if_false,List.append_nil,Option.bind_some]
 ·have:=Y2 (body:=Js (T.map Jw)) T (fun k=>Qbn (T.take k)) (fun m k=>(m,k)) (fun _ _=>none) (Qbn T) (by omega) (fun k x hx _=> ?_) (fun _=>by simp only[Js,oun,List.take_length,hml];simp) (((T.length:Nat):Int).toNat+1) (by simp)
  ·rw[QW _ _ (fun _ _ _=>rfl)] at this
   rw[hml]
   exact this
  ·have hk:=Qv hx;have hk2:((k:Int)<(T.length:Nat)):=by omega
   have hul:=Qe2 (T.take k)
   rw[Yn (Nat.le_of_lt hk)] at hul
   have hx2:(T.map Jw)[k]? =some x.tour:=by rw[List.getElem?_map,hx];rfl
   simp only[Js,oun,hml,hk2,decide_true,cond_true,Qt,hx2,Option.bind_some,Jj]
   rw[YO hx,QiD]
   by_cases h:0<x.tour.Stops.length
   ·have h':(0:Int)<((x.tour.Stops.length:Nat):Int):=by omega
    simp only[h,h',decide_true,cond_true,if_true]
    rw[Ym (by simp;omega)]
    rfl
   ·have h': ¬(0:Int)<((x.tour.Stops.length:Nat):Int):=by omega
    simp only[h,h',decide_false,cond_false,if_false,List.append_nil,Option.bind_some]
theorem Qmg (n:Nat) (hn:n≤1000): ∃l,QbV (Qc.mk (Qa.mk 0 []) 0) ((n:Nat):Int)=some l∧l.length=n∧iter (Vh l) (((l.length:Nat):Int).toNat+1) (l,0)=some (Wj n):=by
 have hm:QbV (Qc.mk (Qa.mk 0 []) 0) ((n:Nat):Int)=some (List.replicate n (Qc.mk (Qa.mk 0 []) 0)):=by
  unfold QbV
  rw[if_pos (by omega),Int.toNat_natCast]
 refine ⟨_,hm,by simp,?_⟩
 generalize hl:List.replicate n (Qc.mk (Qa.mk 0 []) 0)=l
 have hln:l.length=n:=by rw[←hl];simp
 have:=Y2 (body:=Vh l) l (fun k=>Wj k++l.drop k) (fun m k=>(m,k)) (fun _ _=>none) (Wj n) (by omega) (fun k x hx _=> ?_) (fun _=>by simp only[Vh,oun,hln];simp[List.drop_of_length_le (Nat.le_of_eq hln)]) (((l.length:Nat):Int).toNat+1) (by simp)
 ·rw[QW _ _ (fun _ _ _=>rfl)] at this
  simpa [Wj] using this
 ·have hk:=Qv hx;have hk2:((k:Int)<(l.length:Nat)):=by omega
  have hx0:x=⟨⟨0,[]⟩,0⟩:=by
   rw[←hl,List.getElem?_replicate] at hx
   split at hx
   ·injection hx with hx;exact hx.symm
   ·cases hx
  have hsl:(Wj k).length=k:=by simp[Wj]
  have hdr:l.drop k=x::l.drop (k+1):=by
   rw[List.drop_eq_getElem_cons hk]
   congr 1
   rw[List.getElem?_eq_getElem hk] at hx
   injection hx
  have hg:(Wj k++l.drop k)[k]? =some x:=by
   rw[List.getElem?_append_right (by omega),hsl,Nat.sub_self,hdr];rfl
  simp only[Vh,oun,hk2,decide_true,cond_true,Qt,hg,Option.bind_some,Jj,Yl,Int.toNat_natCast]
  rw[List.set_append_right _ _ (by omega),hsl,Nat.sub_self,hdr,List.set_cons_zero]
  have:Wj (k+1)=Wj k++[⟨⟨(k:Int),[]⟩,0⟩]:=by simp[Wj,List.range_succ]
  rw[this,hx0]
  simp
theorem Qmh {p:Pr} (hv:p.Vehicles.length≤1000):iter (Jr p) (((p.Vehicles.length:Nat):Int).toNat+1) ([],0)=some ((Wj p.Vehicles.length).map Jw):=by
 have:=Y2 (body:=Jr p) p.Vehicles (fun k=>(Wj k).map Jw) (fun m k=>(m,k)) (fun _ _=>none) ((Wj p.Vehicles.length).map Jw) (by omega) (fun k x hx _=> ?_) (fun _=>by simp only[Jr,oun];simp) (((p.Vehicles.length:Nat):Int).toNat+1) (by simp)
 ·rw[QW _ _ (fun _ _ _=>rfl)] at this
  exact this
 ·have hk:=Qv hx;have hk2:((k:Int)<(p.Vehicles.length:Nat)):=by omega
  simp only[Jr,oun,hk2,decide_true,cond_true,Jj]
  have:Wj (k+1)=Wj k++[⟨⟨(k:Int),[]⟩,0⟩]:=by simp[Wj,List.range_succ]
  rw[Ym (by simp[Wj];omega),this,List.map_append]
  rfl
def QbW (F:Nat) (p:Pr):Qf:=⟨Qbn (QcE F p p.Demands.length).1,(QcE F p p.Demands.length).2⟩
theorem Qlw {F:Nat} (hF:40000≤F) (p:Pr) (hn:p.Road.Edges.length≤600) (hv:p.Vehicles.length≤1000) (hd:p.Demands.length≤1000) :
  ∃e,Qo p=some e∧((e≠0∧Qag F p=some (⟨[],[]⟩,e)∧Qac F p=some (⟨[],[]⟩,e))∨(e=0∧OkP p∧Qag F p=some (QbW F p,0)∧Qac F p=some (QbW F p,0))):=by
 unfold Qag Qac
 rw[ZO (by omega) p hn]
 rcases QcF p hn with ⟨h1,h2⟩ | ⟨e,h1,h2⟩
 ·refine ⟨0,h1,.inr ⟨rfl,h2,?_⟩⟩;obtain ⟨l,q1,q2,q3⟩:=Qmg p.Vehicles.length hv;obtain ⟨b1,b2⟩:=QhD hF h2 h1 hn hv hd p.Demands.length 0 (((p.Demands.length:Nat):Int).toNat+1) (by omega) (by simp);have hr:=(QeZ hF h2 hn p.Demands.length).len;obtain ⟨u1,u2⟩:=QnF (QcE F p p.Demands.length).1 (by omega);have b1':iter (Wt F p) (((p.Demands.length:Nat):Int).toNat+1) (Wj p.Vehicles.length,[],0)=some (QcE F p p.Demands.length):=b1;have b2':iter (ZG F p) (((p.Demands.length:Nat):Int).toNat+1) ((Wj p.Vehicles.length).map Jw,[],0)=some ((QcE F p p.Demands.length).1.map Jw,(QcE F p p.Demands.length).2):=b2
  rw[h1]
  simp only[Option.bind_some,decide_true,Bool.not_true,cond_false,q1,q3,Qmh hv,b1',b2',oun,u1,u2]
  exact ⟨rfl,rfl⟩
 ·refine ⟨e,h2,.inl ⟨h1,?_⟩⟩
  rw[h2]
  simp only[Option.bind_some]
  rw[show decide (e=0)=false by simpa using h1]
  exact ⟨rfl,rfl⟩
theorem Qlh {T:List Op} {t:Qa} (h:t∈Qbn T): ∃(i:Nat) (x:Op),T[i]? =some x∧x.tour=t∧t.Stops≠[]:=by
 obtain ⟨h1,h2⟩:=List.mem_filter.1 h;obtain ⟨x,h3,rfl⟩:=List.mem_map.1 h1;obtain ⟨i,hi⟩:=List.getElem?_of_mem h3;refine ⟨i,x,hi,rfl,fun h=> ?_⟩;have:=of_decide_eq_true h2
 rw[h] at this
 simp at this
theorem QlT {F:Nat} (hF:40000≤F) {p:Pr} (hp:OkP p) (hn:p.Road.Edges.length≤600):(QbW F p).Tours.length≤p.Vehicles.length∧(QbW F p).Left.length≤p.Demands.length∧ ∀t∈(QbW F p).Tours,t.Stops.length≤40:=by
 have h:=QeZ hF hp hn p.Demands.length;refine ⟨by rw[←h.len];exact Qe2 _,h.ll,fun t ht=> ?_⟩;obtain ⟨i,x,h1,rfl,_⟩:=Qlh ht;exact (h.tour i x h1).len
end Go.Proofs.YthpgjbbjpfiniaaGreat
namespace Go.Proofs.YthpgjbbjpfiniaaGreat
open Go.RowKit
set_option linter.unusedSimpArgs false
set_option linter.unusedVariables false
theorem QmX (d:Nat): ∀(T:List Op),tn (Qbn T) d=cnB T (d:Int)
 | []=>rfl
 | x::T=>by
  have ih:=QmX d T;unfold Qbn tn at ih ⊢;unfold cnB at ih ⊢
  rw[List.map_cons,List.filter_cons,List.map_cons,List.sum_cons,←ih]
  by_cases h:0<x.tour.Stops.length
  ·simp[Jw,h,cn]
  ·have:x.tour.Stops=[]:=List.eq_nil_of_length_eq_zero (by omega)
   simp[Jw,this]
theorem Qo7 {F:Nat} {p:Pr} {k:Nat} {s:List Op×List Int} (h:Qll F p k s):(Qbn s.1).Pairwise fun a b=>a.Vehicle<b.Vehicle:=by
 unfold Qbn;refine List.Pairwise.sublist List.filter_sublist ?_
 rw[List.pairwise_map,List.pairwise_iff_getElem]
 intro i j hi hj hij;have h1:=(h.tour i _ (List.getElem?_eq_getElem hi)).veh;have h2:=(h.tour j _ (List.getElem?_eq_getElem hj)).veh
 show s.1[i].tour.Vehicle<s.1[j].tour.Vehicle
 rw[h1,h2];omega
theorem Qc9 {p:Pr} {t:Qa} (h:(YJ p t).2=0): ∃u,W0 p t= .inl u:=by
 unfold YJ at h;cases hr:W0 p t with
 | inl u=>exact ⟨u,rfl⟩
 | inr q=>rw[hr] at h;exact absurd h (Qai hr)
theorem QmN {F:Nat} (hF:40000≤F) {p:Pr} (hn:p.Road.Edges.length≤600) (hp:OkP p) (hc:Qo p=some 0) (x:Qf) (hx:x.Tours.length≤30) (hl:x.Left.length≤100)
  (ha:x.Tours.Pairwise fun a b=>a.Vehicle<b.Vehicle) (ht: ∀t∈x.Tours,(YJ p t).2=0) (hb: ∀e∈x.Left,0≤e∧e<((p.Demands.length:Nat):Int)) (h1: ∀d,d<p.Demands.length→tn x.Tours d+cn x.Left d=1) :
  Y9 F p x=some (Zi p x.Tours,0):=by
 have hdl:=hp.dl;have hbad: ∀(k:Nat) (t:To),x.Tours[k]? =some t→Qc5 p x.Tours k t=none:=fun k t hk=>by
  obtain ⟨u,hu⟩:=Qc9 (ht t (List.mem_of_getElem? hk));have hany:(x.Tours.take k).any (fun u=>decide (u.Vehicle=t.Vehicle))=false:=by
   rw[List.any_eq_false]
   intro y hy he;obtain ⟨j,hj⟩:=List.getElem?_of_mem hy;have hjk:=Qv hj;have hkl:=Qv hk
   rw[Yn (Nat.le_of_lt hkl)] at hjk
   rw[List.getElem?_take,if_pos hjk] at hj
   have:=List.pairwise_iff_getElem.1 ha j k (by omega) hkl hjk
   rw[List.getElem?_eq_getElem (by omega)] at hj hk
   injection hj with hj
   injection hk with hk
   rw[hj,hk,of_decide_eq_true he] at this
   omega
  unfold Qc5
  rw[hany,hu]
  rfl
 have hall: ∀t∈x.Tours,(∀s∈t.Stops,okS p.Demands.length s)∧t.Stops.length≤40:=fun t htm=>by
  obtain ⟨u,hu⟩:=Qc9 (ht t htm);exact (VG hp hu).2.2
 have q1:=QeX hF hp x hx
 rw[QW _ _ (fun i t hi=>by rw[Nat.zero_add,hbad i t hi];rfl)] at q1
 have q3:=(Qdf (n:=p.Demands.length) x (fun _=>0) (by omega) (fun _=>Nat.zero_le _)).1;have q4:=(Qcw (n:=p.Demands.length) x (fun d=>0+cn x.Left d) (by omega) (fun d=>by have:=Qi1 x.Left d;omega) (fun t htm=>by have:=(hall t htm).2;omega) (fun t htm=>(hall t htm).1)).1;have hbl:Qfj p.Demands.length x.Left=false:=by
  unfold Qfj
  rw[List.any_eq_false]
  intro e he;have:=hb e he
  simp;omega
 have hv:(vec p.Demands.length fun d=>0+cn x.Left d+tn x.Tours d)=vec p.Demands.length fun _=>1:=Qca fun d hd=>by have:=h1 d hd;omega
 rw[hv] at q4
 rw[hbl] at q3
 have hmem: ∀c∈vec p.Demands.length (fun _=>1),c=(1:Int):=fun c hc=>by
  unfold vec at hc;obtain ⟨j,_,rfl⟩:=List.mem_map.1 hc
  rfl
 have a1:(vec p.Demands.length (fun _=>1)).any (fun c=>decide (1<c))=false:=by
  rw[List.any_eq_false];intro c hc;rw[hmem c hc];decide
 have a2:(vec p.Demands.length (fun _=>1)).any (fun c=>decide (c=0))=false:=by
  rw[List.any_eq_false];intro c hc;rw[hmem c hc];decide
 unfold Y9
 rw[ZO (by omega) _ hn,hc]
 simp only[Option.bind_some,decide_true,Bool.not_true,cond_false]
 rw[q1]
 simp only[Option.bind_some,QI]
 rw[Qet _ (by omega)]
 simp only[Option.bind_some]
 rw[q3]
 simp only[cond_false,Option.bind_some,QI]
 rw[q4]
 simp only[Option.bind_some]
 rw[Qhn _ (by rw[VL];omega),Qhr _ (by rw[VL];omega),a1,a2]
 rfl
theorem QoC {F:Nat} (hF:40000≤F) {p:Pr} (hn:p.Road.Edges.length≤600) (hv:p.Vehicles.length≤30) (hp:OkP p) (hc:Qo p=some 0):Y9 F p (QbW F p)=some (Zi p (QbW F p).Tours,0):=by
 have h:=QeZ hF hp hn p.Demands.length;obtain ⟨l1,l2,l3⟩:=QlT hF hp hn;have hdl:=hp.dl;refine QmN hF hn hp hc _ (by omega) (by omega) (Qo7 h) (fun t ht=> ?_) h.lo (fun d hd=> ?_)
 ·obtain ⟨i,x,g1,rfl,g2⟩:=Qlh ht;exact ((h.tour i x g1).full g2).1
 ·have:=h.once d
  rw[if_pos hd] at this
  show tn (Qbn _) d+cn _ d=1
  rw[QmX]
  exact this
end Go.Proofs.YthpgjbbjpfiniaaGreat
namespace Go.Proofs.YthpgjbbjpfiniaaGreat
open Go.RowKit
set_option linter.unusedSimpArgs false
set_option linter.unusedVariables false
theorem Qem {p:Pr} {v:Ve} (b:List Int): ∀(a pre:List Int) (x:Vi),VH p v pre (a++b) x=match VH p v pre a x with
  | .inr q=> .inr q
  | .inl z=>match VH p v (pre++a) b z.1 with
   | .inr q=> .inr q
   | .inl z2=> .inl (z2.1,z.2++z2.2)
 | [],pre,x=>by
  simp only[List.nil_append,VH,List.append_nil]
  cases VH p v pre b x<;>rfl
 | s::a,pre,x=>by
  simp only[List.cons_append,VH]
  cases QaA p v pre x s with
  | inr e=>rfl
  | inl y =>
   simp only[]
   rw[Qem b a (pre++[s]) y]
   cases VH p v (pre++[s]) a y with
   | inr q=>rfl
   | inl z =>
    simp only[List.append_assoc,List.singleton_append]
    cases VH p v (pre++s::a) b z.1<;>rfl
theorem Qo6 {p:Pr} {t:Qa} {v:Ve} (h0:0≤t.Vehicle) (h1:t.Vehicle<((p.Vehicles.length:Nat):Int)) (hv:getI p.Vehicles t.Vehicle=some v) (hs:t.Stops.length≤40) :
  W0 p t=match VH p v [] t.Stops (x0 v) with
   | .inr q=> .inr (q.1,((q.2:Nat):Int))
   | .inl z=>match QaR p v z.1 with
    | .inr e=> .inr (e,((t.Stops.length:Nat):Int))
    | .inl y=> .inl (z.1,z.2++[y],v):=by
 unfold W0
 rw[if_neg (by omega),if_neg (by omega)]
 unfold getI at hv
 rw[if_pos h0] at hv
 rw[hv]
 rfl
end Go.Proofs.YthpgjbbjpfiniaaGreat
namespace Go.Proofs.YthpgjbbjpfiniaaGreat
open Go.RowKit
set_option linter.unusedSimpArgs false
set_option linter.unusedVariables false
theorem Wk.join {r:Rd_} {a b:Int} {k:Nat} {l:Lg} (h:Wk r a k b l): ∀{k':Nat} {c:Int} {l':Lg},Wk r b k' c l'→Wk r a (k+k') c ⟨l.Secs+l'.Secs,l.Meters+l'.Meters⟩
 | _,_,_,.nil=>by simpa using h
 | _,_,_,.cons (l:=m) (x:=x) h2 hx ha=>by
  have h3:=Wk.join h h2;have h4:=Wk.cons h3 hx ha;unfold WI at h4 ⊢
  simp only[] at h4 ⊢
  rw[show l.Secs+(m.Secs+x.Secs)=l.Secs+m.Secs+x.Secs by omega,show l.Meters+(m.Meters+x.Meters)=l.Meters+m.Meters+x.Meters by omega]
  exact h4
theorem tri {p:Pr} (hp:OkP p) {a b c:Int} (ha:0≤a∧a<p.Road.Nodes) (hb:0≤b∧b<p.Road.Nodes) (hc:0≤c∧c<p.Road.Nodes) (h1:0≤(Zy p a b).Secs) (h2:0≤(Zy p b c).Secs) :
  0≤(Zy p a c).Secs∧(Zy p a c).Secs≤(Zy p a b).Secs+(Zy p b c).Secs:=by
 have hr:=OkR.of hp.road;obtain ⟨La,_⟩:=QeV hp ha;obtain ⟨Lb,_⟩:=QeV hp hb;obtain ⟨k,_,w1,_⟩:=Qe0 hr (La.lb b hb.1 hb.2) (QgA h1);obtain ⟨k',_,w2,_⟩:=Qe0 hr (Lb.lb c hc.1 hc.2) (QgA h2);have h3:=La.best _ _ _ (w1.join w2);have h4:=h3.2;unfold Lg.le at h4;refine ⟨h3.1,?_⟩;unfold Zy at h1 h2 ⊢
 simp only[] at h4
 omega
structure Lax (p:Pr) (x' x:Vi):Prop where
 leg: ∀b,0≤b→b<p.Road.Nodes→0≤(Zy p x.Node b).Secs→0≤(Zy p x'.Node b).Secs∧x'.Leave+(Zy p x'.Node b).Secs≤x.Leave+(Zy p x.Node b).Secs
 load:x'.Load≤x.Load
theorem Lax.same {p:Pr} {x' x:Vi} (h1:x'.Node=x.Node) (h2:x'.Leave≤x.Leave) (h3:x'.Load≤x.Load):Lax p x' x :=
 ⟨fun b _ _ h=>⟨by rw[h1];exact h,by rw[h1];omega⟩,h3⟩
theorem Qok {p:Pr} {v:Ve} (hp:OkP p) {x' x y:Vi} {pre pre':List Int} {s:Int} (hl:Lax p x' x) (hsub: ∀u∈pre',u∈pre) (hs:QaA p v pre x s= .inl y) :
  ∃y',QaA p v pre' x' s= .inl y'∧Lax p y' y:=by
 unfold QaA at hs
 split at hs
 ·rename_i h1
  split at hs
  ·cases hs
  ·rename_i h2
   injection hs with hs;subst hs
   obtain ⟨g1,g2⟩:=hl.leg _ hp.u0 hp.u1 (by omega);unfold QaA
   rw[if_pos h1,if_neg (by omega)]
   exact ⟨_,rfl,Lax.same rfl (by simp only[];omega) (Int.le_refl _)⟩
 ·rename_i h1
  split at hs
  ·cases hs
  ·rename_i h2
   split at hs
   ·cases hs
   ·rename_i h3
    split at hs
    ·cases hs
    ·rename_i d hd
     have hd2:=hp.de d (List.mem_of_getElem? hd)
     split at hs
     ·cases hs
     ·rename_i h4
      split at hs
      ·cases hs
      ·rename_i h5
       split at hs
       ·cases hs
       ·rename_i h6
        split at hs
        ·cases hs
        ·rename_i h7
         injection hs with hs;subst hs
         obtain ⟨g1,g2⟩:=hl.leg _ hd2.n0 hd2.n1 (by omega);have g3:=hl.load;unfold QaA
         rw[if_neg h1,if_neg h2,if_neg (fun h=>h3 (hsub _ h)),hd]
         simp only[]
         rw[if_neg h4,if_neg (by omega),if_neg (by omega),if_neg (by omega)]
         exact ⟨_,rfl,Lax.same rfl (by simp only[];omega) (by simp only[];omega)⟩
theorem QmH {p:Pr} {v:Ve} (hp:OkP p): ∀(rest pre pre':List Int) (x x':Vi) (z:Vi×List Vi),Lax p x' x→(∀u∈pre',u∈pre)→VH p v pre rest x= .inl z→ ∃z',VH p v pre' rest x'= .inl z'∧Lax p z'.1 z.1
 | [],pre,pre',x,x',z,hl,_,h=>by
  injection h with h;subst h
  exact ⟨_,rfl,hl⟩
 | s::rest,pre,pre',x,x',z,hl,hsub,h=>by
  unfold VH at h
  split at h
  ·cases h
  ·rename_i y hy
   obtain ⟨y',h1,h2⟩:=Qok hp hl hsub hy
   split at h
   ·rename_i z1 hz
    injection h with h;subst h
    obtain ⟨z',h3,h4⟩:=QmH hp rest (pre++[s]) (pre'++[s]) y y' z1 h2 (fun u hu=>by
     rcases List.mem_append.1 hu with h5 | h5
     ·exact List.mem_append_left _ (hsub u h5)
     ·exact List.mem_append_right _ h5) hz
    unfold VH
    rw[h1]
    simp only[]
    rw[h3]
    exact ⟨_,rfl,h4⟩
   ·cases h
theorem Qoj {p:Pr} {v:Ve} (hv:OkV p.Road.Nodes v) {x x' y:Vi} (hl:Lax p x' x) (h0:0≤x'.Load) (hs:QaR p v x= .inl y): ∃y',QaR p v x'= .inl y':=by
 unfold QaR at hs
 split at hs
 ·cases hs
 ·rename_i h1
  split at hs
  ·cases hs
  ·rename_i h2
   split at hs
   ·cases hs
   ·rename_i h3
    obtain ⟨g1,g2⟩:=hl.leg _ hv.d0 hv.d1 (by omega);have g3:=hl.load;unfold QaR
    simp only[ne_eq,Decidable.not_not] at h2
    rw[if_neg (by omega),if_neg (by omega),if_neg (by omega)]
    exact ⟨_,rfl⟩
theorem Qoi {p:Pr} {v:Ve} (hp:OkP p) (hv:OkV p.Road.Nodes v) {k:Nat} {x y:Vi} {pre:List Int} {s:Int} (hx:InV p v k x) (h0:0≤s) (hs:QaA p v pre x s= .inl y):Lax p x y:=by
 have hin:=QeM hp hv hx hs;unfold QaA at hs
 rw[if_neg (by omega)] at hs
 split at hs
 ·cases hs
 ·split at hs
  ·cases hs
  ·split at hs
   ·cases hs
   ·rename_i d hd
    have hd2:=hp.de d (List.mem_of_getElem? hd);have a1:=hd2.g0;have a5:=hd2.s0
    split at hs
    ·cases hs
    ·split at hs
     ·cases hs
     ·rename_i h5
      split at hs
      ·cases hs
      ·split at hs
       ·cases hs
       ·injection hs with hs;subst hs
        refine ⟨fun b b0 b1 hb=> ?_,by simp only[];omega⟩
        simp only[] at hb ⊢
        have h6:=tri hp ⟨hx.n0,hx.n1⟩ ⟨hd2.n0,hd2.n1⟩ ⟨b0,b1⟩ (by omega) hb
        omega
theorem QlH {p:Pr} (hp:OkP p) {t:Qa} {u:Vi×List Vi×Ve} (h:W0 p t= .inl u) {n:Nat} {s:Int} (hn:t.Stops[n]? =some s) (h0:0≤s):(Qdx p ⟨t.Vehicle,t.Stops.take n++t.Stops.drop (n+1)⟩).2.1=0:=by
 obtain ⟨z,y,hf,_,_⟩:=Qge h;have hv:=hp.ve u.2.2 (by
  have:=hf.hv;unfold getI at this
  rw[if_pos hf.t0] at this
  exact List.mem_of_getElem? this)
 have hnl:=Qv hn;have hsl:=hf.sl;have hfol:=hf.fol;have hsplit:t.Stops=t.Stops.take n++(s::t.Stops.drop (n+1)):=by
  conv=>lhs;rw[←List.take_append_drop n t.Stops]
  congr 1
  rw[List.drop_eq_getElem_cons hnl]
  rw[List.getElem?_eq_getElem hnl] at hn
  injection hn with hn
  rw[hn]
 rw[hsplit,Qem] at hfol
 cases hA:VH p u.2.2 [] (t.Stops.take n) (x0 u.2.2) with
 | inr q=>rw[hA] at hfol;cases hfol
 | inl zA =>
  rw[hA] at hfol
  simp only[List.nil_append] at hfol
  have hzA:=QdD hp hv (t.Stops.take n) [] _ _ (Qg6 hv) hA
  simp only[List.length_nil,Nat.zero_add,Yn (Nat.le_of_lt hnl)] at hzA
  cases hB:VH p u.2.2 (t.Stops.take n) (s::t.Stops.drop (n+1)) zA.1 with
  | inr q=>rw[hB] at hfol;cases hfol
  | inl zB =>
   rw[hB] at hfol
   injection hfol with hfol
   have hB2:=hB;unfold VH at hB2
   split at hB2
   ·cases hB2
   ·rename_i y1 hy1
    split at hB2
    ·rename_i zC hC
     injection hB2 with hB2
     have hlx:=Qoi hp hv hzA.1 h0 hy1;obtain ⟨z',g1,g2⟩:=QmH hp (t.Stops.drop (n+1)) (t.Stops.take n++[s]) (t.Stops.take n) y1 zA.1 zC hlx (fun w hw=>List.mem_append_left _ hw) hC;have hzn:=QdD hp hv (t.Stops.drop (n+1)) (t.Stops.take n) _ _ (by rw[Yn (Nat.le_of_lt hnl)];exact hzA.1) g1;have hhom:=hf.hom
     rw[←hfol,←hB2] at hhom
     obtain ⟨y',g3⟩:=Qoj hv g2 hzn.1.l0 hhom;have e:=Qo6 (p:=p) (t:=⟨t.Vehicle,t.Stops.take n++t.Stops.drop (n+1)⟩) hf.t0 hf.t1 hf.hv (by simp;omega)
     simp only[] at e
     rw[Qem,hA] at e
     simp only[List.nil_append,g1,g3] at e
     unfold Qdx
     rw[e]
    ·cases hB2
end Go.Proofs.YthpgjbbjpfiniaaGreat
namespace Go.Proofs.YthpgjbbjpfiniaaGreat
open Go.RowKit
set_option linter.unusedSimpArgs false
set_option linter.unusedVariables false
structure Fe (p:Pr) (x:Pl):Prop where
 ok:OkP p
 chk:Qo p=some 0
 drv: ∀t∈x.Tours,(YJ p t).2=0
 dis:x.Tours.Pairwise fun a b=>a.Vehicle≠b.Vehicle
 lft: ∀e∈x.Left,0≤e∧e<((p.Demands.length:Nat):Int)
 one: ∀d,d<p.Demands.length→tn x.Tours d+cn x.Left d=1
theorem QnV {n:Nat} {f:Nat→Nat} (h:Qg7 (vec n f)=0): ∀d,d<n→f d=1:=fun d hd=>by
 unfold Qg7 at h;have hm:((f d:Nat):Int)∈vec n f:=List.mem_of_getElem? (Qgh f hd);cases h1:(vec n f).any fun c=>decide (1<c) with
 | true=>rw[h1] at h;cases h
 | false =>
  rw[h1] at h
  simp only[cond_false] at h
  cases h2:(vec n f).any fun c=>decide (c=0) with
  | true=>rw[h2] at h;cases h
  | false =>
   rw[List.any_eq_false] at h1 h2
   have a1:=h1 _ hm;have a2:=h2 _ hm
   simp at a1 a2
   omega
theorem QnW {p:Pr} {ts:List To} (h: ∀(k:Nat) (t:To),ts[k]? =some t→Qc5 p ts k t=none):ts.Pairwise fun a b=>a.Vehicle≠b.Vehicle:=by
 rw[List.pairwise_iff_getElem]
 intro i j hi hj hij he;have:=h j _ (List.getElem?_eq_getElem hj);unfold Qc5 at this;have hany:(ts.take j).any (fun u=>decide (u.Vehicle=ts[j].Vehicle))=true:=by
  rw[List.any_eq_true]
  refine ⟨ts[i],?_,by simpa using he⟩;refine List.mem_of_getElem? (i:=i) ?_
  rw[List.getElem?_take,if_pos hij,List.getElem?_eq_getElem hi]
 rw[hany] at this
 cases this
theorem QfQ {p:Pr} {t:To} {u:Vi×List Vi×Ve} (h:W0 p t= .inl u):(YJ p t).2=0:=by unfold YJ;rw[h]
theorem Qdi {F:Nat} (hF:40000≤F) {p:Pr} (hn:p.Road.Edges.length≤600) (x:Pl) (hx:x.Tours.length≤30) (hl:x.Left.length≤100) :
  ∃s e,Y9 F p x=some (s,e)∧QL p x=some e∧Q9 p x=some (s,e)∧(e=0→s=Zi p x.Tours∧Fe p x):=by
 obtain ⟨s,e,h1,h2,h3⟩:=Qnt hF hn x hx hl;refine ⟨s,e,h1,h2,h3,fun he=> ?_⟩;subst he;rcases QcF p hn with ⟨g1,g2⟩ | ⟨e,g1,g2⟩
 ·rcases Qft (Qc5 p x.Tours) x.Tours 0 with k1 | ⟨c,i,t,k1,k2⟩
  ·simp only[Nat.zero_add] at k1
   have hdl:=g2.dl;have hall: ∀t∈x.Tours,(∀s∈t.Stops,okS p.Demands.length s)∧t.Stops.length≤40:=fun t htm=>by
    obtain ⟨i,hi⟩:=List.getElem?_of_mem htm;obtain ⟨u,hu⟩:=Qc6 (k1 i t hi);exact (VG g2 hu).2.2
   have q1:=QeX hF g2 x hx
   rw[QW _ _ (fun i t hi=>by rw[Nat.zero_add,k1 i t hi];rfl)] at q1
   have q3:=(Qdf (n:=p.Demands.length) x (fun _=>0) (by omega) (fun _=>Nat.zero_le _)).1;have q4:=(Qcw (n:=p.Demands.length) x (fun d=>0+cn x.Left d) (by omega) (fun d=>by have:=Qi1 x.Left d;omega) (fun t htm=>by have:=(hall t htm).2;omega) (fun t htm=>(hall t htm).1)).1;have hpl:Y9 F p x=some (bif Qfj p.Demands.length x.Left then (0,7) else (bif decide (Qg7 (vec p.Demands.length fun d=>0+cn x.Left d+tn x.Tours d)=0) then Zi p x.Tours else 0,Qg7 (vec p.Demands.length fun d=>0+cn x.Left d+tn x.Tours d))):=by
    unfold Y9
    rw[ZO (by omega) _ hn,g1]
    simp only[Option.bind_some,decide_true,Bool.not_true,cond_false]
    rw[q1]
    simp only[Option.bind_some,QI]
    rw[Qet _ (by omega)]
    simp only[Option.bind_some]
    rw[q3]
    cases Qfj p.Demands.length x.Left with
    | true=>rfl
    | false =>
     simp only[cond_false,Option.bind_some,QI]
     rw[q4]
     simp only[Option.bind_some]
     rw[Qhn _ (by rw[VL];omega),Qhr _ (by rw[VL];omega)]
     unfold Qg7
     simp only[Option.bind_some]
     generalize (vec p.Demands.length fun d=>0+cn x.Left d+tn x.Tours d).any (fun c=>decide (1<c))=a
     generalize (vec p.Demands.length fun d=>0+cn x.Left d+tn x.Tours d).any (fun c=>decide (c=0))=b
     cases a<;>cases b<;>rfl
   rw[h1] at hpl
   cases hbl:Qfj p.Demands.length x.Left with
   | true=>rw[hbl] at hpl;cases hpl
   | false =>
    rw[hbl] at hpl
    simp only[cond_false,Option.some.injEq,Prod.mk.injEq] at hpl
    obtain ⟨p1,p2⟩:=hpl
    rw[←p2] at p1
    simp only[decide_true,cond_true] at p1
    refine ⟨p1,g2,g1,fun t ht=> ?_,QnW k1,fun e he=> ?_,fun d hd=> ?_⟩
    ·obtain ⟨i,hi⟩:=List.getElem?_of_mem ht;obtain ⟨u,hu⟩:=Qc6 (k1 i t hi);exact QfQ hu
    ·unfold Qfj at hbl
     rw[List.any_eq_false] at hbl
     have:=hbl e he
     simp at this
     omega
    ·have:=QnV p2.symm d hd
     omega
  ·exfalso
   have hc0:=Qkq k1;have q1:=QeX hF g2 x hx
   rw[k2] at q1
   unfold Y9 at h1
   rw[ZO (by omega) _ hn,g1] at h1
   simp only[Option.bind_some,decide_true,Bool.not_true,cond_false] at h1
   rw[q1] at h1
   simp only[Option.bind_some,QI,Option.some.injEq,Prod.mk.injEq] at h1
   exact hc0 h1.2
 ·exfalso
  unfold Y9 at h1
  rw[ZO (by omega) _ hn,g2] at h1
  simp only[Option.bind_some] at h1
  rw[show decide (e=0)=false by simpa using g1] at h1
  simp only[Bool.not_false,cond_true,Option.some.injEq,Prod.mk.injEq] at h1
  exact g1 h1.2
theorem Fe.tour {p:Pr} {x:Pl} (h:Fe p x) {t:To} (ht:t∈x.Tours):0≤t.Vehicle∧t.Vehicle<((p.Vehicles.length:Nat):Int)∧t.Stops.length≤40∧(∀s∈t.Stops,okS p.Demands.length s)∧ ∃u,W0 p t= .inl u:=by
 obtain ⟨u,hu⟩:=Qc9 (h.drv t ht);obtain ⟨z,y,hf,_,_⟩:=Qge hu;exact ⟨hf.t0,hf.t1,hf.sl,(VG h.ok hu).2.2.1,u,hu⟩
theorem Qhp (x:Pl) (v:Int):(ofP x v∈x.Tours∧(ofP x v).Vehicle=v)∨ofP x v=⟨v,[]⟩:=by
 unfold ofP;cases h:x.Tours.find? fun t=>decide (t.Vehicle=v) with
 | none=>exact .inr rfl
 | some t =>
  have h1:=List.find?_some h;exact .inl ⟨List.mem_of_find?_eq_some h,by simpa using h1⟩
theorem QmM (x:Pl) (v:Int):(ofP x v).Vehicle=v:=by
 rcases Qhp x v with ⟨_,h⟩ | h
 ·exact h
 ·rw[h]
theorem Fe.of_len {p:Pr} {x:Pl} (h:Fe p x) (v:Int):(ofP x v).Stops.length≤40:=by
 rcases Qhp x v with ⟨h1,_⟩ | h1
 ·exact (h.tour h1).2.2.1
 ·rw[h1];simp
theorem Qkf (d:Int) (l:List Int):(wo d l).length≤l.length:=List.length_filter_le _ _
theorem Qmm (d:Int) (l:List Int):d∉wo d l:=fun h=>by
 unfold wo at h
 simp at h
theorem QiG {d e:Int} (l:List Int) (h:e≠d):(wo d l).count e=l.count e:=by
 unfold wo
 rw[List.count_filter (by simpa using h)]
theorem Qlj {d:Int}: ∀(l:List Int),l.count d≤1→d∈l→ ∃n,l[n]? =some d∧wo d l=l.take n++l.drop (n+1)
 | [],_,h=>by cases h
 | a::r,hc,h=>by
  by_cases ha:a=d
  ·subst ha;have h0:r.count a=0:=by simp at hc;omega
   have h1:wo a r=r:=Qgj fun y hy=>by
    have:a∉r:=List.count_eq_zero.1 h0
    simp only[decide_eq_false_iff_not]
    intro e;rw[e] at hy;exact this hy
   exact ⟨0,rfl,by simp[wo] at h1 ⊢;exact h1⟩
  ·have hr:d∈r:=by rcases List.mem_cons.1 h with e | h;exact absurd e.symm ha;exact h
   have hc2:r.count d≤1:=by rw[List.count_cons] at hc;omega
   obtain ⟨n,h1,h2⟩:=Qlj r hc2 hr;refine ⟨n+1,by simpa using h1,?_⟩;unfold wo at h2 ⊢
   simp[ha,h2]
theorem QpQ {ts:List To} {t:To} (h:t∈ts) (d:Nat):cn t.Stops d≤tn ts d:=by
 induction ts with
 | nil=>cases h
 | cons u ts ih =>
  simp only[tn,List.map_cons,List.sum_cons]
  rcases List.mem_cons.1 h with rfl | h
  ·omega
  ·have:=ih h;unfold tn at this;omega
theorem Fe.less {p:Pr} {x:Pl} (h:Fe p x) {d:Int} (h0:0≤d) (h1:d<((p.Demands.length:Nat):Int)) {t:To} (ht:t∈x.Tours):(YJ p ⟨t.Vehicle,wo d t.Stops⟩).2=0:=by
 obtain ⟨_,_,_,_,u,hu⟩:=h.tour ht
 by_cases hd:d∈t.Stops
 ·have hc:t.Stops.count d≤1:=by
   have a1:=h.one d.toNat (by omega);have a2:=QpQ ht d.toNat;unfold cn at a2
   rw[show ((d.toNat:Nat):Int)=d by omega] at a2
   omega
  obtain ⟨n,e1,e2⟩:=Qlj t.Stops hc hd;have:=QlH h.ok hu e1 h0
  rw[←e2] at this
  unfold Qdx at this;cases hr:W0 p ⟨t.Vehicle,wo d t.Stops⟩ with
  | inl w=>exact QfQ hr
  | inr q=>rw[hr] at this;exact absurd this (Qai hr)
 ·rw[Qgj (fun y hy=>by simp only[decide_eq_false_iff_not];intro e;rw[e] at hy;exact hd hy)]
  exact h.drv t ht
theorem QmW {n k:Nat} (a:Nat) (f:Nat→Nat) (hk:k<n) (h0:f k=0):((List.range n).map fun i=>if k=i then a else f i).sum=a+((List.range n).map f).sum:=by
 induction n with
 | zero=>omega
 | succ n ih =>
  simp only[List.range_succ,List.map_append,List.sum_append,List.map_cons,List.map_nil,List.sum_cons,List.sum_nil]
  by_cases h:k=n
  ·subst h;have:((List.range k).map fun i=>if k=i then a else f i)=(List.range k).map f:=List.map_congr_left fun i hi=>by
    rw[if_neg (by have:=List.mem_range.1 hi;omega)]
   rw[this,if_pos rfl,h0];omega
  ·rw[if_neg h,ih (by omega)];omega
theorem Qlc (n:Nat):((List.range n).map fun _=>0).sum=0:=by
 induction n with
 | zero=>rfl
 | succ n ih=>simp only[List.range_succ,List.map_append,List.sum_append,ih];rfl
def gOf (ts:List To) (v:Int):To:=(ts.find? fun t=>decide (t.Vehicle=v)).getD ⟨v,[]⟩
theorem Qo5 {n:Nat} (e:Nat): ∀{ts:List To},(ts.Pairwise fun a b=>a.Vehicle≠b.Vehicle)→(∀t∈ts,0≤t.Vehicle∧t.Vehicle<(n:Int))→((List.range n).map fun i:Nat=>cn (gOf ts (i:Int)).Stops e).sum=tn ts e
 | [],_,_=>by
  have:((List.range n).map fun i:Nat=>cn (gOf [] (i:Int)).Stops e)=(List.range n).map fun _=>0:=List.map_congr_left fun i _=>by simp[gOf,cn]
  rw[this,Qlc]
  simp[tn]
 | t::r,hp,hv=>by
  have hp':=List.pairwise_cons.1 hp;have ih:=Qo5 (n:=n) e hp'.2 fun u hu=>hv u (List.mem_cons_of_mem _ hu);obtain ⟨v0,v1⟩:=hv t List.mem_cons_self;have hg: ∀i:Nat,cn (gOf (t::r) (i:Int)).Stops e=if t.Vehicle.toNat=i then cn t.Stops e else cn (gOf r (i:Int)).Stops e:=fun i=>by
   unfold gOf
   by_cases h:t.Vehicle.toNat=i
   ·rw[if_pos h,List.find?_cons_of_pos (by simp;omega)];rfl
   ·rw[if_neg h,List.find?_cons_of_neg (by simp;omega)]
  have hz:cn (gOf r (t.Vehicle.toNat:Int)).Stops e=0:=by
   have:r.find? (fun u=>decide (u.Vehicle=(t.Vehicle.toNat:Int)))=none:=by
    rw[List.find?_eq_none]
    intro u hu;have:=hp'.1 u hu
    simp;omega
   unfold gOf
   rw[this]
   simp[cn]
  have e1:((List.range n).map fun i:Nat=>cn (gOf (t::r) (i:Int)).Stops e)=(List.range n).map fun i=>if t.Vehicle.toNat=i then cn t.Stops e else cn (gOf r (i:Int)).Stops e:=List.map_congr_left fun i _=>hg i
  rw[e1,QmW _ (fun i:Nat=>cn (gOf r (i:Int)).Stops e) (by omega) hz,ih]
  simp[tn]
theorem Fe.sum {p:Pr} {x:Pl} (h:Fe p x) (e:Nat):((List.range p.Vehicles.length).map fun i:Nat=>cn (ofP x (i:Int)).Stops e).sum=tn x.Tours e :=
 Qo5 e h.dis fun t ht=>⟨(h.tour ht).1,(h.tour ht).2.1⟩
def stB (x:Pl) (d v:Int) (b:To) (i:Nat):To:=if (i:Int)=v then b else ⟨(i:Int),wo d (ofP x (i:Int)).Stops⟩
def Qhd (p:Pr) (x:Pl) (d:Int):List Int:=((List.range p.Demands.length).map fun k:Nat=>(k:Int)).filter fun k=> !decide (k=d)&&decide (k∈x.Left)
def Qd3 (p:Pr) (x:Pl) (d v:Int) (b:To):Pl:=⟨((List.range p.Vehicles.length).map (stB x d v b)).filter Qbv,Qhd p x d⟩
theorem QkM (p:Pr) (x:Pl) (d:Int):(Qhd p x d).Pairwise (· < ·):=by
 refine List.Pairwise.filter _ ?_
 rw[List.pairwise_map]
 exact List.Pairwise.imp (fun h=>by omega) List.pairwise_lt_range
theorem Qic {p:Pr} {x:Pl} {d e:Int}:e∈Qhd p x d↔(0≤e∧e<((p.Demands.length:Nat):Int))∧e≠d∧e∈x.Left:=by
 unfold Qhd
 rw[List.mem_filter]
 constructor
 ·rintro ⟨h1,h2⟩;obtain ⟨k,hk,rfl⟩:=List.mem_map.1 h1;have:=List.mem_range.1 hk
  simp at h2
  exact ⟨by omega,h2⟩
 ·rintro ⟨⟨h1,h2⟩,h3,h4⟩;refine ⟨List.mem_map.2 ⟨e.toNat,List.mem_range.2 (by omega),by omega⟩,?_⟩
  simp[h3,h4]
theorem Fe.left_nodup {p:Pr} {x:Pl} (h:Fe p x):x.Left.Nodup:=by
 rw[List.nodup_iff_count]
 intro e
 by_cases he:e∈x.Left
 ·have:=h.lft e he;have h1:=h.one e.toNat (by omega);unfold cn at h1
  rw[show ((e.toNat:Nat):Int)=e by omega] at h1
  omega
 ·rw[List.count_eq_zero.2 he];omega
theorem Qoo {l:List Int} (h:l.Pairwise (· < ·)):l.Nodup:=List.Pairwise.imp (fun h=>by omega) h
theorem QlQ {a b:List Int} (ha:a.Nodup) (hb:b.Nodup) (h: ∀e,e∈a↔e∈b):a.Perm b:=(List.perm_ext_iff_of_nodup ha hb).2 h
theorem Fe.left_perm {p:Pr} {x:Pl} (h:Fe p x) (d:Int):(wo d x.Left).Perm (Qhd p x d):=by
 refine QlQ (h.left_nodup.filter _) (Qoo (QkM p x d)) fun e=> ?_
 rw[Qic]
 unfold wo
 rw[List.mem_filter]
 simp only[Bool.not_eq_true',decide_eq_false_iff_not]
 exact ⟨fun ⟨h1,h2⟩=>⟨h.lft e h1,h2,h1⟩,fun ⟨_,h1,h2⟩=>⟨h2,h1⟩⟩
theorem Fe.left_sort {p:Pr} {x:Pl} (h:Fe p x) (hl:x.Left.length≤1000) (d:Int):Qiu (wo d x.Left)=some (Qhd p x d):=by
 have h1:=Qkf d x.Left;unfold Qiu
 rw[if_pos (by omega)]
 congr 1
 refine List.Perm.eq_of_pairwise (le:=(· ≤ ·)) (fun a b _ _=>Int.le_antisymm) (QdG _) (List.Pairwise.imp (fun h=>by omega) (QkM p x d)) ((QdF _).trans (h.left_perm d))
end Go.Proofs.YthpgjbbjpfiniaaGreat
namespace Go.Proofs.YthpgjbbjpfiniaaGreat
open Go.RowKit
set_option linter.unusedSimpArgs false
set_option linter.unusedVariables false
abbrev Ra:=Qb
theorem QoH (rec_:List Ra→Int→Int→Int→Option (List Ra)) (F:Nat) (d:List Ra) (a m b:Int):Zh rec_ F d a m b=Qen Q6 rec_ F d a m b:=rfl
theorem Qj7: ∀F:Nat,Ye F=QjM Q6 F
 | 0=>rfl
 | F+1=>by
  funext d a m b
  show Zh (Ye F) F d a m b=Qen Q6 (QjM Q6 F) F d a m b
  rw[Qj7 F];exact QoH _ _ _ _ _ _
theorem QqD (F:Nat) (n s:Int):Zo F n s=QgR Q6 F n s:=by
 funext j
 unfold Zo QgR
 rw[Qj7]
theorem QqE (F:Nat) (n:Int):Zp F n=QgS Q6 F n:=by
 funext j
 unfold Zp QgS
 simp only[Qj7,QqD]
theorem QoG (F:Nat) (d:List Ra):Yt F d=Qjb Q6 F d:=by
 unfold Yt Qjb ZV gSt
 simp only[QqE]
 rfl
theorem QlX {F:Nat} {L:List Ra} (hn:L.length≤1000) (hF:40000≤F) (hb: ∀x∈L,QbP x): ∃L',Yt F L=some L'∧Srt JO L'∧YL JO L L':=by
 rw[QoG]
 exact QkH (α:=Ra) (k:=JO) (cmp:=Q6) (Pv:=QbP) (fun x y hx hy=>QhI hx hy) (by omega) (by omega) hb
theorem QhT {α ρ:Type} {step:Nat→α→Option ρ} {fin r:ρ}: ∀(l:List α) (k i:Nat) (y:α),l[i]? =some y→step (k+i) y=some r→(∀(j:Nat) (z:α),j<i→l[j]? =some z→step (k+j) z=none)→YM step fin k l=r
 | [],_,_,_,h,_,_=>by simp at h
 | x::l,k,0,y,h,hs,_=>by
  simp at h;subst h
  simp only[YM]
  rw[Nat.add_zero] at hs
  rw[hs]
 | x::l,k,i+1,y,h,hs,hn=>by
  have h0:=hn 0 x (by omega) rfl
  rw[Nat.add_zero] at h0
  simp only[YM,h0]
  exact QhT l (k+1) i y (by simpa using h) (by rw[show k+1+i=k+(i+1) by omega];exact hs) fun j z hj hz=>by
   have:=hn (j+1) z (by omega) (by simpa using hz)
   rwa [show k+(j+1)=k+1+j by omega] at this
def tO (x:Pl) (d v:Int):To:=⟨v,wo d (ofP x v).Stops⟩
def bsO (F:Nat) (p:Pr) (x:Pl) (d v:Int):Option Op:=V0 F p d ⟨tO x d v,0⟩
def mvR (F:Nat) (p:Pr) (x:Pl) (d v:Int):Option Pl:=(bsO F p x d v).map fun y=>Qd3 p x d v y.tour
def QjK:Option Pl→Pl×Bool
 | some y=>(y,true)
 | none=>(⟨[],[]⟩,false)
def stK (x:Pl) (d v:Int) (b:To) (k:Nat):List To:=((List.range k).map (stB x d v b)).filter Qbv
theorem Qix (x:Pl) (d v:Int) (b:To) (k:Nat):stK x d v b (k+1)=stK x d v b k++if Qbv (stB x d v b k)=true then [stB x d v b k] else []:=by
 unfold stK
 rw[List.range_succ,List.map_append,List.filter_append]
 simp[List.filter_cons]
theorem QmU (x:Pl) (d v:Int) (b:To) (k:Nat):(stK x d v b k).length≤k:=Nat.le_trans (List.length_filter_le _ _) (by simp)
theorem QkR {F:Nat} (hF:40000≤F) {p:Pr} {x:Pl} (hx:x.Tours.length≤1000) (hs: ∀v,(ofP x v).Stops.length≤1000) (hv:p.Vehicles.length≤1000) (d v:Int) {b:To} (hb:b.Stops.length≤1000) :
  iter (J5 F p x d v b.Vehicle b.Stops) (((p.Vehicles.length:Nat):Int).toNat+1) ([],0)=some (stK x d v b p.Vehicles.length):=by
 have:=Y2 (body:=J5 F p x d v b.Vehicle b.Stops) p.Vehicles (stK x d v b) (fun m k=>(m,k)) (fun _ _=>none) (stK x d v b p.Vehicles.length) (by omega) (fun k y hk _=> ?_) (fun _=>by simp[J5,oun]) (((p.Vehicles.length:Nat):Int).toNat+1) (by simp)
 ·rw[QW _ _ (fun _ _ _=>rfl)] at this
  exact this
 ·have h0:=Qv hk;have h1:((k:Int)<((p.Vehicles.length:Nat):Int)):=by omega
  have hl:=QmU x d v b k;have fin: ∀t:To,t=stB x d v b k→t.Stops.length≤1000→(Option.bind (Option.bind (Vg (Qa.mk t.Vehicle t.Stops)) fun r7=>bif r7 then Option.bind (Z7 (stK x d v b k) [(Qa.mk t.Vehicle t.Stops)]) fun l1=>some l1 else some (stK x d v b k)) fun f6 =>
    some (Sum.inl (f6,w64 ((k:Int)+1))))=some (Jj none (stK x d v b (k+1),w64 ((k:Int)+1)):(List To×Int)⊕List To):=fun t ht hl2=>by
   rw[(QgC (t:=⟨t.Vehicle,t.Stops⟩) (by simpa using (by omega:t.Stops.length≤1000000))).1,Qix,←ht]
   cases Qbv t with
   | true =>
    simp only[Option.bind_some,cond_true]
    rw[Ym (by simp;omega)]
    rfl
   | false=>simp[Jj]
  by_cases h:(k:Int)=v
  ·have ht:b=stB x d v b k:=by unfold stB;rw[if_pos h]
   have h1v:v<((p.Vehicles.length:Nat):Int):=by omega
   simp only[J5,oun,h1v,decide_true,cond_true,h,Bool.not_true,cond_false,Option.bind_some]
   rw[←h]
   have:=fin b ht hb
   rw[h] at this ⊢
   exact this
  ·have ht:(⟨(k:Int),wo d (ofP x (k:Int)).Stops⟩:To)=stB x d v b k:=by unfold stB;rw[if_neg h]
   simp only[J5,oun,h1,decide_true,cond_true,h,decide_false,Bool.not_false,(Qhv (x:=x) (k:Int) hx).1,Option.bind_some,QfG hF d (hs k)]
   exact fin ⟨(k:Int),wo d (ofP x (k:Int)).Stops⟩ ht (Nat.le_trans (Qkf _ _) (hs k))
theorem QkS {F:Nat} (hF:40000≤F) {p:Pr} {x:Pl} (hx:x.Tours.length≤1000) (hs: ∀v,(ofP x v).Stops.length≤1000) (hv:p.Vehicles.length≤1000) (d:Int) {v:Nat} (hvv:v<p.Vehicles.length) {b:To} (hb:b.Stops.length≤1000) {e:Int} (hbe:YG F p (tO x d v) d=some (b,e)) :
  iter (Ze F p x d v) (((p.Vehicles.length:Nat):Int).toNat+1) ([],0)=some (if e=0 then .inl (stK x d v b p.Vehicles.length) else .inr (⟨[],[]⟩,false)):=by
 have:=Y2 (body:=Ze F p x d v) p.Vehicles (stK x d v b) (fun m k=>(m,k)) (fun k _=>if k=v∧e≠0 then some (.inr (⟨[],[]⟩,false)) else none) (.inl (stK x d v b p.Vehicles.length)) (by omega) (fun k y hk hno=> ?_) (fun _=>by simp[Ze,oun]) (((p.Vehicles.length:Nat):Int).toNat+1) (by simp)
 ·have e0:(stK x d v b 0,(0:Int))=(([]:List To),(0:Int)):=rfl;refine this.trans ?_
  by_cases he:e=0
  ·rw[if_pos he,QW _ _ (fun i y _=>by simp[he])]
  ·rw[if_neg he,QhT p.Vehicles 0 v p.Vehicles[v] (List.getElem?_eq_getElem hvv) (r:= .inr (⟨[],[]⟩,false)) (by simp[he]) (fun j z hj _=>by simp;omega)]
 ·have h0:=Qv hk;have h1:((k:Int)<((p.Vehicles.length:Nat):Int)):=by omega
  have hl:=QmU x d v b k
  by_cases h:k=v
  ·subst h;have ht:b=stB x d k b k:=by unfold stB;rw[if_pos rfl]
   simp only[Ze,oun,h1,decide_true,cond_true,(Qhv (x:=x) (k:Int) hx).2,Option.bind_some,QkZ d (show (ofP x (k:Int)).Stops.length≤1000000 by have:=hs k;omega)]
   have hbe':YG F p (Qa.mk (k:Int) (wo d (ofP x (k:Int)).Stops)) d=some (b,e):=hbe
   rw[hbe']
   simp only[Option.bind_some]
   by_cases he:e=0
   ·simp only[he,decide_true,Bool.not_true,cond_false,Option.bind_some,QI]
    rw[(QgC (t:=⟨b.Vehicle,b.Stops⟩) (by simpa using (by omega:b.Stops.length≤1000000))).2,Qix,←ht]
    cases Qbv b with
    | true =>
     simp only[Option.bind_some,cond_true]
     rw[Ym (by simp;omega)]
     simp[Jj,QI]
    | false=>simp[Jj,QI]
   ·simp[he,Jj,QI]
  ·have hkv: ¬((k:Int)=(v:Int)):=by omega
   have ht:(⟨(k:Int),wo d (ofP x (k:Int)).Stops⟩:To)=stB x d v b k:=by unfold stB;rw[if_neg hkv]
   have hl2:=Nat.le_trans (Qkf d (ofP x (k:Int)).Stops) (hs k)
   simp only[Ze,oun,h1,decide_true,cond_true,(Qhv (x:=x) (k:Int) hx).2,Option.bind_some,QkZ d (show (ofP x (k:Int)).Stops.length≤1000000 by have:=hs k;omega),hkv,decide_false,cond_false,QI]
   rw[(QgC (t:=⟨(k:Int),wo d (ofP x (k:Int)).Stops⟩) (by simpa using (by omega:(wo d (ofP x (k:Int)).Stops).length≤1000000))).2,Qix,←ht]
   cases Qbv ⟨(k:Int),wo d (ofP x (k:Int)).Stops⟩ with
   | true =>
    simp only[Option.bind_some,cond_true]
    rw[Ym (by simp;omega)]
    simp[Jj,QI,h]
   | false=>simp[Jj,QI,h]
theorem QkT {p:Pr} {x:Pl} (hl:x.Left.length≤1000) (hd:p.Demands.length≤1000) (d:Int) :
  iter (ZU p x d) (((p.Demands.length:Nat):Int).toNat+1) ([],0)=some (Qhd p x d):=by
 have:=Y2 (body:=ZU p x d) p.Demands (fun k=>((List.range k).map fun k:Nat=>(k:Int)).filter fun k=> !decide (k=d)&&decide (k∈x.Left)) (fun m k=>(m,k)) (fun _ _=>none) (Qhd p x d) (by omega) (fun k y hk _=> ?_) (fun _=>by simp[ZU,oun,Qhd]) (((p.Demands.length:Nat):Int).toNat+1) (by simp)
 ·rw[QW _ _ (fun _ _ _=>rfl)] at this
  exact this
 ·have h0:=Qv hk;have h1:((k:Int)<((p.Demands.length:Nat):Int)):=by omega
  have hl2:(((List.range k).map fun k:Nat=>(k:Int)).filter fun k=> !decide (k=d)&&decide (k∈x.Left)).length≤k:=Nat.le_trans (List.length_filter_le _ _) (by simp)
  simp only[ZU,oun,h1,decide_true,cond_true,Qod (k:Int) (show x.Left.length≤1000000 by omega)]
  rw[List.range_succ,List.map_append,List.filter_append]
  generalize (((List.range k).map fun k:Nat=>(k:Int)).filter fun k=> !decide (k=d)&&decide (k∈x.Left))=A at *
  by_cases e1:(k:Int)=d
  ·simp[e1,Jj]
  ·by_cases e2:(k:Int)∈x.Left
   ·simp only[e1,e2,decide_false,decide_true,Bool.not_false,cond_true,Option.bind_some]
    rw[Ym (by simp;omega)]
    simp[Jj,e1,e2]
   ·simp[e1,e2,Jj]
theorem Qnq {F:Nat} (hF:40000≤F) {p:Pr} (hn:p.Road.Edges.length≤600) {x:Pl} (h:Fe p x) (hx:x.Tours.length≤1000) (hl:x.Left.length≤1000) (hv:p.Vehicles.length≤1000) {d v:Nat} (hdd:d<p.Demands.length) (hvv:v<p.Vehicles.length) :
  VR F p x d v=some (QjK (mvR F p x d v))∧JK F p x d v=some (QjK (mvR F p x d v))∧(∀y,bsO F p x d v=some y→IsO p (tO x d v) d y∧y.tour.Stops.length≤40):=by
 have hs: ∀v,(ofP x v).Stops.length≤1000:=fun v=>by have:=h.of_len v;omega
 have hts:(tO x d v).Stops.length≤1000:=Nat.le_trans (Qkf _ _) (hs _);have hdl:=h.ok.dl;obtain ⟨L,e,h1,h2,h3,h4⟩:=Qbg hF p hn (tO x d v) hts d;have hbad:QjE p (tO x d v) d=false:=by
  unfold QjE tO
  simp;omega
 have he:=h4 h.chk hbad
 rw[show decide ((d:Int)∈(tO x d v).Stops)=false from decide_eq_false (Qmm (d:Int) _)] at he
 have he:e=0:=he;subst he;rcases h3 with ⟨h3,_⟩ | ⟨_,h3⟩
 ·exact absurd rfl h3
 obtain ⟨e',b1,b2,_,b4⟩:=Qjz h2 (.inr ⟨rfl,h3⟩);have hB:=(Qhw hF p hn (tO x d v) hts d).2;have hbs:bsO F p x d v=L.head? :=by
  unfold bsO V0
  rw[h1]
  cases L<;>rfl
 have hisO: ∀y,bsO F p x d v=some y→IsO p (tO x d v) d y∧y.tour.Stops.length≤40:=fun y hy=>Qoe (x:=⟨tO x d v,0⟩) hy ⟨L,0,h1,.inr ⟨rfl,h3⟩⟩;have hbl:(hdT L).Stops.length≤1000:=by
  cases L with
  | nil=>simp[hdT]
  | cons y M=>have:=(hisO y (by rw[hbs];rfl)).2;simp only[hdT];omega
 rw[b1] at hB
 have hB':V8 F p (Qa.mk (v:Int) (wo (d:Int) (ofP x (v:Int)).Stops)) d=some (hdT L,e'):=hB;refine ⟨?_,?_,hisO⟩
 ·unfold VR
  simp only[(Qhv (x:=x) (v:Int) hx).1,Option.bind_some,QfG hF (d:Int) (hs v),hB',oun]
  cases L with
  | nil =>
   rw[b4 rfl rfl,mvR,hbs]
   rfl
  | cons y M =>
   have he':e'=0:=b2.2 (by simp)
   simp only[he',decide_true,Bool.not_true,cond_false]
   rw[QkR hF hx hs hv (d:Int) (v:Int) hbl,QfG hF (d:Int) hl]
   simp only[Option.bind_some]
   rw[h.left_sort hl,mvR,hbs]
   rfl
 ·unfold JK
  rw[QkS hF hx hs hv (d:Int) hvv hbl b1]
  cases L with
  | nil =>
   rw[b4 rfl rfl,mvR,hbs]
   rfl
  | cons y M =>
   have he':e'=0:=b2.2 (by simp)
   rw[if_pos he']
   simp only[Option.bind_some,QI]
   rw[QkT hl (by omega),mvR,hbs]
   rfl
theorem Qpo {p:Pr} {x:Pl} (h:Fe p x) {d v:Nat} (hdd:d<p.Demands.length) (hvv:v<p.Vehicles.length) {y:Op} (hy:IsO p (tO x d v) d y) :
  Fe p (Qd3 p x d v y.tour)∧(Qd3 p x d v y.tour).Tours.Pairwise fun a b=>a.Vehicle<b.Vehicle:=by
 have hyv:y.tour.Vehicle=(v:Int):=by
  obtain ⟨i,_,hi⟩:=hy.cand
  rw[hi];rfl
 have hveh: ∀i:Nat,(stB x d v y.tour i).Vehicle=(i:Int):=fun i=>by
  unfold stB
  by_cases e:(i:Int)=(v:Int)
  ·rw[if_pos e,hyv,e]
  ·rw[if_neg e]
 have hasc:(Qd3 p x d v y.tour).Tours.Pairwise fun a b=>a.Vehicle<b.Vehicle:=by
  refine List.Pairwise.filter _ ?_
  rw[List.pairwise_map]
  exact List.Pairwise.imp (fun h=>by rw[hveh,hveh];omega) List.pairwise_lt_range
 have hcnt: ∀e:Nat,tn (Qd3 p x d v y.tour).Tours e=((List.range p.Vehicles.length).map fun i:Nat=>cn (stB x d v y.tour i).Stops e).sum:=fun e=>by
  show tn (((List.range p.Vehicles.length).map (stB x d v y.tour)).filter Qbv) e=_
  have key: ∀ts:List To,tn (ts.filter Qbv) e=(ts.map fun t=>cn t.Stops e).sum:=by
   intro ts
   induction ts with
   | nil=>rfl
   | cons t ts ih =>
    rw[List.filter_cons]
    by_cases hs:Qbv t=true
    ·rw[if_pos hs]
     simp only[tn,List.map_cons,List.sum_cons] at ih ⊢
     rw[ih]
    ·rw[if_neg hs,ih]
     have:cn t.Stops e=0:=by
      unfold cn
      rw[List.count_eq_zero]
      intro hm;refine hs ?_;unfold Qbv
      rw[List.any_eq_true]
      exact ⟨_,hm,by simp⟩
     simp[this]
  rw[key,List.map_map]
  rfl
 have hcE: ∀e i:Nat,e≠d→cn (stB x d v y.tour i).Stops e=cn (ofP x (i:Int)).Stops e:=fun e i hed=>by
  have hed':(e:Int)≠(d:Int):=by omega
  unfold stB cn
  by_cases hi:(i:Int)=(v:Int)
  ·rw[if_pos hi]
   obtain ⟨j,_,hj⟩:=hy.cand
   rw[hj,Qb0 _ _ _ (by omega),if_neg hed']
   show (wo (d:Int) (ofP x (v:Int)).Stops).count (e:Int)+0=_
   rw[QiG _ hed',hi];rfl
  ·rw[if_neg hi]
   exact QiG _ hed'
 have hcD: ∀i:Nat,cn (stB x d v y.tour i).Stops d=if v=i then 1 else 0:=fun i=>by
  unfold stB cn
  by_cases hi:(i:Int)=(v:Int)
  ·rw[if_pos hi,if_pos (by omega)]
   obtain ⟨j,_,hj⟩:=hy.cand
   rw[hj,Qb0 _ _ _ (by omega),if_pos rfl]
   show (wo (d:Int) (ofP x (v:Int)).Stops).count (d:Int)+1=1
   rw[List.count_eq_zero.2 (Qmm _ _)]
  ·rw[if_neg hi,if_neg (by omega)]
   exact List.count_eq_zero.2 (Qmm _ _)
 refine ⟨⟨h.ok,h.chk,fun t ht=> ?_,List.Pairwise.imp (fun h=>by omega) hasc,fun e he=>(Qic.1 he).1,fun e he=> ?_⟩,hasc⟩
 ·obtain ⟨h1,h2⟩:=List.mem_filter.1 ht;obtain ⟨i,_,rfl⟩:=List.mem_map.1 h1;unfold stB at h2 ⊢
  by_cases hi:(i:Int)=(v:Int)
  ·rw[if_pos hi];exact hy.ok
  ·rw[if_neg hi] at h2 ⊢
   rcases Qhp x (i:Int) with ⟨h3,h4⟩ | h3
   ·have:=h.less (d:=(d:Int)) (by omega) (by omega) h3
    rw[h4] at this
    exact this
   ·rw[h3] at h2
    simp[Qbv,wo] at h2
 ·show tn (Qd3 p x d v y.tour).Tours e+cn (Qhd p x d) e=1
  rw[hcnt]
  by_cases hed:e=d
  ·subst hed;have e1:((List.range p.Vehicles.length).map fun i:Nat=>cn (stB x e v y.tour i).Stops e)=(List.range p.Vehicles.length).map fun i=>if v=i then 1 else (fun _=>0) i:=List.map_congr_left fun i _=>hcD i
   rw[e1,QmW 1 (fun _=>0) hvv rfl,Qlc]
   have:cn (Qhd p x e) e=0:=by
    unfold cn
    rw[List.count_eq_zero]
    exact fun hm=>(Qic.1 hm).2.1 rfl
   omega
  ·have e1:((List.range p.Vehicles.length).map fun i:Nat=>cn (stB x d v y.tour i).Stops e)=(List.range p.Vehicles.length).map fun i:Nat=>cn (ofP x (i:Int)).Stops e:=List.map_congr_left fun i _=>hcE e i hed
   rw[e1,h.sum]
   have h1:=h.one e he;have h2:cn (Qhd p x d) e=cn x.Left e:=by
    unfold cn
    rw[←(h.left_perm d).count_eq,QiG _ (by omega)]
   rw[h2];exact h1
end Go.Proofs.YthpgjbbjpfiniaaGreat
