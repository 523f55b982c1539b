/- DispatchMoves: for every input the given law returns true, and its arguments read as before. No condition. -/
import Derived.Test.YthpgjbbjpfiniaaGreatc2x13
import Derived.Test.YthpgjbbjpfiniaaGreatc2x1
import Derived.ProofKit
import Derived.Below
import Derived.ChangeSame
import Derived.Carry
import Derived.WideKeyArgs
import Derived.Test.YthpgjbbjpfiniaaGreatc2x2
import Derived.Deep.Slices
import Derived.Deep.Fields
import Derived.OpenShut
import Derived.Test.YthpgjbbjpfiniaaGreatRows
import Derived.Test.YthpgjbbjpfiniaaGreatc2x10
namespace Go.Proofs.YthpgjbbjpfiniaaGreat
open Go.RowKit
set_option linter.unusedSimpArgs false
set_option linter.unusedVariables false
theorem Qkw {p:Pr} (hp:OkP p) {ts:List To} (h:ts.length≤30):0≤Zi p ts∧Zi p ts<1000000000000:=by
 have:=QgY (f:=fun t=>(YJ p t).1) (B:=262400000) (l:=ts) (fun t _=>QgN hp t);unfold Zi
 omega
def JQ (p:Pr) (y:Pl):Ra:=⟨y,Zi p y.Tours⟩
structure Qln (p:Pr) (z:Ra):Prop where
 eq:z=JQ p z.plan
 fe:Fe p z.plan
 asc:z.plan.Tours.Pairwise fun a b=>a.Vehicle<b.Vehicle
 tl:z.plan.Tours.length≤p.Vehicles.length
 ll:z.plan.Left.length≤p.Demands.length
theorem QmO {p:Pr} (hp:OkP p) {y:Pl} (h:y.Tours.length≤30):QbP (JQ p y):=Qkw hp h
theorem Qln.cost {p:Pr} {z:Ra} (h:Qln p z) (hv:p.Vehicles.length≤30):QbP z:=by
 rw[h.eq]
 exact QmO h.fe.ok (Nat.le_trans h.tl hv)
def mvs (F:Nat) (p:Pr) (x:Pl) (d v:Nat):Option Ra:=(mvR F p x d v).bind fun y=>if JO (JQ p y)<JO (JQ p x) then some (JQ p y) else none
def QcZ (F:Nat) (p:Pr) (x:Pl) (d:Nat):Nat→List Ra
 | 0=>[]
 | n+1=>QcZ F p x d n++(mvs F p x d n).toList
def Qas (F:Nat) (p:Pr) (x:Pl):Nat→List Ra
 | 0=>[]
 | m+1=>Qas F p x m++QcZ F p x m p.Vehicles.length
theorem Qf9 (F:Nat) (p:Pr) (x:Pl) (d:Nat): ∀n,(QcZ F p x d n).length≤n
 | 0=>Nat.le_refl _
 | n+1=>by
  have:=Qf9 F p x d n
  simp only[QcZ,List.length_append]
  cases mvs F p x d n<;>simp<;>omega
theorem Qec (F:Nat) (p:Pr) (x:Pl): ∀m,(Qas F p x m).length≤m*p.Vehicles.length
 | 0=>by simp[Qas]
 | m+1=>by
  have h1:=Qec F p x m;have h2:=Qf9 F p x m p.Vehicles.length
  simp only[Qas,List.length_append,Nat.succ_mul]
  omega
theorem Qis {F:Nat} {p:Pr} {x:Pl} {d:Nat} {z:Ra}: ∀{n:Nat},z∈QcZ F p x d n→ ∃v,v<n∧mvs F p x d v=some z
 | 0,h=>by cases h
 | n+1,h=>by
  rcases List.mem_append.1 h with h | h
  ·obtain ⟨v,h1,h2⟩:=Qis h;exact ⟨v,by omega,h2⟩
  ·refine ⟨n,by omega,?_⟩;cases hm:mvs F p x d n with
   | none=>rw[hm] at h;simp at h
   | some y=>rw[hm] at h;simp at h;rw[h]
theorem Qhy {F:Nat} {p:Pr} {x:Pl} {z:Ra}: ∀{m:Nat},z∈Qas F p x m→ ∃d v,d<m∧v<p.Vehicles.length∧mvs F p x d v=some z
 | 0,h=>by cases h
 | m+1,h=>by
  rcases List.mem_append.1 h with h | h
  ·obtain ⟨d,v,h1,h2⟩:=Qhy h;exact ⟨d,v,by omega,h2⟩
  ·obtain ⟨v,h1,h2⟩:=Qis h;exact ⟨m,v,by omega,h1,h2⟩
structure Cx (F:Nat) (p:Pr) (x:Pl):Prop where
 hF:40000≤F
 hn:p.Road.Edges.length≤600
 hv:p.Vehicles.length≤30
 fe:Fe p x
 tl:x.Tours.length≤30
 ll:x.Left.length≤100
theorem Qnp (p:Pr) (x:Pl) (d v:Int) (b:To):(Qd3 p x d v b).Tours.length≤p.Vehicles.length∧(Qd3 p x d v b).Left.length≤p.Demands.length :=
 ⟨Nat.le_trans (List.length_filter_le _ _) (by simp),Nat.le_trans (List.length_filter_le _ _) (by simp)⟩
theorem QlV (L:List Ra) (hl:L.length≤10000):iter (Wl L) (((L.length:Nat):Int).toNat+1) ([],0)=some (L.map Qb.plan):=by
 have:=Y2 (body:=Wl L) L (fun k=>(L.take k).map Qb.plan) (fun m k=>(m,k)) (fun _ _=>none) (L.map Qb.plan) (by omega) (fun k y hk _=> ?_) (fun _=>by simp[Wl,oun]) (((L.length:Nat):Int).toNat+1) (by simp)
 ·rw[QW _ _ (fun _ _ _=>rfl)] at this
  simpa using this
 ·have h0:=Qv hk;have h1:((k:Int)<((L.length:Nat):Int)):=by omega
  simp only[Wl,oun,h1,decide_true,cond_true,Qt,hk,Option.bind_some]
  rw[Ym (by simp;omega),YO hk]
  simp[Jj]
section
variable {F:Nat} {p:Pr} {x:Pl} (h:Cx F p x)
include h
theorem Cx.move {d v:Nat} (hd:d<p.Demands.length) (hv:v<p.Vehicles.length):VR F p x d v=some (QjK (mvR F p x d v))∧JK F p x d v=some (QjK (mvR F p x d v))∧ ∀y,mvR F p x d v=some y→Qln p (JQ p y)∧Y9 F p y=some (Zi p y.Tours,0)∧Q9 p y=some (Zi p y.Tours,0):=by
 have htl:=h.tl;have hll:=h.ll;have hvl:=h.hv;obtain ⟨m1,m2,m3⟩:=Qnq h.hF h.hn h.fe (by omega) (by omega) (by omega) hd hv;refine ⟨m1,m2,fun y hy=> ?_⟩;unfold mvR at hy;cases hb:bsO F p x d v with
 | none=>rw[hb] at hy;cases hy
 | some o =>
  rw[hb] at hy
  injection hy with hy
  have hy:Qd3 p x d v o.tour=y:=hy;obtain ⟨q1,q2⟩:=Qpo h.fe hd hv (m3 o hb).1
  rw[hy] at q1 q2
  have ⟨l1,l2⟩:=Qnp p x d v o.tour
  rw[hy] at l1 l2
  have hdl:=h.fe.ok.dl;have hpl:=QmN h.hF h.hn h.fe.ok h.fe.chk y (by omega) (by omega) q2 q1.drv q1.lft q1.one;refine ⟨⟨rfl,q1,q2,l1,l2⟩,hpl,?_⟩;obtain ⟨s,e,a1,a2,a3,_⟩:=Qdi h.hF h.hn y (by omega) (by omega)
  rw[hpl] at a1
  injection a1 with a1
  rw[a3,←a1]
theorem Cx.mvs_ok {d v:Nat} (hd:d<p.Demands.length) (hv:v<p.Vehicles.length) {z:Ra} (hz:mvs F p x d v=some z):Qln p z∧JO z<JO (JQ p x):=by
 obtain ⟨_,_,m3⟩:=h.move hd hv;unfold mvs at hz;cases hm:mvR F p x d v with
 | none=>rw[hm] at hz;cases hz
 | some y =>
  rw[hm] at hz
  simp only[Option.bind_some] at hz
  split at hz
  ·injection hz with hz
   subst hz;exact ⟨(m3 y hm).1,by assumption⟩
  ·cases hz
theorem Cx.all_ok {z:Ra} (hz:z∈Qas F p x p.Demands.length):Qln p z∧JO z<JO (JQ p x):=by
 obtain ⟨d,v,h1,h2,h3⟩:=Qhy hz;exact h.mvs_ok h1 h2 h3
theorem Cx.part_ok {d n:Nat} (hd:d<p.Demands.length) (hn:n≤p.Vehicles.length) {z:Ra} (hz:z∈Qas F p x d++QcZ F p x d n):Qln p z:=by
 rcases List.mem_append.1 hz with hz | hz
 ·obtain ⟨d',v,h1,h2,h3⟩:=Qhy hz;exact (h.mvs_ok (by omega) h2 h3).1
 ·obtain ⟨v,h1,h2⟩:=Qis hz;exact (h.mvs_ok hd (by omega) h2).1
theorem Cx.part_len {d n:Nat} (hd:d<p.Demands.length) (hn:n≤p.Vehicles.length):(Qas F p x d++QcZ F p x d n).length≤990:=by
 have h1:=Qec F p x d;have h2:=Qf9 F p x d n;have h3:=h.fe.ok.dl;have h4:=h.hv;have:d*p.Vehicles.length≤31*30:=Nat.mul_le_mul (by omega) h4
 simp only[List.length_append]
 omega
theorem Cx.xOk:QbP (JQ p x):=QmO h.fe.ok h.tl
theorem Cx.y_pro {y:Pl} (hy:Qln p (JQ p y)) (hpl:Y9 F p y=some (Zi p y.Tours,0)) {q:List Ra} (hq:q.length≤1000) :
  Vv F p x (Zi p x.Tours) q y=some (q++(if JO (JQ p y)<JO (JQ p x) then some (JQ p y) else none).toList):=by
 unfold Vv QaN
 rw[hpl]
 obtain ⟨z,hz,hzz⟩:=QhI (hy.cost h.hv) h.xOk;have hz':Q6 (Qb.mk y (Zi p y.Tours)) (Qb.mk x (Zi p x.Tours))=some z:=hz
 simp only[Option.bind_some,oun,decide_true,cond_true,hz']
 by_cases hlt:JO (JQ p y)<JO (JQ p x)
 ·rw[if_pos hlt,decide_eq_true (hzz.2 hlt)]
  simp only[cond_true]
  rw[Ym (by simp;omega)]
  rfl
 ·rw[if_neg hlt,decide_eq_false (fun hh=>hlt (hzz.1 hh))]
  simp
theorem Cx.row_pro {d:Nat} (hd:d<p.Demands.length) {q:List Ra} (hq:q.length≤960) :
  iter (ZE F p x (Zi p x.Tours) p x d) (((p.Vehicles.length:Nat):Int).toNat+1) (0,q)=some (q++QcZ F p x d p.Vehicles.length):=by
 have hvl:=h.hv;have:=Y2 (body:=ZE F p x (Zi p x.Tours) p x d) p.Vehicles (fun k=>q++QcZ F p x d k) (fun m k=>(k,m)) (fun _ _=>none) (q++QcZ F p x d p.Vehicles.length) (by omega) (fun k y hk _=> ?_) (fun _=>by simp[ZE,oun]) (((p.Vehicles.length:Nat):Int).toNat+1) (by simp)
 ·rw[QW _ _ (fun _ _ _=>rfl)] at this
  simpa [QcZ] using this
 ·have h0:=Qv hk;have h1:((k:Int)<((p.Vehicles.length:Nat):Int)):=by omega
  obtain ⟨m1,_,m3⟩:=h.move hd h0;have hrl:=Qf9 F p x d k
  simp only[ZE,oun,h1,decide_true,cond_true,m1,Option.bind_some]
  cases hm:mvR F p x d k with
  | none=>simp[QjK,Jj,QcZ,mvs,hm]
  | some y =>
   obtain ⟨a1,a2,_⟩:=m3 y hm
   simp only[QjK,cond_true]
   rw[h.y_pro a1 a2 (by simp;omega)]
   simp[Jj,QcZ,mvs,hm]
theorem Cx.all_pro:We F p x (Zi p x.Tours) [] p x=some (Qas F p x p.Demands.length):=by
 have hdl:=h.fe.ok.dl;unfold We;have:=Y2 (body:=Jh F p x (Zi p x.Tours) p x) p.Demands (fun k=>Qas F p x k) (fun m k=>(k,m)) (fun _ _=>none) (Qas F p x p.Demands.length) (by omega) (fun k y hk _=> ?_) (fun _=>by simp[Jh,oun]) (((p.Demands.length:Nat):Int).toNat+1) (by simp)
 ·rw[QW _ _ (fun _ _ _=>rfl)] at this
  have e:(Qas F p x 0)=[]:=rfl
  rw[e] at this
  rw[this];rfl
 ·have h0:=Qv hk;have h1:((k:Int)<((p.Demands.length:Nat):Int)):=by omega
  have hl:=Qec F p x k;have hvl:=h.hv;have:k*p.Vehicles.length≤31*30:=Nat.mul_le_mul (by omega) hvl
  simp only[Jh,oun,h1,decide_true,cond_true]
  rw[h.row_pro h0 (by omega)]
  simp[Jj,Qas]
theorem Cx.total:Y9 F p x=some (Zi p x.Tours,0)∧QL p x=some 0∧Q9 p x=some (Zi p x.Tours,0):=by
 obtain ⟨s,e,a1,a2,a3,a4⟩:=Qdi h.hF h.hn x h.tl h.ll;have hbad: ∀(k:Nat) (t:To),x.Tours[k]? =some t→Qc5 p x.Tours k t=none:=fun k t hk=>by
  obtain ⟨u,hu⟩:=Qc9 (h.fe.drv t (List.mem_of_getElem? hk));have hany:(x.Tours.take k).any (fun u=>decide (u.Vehicle=t.Vehicle))=false:=by
   rw[List.any_eq_false]
   intro y hy he;obtain ⟨j,hj⟩:=List.getElem?_of_mem hy;have hjk:=Qv hj;have hkl:=Qv hk
   rw[Yn (Nat.le_of_lt hkl)] at hjk
   rw[List.getElem?_take,if_pos hjk] at hj
   have:=List.pairwise_iff_getElem.1 h.fe.dis j k (by omega) hkl hjk
   rw[List.getElem?_eq_getElem (by omega)] at hj hk
   injection hj with hj
   injection hk with hk
   rw[hj,hk,of_decide_eq_true he] at this
   exact this rfl
  unfold Qc5
  rw[hany,hu]
  rfl
 have he:e=0:=by
  have hp:=h.fe.ok;have hdl:=hp.dl;have htl:=h.tl;have hll:=h.ll;have hall: ∀t∈x.Tours,(∀s∈t.Stops,okS p.Demands.length s)∧t.Stops.length≤40:=fun t htm=>by
   obtain ⟨u,hu⟩:=Qc9 (h.fe.drv t htm);exact (VG hp hu).2.2
  have q1:=QeX h.hF hp x h.tl
  rw[QW _ _ (fun i t hi=>by rw[Nat.zero_add,hbad i t hi];rfl)] at q1
  have q3:=(Qdf (n:=p.Demands.length) x (fun _=>0) (by omega) (fun _=>Nat.zero_le _)).1;have q4:=(Qcw (n:=p.Demands.length) x (fun d=>0+cn x.Left d) (by omega) (fun d=>by have:=Qi1 x.Left d;omega) (fun t htm=>by have:=(hall t htm).2;omega) (fun t htm=>(hall t htm).1)).1;have hbl:Qfj p.Demands.length x.Left=false:=by
   unfold Qfj
   rw[List.any_eq_false]
   intro e he;have:=h.fe.lft e he
   simp;omega
  have hv:(vec p.Demands.length fun d=>0+cn x.Left d+tn x.Tours d)=vec p.Demands.length fun _=>1:=Qca fun d hd=>by have:=h.fe.one d hd;omega
  rw[hv] at q4
  rw[hbl] at q3
  have hmem: ∀c∈vec p.Demands.length (fun _=>1),c=(1:Int):=fun c hc=>by
   unfold vec at hc;obtain ⟨j,_,rfl⟩:=List.mem_map.1 hc
   rfl
  have b1:(vec p.Demands.length (fun _=>1)).any (fun c=>decide (1<c))=false:=by
   rw[List.any_eq_false];intro c hc;rw[hmem c hc];decide
  have b2:(vec p.Demands.length (fun _=>1)).any (fun c=>decide (c=0))=false:=by
   rw[List.any_eq_false];intro c hc;rw[hmem c hc];decide
  have hF:=h.hF;unfold Y9 at a1
  rw[ZO (by omega) _ h.hn,h.fe.chk] at a1
  simp only[Option.bind_some,decide_true,Bool.not_true,cond_false] at a1
  rw[q1] at a1
  simp only[Option.bind_some,QI] at a1
  rw[Qet _ (by omega)] at a1
  simp only[Option.bind_some] at a1
  rw[q3] at a1
  simp only[cond_false,Option.bind_some,QI] at a1
  rw[q4] at a1
  simp only[Option.bind_some] at a1
  rw[Qhn _ (by rw[VL];omega),Qhr _ (by rw[VL];omega),b1,b2] at a1
  simp only[Option.bind_some,cond_false,Option.some.injEq,Prod.mk.injEq] at a1
  exact a1.2.symm
 subst he;have:=(a4 rfl).1;subst this;exact ⟨a1,a2,a3⟩
theorem Cx.pro: ∃L,Zj F p x=some (L.map Qb.plan,0)∧Srt JO L∧YL JO (Qas F p x p.Demands.length) L:=by
 have hdl:=h.fe.ok.dl;have hvl:=h.hv;have hl:=Qec F p x p.Demands.length;have h9:p.Demands.length*p.Vehicles.length≤32*30:=Nat.mul_le_mul (by omega) hvl;obtain ⟨L,s1,s2,s3⟩:=QlX (F:=F) (L:=Qas F p x p.Demands.length) (by omega) h.hF (fun z hz=>(h.all_ok hz).1.cost hvl);have hl2:=s3.perm.length_eq;refine ⟨L,?_,s2,s3⟩;unfold Zj QaN
 rw[h.total.1]
 simp only[Option.bind_some,oun,decide_true,Bool.not_true,cond_false]
 rw[h.all_pro]
 simp only[Option.bind_some]
 rw[s1]
 simp only[Option.bind_some]
 rw[QlV L (by omega)]
 rfl
end
end Go.Proofs.YthpgjbbjpfiniaaGreat
namespace Go.Proofs.YthpgjbbjpfiniaaGreat
open Go.RowKit
set_option linter.unusedSimpArgs false
set_option linter.unusedVariables false
abbrev rpl:Ra→Pl:=Qb.plan
abbrev rco:Ra→Int:=Qb.cost
theorem Qm0 (a b c d:Int):YS a b c d=some (decide (a<c)||(decide (a=c)&&decide (b<d))):=by
 unfold YS
 by_cases h:a<c
 ·simp[h]
 ·by_cases h2:a=c
  ·subst h2;simp
  ·simp[h,h2]
theorem Qhz {a b:Ra} (ha:QbP a) (hb:QbP b):YS ((a.plan.Left.length:Nat):Int) a.cost ((b.plan.Left.length:Nat):Int) b.cost=some (decide (JO a<JO b)):=by
 rw[Qm0]
 congr 1
 unfold JO;obtain ⟨a0,a1⟩:=ha;obtain ⟨b0,b1⟩:=hb
 rw[Bool.eq_iff_iff]
 simp only[Bool.or_eq_true,Bool.and_eq_true,decide_eq_true_eq]
 omega
theorem Qoz {c:Ra} (hc:QbP c): ∀(n:Nat) (Z R:List Ra) (f:Nat),Z.length=n→n<f→n≤100000→Srt JO Z→(∀z∈Z,QbP z) →
  ∃Z1 Z2,Z=Z1++Z2∧iter (YW ((Z++R).map rpl) ((Z++R).map rco) c.plan c.cost) f (n:Int)=some ((Z1.length:Nat):Int)∧(∀z∈Z1,JO z≤JO c)∧ ∀z∈Z2,JO c<JO z
 | _,_,_,0,_,h,_,_,_=>by omega
 | 0,Z,R,f+1,hZ,_,_,_,_=>by
  have:Z=[]:=List.eq_nil_of_length_eq_zero hZ;subst this;exact ⟨[],[],rfl,by simp[iter,YW,QI],by simp,by simp⟩
 | n+1,Z,R,f+1,hZ,hf,hb,hs,ho=>by
  obtain ⟨Y,y,rfl⟩: ∃Y y,Z=Y++[y]:=by
   have:Z≠[]:=by intro e;rw[e] at hZ;simp at hZ
   exact ⟨Z.dropLast,Z.getLast this,(List.dropLast_concat_getLast this).symm⟩
  have hY:Y.length=n:=by simpa using hZ
  have h0:(0:Int)<((n+1:Nat):Int):=by omega
  have e1:w64 (((n+1:Nat):Int)-1)=(n:Int):=by rw[Yj (by omega) (by omega)];omega
  have g0:(Y++[y]++R)[n]? =some y:=by
   rw[List.append_assoc,List.getElem?_append_right (by omega),hY]
   simp
  have g1:((Y++[y]++R).map rpl)[n]? =some y.plan:=by rw[List.getElem?_map,g0];rfl
  have g2:((Y++[y]++R).map rco)[n]? =some y.cost:=by rw[List.getElem?_map,g0];rfl
  have hp:=List.pairwise_append.1 hs;have hk:=Qhz hc (ho y (by simp))
  by_cases h:JO c<JO y
  ·obtain ⟨Z1,Z2,k1,k2,k3,k4⟩:=Qoz hc n Y (y::R) f hY (by omega) (by omega) hp.1 (fun z hz=>ho z (by simp[hz]));refine ⟨Z1,Z2++[y],by rw[k1];simp,?_,k3,fun z hz=> ?_⟩
   ·have e2:Y++[y]++R=Y++y::R:=by simp
    rw[e2] at g1 g2 ⊢
    simp only[iter,YW,h0,decide_true,cond_true,e1,Qt,g1,g2,Option.bind_some,hk,h,QI,k2]
   ·rcases List.mem_append.1 hz with hz | hz
    ·exact k4 z hz
    ·rw[List.mem_singleton.1 hz];exact h
  ·refine ⟨Y++[y],[],by simp,?_,fun z hz=> ?_,by simp⟩
   ·simp only[iter,YW,h0,decide_true,cond_true,e1,Qt,g1,g2,Option.bind_some,hk,h,decide_false,cond_false,QI]
    rw[hZ]
   ·rcases List.mem_append.1 hz with hz | hz
    ·have:=hp.2.2 z hz y (by simp)
     omega
    ·rw[List.mem_singleton.1 hz];omega
theorem Qop {α β γ:Type} (f:α→β) (g:α→γ) (Z1 Z2:List α) (x:α) (hl:(Z1++Z2).length≤100000):(Option.bind (WO ((Z1++Z2).map g) 0 ((Z1.length:Nat):Int)) fun l1 =>
      Option.bind (Z7 [] l1) fun l2 =>
      Option.bind (Z7 l2 [g x]) fun l3 =>
      Option.bind (WO ((Z1++Z2).map g) ((Z1.length:Nat):Int) ((((Z1++Z2).map g).length:Nat):Int)) fun l4 =>
      Option.bind (Z7 l3 l4) fun l5 =>
      Option.bind (WO ((Z1++Z2).map f) 0 ((Z1.length:Nat):Int)) fun l6 =>
      Option.bind (Z7 [] l6) fun l7 =>
      Option.bind (Z7 l7 [f x]) fun l8 =>
      Option.bind (WO ((Z1++Z2).map f) ((Z1.length:Nat):Int) ((((Z1++Z2).map f).length:Nat):Int)) fun l9 =>
      Option.bind (Z7 l8 l9) fun l10 =>
      some (l5,l10))=some ((Z1++x::Z2).map g,(Z1++x::Z2).map f):=by
 simp only[List.length_append] at hl
 rw[VT (by simp),QbA (by simp),VT (by simp),QbA (by simp)]
 simp only[Option.bind_some]
 rw[Ym (by simp;omega)]
 simp only[Option.bind_some]
 rw[Ym (by simp;omega)]
 simp only[Option.bind_some]
 rw[Ym (by simp;omega)]
 simp only[Option.bind_some]
 rw[Ym (by simp;omega)]
 simp only[Option.bind_some]
 rw[Ym (by simp;omega)]
 simp only[Option.bind_some]
 rw[Ym (by simp;omega)]
 simp[List.map_append]
section
variable {F:Nat} {p:Pr} {x:Pl} (h:Cx F p x)
include h
theorem Cx.empty_total: ∃s e,Q9 p ⟨[],[]⟩=some (s,e):=by
 obtain ⟨s,e,_,_,a3,_⟩:=Qdi h.hF h.hn ⟨[],[]⟩ (by simp) (by simp);exact ⟨s,e,a3⟩
theorem Cx.row_ref {d:Nat} (hd:d<p.Demands.length): ∀(r v:Nat) (L:List Ra) (f:Nat),v+r=p.Vehicles.length→r<f→Srt JO L→YL JO (Qas F p x d++QcZ F p x d v) L →
  ∃L',iter (YE F p x (Zi p x.Tours) d) f (L.map rpl,L.map rco,(v:Int))=some (L'.map rpl,L'.map rco)∧Srt JO L'∧YL JO (Qas F p x d++QcZ F p x d p.Vehicles.length) L'
 | _,_,_,0,_,hf,_,_=>by omega
 | 0,v,L,f+1,hv,_,h1,h2=>by
  have hv:v=p.Vehicles.length:=by omega
  subst hv;refine ⟨L,?_,h1,h2⟩
  simp only[iter,YE,oun,Int.lt_irrefl,decide_false,cond_false,Option.bind_some,QI]
 | r+1,v,L,f+1,hv,hf,h1,h2=>by
  have hvv:v<p.Vehicles.length:=by omega
  have hvl:=h.hv;have hlt:((v:Int)<((p.Vehicles.length:Nat):Int)):=by omega
  have e2:w64 ((v:Int)+1)=((v+1:Nat):Int):=by rw[Yj (by omega) (by omega)];omega
  obtain ⟨_,m2,m3⟩:=h.move hd hvv;have hlen:L.length≤990:=by
   rw[←h2.perm.length_eq]
   exact h.part_len hd (by omega)
  have hok: ∀z∈L,QbP z:=fun z hz=>(h.part_ok hd (show v≤p.Vehicles.length by omega) (h2.perm.symm.subset hz)).cost hvl;have keep:mvs F p x d v=none→YL JO (Qas F p x d++QcZ F p x d (v+1)) L:=fun hm=>by
   simp only[QcZ,hm,Option.toList_none,List.append_nil]
   exact h2
  cases hm:mvR F p x d v with
  | none =>
   obtain ⟨s,e,ht⟩:=h.empty_total;obtain ⟨L',q1,q2,q3⟩:=Cx.row_ref hd r (v+1) L f (by omega) (by omega) h1 (keep (by unfold mvs;rw[hm];rfl));refine ⟨L',?_,q2,q3⟩
   rw[hm] at m2
   simp only[iter,YE,oun,hlt,decide_true,cond_true,m2,QjK,Option.bind_some,ht,Bool.not_false,e2,QI,q1]
  | some y =>
   obtain ⟨a1,a2,a3⟩:=m3 y hm
   rw[hm] at m2
   have hyc:=a1.cost hvl;have hb:YS ((y.Left.length:Nat):Int) (Zi p y.Tours) ((x.Left.length:Nat):Int) (Zi p x.Tours)=some (decide (JO (JQ p y)<JO (JQ p x))):=Qhz hyc h.xOk
   by_cases hlt2:JO (JQ p y)<JO (JQ p x)
   ·have hms:mvs F p x d v=some (JQ p y):=by unfold mvs;rw[hm];simp only[Option.bind_some];rw[if_pos hlt2]
    have hF:=h.hF;obtain ⟨Z1,Z2,k1,k2,k3,k4⟩:=Qoz (c:=JQ p y) hyc L.length L [] F rfl (by omega) (by omega) h1 hok
    rw[List.append_nil] at k2
    obtain ⟨j1,j2⟩:=QfY (k:=JO) (x:=JQ p y) (by rw[←k1];exact h1) k4 k3
    rw[←k1] at j2
    have h3:YL JO (Qas F p x d++QcZ F p x d (v+1)) (Z1++JQ p y::Z2):=by
     simp only[QcZ,hms,Option.toList_some]
     rw[←List.append_assoc]
     exact YL.trans (h2.append (YL.refl _)) j2
    obtain ⟨L',q1,q2,q3⟩:=Cx.row_ref hd r (v+1) (Z1++JQ p y::Z2) f (by omega) (by omega) j1 h3;refine ⟨L',?_,q2,q3⟩;have hmi:=Qop rco rpl Z1 Z2 (JQ p y) (by rw[←k1];omega)
    rw[←k1] at hmi
    have hmi':=hmi
    rw[List.length_map,List.length_map] at hmi'
    have k2':iter (YW (L.map rpl) (L.map rco) y (Zi p y.Tours)) F ((L.length:Nat):Int)=some ((Z1.length:Nat):Int):=k2
    simp only[iter,YE,oun,hlt,decide_true,cond_true,m2,QjK,Option.bind_some,a3,Bool.not_true,cond_false,hb,hlt2,List.length_map,k2']
    have hmi2:_=_:=hmi'
    rw[show rpl (JQ p y)=y from rfl,show rco (JQ p y)=Zi p y.Tours from rfl] at hmi2
    rw[hmi2]
    simp only[Option.bind_some,e2,QI,q1]
   ·have hms:mvs F p x d v=none:=by unfold mvs;rw[hm];simp only[Option.bind_some];rw[if_neg hlt2]
    obtain ⟨L',q1,q2,q3⟩:=Cx.row_ref hd r (v+1) L f (by omega) (by omega) h1 (keep hms);refine ⟨L',?_,q2,q3⟩
    simp only[iter,YE,oun,hlt,decide_true,cond_true,m2,QjK,Option.bind_some,a3,Bool.not_true,cond_false,hb,hlt2,decide_false,Bool.not_false,e2,QI,q1]
theorem Cx.all_ref: ∀(r d:Nat) (L:List Ra) (f:Nat),d+r=p.Demands.length→r<f→Srt JO L→YL JO (Qas F p x d) L →
  ∃L',iter (YX F p x (Zi p x.Tours)) f (L.map rpl,L.map rco,(d:Int))=some (L'.map rpl)∧Srt JO L'∧YL JO (Qas F p x p.Demands.length) L'
 | _,_,_,0,_,hf,_,_=>by omega
 | 0,d,L,f+1,hd,_,h1,h2=>by
  have hd:d=p.Demands.length:=by omega
  subst hd;refine ⟨L,?_,h1,h2⟩
  simp only[iter,YX,oun,Int.lt_irrefl,decide_false,cond_false,Option.bind_some,QI]
 | r+1,d,L,f+1,hd,hf,h1,h2=>by
  have hdd:d<p.Demands.length:=by omega
  have hdl:=h.fe.ok.dl;have hlt:((d:Int)<((p.Demands.length:Nat):Int)):=by omega
  have e2:w64 ((d:Int)+1)=((d+1:Nat):Int):=by rw[Yj (by omega) (by omega)];omega
  obtain ⟨M,q1,q2,q3⟩:=h.row_ref hdd p.Vehicles.length 0 L (((p.Vehicles.length:Nat):Int).toNat+1) (by omega) (by simp) h1 (by simpa [QcZ] using h2);obtain ⟨L',g1,g2,g3⟩:=Cx.all_ref r (d+1) M f (by omega) (by omega) q2 q3;refine ⟨L',?_,g2,g3⟩;have q1':iter (YE F p x (Zi p x.Tours) d) (((p.Vehicles.length:Nat):Int).toNat+1) (L.map rpl,L.map rco,0)=some (M.map rpl,M.map rco):=q1;have hb:YX F p x (Zi p x.Tours) (L.map rpl,L.map rco,(d:Int))=some (.inl (M.map rpl,M.map rco,((d+1:Nat):Int))):=by
   unfold YX
   simp only[oun,hlt,decide_true,cond_true]
   rw[q1']
   simp only[Option.bind_some,e2]
  simp only[iter,hb,Option.bind_some,QI,g1]
theorem Cx.both: ∃L,Zj F p x=some (L.map rpl,0)∧ZM F p x=some (L.map rpl,0)∧Srt JO L∧YL JO (Qas F p x p.Demands.length) L:=by
 obtain ⟨L,h1,h2,h3⟩:=h.pro;obtain ⟨L',g1,g2,g3⟩:=h.all_ref p.Demands.length 0 [] (((p.Demands.length:Nat):Int).toNat+1) (by omega) (by simp) List.Pairwise.nil (YL.refl _);have:L=L':=Srt.unique h2 g2 (h3.symm.trans g3);subst this;refine ⟨L,h1,?_,h2,h3⟩;unfold ZM
 rw[h.total.2.1,h.total.2.2]
 simp only[Option.bind_some,oun,decide_true,Bool.not_true,cond_false]
 have g1':iter (YX F p x (Zi p x.Tours)) (((p.Demands.length:Nat):Int).toNat+1) ([],[],0)=some (L.map rpl):=g1
 rw[g1']
 rfl
end
theorem QlO {F:Nat} (hF:40000≤F) {p:Pr} (hn:p.Road.Edges.length≤600) (hv:p.Vehicles.length≤30) (x:Pl) (hx:x.Tours.length≤30) (hl:x.Left.length≤100) :
  ∃L e s,Zj F p x=some (L.map rpl,e)∧ZM F p x=some (L.map rpl,e)∧Y9 F p x=some (s,e)∧QL p x=some e∧((e≠0∧L=[])∨(e=0∧s=Zi p x.Tours∧Cx F p x∧Srt JO L∧YL JO (Qas F p x p.Demands.length) L)):=by
 obtain ⟨s,e,a1,a2,a3,a4⟩:=Qdi hF hn x hx hl
 by_cases he:e=0
 ·obtain ⟨b1,b2⟩:=a4 he;subst he;have hc:Cx F p x:=⟨hF,hn,hv,b2,hx,hl⟩
  obtain ⟨L,h1,h2,h3,h4⟩:=hc.both;exact ⟨L,0,s,h1,h2,a1,a2,.inr ⟨rfl,b1,hc,h3,h4⟩⟩
 ·refine ⟨[],e,s,?_,?_,a1,a2,.inl ⟨he,rfl⟩⟩
  ·unfold Zj QaN
   rw[a1]
   simp[he,oun]
  ·unfold ZM
   rw[a2]
   simp[he]
end Go.Proofs.YthpgjbbjpfiniaaGreat
namespace Go.Proofs.YthpgjbbjpfiniaaGreat
open Go.RowKit
set_option linter.unusedSimpArgs false
set_option linter.unusedVariables false
theorem Cx.next {F:Nat} {p:Pr} {x:Pl} (h:Cx F p x) {z:Ra} (hz:z∈Qas F p x p.Demands.length):Cx F p z.plan∧z=JQ p z.plan∧JO z<JO (JQ p x):=by
 obtain ⟨h1,h2⟩:=h.all_ok hz;have h3:=h1.tl;have h4:=h1.ll;have h5:=h.hv;have h6:=h.fe.ok.dl;exact ⟨⟨h.hF,h.hn,h.hv,h1.fe,by omega,by omega⟩,h1.eq,h2⟩
theorem QoB {F:Nat} (hF:40000≤F) {p:Pr} (hn:p.Road.Edges.length≤600) (hv:p.Vehicles.length≤30) (hp:OkP p) (hc:Qo p=some 0):Cx F p (QbW F p):=by
 have h1:=QoC hF hn hv hp hc;have hi:=QeZ hF hp hn p.Demands.length;have hl1:=Qe2 (QcE F p p.Demands.length).1;have hl2:=hi.len;have hl3:=hi.ll;have hdl:=hp.dl;have ht:(QbW F p).Tours.length≤30:=by show (Qbn (QcE F p p.Demands.length).1).length≤30;omega
 have hl:(QbW F p).Left.length≤100:=by show ((QcE F p p.Demands.length).2).length≤100;omega
 obtain ⟨s,e,a1,_,_,a4⟩:=Qdi hF hn (QbW F p) ht hl
 rw[h1] at a1
 injection a1 with a1
 injection a1 with a2 a3
 exact ⟨hF,hn,hv,(a4 a3.symm).2,ht,hl⟩
theorem Qeb (x:Pl) (h1:x.Tours.length≤1000000) (h2: ∀t∈x.Tours,t.Stops.length≤1000000) (h3:x.Left.length≤1000000):Yh x x=some true:=by
 unfold Yh
 rw[Qlr _ h1 h2,QiX _ h3]
 rfl
theorem Cx.same {F:Nat} {p:Pr} {x:Pl} (h:Cx F p x):Yh x x=some true:=by
 have h1:=h.tl;have h2:=h.ll;exact Qeb x (by omega) (fun t ht=>by have:=(h.fe.tour ht).2.2.1;omega) (by omega)
theorem QjA (p:Pr) (x:Pl):(∃b,Y3 p x=some b)∧(Y3 p x=some false→p.Road.Edges.length≤100∧p.Vehicles.length≤4∧p.Demands.length≤8∧x.Tours.length≤8∧x.Left.length≤100):=by
 obtain ⟨⟨b,hb⟩,hl⟩:=Qlm p;obtain ⟨⟨b2,hb2⟩,hl2⟩:=Qht x;unfold Y3
 rw[hb,hb2]
 cases b with
 | true=>exact ⟨⟨true,rfl⟩,fun e=>by cases e⟩
 | false =>
  cases b2 with
  | true=>exact ⟨⟨true,rfl⟩,fun e=>by cases e⟩
  | false =>
   obtain ⟨g2,g3⟩:=hl2 hb2
   simp only[Option.bind_some,cond_false]
   by_cases h1:(100:Int)<((p.Road.Edges.length:Nat):Int)
   ·simp only[h1,decide_true,cond_true,Option.bind_some]
    exact ⟨⟨true,rfl⟩,fun e=>by cases e⟩
   by_cases h2:(4:Int)<((p.Vehicles.length:Nat):Int)
   ·simp only[h1,h2,decide_true,decide_false,cond_true,cond_false,Option.bind_some]
    exact ⟨⟨true,rfl⟩,fun e=>by cases e⟩
   by_cases h3:(8:Int)<((p.Demands.length:Nat):Int)
   ·simp only[h1,h2,h3,decide_true,decide_false,cond_true,cond_false,Option.bind_some]
    exact ⟨⟨true,rfl⟩,fun e=>by cases e⟩
   by_cases h4:(8:Int)<((x.Tours.length:Nat):Int)
   ·simp only[h1,h2,h3,h4,decide_true,decide_false,cond_true,cond_false,Option.bind_some]
    exact ⟨⟨true,rfl⟩,fun e=>by cases e⟩
   simp only[h1,h2,h3,h4,decide_false,cond_false,Option.bind_some]
   obtain ⟨o,ho⟩:=Qbx (body:=Jt x) (N:=x.Tours.length) (by omega) (fun k hk=>by
    obtain ⟨t,ht⟩: ∃t,x.Tours[k]? =some t:=⟨_,List.getElem?_eq_getElem hk⟩
    have hk2:((k:Int)<((x.Tours.length:Nat):Int)):=by omega
    simp only[Jt,hk2,decide_true,cond_true,Qt,ht,Option.bind_some,Wq (show k<9223372036854775807 by omega)]
    cases decide ((16:Int)<((t.Stops.length:Nat):Int)) with
    | true=>exact .inl ⟨_,rfl⟩
    | false=>exact .inr rfl) ⟨_,by simp[Jt];rfl⟩ x.Tours.length 0 (by omega)
   refine ⟨?_,fun _=>by omega⟩
   rw[show (((x.Tours.length:Nat):Int).toNat+1)=x.Tours.length+1 by simp,show (0:Int)=((0:Nat):Int) from rfl,ho]
   cases o with
   | inl u=>exact ⟨false,rfl⟩
   | inr b=>exact ⟨b,rfl⟩
structure Lt (p:Pr) (x:Pl):Prop where
 ed:p.Road.Edges.length≤600
 ve:p.Vehicles.length≤4
 de:p.Demands.length≤8
 to:x.Tours.length≤8
 le:x.Left.length≤100
theorem Qpa (p:Pr) (x:Pl):Y3 p x=some true∨(Y3 p x=some false∧Lt p x):=by
 obtain ⟨⟨b,hb⟩,hl⟩:=QjA p x;cases b with
 | true=>exact .inl hb
 | false =>
  obtain ⟨h1,h2,h3,h4,h5⟩:=hl hb;exact .inr ⟨hb,⟨by omega,h2,h3,h4,h5⟩⟩
end Go.Proofs.YthpgjbbjpfiniaaGreat
namespace Go.Proofs.YthpgjbbjpfiniaaGreat
open Go.RowKit
set_option linter.unusedSimpArgs false
set_option linter.unusedVariables false
abbrev Rn:=QQ
theorem Qiq {body:Int→Option (Int⊕(Unit⊕Bool))} {a b:List Rn} (hl:a.length=b.length) (hn:a.length≤1000000) (hb: ∀k,body k=bif decide (k<((a.length:Nat):Int)) then Option.bind (getI a k) fun x1=>Option.bind (getI b k) fun x2=>bif (!(decide (x1=x2))) then some (.inr (.inr false)) else some (.inl (w64 (k+1))) else some (.inr (.inl ()))): ∀(r k f:Nat),k+r=a.length→r<f→a.take k=b.take k →
  iter body f (k:Int)=some (if a=b then .inl () else .inr false)
 | _,_,0,_,h,_=>by omega
 | 0,k,f+1,hk,_,ht=>by
  have h1: ¬((k:Int)<((a.length:Nat):Int)):=by omega
  have:a=b:=by
   have h2:a.take k=a:=List.take_of_length_le (by omega);have h3:b.take k=b:=List.take_of_length_le (by omega)
   rw[h2,h3] at ht;exact ht
  simp only[iter,hb,h1,decide_false,cond_false,Option.bind_some,QI]
  rw[if_pos this]
 | r+1,k,f+1,hk,hf,ht=>by
  have h1:((k:Int)<((a.length:Nat):Int)):=by omega
  have ga:a[k]? =some a[k]:=List.getElem?_eq_getElem (by omega);have gb:b[k]? =some b[k]:=List.getElem?_eq_getElem (by omega);have e1:w64 ((k:Int)+1)=((k+1:Nat):Int):=by rw[Yj (by omega) (by omega)];omega
  by_cases h:a[k]=b[k]
  ·have ih:=Qiq hl hn hb r (k+1) f (by omega) (by omega) (by rw[YO ga,YO gb,ht,h])
   simp only[iter]
   rw[hb]
   simp only[h1,decide_true,cond_true,Qt,ga,gb,Option.bind_some,h,Bool.not_true,cond_false,QI,e1]
   exact ih
  ·have:a≠b:=by intro e;subst e;exact h rfl
   simp only[iter]
   rw[hb]
   simp only[h1,decide_true,cond_true,Qt,ga,gb,Option.bind_some,h,decide_false,Bool.not_false,cond_true,QI]
   rw[if_neg this]
theorem QoQ {a b:List Rn} (hn:a.length≤1000000):Yi a b=some (decide (a=b))∧QbX a b=some (decide (a=b)):=by
 unfold Yi QbX
 by_cases hl:a.length=b.length
 ·have h1:=Qiq (body:=Wi a b) hl hn (fun k=>rfl) a.length 0 (((a.length:Nat):Int).toNat+1) (by omega) (by simp) (by simp);have h2:=Qiq (body:=Qbl a b) hl hn (fun k=>rfl) a.length 0 (((a.length:Nat):Int).toNat+1) (by omega) (by simp) (by simp);have hl':(((a.length:Nat):Int)=((b.length:Nat):Int)):=by omega
  simp only[hl',decide_true,Bool.not_true,cond_false]
  rw[←hl',show (0:Int)=((0:Nat):Int) from rfl,h1,h2]
  by_cases h:a=b
  ·simp[h,QI]
  ·simp[h,QI]
 ·have hl': ¬(((a.length:Nat):Int)=((b.length:Nat):Int)):=by omega
  have:a≠b:=by intro e;subst e;exact hl rfl
  simp[hl',this]
def Qg1 (p:Pr) (d v:Nat):Int:=(Qdx p ⟨(v:Int),[(d:Int),-1]⟩).2.1
structure Rs (F:Nat) (p:Pr) (x:Pl) (d v:Nat) (r:Int) (ve:Ve) (de:De) (car:Bool) (L:List Op):Prop where
 hv:p.Vehicles[v]? =some ve
 hd:p.Demands[d]? =some de
 hc:Jd ve de.Kind=some car
 ops:Jz F p (ofP x v) d=some (L.map Jw,0)
 bst: ∃e,V8 F p (ofP x v) d=some (hdT L,e)∧(e=0↔L≠[])
 hdO:bsO F p x d v=L.head?
 cb:car=QhF ve de.Kind
 eq:r=bif !car then 21 else bif decide (ve.Grams<de.Grams) then 20 else bif !(decide (Qg1 p d v=0)) then Qg1 p d v else bif decide ((((L.map Jw).length:Nat):Int)=0) then 40 else 0
section
variable {F:Nat} {p:Pr} {x:Pl} (h:Cx F p x)
include h
theorem Cx.not_in {d:Nat} (hd:(d:Int)∈x.Left) (v:Int):(d:Int)∉(ofP x v).Stops:=by
 have h1:=h.fe.lft _ hd;have h2:=h.fe.one d (by omega);have h3:0<cn x.Left d:=List.count_pos_iff.2 hd;rcases Qhp x v with ⟨h4,_⟩ | h4
 ·have h5:=QpQ h4 d;intro hm;have h6:0<cn (ofP x v).Stops d:=List.count_pos_iff.2 hm
  omega
 ·rw[h4];simp
theorem Cx.tO_self {d:Nat} (hd:(d:Int)∈x.Left) (v:Int):tO x (d:Int) v=ofP x v:=by
 unfold tO
 rw[Qgj (fun y hy=>by
  simp only[decide_eq_false_iff_not]
  intro e
  rw[e] at hy
  exact h.not_in hd v hy)]
 have:=QmM x v;cases hq:ofP x v with
 | mk a b=>rw[hq] at this;simp only at this ⊢;rw[this]
theorem Cx.reason {d v:Nat} (hd:(d:Int)∈x.Left) (hv:v<p.Vehicles.length): ∃r ve de car L,Yq F p x d v=some r∧W4 F p x d v=some r∧Rs F p x d v r ve de car L:=by
 have hF:=h.hF;have htl:=h.tl;have hdd:=h.fe.lft _ hd;have hdl:d<p.Demands.length:=by omega
 have g1:p.Vehicles[v]? =some p.Vehicles[v]:=List.getElem?_eq_getElem hv;have g2:p.Demands[d]? =some p.Demands[d]:=List.getElem?_eq_getElem hdl;have hvk:=h.fe.ok.ve _ (List.mem_of_getElem? g1);have hdk:=h.fe.ok.de _ (List.mem_of_getElem? g2);obtain ⟨c1,c2⟩:=Qfg hvk hdk.k0 hdk.k1;have hs:(ofP x (v:Int)).Stops.length≤1000:=by have:=h.fe.of_len v;omega
 obtain ⟨L,e,o1,o2,o3,o4⟩:=Qbg hF p h.hn (ofP x v) hs d;have hbad:QjE p (ofP x v) d=false:=by
  unfold QjE
  rw[QmM]
  simp;omega
 have he:=o4 h.fe.chk hbad
 rw[show decide ((d:Int)∈(ofP x (v:Int)).Stops)=false from decide_eq_false (h.not_in hd v)] at he
 have he:e=0:=he;subst he;obtain ⟨b1,b2⟩:=Qhw hF p h.hn (ofP x v) hs d;obtain ⟨e',k1,k2,_⟩:=Qjz o2 o3;have hbs:bsO F p x d v=L.head? :=by
  unfold bsO V0
  rw[h.tO_self hd,o1]
  cases L<;>rfl
 refine ⟨_,p.Vehicles[v],p.Demands[d],QhF p.Vehicles[v] p.Demands[d].Kind,L,?_,?_,⟨g1,g2,c1,by rw[b1,o2],⟨e',by rw[b2,k1],k2⟩,hbs,rfl,rfl⟩⟩
 ·unfold Yq
  rw[Qt,Qt,g1,g2]
  simp only[Option.bind_some,c1]
  rw[Qms hF h.fe.ok h.fe.chk h.hn,(Qhv (x:=x) (v:Int) (by omega)).1]
  simp only[Option.bind_some,oun,b1,o2]
  cases QhF p.Vehicles[v] p.Demands[d].Kind with
  | false=>rfl
  | true =>
   simp only[Bool.not_true,cond_false]
   cases decide (p.Vehicles[v].Grams<p.Demands[d].Grams) with
   | true=>rfl
   | false =>
    simp only[cond_false]
    show (bif !(decide (Qg1 p d v=0)) then some (Qg1 p d v) else _)=_
    cases decide (Qg1 p d v=0) with
    | false=>rfl
    | true =>
     simp only[Bool.not_true,cond_false,decide_true]
     cases decide ((((L.map Jw).length:Nat):Int)=0)<;>rfl
 ·unfold W4
  rw[Qt,Qt,g1,g2]
  simp only[Option.bind_some,c2]
  rw[Qin h.fe.ok h.fe.chk,(Qhv (x:=x) (v:Int) (by omega)).2]
  simp only[Option.bind_some,oun,o2]
  cases QhF p.Vehicles[v] p.Demands[d].Kind with
  | false=>rfl
  | true =>
   simp only[Bool.not_true,cond_false]
   cases decide (p.Vehicles[v].Grams<p.Demands[d].Grams) with
   | true=>rfl
   | false =>
    simp only[cond_false]
    show (bif !(decide (Qg1 p d v=0)) then some (Qg1 p d v) else _)=_
    cases decide (Qg1 p d v=0) with
    | false=>rfl
    | true =>
     simp only[Bool.not_true,cond_false]
     cases decide ((((L.map Jw).length:Nat):Int)=0)<;>rfl
def rsn (F:Nat) (p:Pr) (x:Pl) (d v:Nat):Int:=(Yq F p x d v).getD 0
theorem Cx.rsn_at {d v:Nat} (hd:(d:Int)∈x.Left) (hv:v<p.Vehicles.length):Yq F p x d v=some (rsn F p x d v)∧W4 F p x d v=some (rsn F p x d v)∧ ∃ve de car L,Rs F p x d v (rsn F p x d v) ve de car L:=by
 obtain ⟨r,ve,de,car,L,h1,h2,h3⟩:=h.reason hd hv;have:rsn F p x d v=r:=by unfold rsn;rw[h1];rfl
 rw[this]
 exact ⟨h1,h2,ve,de,car,L,h3⟩
end
def rsL (F:Nat) (p:Pr) (x:Pl) (d:Nat) (n:Nat):List Rn:=(List.range n).map fun v:Nat=>⟨(v:Int),rsn F p x d v⟩
theorem QmQ (F:Nat) (p:Pr) (x:Pl) (d n:Nat):(rsL F p x d n).length=n:=by simp[rsL]
theorem QoR (F:Nat) (p:Pr) (x:Pl) (d n:Nat):rsL F p x d (n+1)=rsL F p x d n++[⟨(n:Int),rsn F p x d n⟩]:=by simp[rsL,List.range_succ]
theorem Qli {F:Nat} {p:Pr} {x:Pl} {d:Nat} {body:List Rn×Int→Option ((List Rn×Int)⊕List Rn)} {rf:Int→Option Int} (hV:p.Vehicles.length≤1000) (hb: ∀q:List Rn×Int,body q=bif decide (q.2<((p.Vehicles.length:Nat):Int)) then Option.bind (rf q.2) fun r3=>Option.bind (Z7 q.1 [⟨q.2,r3⟩]) fun l1=>some (.inl (l1,w64 (q.2+1))) else some (.inr q.1))
  (hr: ∀v:Nat,v<p.Vehicles.length→rf v=some (rsn F p x d v)):iter body (((p.Vehicles.length:Nat):Int).toNat+1) ([],0)=some (rsL F p x d p.Vehicles.length):=by
 have:=Y2 (body:=body) p.Vehicles (fun k=>rsL F p x d k) (fun m k=>(m,k)) (fun _ _=>none) (rsL F p x d p.Vehicles.length) (by omega) (fun k y hk _=> ?_) (fun _=>by rw[hb];simp) (((p.Vehicles.length:Nat):Int).toNat+1) (by simp)
 ·rw[QW _ _ (fun _ _ _=>rfl)] at this
  exact this
 ·have h0:=Qv hk;have h1:((k:Int)<((p.Vehicles.length:Nat):Int)):=by omega
  have h2:=QmQ F p x d k
  rw[hb]
  simp only[h1,decide_true,cond_true,hr k h0,Option.bind_some]
  rw[Ym (by simp;omega),QoR]
  rfl
theorem QpH {F:Nat} (hF:40000≤F) {p:Pr} (hn:p.Road.Edges.length≤600) (hv:p.Vehicles.length≤30) (x:Pl) (hx:x.Tours.length≤30) (hl:x.Left.length≤100) (d:Int) :
  ∃R e,WJ F p x d=some (R,e)∧Qcs F p x d=some (R,e)∧R.length≤30∧((e≠0∧R=[])∨(e=0∧Cx F p x∧ ∃n:Nat,d=(n:Int)∧d∈x.Left∧n<p.Demands.length∧R=rsL F p x n p.Vehicles.length))∧(d∈x.Left→W1 F p x=some 0→e=0):=by
 obtain ⟨s,e,a1,a2,a3,a4⟩:=Qdi hF hn x hx hl;have hfe:W1 F p x=some e:=by unfold W1;rw[a1];rfl
 unfold WJ Qcs
 rw[hfe,a2]
 by_cases he:e=0
 ·have hc:Cx F p x:=⟨hF,hn,hv,(a4 he).2,hx,hl⟩
  subst he
  simp only[Option.bind_some,decide_true,Bool.not_true,cond_false]
  by_cases h1:d<0
  ·simp only[h1,decide_true,cond_true,Option.bind_some]
   exact ⟨[],7,rfl,rfl,by simp,.inl ⟨by decide,rfl⟩,fun hm _=>by have:=hc.fe.lft _ hm;omega⟩
  by_cases h2:((p.Demands.length:Nat):Int)≤d
  ·simp only[h1,h2,decide_true,decide_false,cond_true,cond_false,Option.bind_some]
   exact ⟨[],7,rfl,rfl,by simp,.inl ⟨by decide,rfl⟩,fun hm _=>by have:=hc.fe.lft _ hm;omega⟩
  simp only[h1,h2,decide_false,cond_false,Option.bind_some]
  rw[Qod d (by omega),QcI _ (by omega)]
  simp only[Option.bind_some]
  by_cases h3:d∈x.Left
  ·obtain ⟨n,rfl⟩: ∃n:Nat,d=(n:Int):=⟨d.toNat,by omega⟩
   simp only[h3,decide_true,Bool.not_true,cond_false]
   have q1:=Qli (F:=F) (p:=p) (x:=x) (d:=n) (body:=QbQ F p x n) (rf:=Yq F p x n) (by omega) (fun q=>rfl) (fun v hv=>(hc.rsn_at h3 hv).1);have q2:=Qli (F:=F) (p:=p) (x:=x) (d:=n) (body:=Qbu F p x n) (rf:=W4 F p x n) (by omega) (fun q=>rfl) (fun v hv=>(hc.rsn_at h3 hv).2.1)
   rw[q1,q2]
   exact ⟨_,0,rfl,rfl,by rw[QmQ];exact hv,.inr ⟨rfl,hc,n,rfl,by first | exact h3 | trivial,by omega,rfl⟩,fun _ _=>rfl⟩
  ·simp only[h3,decide_false,Bool.not_false,cond_true]
   exact ⟨[],13,rfl,rfl,by simp,.inl ⟨by decide,rfl⟩,fun hm _=>by first | exact absurd hm h3 | exact hm.elim⟩
 ·simp only[Option.bind_some,he,decide_false,Bool.not_false,cond_true]
  exact ⟨[],e,rfl,rfl,by simp,.inl ⟨he,rfl⟩,fun _ h=>by first | (injection h;done) | (injection h with h;exact h)⟩
end Go.Proofs.YthpgjbbjpfiniaaGreat
namespace Go.Proofs.YthpgjbbjpfiniaaGreat
open Go.RowKit
set_option linter.unusedSimpArgs false
set_option linter.unusedVariables false
def exD:Pr:=⟨⟨2,[⟨0,1,500,60⟩,⟨1,0,500,60⟩]⟩,[⟨⟨#[118]⟩,0,⟨1000,2000⟩,1000,1⟩],[⟨0,1,0,300,⟨1100,1200⟩,30⟩],0,20⟩
def exE:Pr:=⟨⟨2,[⟨0,1,500,60⟩,⟨1,0,500,60⟩]⟩,[⟨⟨#[118]⟩,0,⟨1000,2000⟩,299,1⟩],[⟨0,1,0,300,⟨1100,1200⟩,30⟩],0,20⟩
theorem QiK:Qo exD=some 0:=by decide +kernel
theorem QnY:Qo exE=some 0:=by decide +kernel
theorem QlR:OkP exD:=OkP.of (by decide) QiK
theorem Qqv:OkP exE:=OkP.of (by decide) QnY
theorem QfP {p:Pr} (hp:OkP p) (hc:Qo p=some 0) {t:Qa} {c:Int×Int} (h:Ys p t=some c):YJ p t=c:=by
 rw[QeH hp hc t] at h
 injection h
theorem Qku:YJ exD ⟨0,[0,-1]⟩=(1000,0):=QfP QlR QiK (by decide +kernel)
theorem Qn1:YJ exD ⟨0,[0,-1,-1]⟩=(1000,0):=QfP QlR QiK (by decide +kernel)
theorem Qn2:YJ exD ⟨0,[-1,0,-1]⟩=(1000,0):=QfP QlR QiK (by decide +kernel)
theorem Qq8:YJ exE ⟨0,[0,-1]⟩=(0,20):=QfP Qqv QnY (by decide +kernel)
theorem QhP {F:Nat} (hF:40000≤F):QU F exD ⟨0,[]⟩ 0=some ([⟨⟨0,[0,-1]⟩,1000⟩],0):=by
 obtain ⟨L,h1,h2⟩:=QeB hF (p:=exD) (by decide) (t:=⟨0,[]⟩) (by decide) (d:=0) QiK (by decide) (by decide);have hf:Qb2 exD ((Qbs [] 0).map (toT 0))=[⟨⟨0,[0,-1]⟩,1000⟩]:=by
  rw[show Qbs [] 0=[[0,-1]] by decide]
  simp[Qb2,QgB,toT,Qku]
 have h3:=h2.stab
 simp only at h3
 rw[hf] at h3
 have:=h3.perm.symm.eq_singleton
 rw[this] at h1
 exact h1
theorem QkB {F:Nat} (hF:40000≤F):QU F exE ⟨0,[]⟩ 0=some ([],0):=by
 obtain ⟨L,h1,h2⟩:=QeB hF (p:=exE) (by decide) (t:=⟨0,[]⟩) (by decide) (d:=0) QnY (by decide) (by decide);have hf:Qb2 exE ((Qbs [] 0).map (toT 0))=[]:=by
  rw[show Qbs [] 0=[[0,-1]] by decide]
  simp[Qb2,QgB,toT,Qq8]
 have h3:=h2.stab
 simp only at h3
 rw[hf] at h3
 have:=h3.perm.symm.eq_nil
 rw[this] at h1
 exact h1
theorem Qnb {F:Nat} (hF:40000≤F): ∃L,QU F exD ⟨0,[-1]⟩ 0=some (L,0)∧ ∀y∈L,y.tour=⟨0,[0,-1]⟩∨y.tour=⟨0,[0,-1,-1]⟩∨y.tour=⟨0,[-1,0,-1]⟩:=by
 obtain ⟨L,h1,h2⟩:=QeB hF (p:=exD) (by decide) (t:=⟨0,[-1]⟩) (by decide) (d:=0) QiK (by decide) (by decide);refine ⟨L,h1,fun y hy=> ?_⟩;have hf:Qb2 exD ((Qbs [-1] 0).map (toT 0))=[⟨⟨0,[0,-1]⟩,1000⟩,⟨⟨0,[0,-1,-1]⟩,1000⟩,⟨⟨0,[-1,0,-1]⟩,1000⟩]:=by
  rw[show Qbs [-1] 0=[[0,-1],[0,-1,-1],[-1,0,-1]] by decide]
  simp[Qb2,QgB,toT,Qku,Qn1,Qn2]
 have h3:=h2.stab
 simp only at h3
 rw[hf] at h3
 have h4:=h3.perm.symm.subset hy
 simp only[List.mem_cons,List.not_mem_nil,or_false] at h4
 rcases h4 with rfl | rfl | rfl
 ·exact .inl rfl
 ·exact .inr (.inl rfl)
 ·exact .inr (.inr rfl)
def pD:Pl:=⟨[⟨0,[0,-1]⟩],[]⟩
def p0:Pl:=⟨[],[0]⟩
theorem Qpu {F:Nat} (hF:40000≤F):QbW F exD=pD:=by
 have h1:V0 F exD ((0:Nat):Int) ⟨⟨0,[]⟩,0⟩=some ⟨⟨0,[0,-1]⟩,1000⟩:=by
  unfold V0
  rw[show QU F exD (Qc.mk ⟨0,[]⟩ 0).tour ((0:Nat):Int)=QU F exD ⟨0,[]⟩ 0 from rfl,QhP hF]
 have h2:QcE F exD 1=Qd5 (V0 F exD ((0:Nat):Int)) ((0:Nat):Int) ([⟨⟨0,[]⟩,0⟩],[]):=rfl;have h3:QcE F exD 1=([⟨⟨0,[0,-1]⟩,1000⟩],[]):=by
  rw[h2]
  unfold Qd5
  simp only[VO,h1]
  rfl
 unfold QbW
 rw[show exD.Demands.length=1 from rfl,h3]
 rfl
theorem Qpv {F:Nat} (hF:40000≤F):QbW F exE=p0:=by
 have h1:V0 F exE ((0:Nat):Int) ⟨⟨0,[]⟩,0⟩=none:=by
  unfold V0
  rw[show QU F exE (Qc.mk ⟨0,[]⟩ 0).tour ((0:Nat):Int)=QU F exE ⟨0,[]⟩ 0 from rfl,QkB hF]
 have h2:QcE F exE 1=Qd5 (V0 F exE ((0:Nat):Int)) ((0:Nat):Int) ([⟨⟨0,[]⟩,0⟩],[]):=rfl;have h3:QcE F exE 1=([⟨⟨0,[]⟩,0⟩],[0]):=by
  rw[h2]
  unfold Qd5
  simp only[VO,h1]
  rfl
 unfold QbW
 rw[show exE.Demands.length=1 from rfl,h3]
 rfl
theorem QpO:JO (JQ exD pD)=1000:=by
 unfold JO JQ pD Zi QaB
 simp[Qku]
theorem Qrc (p:Pr):JO (JQ p p0)=1000000000000:=by
 unfold JO JQ p0 Zi QaB
 simp
theorem Qq5 {F:Nat} (hF:40000≤F):Qas F exD pD 1=[]:=by
 have hm:mvs F exD pD 0 0=none:=by
  obtain ⟨L,h1,h2⟩:=Qnb hF;have hb:bsO F exD pD ((0:Nat):Int) ((0:Nat):Int)=L.head? :=by
   unfold bsO V0
   rw[show QU F exD (Qc.mk (tO pD ((0:Nat):Int) ((0:Nat):Int)) 0).tour ((0:Nat):Int)=QU F exD ⟨0,[-1]⟩ 0 from rfl,h1]
   cases L<;>rfl
  unfold mvs mvR
  rw[hb]
  cases L with
  | nil=>rfl
  | cons y M =>
   have c1:=h2 y List.mem_cons_self;have e1: ∀b:To,Qbv b=true→Qd3 exD pD ((0:Nat):Int) ((0:Nat):Int) b=⟨[b],[]⟩:=fun b hb=>by
    unfold Qd3
    rw[show (List.range exD.Vehicles.length).map (stB pD ((0:Nat):Int) ((0:Nat):Int) b)=[b] from rfl]
    simp only[List.filter_cons,hb,if_true]
    rfl
   have e2:Qbv y.tour=true∧(YJ exD y.tour).1=1000:=by
    rcases c1 with c | c | c
    ·rw[c,Qku];exact ⟨rfl,rfl⟩
    ·rw[c,Qn1];exact ⟨rfl,rfl⟩
    ·rw[c,Qn2];exact ⟨rfl,rfl⟩
   simp only[List.head?_cons,Option.map_some,Option.bind_some]
   rw[if_neg]
   rw[QpO,e1 _ e2.1]
   unfold JO JQ Zi QaB
   simp[e2.2]
 show Qas F exD pD 0++QcZ F exD pD 0 1=[]
 show []++([]++(mvs F exD pD 0 0).toList)=[]
 rw[hm];rfl
theorem Qrm {p:Pr} (hp:OkP p) (hc:Qo p=some 0) (hd:p.Demands.length=1):Fe p p0 where
 ok:=hp
 chk:=hc
 drv:=fun t ht=>by cases ht
 dis:=List.Pairwise.nil
 lft:=fun e he=>by
  have:e=0:=by simpa [p0] using he
  omega
 one:=fun d hd2=>by
  obtain rfl:d=0:=by omega
  rfl
theorem Qq9 {F:Nat} (hF:40000≤F) {p:Pr} (hp:OkP p) (hc:Qo p=some 0) (hd:p.Demands.length=1) (hn:p.Road.Edges.length≤600) (hv:p.Vehicles.length≤30):Cx F p p0 :=
 ⟨hF,hn,hv,Qrm hp hc hd,by decide,by decide⟩
theorem Qq4 {F:Nat} (hF:40000≤F):Qas F exD p0 1=[JQ exD pD]:=by
 have hb:bsO F exD p0 ((0:Nat):Int) ((0:Nat):Int)=some ⟨⟨0,[0,-1]⟩,1000⟩:=by
  unfold bsO V0
  rw[show QU F exD (Qc.mk (tO p0 ((0:Nat):Int) ((0:Nat):Int)) 0).tour ((0:Nat):Int)=QU F exD ⟨0,[]⟩ 0 from rfl,QhP hF]
 have hm:mvs F exD p0 0 0=some (JQ exD pD):=by
  unfold mvs mvR
  rw[hb]
  simp only[Option.map_some,Option.bind_some]
  rw[show Qd3 exD p0 ((0:Nat):Int) ((0:Nat):Int) ⟨0,[0,-1]⟩=pD from rfl,QpO,Qrc,if_pos (by decide)]
 show []++([]++(mvs F exD p0 0 0).toList)=_
 rw[hm];rfl
theorem Qq6 {F:Nat} (hF:40000≤F):Qas F exE p0 1=[]:=by
 have hb:bsO F exE p0 ((0:Nat):Int) ((0:Nat):Int)=none:=by
  unfold bsO V0
  rw[show QU F exE (Qc.mk (tO p0 ((0:Nat):Int) ((0:Nat):Int)) 0).tour ((0:Nat):Int)=QU F exE ⟨0,[]⟩ 0 from rfl,QkB hF]
 have hm:mvs F exE p0 0 0=none:=by
  unfold mvs mvR
  rw[hb];rfl
 show []++([]++(mvs F exE p0 0 0).toList)=_
 rw[hm];rfl
theorem QlU {F:Nat} {p:Pr} {x:Pl} (h:Cx F p x) (ha:Qas F p x p.Demands.length=[]):iter (Vw F p) F (x.Tours,x.Left)=some (x,0):=by
 have hF:=h.hF;obtain ⟨L,h1,_,_,h4⟩:=h.both
 rw[ha] at h4
 have hL:L=[]:=h4.perm.symm.eq_nil;subst hL;have h1':Zj F p (Qf.mk x.Tours x.Left)=some ([],0):=h1;obtain ⟨f,hf⟩: ∃f,F=f+1:=⟨F-1,by omega⟩
 have key: ∀n,iter (Vw F p) (n+1) (x.Tours,x.Left)=some (x,0):=fun n=>by
  simp only[iter,Vw,oun,h1',Option.bind_some,decide_true,Bool.not_true,cond_false,List.length_nil]
  rfl
 have:=key f
 rw[←hf] at this
 exact this
theorem QoA {F:Nat} (hF:40000≤F) {p:Pr} {x:Pl} (hn:p.Road.Edges.length≤600) (hv:p.Vehicles.length≤30) (hp:OkP p) (hc:Qo p=some 0) (hx:QbW F p=x) (ha:Qas F p x p.Demands.length=[]):WR F p=some (x,0):=by
 obtain ⟨e,h1,h2⟩:=Qlw hF p hn (by omega) (by have:=hp.dl;omega)
 rw[hc] at h1
 injection h1 with h1
 subst h1;rcases h2 with ⟨h2,_⟩ | ⟨_,_,h4,_⟩
 ·exact absurd rfl h2
 ·subst hx;unfold WR
  rw[h4]
  simp only[Option.bind_some,oun,decide_true,Bool.not_true,cond_false]
  rw[QlU (QoB hF hn hv hp hc) ha]
  rfl
theorem QpS {F:Nat} (hF:40000≤F) {p:Pr} (hp:OkP p) (hc:Qo p=some 0) (hd:p.Demands.length=1) (hn:p.Road.Edges.length≤600) (hv:p.Vehicles.length=1) {c:Int} (hr:Yq F p p0 0 0=some c):WJ F p p0 0=some ([⟨0,c⟩],0):=by
 have hcx:=Qq9 hF hp hc hd hn (by omega);obtain ⟨R,e,h1,_,_,h4,h5⟩:=QpH hF hn (by omega) p0 (by decide) (by decide) 0;have hf:W1 F p p0=some 0:=by
  unfold W1
  rw[hcx.total.1];rfl
 have he:=h5 (by simp[p0]) hf;subst he;rcases h4 with ⟨h4,_⟩ | ⟨_,_,n,hn2,_,_,hR⟩
 ·exact absurd rfl h4
 ·obtain rfl:n=0:=by omega
  rw[h1,hR,hv]
  have:rsn F p p0 0 0=c:=by
   unfold rsn
   rw[show Yq F p p0 ((0:Nat):Int) ((0:Nat):Int)=Yq F p p0 0 0 from rfl,hr]
   rfl
  show some ([(⟨((0:Nat):Int),rsn F p p0 0 0⟩:Rn)],(0:Int))=_
  rw[this];rfl
theorem QoI {F:Nat} (hF:40000≤F):Yq F exD p0 0 0=some 0:=by
 have hw:Qci F exD ⟨0,[0,-1]⟩=some ((Qdx exD ⟨0,[0,-1]⟩).1,0,(Qdx exD ⟨0,[0,-1]⟩).2.2):=by
  rw[Qms hF QlR QiK (by decide)]
  have h1:=Qku;unfold YJ at h1;unfold Qdx;cases h:W0 exD ⟨0,[0,-1]⟩ with
  | inl z=>rfl
  | inr q=>rw[h] at h1;injection h1 with _ h2;exact absurd h2 (Qai h)
 have ho:Jz F exD ⟨0,[]⟩ 0=some ([⟨0,[0,-1]⟩],0):=Qlo (QhP hF) (by decide);unfold Yq
 rw[show getI exD.Vehicles 0=some ⟨⟨#[118]⟩,0,⟨1000,2000⟩,1000,1⟩ from rfl,show getI exD.Demands 0=some ⟨0,1,0,300,⟨1100,1200⟩,30⟩ from rfl]
 simp only[Option.bind_some]
 rw[show Jd ⟨⟨#[118]⟩,0,⟨1000,2000⟩,1000,1⟩ 0=some true by decide +kernel,hw,(Qhv (x:=p0) 0 (by decide)).1,show ofP p0 0=⟨0,[]⟩ from rfl]
 simp only[Option.bind_some,oun,ho]
 rfl
theorem QoJ {F:Nat} (hF:40000≤F):Yq F exE p0 0 0=some 20:=by
 unfold Yq
 rw[show getI exE.Vehicles 0=some ⟨⟨#[118]⟩,0,⟨1000,2000⟩,299,1⟩ from rfl,show getI exE.Demands 0=some ⟨0,1,0,300,⟨1100,1200⟩,30⟩ from rfl]
 simp only[Option.bind_some]
 rw[show Jd ⟨⟨#[118]⟩,0,⟨1000,2000⟩,299,1⟩ 0=some true by decide +kernel]
 rfl
theorem Qpf {F:Nat} (hF:40000≤F):Jk F=some true:=by
 have h1:WR F exD=some (pD,0):=QoA hF (by decide) (by decide) QlR QiK (Qpu hF) (Qq5 hF);have h2:Zj F exD p0=some ([pD],0):=by
  obtain ⟨L,q1,_,_,q4⟩:=(Qq9 hF QlR QiK rfl (by decide) (by decide)).both
  rw[show exD.Demands.length=1 from rfl,Qq4 hF] at q4
  rw[q1,q4.perm.symm.eq_singleton]
  rfl
 have h3:WJ F exD p0 0=some ([⟨0,0⟩],0):=QpS hF QlR QiK rfl (by decide) rfl (QoI hF);have h4:WR F exE=some (p0,0):=QoA hF (by decide) (by decide) Qqv QnY (Qpv hF) (Qq6 hF);have h5:WJ F exE p0 0=some ([⟨0,20⟩],0):=QpS hF Qqv QnY rfl (by decide) rfl (QoJ hF);have s1:Yh pD pD=some true:=Qeb _ (by decide) (fun t ht=>by simp[pD] at ht;subst ht;decide) (by decide);have s2:Yh p0 p0=some true:=Qeb _ (by decide) (fun t ht=>by cases ht) (by decide);have r1:Yi [⟨0,0⟩] [⟨0,0⟩]=some true:=by rw[(QoQ (by decide)).1];simp
 have r2:Yi [⟨0,20⟩] [⟨0,20⟩]=some true:=by rw[(QoQ (by decide)).1];simp
 unfold exD at h1 h2 h3;unfold exE at h4 h5;unfold pD at h1 h2 s1;unfold p0 at h2 h3 h4 h5 s2;unfold Jk
 rw[h1]
 simp only[Option.bind_some,oun]
 rw[h2]
 simp only[Option.bind_some,oun]
 rw[h3]
 simp only[Option.bind_some,oun]
 rw[show getI [(Qp.mk ⟨#[118]⟩ 0 (QD.mk 1000 2000) 1000 1)] 0=some (Qp.mk ⟨#[118]⟩ 0 (QD.mk 1000 2000) 1000 1) from rfl]
 simp only[Option.bind_some]
 rw[show Yl [(Qp.mk ⟨#[118]⟩ 0 (QD.mk 1000 2000) 1000 1)] 0 (Qp.mk ⟨#[118]⟩ 0 (QD.mk 1000 2000) 299 1)=[(Qp.mk ⟨#[118]⟩ 0 (QD.mk 1000 2000) 299 1)] from rfl]
 rw[h4]
 simp only[Option.bind_some,oun]
 rw[h5]
 simp only[Option.bind_some,oun,s1,s2,r1,r2]
 rfl
end Go.Proofs.YthpgjbbjpfiniaaGreat
namespace Go.Proofs.YthpgjbbjpfiniaaGreat
open Go.RowKit
set_option linter.unusedSimpArgs false
set_option linter.unusedVariables false
theorem Qi8 {α ρ:Type} (fin:ρ): ∀l:List α,first (fun _=>none) fin l=fin
 | []=>rfl
 | x::r=>by simp only[first];exact Qi8 fin r
theorem Cx.L_cx {F:Nat} {p:Pr} {x:Pl} (h:Cx F p x) {L:List Ra} (hs:YL JO (Qas F p x p.Demands.length) L) {z:Ra} (hz:z∈L):Cx F p z.plan∧z=JQ p z.plan∧JO z<JO (JQ p x):=h.next (hs.perm.symm.subset hz)
theorem Cx.L_len {F:Nat} {p:Pr} {x:Pl} (h:Cx F p x) {L:List Ra} (hs:YL JO (Qas F p x p.Demands.length) L):L.length≤960:=by
 have h1:=h.fe.ok.dl;have h2:=h.hv;have h3:=Qec F p x p.Demands.length;have:p.Demands.length*p.Vehicles.length≤32*30:=Nat.mul_le_mul (by omega) h2
 rw[←hs.perm.length_eq]
 omega
theorem Qnr {F:Nat} (hF:40000≤F) (p:Pr) (x:Pl):Zk F p x=some true:=by
 have haw:=Qpf hF;unfold Zk;rcases Qpa p x with hb | ⟨hb,hl⟩
 ·rw[hb];simp only[Option.bind_some,cond_true,haw]
 ·rw[hb]
  simp only[Option.bind_some,cond_false]
  have hve:=hl.ve;have hto:=hl.to;obtain ⟨L,e,s,h1,h2,_,_,h5⟩:=QlO hF hl.ed (by omega) x (by omega) hl.le;have hL: ∀y∈L.map rpl,Yh y y=some true:=fun y hy=>by
   obtain ⟨z,hz,rfl⟩:=List.mem_map.1 hy;rcases h5 with ⟨_,h5⟩ | ⟨_,_,hc,_,h5⟩
   ·subst h5;cases hz
   ·exact (hc.L_cx h5 hz).1.same
  have hlen:(L.map rpl).length≤960:=by
   rw[List.length_map]
   rcases h5 with ⟨_,h5⟩ | ⟨_,_,hc,_,h5⟩
   ·subst h5;simp
   ·exact hc.L_len h5
  rw[h1,h2]
  simp only[Option.bind_some,oun,decide_true,Bool.not_true,cond_false]
  generalize L.map rpl=M at *
  rw[Qcp M (fun _=>none) (Sum.inl ()) (by omega) (fun k y hk=>by
   have h1:((k:Int)<((M.length:Nat):Int)):=by have:=Qv hk;omega
   simp only[ZH,h1,decide_true,cond_true,Qt,hk,Option.bind_some,hL y (List.mem_of_getElem? hk),Bool.not_true,cond_false]
   rfl) (by simp[ZH]) _ (by simp),Qi8]
  simp only[Option.bind_some,QI,haw]
theorem QaY (p:Qe) (x:Qf) (hp:QeQ p) (hx:Qg3 x): ∃F,Zk F p x=some true:=⟨40000,Qnr (Nat.le_refl _) p x⟩
end Go.Proofs.YthpgjbbjpfiniaaGreat
namespace Go.Proofs.YthpgjbbjpfiniaaGreat
open Go.RowKit Go.ChangeShapes Go.WideShapes
set_option linter.unusedSimpArgs false
set_option linter.unusedVariables false
def QjR (W:World):Gh:=⟨fun b=>W.heap[b]?,W.os,W.output,W.tape⟩
theorem Qof (W:World):Inv W (QjR W) []:=⟨rfl,rfl,rfl,fun _ _ h=>h,by simp,by simp,by simp⟩
theorem QnX {W W':World} {μ:Gh} {L:List Seg} (hm:(QjR W).le μ) (h:Inv W' μ L):Below W.heap.size W W':=by
 have hb: ∀k,k<W.heap.size→W'.heap[k]? =W.heap[k]? :=fun k hk=>by
  have h1:W.heap[k]? =some W.heap[k]:=by simp[hk]
  rw[h1]
  exact h.mem k _ (hm.mem k _ h1)
 refine ⟨h.os.trans hm.os,h.tape.trans hm.tape,h.out.trans hm.out,?_,hb⟩;rcases Nat.eq_zero_or_pos W.heap.size with h0 | h0
 ·omega
 ·have h1:=hb (W.heap.size-1) (by omega);have h2:W.heap[W.heap.size-1]? =some (W.heap[W.heap.size-1]'(by omega)):=by simp
  rw[h2] at h1
  have:=JA h1
  omega
theorem Qks {P:Program} {f:FuncId} {fn:Func} (hf:P.funcs[f]? =some fn) (hb:fn.body.isNone=false) {args:List Value} {W:World} {v:Value} (h:Fn P f args (QjR W) [] fun u _ _=>u=v) :
  Calls P f args.toArray W fun e W'=>e= .returned v∧Below W.heap.size W W':=by
 rcases h with ⟨_,h⟩ | ⟨fn',_,hf',_,hb',_⟩
 ·refine (h W (Qof W)).mono ?_;rintro e W' ⟨u,μ',L',rfl,hm,hi,rfl⟩;exact ⟨rfl,QnX hm hi⟩
 ·rw[hf] at hf'
  injection hf' with hf'
  subst hf'
  rw[hb] at hb';cases hb'
section
variable {H:Type} {enc:TypeId×Value→H} {P:Program}
theorem Qfe (hl:laidOutB P=true) {W W':World} (hb:Below W.heap.size W W') {sp:Nat→Bool}: ∀{ts:List TypeId} {vs:List Value} {ds:List (DataW H)} {ps:List MemPlace},
  (∀t∈ts,P.readableRec t=true∧t<P.types.size)→(∀p∈ps,p.block<W.heap.size)→(∀p∈ps,sp p.block=true) →
  DataW.TrodAll enc P W 0 (fun _=>true) true ts vs ds ps→DataW.TrodAll enc P W' 0 sp true ts vs ds ps
 | [],vs,ds,ps,_,_,_,h=>by
  obtain ⟨rfl,rfl,rfl⟩:=trodAll_nil h
  rfl
 | t::ts,vs,ds,ps,hr,hlt,hs,h=>by
  obtain ⟨v,vs',d,ds',p,q,rfl,rfl,rfl,hd,hrest⟩:=trodAll_cons h;refine ⟨p,q,WideElems.Trod_stays hl (hr t (by simp)).1 (hr t (by simp)).2 hd (fun x hx=>hb.same (hlt x (by simp[hx]))) (fun x hx=>hs x (by simp[hx])),?_,rfl⟩;exact Qfe hl hb (fun u hu=>hr u (by simp[hu])) (fun x hx=>hlt x (by simp[hx])) (fun x hx=>hs x (by simp[hx])) hrest
theorem Qnu {f:Func} {s:ChangeSpec} {apart fresh handsOn again:Bool} {W W':World} {args:Array Value} {ds:List (DataW H)} {before:List MemPlace} {tb:TypeId}
  (hW:DataW.Whole enc P f.params.toList s.vars apart W args.toList ds [] before) (hv:s.vars=[]) (hres:f.resultTypes= #[tb]) (htb:P.underlying tb=some .bool)
  (hfr:(s.fn H ds).results=[.lit (.bool true)]) (hfa:(s.fn H ds).args=ds) (hfv:(s.fn H ds).vars=[]) (hl:laidOutB P=true) (hr: ∀t∈f.params.toList,P.readableRec t=true∧t<P.types.size) (hb:Below W.heap.size W W') :
  s.post enc P f apart fresh handsOn again W args (.bool true) W':=by
 have hlt: ∀p∈before,p.block<W.heap.size:=fun p hp=>hW.lt p hp;have hW':=hW;obtain ⟨p,q,hA,hV,hpq,hz,hn⟩:=hW'
 rw[hv] at hV
 obtain ⟨_,rfl⟩:=trodVars_none hV
 rw[List.append_nil] at hpq
 subst hpq;have hresl:((Value.bool true).resultList f.resultTypes.size)=[.bool true]:=by rw[hres];rfl
 have hargs: ∀sp:Nat→Bool,(∀x∈before,sp x.block=true)→DataW.TrodAll enc P W' 0 sp true f.params.toList args.toList ds before:=fun sp hs=>Qfe hl hb hr hlt hs hA;have hres2: ∀(b:Nat) (sp:Nat→Bool) (hd:Bool),DataW.TrodAll enc P W' b sp hd f.resultTypes.toList [.bool true] [.lit (.bool true)] []:=fun b sp hd=>by
  rw[hres];exact trodAll_mk1 (shut_bool htb true)
 have hold: ∀p∈before,(fun b=>decide (b<W.heap.size)) p.block=true:=fun p hp=>by simpa using hlt p hp
 have hvars: ∀sp:Nat→Bool,DataW.TrodVars enc P W' sp s.vars [] []:=fun sp=>by rw[hv];rfl
 refine ⟨ds,[],before,[],before,[],hW,?_,?_,?_,World.keptBut_mono (fun p hp=>⟨hp,by simpa using hp⟩) (hb.frame (· ∈before)),fun _=> ?_⟩
 ·rw[hresl,List.append_nil,hfr];exact hres2 _ _ _
 ·rw[List.append_nil,hfa];exact hargs _ hold
 ·rw[List.append_nil,hfv];exact hvars _
 ·have A1:=hargs (fun _=>true) (fun _ _=>rfl);have R1:=hres2 0 (fun _=>true) true;refine ⟨ok_one hres rfl (okWide_bool_mk htb true),?_⟩
  rw[hresl]
  refine ⟨_,_,([]++before)++[],⟨[]++before,[],trodAll_append A1 R1,hvars _,rfl,?_,?_⟩,?_⟩
  ·intro b off hp;have hin:MemPlace.cell b off∈before:=by simpa using hp
   rw[hb.frozen (hlt _ hin)]
   exact hz b off hin
  ·intro ha;have:=hn ha
   simpa using this
  ·intro p hp _
   simpa using hp
end
end Go.Proofs.YthpgjbbjpfiniaaGreat
namespace Go.Proofs.YthpgjbbjpfiniaaGreat
open Go.RowKit Go.ChangeShapes Go.WideShapes Go.Deep
set_option linter.unusedSimpArgs false
set_option linter.unusedVariables false
theorem QiJ {W:World} {L:List Seg} {a:Addr} {v:Value} (h:W.cell? a=some v):Wr (QjR W) L a v:=by
 unfold World.cell? at h
 split at h
 ·rename_i c e f hb
  split at h
  ·cases h
  ·rename_i hs
   refine ⟨by simpa using hs,c,e,f,.inl hb,by simpa using h⟩
 ·cases h
theorem QmJ {α β:Type} (Q:Nat→α→β→Prop): ∀n,(∀i,i<n→ ∃x y,Q i x y)→ ∃(l:List α) (m:List β),l.length=n∧m.length=n∧ ∀(i:Nat) (x:α) (y:β),l[i]? =some x→m[i]? =some y→Q i x y
 | 0,_=>⟨[],[],rfl,rfl,by simp⟩
 | n+1,h=>by
  obtain ⟨l,m,hl,hm,hq⟩:=QmJ Q n fun i hi=>h i (by omega);obtain ⟨x,y,hx⟩:=h n (by omega);refine ⟨l++[x],m++[y],by simp[hl],by simp[hm],fun i u v hu hv=> ?_⟩;rcases Nat.lt_or_ge i n with hi | hi
  ·rw[List.getElem?_append_left (by omega)] at hu hv
   exact hq i u v hu hv
  ·rw[List.getElem?_append_right (by omega)] at hu hv
   have:i-n=0:=by
    rcases Nat.eq_zero_or_pos (i-n) with h0 | h0
    ·exact h0
    ·rw[List.getElem?_eq_none (by simp;omega)] at hu;cases hu
   rw[hl,this] at hu
   rw[hm,this] at hv
   simp only[List.getElem?_cons_zero,Option.some.injEq] at hu hv
   have:i=n:=by omega
   subst this;subst hu;subst hv;exact hx
def Opn {α:Type} (P:Program) (W:World) (t:TypeId) (r:Rp α) (Q:α→Prop):Prop :=
 ∀(H:Type) (enc:TypeId×Value→H) (spare:Nat→Bool) (held:Bool) (fuel:Nat) (cs:List Value) (x:DataW H×List MemPlace),DataW.trod enc P W 0 spare held fuel t cs=some x→ ∃d,r.rep (QjR W) d cs∧Q d
section
variable {P:Program} {W:World} {t:TypeId}
theorem Wo {k:IntKind} (ht:P.underlying t=some (.int k)):Opn P W t (rI k) (wfI k):=by
 intro H enc spare held fuel cs x h;obtain ⟨n,h1,_,h2⟩:=DataW.trod_int ht h;exact ⟨n,h1,h2⟩
theorem Qps (ht:P.underlying t=some .string):Opn P W t Qrq fun s=>s.size≤maxLen:=by
 intro H enc spare held fuel cs x h;obtain ⟨n,h1,_,h2⟩:=DataW.trod_string ht h;exact ⟨n,h1,h2⟩
theorem Qce {α:Type} {e:TypeId} {r:Rp α} {Q:α→Prop} (ht:P.underlying t=some (.slice e)) (hC:P.cellsOf e=r.sz) (he:Opn P W e r Q):Opn P W t (Qrh r) fun xs=> ∀x∈xs,Q x:=by
 intro H enc spare held fuel cs x h;rcases open_slice ht h with ⟨rfl,_⟩ | ⟨a,n,c,m,nn,D,Pl,rfl,hb,hl,hm,hmm,hx,hi⟩
 ·exact ⟨[],⟨none,0,rfl,Nat.le_refl _,Nat.zero_le _,Qq.nil⟩,by simp⟩
 ·have hrow: ∀i,i<n→ ∃(y:α) (cs:List Value),r.rep (QjR W) y cs∧Q y∧Jg (QjR W) [] (a.add (i*r.sz)) cs:=fun i hin=>by
   obtain ⟨cs',hc,htr⟩:=hi i (by split at hmm<;>omega)
   rw[hC] at hc
   obtain ⟨y,hy,hq⟩:=he H enc spare held nn cs' _ htr;obtain ⟨_,hcl,hat⟩:=World.cells?_some hc;refine ⟨y,cs',hy,hq,fun j u hu=> ?_⟩;have hjk:j<r.sz:=by
    rcases Nat.lt_or_ge j r.sz with h | h
    ·exact h
    ·rw[List.getElem?_eq_none (by omega)] at hu;cases hu
   exact QiJ (by rw[hat j hjk];exact hu)
  obtain ⟨xs,css,hxl,hcl,hq⟩:=QmJ (fun i y cs=>r.rep (QjR W) y cs∧Q y∧Jg (QjR W) [] (a.add (i*r.sz)) cs) n hrow;refine ⟨xs,⟨some a,c,by rw[hxl],by omega,hm,css,fun i cs hcs=> ?_,by rw[hxl,hcl],fun i y cs hy hcs=>(hq i y cs hy hcs).1⟩,fun y hy=> ?_⟩
  ·have hlt:i<css.length:=by
    rcases Nat.lt_or_ge i css.length with h | h
    ·exact h
    ·rw[List.getElem?_eq_none h] at hcs;cases hcs
   obtain ⟨h1,_,h3⟩:=hq i (xs[i]'(by omega)) cs (by simp) hcs;exact ⟨r.len h1,a,rfl,h3⟩
  ·obtain ⟨i,hi'⟩:=List.getElem?_of_mem hy;have hlt:i<xs.length:=by
    rcases Nat.lt_or_ge i xs.length with h | h
    ·exact h
    ·rw[List.getElem?_eq_none h] at hi';cases hi'
   exact (hq i y (css[i]'(by omega)) hi' (by simp)).2.1
end
theorem JW {cs:List Value} {o a o2:Nat} (h:o+a=o2):cs.drop o=(cs.drop o).take a++cs.drop o2:=by rw[←h,←List.drop_drop,List.take_append_drop]
theorem Qjy {cs:Array Value} {l:List Value} (h:cs.toList=l):cs=l.toArray:=by rw[←h]
end Go.Proofs.YthpgjbbjpfiniaaGreat
namespace Go.Proofs.YthpgjbbjpfiniaaGreat
open Go.ChangeShapes Go.WideShapes Go.ChangeAt Go.RowKit
set_option linter.unusedSimpArgs false
set_option linter.unusedVariables false
theorem Qrp:ownKnob Tryz.prog.godebug=none:=by kernel_rfl
theorem Qoh:laidOutB Tryz.prog=true:=by kernel_rfl
theorem Qj0 {W:World}:Opn Tryz.prog W 106 QE Qg2:=by
 intro H enc spare held fuel cs x h;obtain ⟨xs,n,_,_,hlen,hxl,hf⟩:=DataW.trod_struct Tryz.underlying106 h
 rw[show Tryz.prog.cellsOf 106=4 by kernel_rfl] at hlen
 have g0:DataW.trod enc Tryz.prog W 0 spare held n 3 ((cs.drop 0).take (Tryz.prog.cellsOf 3))=xs[0]? :=hf 0 _ rfl
 rw[show Tryz.prog.cellsOf 3=1 by kernel_rfl,List.getElem?_eq_getElem (by rw[hxl];decide)] at g0
 obtain ⟨d0,h0,q0⟩:=(Wo Tryz.underlying3) H enc spare held n _ _ g0;have g1:DataW.trod enc Tryz.prog W 0 spare held n 3 ((cs.drop 1).take (Tryz.prog.cellsOf 3))=xs[1]? :=hf 1 _ rfl
 rw[show Tryz.prog.cellsOf 3=1 by kernel_rfl,List.getElem?_eq_getElem (by rw[hxl];decide)] at g1
 obtain ⟨d1,h1,q1⟩:=(Wo Tryz.underlying3) H enc spare held n _ _ g1;have g2:DataW.trod enc Tryz.prog W 0 spare held n 3 ((cs.drop 2).take (Tryz.prog.cellsOf 3))=xs[2]? :=hf 2 _ rfl
 rw[show Tryz.prog.cellsOf 3=1 by kernel_rfl,List.getElem?_eq_getElem (by rw[hxl];decide)] at g2
 obtain ⟨d2,h2,q2⟩:=(Wo Tryz.underlying3) H enc spare held n _ _ g2;have g3:DataW.trod enc Tryz.prog W 0 spare held n 3 ((cs.drop 3).take (Tryz.prog.cellsOf 3))=xs[3]? :=hf 3 _ rfl
 rw[show Tryz.prog.cellsOf 3=1 by kernel_rfl,List.getElem?_eq_getElem (by rw[hxl];decide)] at g3
 obtain ⟨d3,h3,q3⟩:=(Wo Tryz.underlying3) H enc spare held n _ _ g3;have e0:cs.drop 0=(cs.drop 0).take 1++cs.drop 1:=JW rfl;have e1:cs.drop 1=(cs.drop 1).take 1++cs.drop 2:=JW rfl;have e2:cs.drop 2=(cs.drop 2).take 1++cs.drop 3:=JW rfl;have e3:cs.drop 3=(cs.drop 3).take 1++cs.drop 4:=JW rfl;have en:cs.drop 4=[]:=List.drop_of_length_le (by omega);have hcs:cs.drop 0=_:=e0
 rw[e1,e2,e3,en,show (cs.drop 0).take 1=_ from h0,show (cs.drop 1).take 1=_ from h1,show (cs.drop 2).take 1=_ from h2,show (cs.drop 3).take 1=_ from h3] at hcs
 exact ⟨⟨d0,d1,d2,d3⟩,hcs,q0,q1,q2,q3⟩
theorem Qj2 {W:World}:Opn Tryz.prog W 24 QlW Qg4:=by
 intro H enc spare held fuel cs x h;obtain ⟨xs,n,_,_,hlen,hxl,hf⟩:=DataW.trod_struct Tryz.underlying24 h
 rw[show Tryz.prog.cellsOf 24=2 by kernel_rfl] at hlen
 have g0:DataW.trod enc Tryz.prog W 0 spare held n 3 ((cs.drop 0).take (Tryz.prog.cellsOf 3))=xs[0]? :=hf 0 _ rfl
 rw[show Tryz.prog.cellsOf 3=1 by kernel_rfl,List.getElem?_eq_getElem (by rw[hxl];decide)] at g0
 obtain ⟨d0,h0,q0⟩:=(Wo Tryz.underlying3) H enc spare held n _ _ g0;have g1:DataW.trod enc Tryz.prog W 0 spare held n 22 ((cs.drop 1).take (Tryz.prog.cellsOf 22))=xs[1]? :=hf 1 _ rfl
 rw[show Tryz.prog.cellsOf 22=1 by kernel_rfl,List.getElem?_eq_getElem (by rw[hxl];decide)] at g1
 obtain ⟨d1,h1,q1⟩:=(Qce Tryz.underlying22 (by kernel_rfl) Qj0) H enc spare held n _ _ g1;have e0:cs.drop 0=(cs.drop 0).take 1++cs.drop 1:=JW rfl;have e1:cs.drop 1=(cs.drop 1).take 1++cs.drop 2:=JW rfl;have en:cs.drop 2=[]:=List.drop_of_length_le (by omega);obtain ⟨A0,c0,h1,hl0,hm0,ha0⟩:=h1;have hcs:cs.drop 0=_:=e0
 rw[e1,en,show (cs.drop 0).take 1=_ from h0,show (cs.drop 1).take 1=_ from h1] at hcs
 exact ⟨⟨d0,d1⟩,⟨A0,c0,hcs,⟨hl0,hm0⟩,ha0⟩,q0,q1⟩
theorem QeA {W:World}:Opn Tryz.prog W 59 Qj6 Qc4:=by
 intro H enc spare held fuel cs x h;obtain ⟨xs,n,_,_,hlen,hxl,hf⟩:=DataW.trod_struct Tryz.underlying59 h
 rw[show Tryz.prog.cellsOf 59=2 by kernel_rfl] at hlen
 have g0:DataW.trod enc Tryz.prog W 0 spare held n 3 ((cs.drop 0).take (Tryz.prog.cellsOf 3))=xs[0]? :=hf 0 _ rfl
 rw[show Tryz.prog.cellsOf 3=1 by kernel_rfl,List.getElem?_eq_getElem (by rw[hxl];decide)] at g0
 obtain ⟨d0,h0,q0⟩:=(Wo Tryz.underlying3) H enc spare held n _ _ g0;have g1:DataW.trod enc Tryz.prog W 0 spare held n 3 ((cs.drop 1).take (Tryz.prog.cellsOf 3))=xs[1]? :=hf 1 _ rfl
 rw[show Tryz.prog.cellsOf 3=1 by kernel_rfl,List.getElem?_eq_getElem (by rw[hxl];decide)] at g1
 obtain ⟨d1,h1,q1⟩:=(Wo Tryz.underlying3) H enc spare held n _ _ g1;have e0:cs.drop 0=(cs.drop 0).take 1++cs.drop 1:=JW rfl;have e1:cs.drop 1=(cs.drop 1).take 1++cs.drop 2:=JW rfl;have en:cs.drop 2=[]:=List.drop_of_length_le (by omega);have hcs:cs.drop 0=_:=e0
 rw[e1,en,show (cs.drop 0).take 1=_ from h0,show (cs.drop 1).take 1=_ from h1] at hcs
 exact ⟨⟨d0,d1⟩,hcs,q0,q1⟩
theorem Qhg {W:World}:Opn Tryz.prog W 61 Qy QeR:=by
 intro H enc spare held fuel cs x h;obtain ⟨xs,n,_,_,hlen,hxl,hf⟩:=DataW.trod_struct Tryz.underlying61 h
 rw[show Tryz.prog.cellsOf 61=6 by kernel_rfl] at hlen
 have g0:DataW.trod enc Tryz.prog W 0 spare held n 9 ((cs.drop 0).take (Tryz.prog.cellsOf 9))=xs[0]? :=hf 0 _ rfl
 rw[show Tryz.prog.cellsOf 9=1 by kernel_rfl,List.getElem?_eq_getElem (by rw[hxl];decide)] at g0
 obtain ⟨d0,h0,q0⟩:=(Qps Tryz.underlying9) H enc spare held n _ _ g0;have g1:DataW.trod enc Tryz.prog W 0 spare held n 3 ((cs.drop 1).take (Tryz.prog.cellsOf 3))=xs[1]? :=hf 1 _ rfl
 rw[show Tryz.prog.cellsOf 3=1 by kernel_rfl,List.getElem?_eq_getElem (by rw[hxl];decide)] at g1
 obtain ⟨d1,h1,q1⟩:=(Wo Tryz.underlying3) H enc spare held n _ _ g1;have g2:DataW.trod enc Tryz.prog W 0 spare held n 59 ((cs.drop 2).take (Tryz.prog.cellsOf 59))=xs[2]? :=hf 2 _ rfl
 rw[show Tryz.prog.cellsOf 59=2 by kernel_rfl,List.getElem?_eq_getElem (by rw[hxl];decide)] at g2
 obtain ⟨d2,h2,q2⟩:=QeA H enc spare held n _ _ g2;have g3:DataW.trod enc Tryz.prog W 0 spare held n 3 ((cs.drop 4).take (Tryz.prog.cellsOf 3))=xs[3]? :=hf 3 _ rfl
 rw[show Tryz.prog.cellsOf 3=1 by kernel_rfl,List.getElem?_eq_getElem (by rw[hxl];decide)] at g3
 obtain ⟨d3,h3,q3⟩:=(Wo Tryz.underlying3) H enc spare held n _ _ g3;have g4:DataW.trod enc Tryz.prog W 0 spare held n 3 ((cs.drop 5).take (Tryz.prog.cellsOf 3))=xs[4]? :=hf 4 _ rfl
 rw[show Tryz.prog.cellsOf 3=1 by kernel_rfl,List.getElem?_eq_getElem (by rw[hxl];decide)] at g4
 obtain ⟨d4,h4,q4⟩:=(Wo Tryz.underlying3) H enc spare held n _ _ g4;have e0:cs.drop 0=(cs.drop 0).take 1++cs.drop 1:=JW rfl;have e1:cs.drop 1=(cs.drop 1).take 1++cs.drop 2:=JW rfl;have e2:cs.drop 2=(cs.drop 2).take 2++cs.drop 4:=JW rfl;have e3:cs.drop 4=(cs.drop 4).take 1++cs.drop 5:=JW rfl;have e4:cs.drop 5=(cs.drop 5).take 1++cs.drop 6:=JW rfl;have en:cs.drop 6=[]:=List.drop_of_length_le (by omega);have hcs:cs.drop 0=_:=e0
 rw[e1,e2,e3,e4,en,show (cs.drop 0).take 1=_ from h0,show (cs.drop 1).take 1=_ from h1,show (cs.drop 2).take 2=_ from h2,show (cs.drop 4).take 1=_ from h3,show (cs.drop 5).take 1=_ from h4] at hcs
 exact ⟨⟨d0,d1,d2,d3,d4⟩,hcs,q0,q1,q2,q3,q4⟩
theorem Qih {W:World}:Opn Tryz.prog W 63 QA Qff:=by
 intro H enc spare held fuel cs x h;obtain ⟨xs,n,_,_,hlen,hxl,hf⟩:=DataW.trod_struct Tryz.underlying63 h
 rw[show Tryz.prog.cellsOf 63=7 by kernel_rfl] at hlen
 have g0:DataW.trod enc Tryz.prog W 0 spare held n 3 ((cs.drop 0).take (Tryz.prog.cellsOf 3))=xs[0]? :=hf 0 _ rfl
 rw[show Tryz.prog.cellsOf 3=1 by kernel_rfl,List.getElem?_eq_getElem (by rw[hxl];decide)] at g0
 obtain ⟨d0,h0,q0⟩:=(Wo Tryz.underlying3) H enc spare held n _ _ g0;have g1:DataW.trod enc Tryz.prog W 0 spare held n 3 ((cs.drop 1).take (Tryz.prog.cellsOf 3))=xs[1]? :=hf 1 _ rfl
 rw[show Tryz.prog.cellsOf 3=1 by kernel_rfl,List.getElem?_eq_getElem (by rw[hxl];decide)] at g1
 obtain ⟨d1,h1,q1⟩:=(Wo Tryz.underlying3) H enc spare held n _ _ g1;have g2:DataW.trod enc Tryz.prog W 0 spare held n 3 ((cs.drop 2).take (Tryz.prog.cellsOf 3))=xs[2]? :=hf 2 _ rfl
 rw[show Tryz.prog.cellsOf 3=1 by kernel_rfl,List.getElem?_eq_getElem (by rw[hxl];decide)] at g2
 obtain ⟨d2,h2,q2⟩:=(Wo Tryz.underlying3) H enc spare held n _ _ g2;have g3:DataW.trod enc Tryz.prog W 0 spare held n 3 ((cs.drop 3).take (Tryz.prog.cellsOf 3))=xs[3]? :=hf 3 _ rfl
 rw[show Tryz.prog.cellsOf 3=1 by kernel_rfl,List.getElem?_eq_getElem (by rw[hxl];decide)] at g3
 obtain ⟨d3,h3,q3⟩:=(Wo Tryz.underlying3) H enc spare held n _ _ g3;have g4:DataW.trod enc Tryz.prog W 0 spare held n 59 ((cs.drop 4).take (Tryz.prog.cellsOf 59))=xs[4]? :=hf 4 _ rfl
 rw[show Tryz.prog.cellsOf 59=2 by kernel_rfl,List.getElem?_eq_getElem (by rw[hxl];decide)] at g4
 obtain ⟨d4,h4,q4⟩:=QeA H enc spare held n _ _ g4;have g5:DataW.trod enc Tryz.prog W 0 spare held n 3 ((cs.drop 6).take (Tryz.prog.cellsOf 3))=xs[5]? :=hf 5 _ rfl
 rw[show Tryz.prog.cellsOf 3=1 by kernel_rfl,List.getElem?_eq_getElem (by rw[hxl];decide)] at g5
 obtain ⟨d5,h5,q5⟩:=(Wo Tryz.underlying3) H enc spare held n _ _ g5;have e0:cs.drop 0=(cs.drop 0).take 1++cs.drop 1:=JW rfl;have e1:cs.drop 1=(cs.drop 1).take 1++cs.drop 2:=JW rfl;have e2:cs.drop 2=(cs.drop 2).take 1++cs.drop 3:=JW rfl;have e3:cs.drop 3=(cs.drop 3).take 1++cs.drop 4:=JW rfl;have e4:cs.drop 4=(cs.drop 4).take 2++cs.drop 6:=JW rfl;have e5:cs.drop 6=(cs.drop 6).take 1++cs.drop 7:=JW rfl;have en:cs.drop 7=[]:=List.drop_of_length_le (by omega);have hcs:cs.drop 0=_:=e0
 rw[e1,e2,e3,e4,e5,en,show (cs.drop 0).take 1=_ from h0,show (cs.drop 1).take 1=_ from h1,show (cs.drop 2).take 1=_ from h2,show (cs.drop 3).take 1=_ from h3,show (cs.drop 4).take 2=_ from h4,show (cs.drop 6).take 1=_ from h5] at hcs
 exact ⟨⟨d0,d1,d2,d3,d4,d5⟩,hcs,q0,q1,q2,q3,q4,q5⟩
theorem Qhf {W:World}:Opn Tryz.prog W 28 QiR QeQ:=by
 intro H enc spare held fuel cs x h;obtain ⟨xs,n,_,_,hlen,hxl,hf⟩:=DataW.trod_struct Tryz.underlying28 h
 rw[show Tryz.prog.cellsOf 28=6 by kernel_rfl] at hlen
 have g0:DataW.trod enc Tryz.prog W 0 spare held n 24 ((cs.drop 0).take (Tryz.prog.cellsOf 24))=xs[0]? :=hf 0 _ rfl
 rw[show Tryz.prog.cellsOf 24=2 by kernel_rfl,List.getElem?_eq_getElem (by rw[hxl];decide)] at g0
 obtain ⟨d0,h0,q0⟩:=Qj2 H enc spare held n _ _ g0;have g1:DataW.trod enc Tryz.prog W 0 spare held n 25 ((cs.drop 2).take (Tryz.prog.cellsOf 25))=xs[1]? :=hf 1 _ rfl
 rw[show Tryz.prog.cellsOf 25=1 by kernel_rfl,List.getElem?_eq_getElem (by rw[hxl];decide)] at g1
 obtain ⟨d1,h1,q1⟩:=(Qce Tryz.underlying25 (by kernel_rfl) Qhg) H enc spare held n _ _ g1;have g2:DataW.trod enc Tryz.prog W 0 spare held n 26 ((cs.drop 3).take (Tryz.prog.cellsOf 26))=xs[2]? :=hf 2 _ rfl
 rw[show Tryz.prog.cellsOf 26=1 by kernel_rfl,List.getElem?_eq_getElem (by rw[hxl];decide)] at g2
 obtain ⟨d2,h2,q2⟩:=(Qce Tryz.underlying26 (by kernel_rfl) Qih) H enc spare held n _ _ g2;have g3:DataW.trod enc Tryz.prog W 0 spare held n 3 ((cs.drop 4).take (Tryz.prog.cellsOf 3))=xs[3]? :=hf 3 _ rfl
 rw[show Tryz.prog.cellsOf 3=1 by kernel_rfl,List.getElem?_eq_getElem (by rw[hxl];decide)] at g3
 obtain ⟨d3,h3,q3⟩:=(Wo Tryz.underlying3) H enc spare held n _ _ g3;have g4:DataW.trod enc Tryz.prog W 0 spare held n 3 ((cs.drop 5).take (Tryz.prog.cellsOf 3))=xs[4]? :=hf 4 _ rfl
 rw[show Tryz.prog.cellsOf 3=1 by kernel_rfl,List.getElem?_eq_getElem (by rw[hxl];decide)] at g4
 obtain ⟨d4,h4,q4⟩:=(Wo Tryz.underlying3) H enc spare held n _ _ g4;have e0:cs.drop 0=(cs.drop 0).take 2++cs.drop 2:=JW rfl;have e1:cs.drop 2=(cs.drop 2).take 1++cs.drop 3:=JW rfl;have e2:cs.drop 3=(cs.drop 3).take 1++cs.drop 4:=JW rfl;have e3:cs.drop 4=(cs.drop 4).take 1++cs.drop 5:=JW rfl;have e4:cs.drop 5=(cs.drop 5).take 1++cs.drop 6:=JW rfl;have en:cs.drop 6=[]:=List.drop_of_length_le (by omega);obtain ⟨A0,c0,h0,hl0,ha0⟩:=h0;obtain ⟨A1,c1,h1,hl1,hm1,ha1⟩:=h1;obtain ⟨A2,c2,h2,hl2,hm2,ha2⟩:=h2;have hcs:cs.drop 0=_:=e0
 rw[e1,e2,e3,e4,en,show (cs.drop 0).take 2=_ from h0,show (cs.drop 2).take 1=_ from h1,show (cs.drop 3).take 1=_ from h2,show (cs.drop 4).take 1=_ from h3,show (cs.drop 5).take 1=_ from h4] at hcs
 exact ⟨⟨d0,d1,d2,d3,d4⟩,⟨A0,c0,A1,c1,A2,c2,hcs,hl0,ha0,⟨hl1,hm1⟩,ha1,⟨hl2,hm2⟩,ha2⟩,q0,q1,q2,q3,q4⟩
theorem Qj3 {W:World}:Opn Tryz.prog W 51 Qs Qg5:=by
 intro H enc spare held fuel cs x h;obtain ⟨xs,n,_,_,hlen,hxl,hf⟩:=DataW.trod_struct Tryz.underlying51 h
 rw[show Tryz.prog.cellsOf 51=2 by kernel_rfl] at hlen
 have g0:DataW.trod enc Tryz.prog W 0 spare held n 3 ((cs.drop 0).take (Tryz.prog.cellsOf 3))=xs[0]? :=hf 0 _ rfl
 rw[show Tryz.prog.cellsOf 3=1 by kernel_rfl,List.getElem?_eq_getElem (by rw[hxl];decide)] at g0
 obtain ⟨d0,h0,q0⟩:=(Wo Tryz.underlying3) H enc spare held n _ _ g0;have g1:DataW.trod enc Tryz.prog W 0 spare held n 31 ((cs.drop 1).take (Tryz.prog.cellsOf 31))=xs[1]? :=hf 1 _ rfl
 rw[show Tryz.prog.cellsOf 31=1 by kernel_rfl,List.getElem?_eq_getElem (by rw[hxl];decide)] at g1
 obtain ⟨d1,h1,q1⟩:=(Qce Tryz.underlying31 (by kernel_rfl) (Wo Tryz.underlying3)) H enc spare held n _ _ g1;have e0:cs.drop 0=(cs.drop 0).take 1++cs.drop 1:=JW rfl;have e1:cs.drop 1=(cs.drop 1).take 1++cs.drop 2:=JW rfl;have en:cs.drop 2=[]:=List.drop_of_length_le (by omega);obtain ⟨A0,c0,h1,hl0,hm0,ha0⟩:=h1;have hcs:cs.drop 0=_:=e0
 rw[e1,en,show (cs.drop 0).take 1=_ from h0,show (cs.drop 1).take 1=_ from h1] at hcs
 exact ⟨⟨d0,d1⟩,⟨A0,c0,hcs,⟨hl0,hm0⟩,ha0⟩,q0,q1⟩
theorem Qj1 {W:World}:Opn Tryz.prog W 33 Zc Qg3:=by
 intro H enc spare held fuel cs x h;obtain ⟨xs,n,_,_,hlen,hxl,hf⟩:=DataW.trod_struct Tryz.underlying33 h
 rw[show Tryz.prog.cellsOf 33=2 by kernel_rfl] at hlen
 have g0:DataW.trod enc Tryz.prog W 0 spare held n 30 ((cs.drop 0).take (Tryz.prog.cellsOf 30))=xs[0]? :=hf 0 _ rfl
 rw[show Tryz.prog.cellsOf 30=1 by kernel_rfl,List.getElem?_eq_getElem (by rw[hxl];decide)] at g0
 obtain ⟨d0,h0,q0⟩:=(Qce Tryz.underlying30 (by kernel_rfl) Qj3) H enc spare held n _ _ g0;have g1:DataW.trod enc Tryz.prog W 0 spare held n 31 ((cs.drop 1).take (Tryz.prog.cellsOf 31))=xs[1]? :=hf 1 _ rfl
 rw[show Tryz.prog.cellsOf 31=1 by kernel_rfl,List.getElem?_eq_getElem (by rw[hxl];decide)] at g1
 obtain ⟨d1,h1,q1⟩:=(Qce Tryz.underlying31 (by kernel_rfl) (Wo Tryz.underlying3)) H enc spare held n _ _ g1;have e0:cs.drop 0=(cs.drop 0).take 1++cs.drop 1:=JW rfl;have e1:cs.drop 1=(cs.drop 1).take 1++cs.drop 2:=JW rfl;have en:cs.drop 2=[]:=List.drop_of_length_le (by omega);obtain ⟨A0,c0,h0,hl0,hm0,ha0⟩:=h0;obtain ⟨A1,c1,h1,hl1,hm1,ha1⟩:=h1;have hcs:cs.drop 0=_:=e0
 rw[e1,en,show (cs.drop 0).take 1=_ from h0,show (cs.drop 1).take 1=_ from h1] at hcs
 exact ⟨⟨d0,d1⟩,⟨A0,c0,A1,c1,hcs,⟨hl0,hm0⟩,ha0,⟨hl1,hm1⟩,ha1⟩,q0,q1⟩
set_option maxRecDepth 100000 in
theorem Qee (os:Os) (started:os.Started) (H:Type) (enc:TypeId×Value→H) :
  ReturnsInHanded {} Tryz.checked os 4 .any (Rows.dispatchMovesSpec.pre6 enc Tryz.prog Tryz.f4 Rows.dispatchMovesRow.domain false) (Rows.dispatchMovesSpec.post enc Tryz.prog Tryz.f4 false true false false):=by
 refine returnsInHanded_of_change (C:=Tryz.checked) Qrp started (by kernel_rfl) Tryz.func4
  (ChangeSpec.witness6 (enc:=enc) (C:=Tryz.checked) false ⟨#[], #[((Go.Value.agg #[(Go.Value.int Go.IntKind.i64 0),(Go.Value.slice none 0 0),(Go.Value.slice none 0 0),(Go.Value.slice none 0 0),(Go.Value.int Go.IntKind.i64 0),(Go.Value.int Go.IntKind.i64 0)])),((Go.Value.agg #[(Go.Value.slice none 0 0),(Go.Value.slice none 0 0)]))],[]⟩ 8 (by kernel_rfl) (by kernel_rfl) (by kernel_rfl) (by kernel_rfl)) ?_
 intro W base args ds gs before hval0 hW hcnd _;have hval: ∀(j:Nat) t v,Tryz.f4.params[j]? =some t→args[j]? =some v→Value.okWide Tryz.prog W .any base t v:=hval0;have hW':=hW;obtain ⟨p,q,hA0,hV,rfl,hfz,hnd⟩:=hW;have hA:DataW.TrodAll enc Tryz.prog W 0 (fun _=>true) true Tryz.f4.params.toList args.toList ds p:=hA0
 rw[Tryz.params4] at hA hval
 obtain ⟨rfl,rfl⟩:=trodVars_none hV
 clear hA0 hval0
 obtain ⟨v0,v1,d0,d1,p0,p1,rfl,rfl,rfl,a0,a1⟩:=trodAll_two hA;obtain ⟨cs0,rfl,_⟩:=okWide_struct Tryz.underlying28 (hval 0 28 v0 rfl rfl);obtain ⟨fu0,ht0⟩:=a0;obtain ⟨x0,hr0,q0⟩:=Qhf (W:=W) H enc _ _ fu0 _ _ ht0;obtain ⟨A0_0,c0_0,A0_1,c0_1,A0_2,c0_2,hcs0,hl0_0,ha0_0,hl0_1,ha0_1,hl0_2,ha0_2⟩:=hr0;obtain rfl:=Qjy hcs0;obtain ⟨cs1,rfl,_⟩:=okWide_struct Tryz.underlying33 (hval 1 33 v1 rfl rfl);obtain ⟨fu1,ht1⟩:=a1;obtain ⟨x1,hr1,q1⟩:=Qj1 (W:=W) H enc _ _ fu1 _ _ ht1;obtain ⟨A1_0,c1_0,A1_1,c1_1,hcs1,hl1_0,ha1_0,hl1_1,ha1_1⟩:=hr1;obtain rfl:=Qjy hcs1;obtain ⟨F,hF⟩:=QaY x0 x1 q0 q1;refine (Qks (v:= .bool true) Tryz.func4 rfl (args:=[_,_]) (Qbo hl0_0 ha0_0 hl0_1 ha0_1 hl0_2 ha0_2 hl1_0 ha1_0 hl1_1 ha1_1 hF (fun _ _=>rfl))).mono fun e W' ⟨he,hw⟩=> ?_;exact ⟨_,he,Qnu (tb:=4) hW' rfl rfl Tryz.underlying4 rfl rfl rfl Qoh (by decide +kernel) hw⟩
theorem dispatchMoves_holds:Rows.DispatchMovesSaid :=
 OpenClaim.holds_of_wide 4 Tryz.f4 rfl rfl rfl rfl rfl rfl rfl ⟨rfl,rfl,rfl,rfl,rfl⟩ rfl rfl rfl rfl rfl (by kernel_rfl) Tryz.func4 (by kernel_rfl)
  (of_decide_eq_true (by kernel_rfl)) (by unfold Func.isWrapper;first | (rw[if_pos (by decide +kernel)];kernel_rfl) | (rw[if_neg (by decide +kernel)];exact ⟨rfl,rfl⟩))
  (fun os started H enc _=>Qee os started H enc)
end Go.Proofs.YthpgjbbjpfiniaaGreat
