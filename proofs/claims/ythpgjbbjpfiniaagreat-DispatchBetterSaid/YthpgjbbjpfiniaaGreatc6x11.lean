/- DispatchBetter: for every input the given law returns true, and its arguments read as before. No condition. -/
import Derived.Test.YthpgjbbjpfiniaaGreatc6x10
import Derived.Test.YthpgjbbjpfiniaaGreatc6x2
namespace Go.Proofs.YthpgjbbjpfiniaaGreat
set_option linter.unusedSimpArgs false
set_option linter.unusedVariables false
set_option maxHeartbeats 1000000
section
variable {α:Type} {k:α→Int} {cmp:α→α→Option Int} {Pv:α→Prop}
def Blk (k:α→Int) (s:Nat) (l:List α):Prop:= ∀i,Srt k ((l.drop (i*s)).take s)
theorem Blk.nil (s:Nat):Blk k s []:=fun i=>by simp[Srt]
theorem Blk.append {s q:Nat} {D M:List α} (h:Blk k s D) (hd:D.length=q*s) (hm:Srt k M) (hl:M.length≤s):Blk k s (D++M):=fun i=>by
 by_cases hi:i<q
 ·have h1:i*s+s≤q*s:=by rw[←Nat.succ_mul];exact Nat.mul_le_mul_right s hi
  rw[List.drop_append_of_le_length (by omega),List.take_append_of_le_length (by simp;omega)]
  exact h i
 ·have h1:q*s≤i*s:=Nat.mul_le_mul_right s (by omega);have:(D++M).drop (i*s)=M.drop (i*s-D.length):=by rw[List.drop_append,List.drop_eq_nil_of_le (by omega),List.nil_append]
  rw[this]
  exact QhY (QhX hm _) _
theorem Blk.drop {s:Nat} {R:List α} (h:Blk k s R) (j:Nat):Blk k s (R.drop (j*s)):=fun i=>by
 rw[List.drop_drop,←Nat.add_mul]
 exact h _
theorem Blk.all {s:Nat} {R:List α} (h:Blk k s R) (hl:R.length≤s):Srt k R:=by
 have:=h 0
 rwa [Nat.zero_mul,List.drop_zero,List.take_of_length_le hl] at this
theorem Yz.mem {l l':List α} (h:Yz k l l') (hp: ∀z∈l,Pv z): ∀z∈l',Pv z:=fun z hz=>hp z (h.perm.symm.subset hz)
theorem QnB (hc: ∀x y,Pv x→Pv y→ ∃z,cmp x y=some z∧(z<0↔k x<k y)) {n F:Nat} (hn:n≤100000000) (hF:n+1<F): ∀(r q:Nat) (D R:List α) (f:Nat),R.length<r→r<f→D.length=q*20→D.length+R.length=n→Blk k 20 D→(∀z∈R,Pv z) →
  ∃D' R' q',iter (Ql8 cmp F (n:Int)) f (D++R,(D.length:Int),((D.length+20:Nat):Int))=some (D'++R',(D'.length:Int))∧R'.length<20∧D'.length=q'*20∧D'.length+R'.length=n∧Blk k 20 D'∧(∀z∈R',Pv z)∧Yz k (D++R) (D'++R')
 | _,_,_,_,0,_,h,_,_,_,_=>by omega
 | 0,_,_,_,_,h,_,_,_,_,_=>by omega
 | r+1,q,D,R,f+1,hR,hf,hq,hl,hb,hp=>by
  by_cases h:D.length+20≤n
  ·have h':((D.length+20:Nat):Int)≤(n:Int):=by omega
   have l1:(R.take 20).length=20:=by simp;omega
   obtain ⟨M,m1,m2,m3⟩:=Ql7 (k:=k) (B:=R.drop 20) hc (a:=D.length) (b:=D.length+20) (F:=F) (A:=D) (M:=R.take 20) rfl (by omega) (by omega) (by omega) (fun z hz=>hp z (List.mem_of_mem_take hz));have lM:M.length=20:=by rw[←m3.perm.length_eq];exact l1
   have e0:D++R=D++R.take 20++R.drop 20:=by simp
   have lD:(D++M).length=D.length+20:=by simp;omega
   obtain ⟨D',R',q',k1,k2,k3,k4,k5,k6,k7⟩:=QnB hc hn hF r (q+1) (D++M) (R.drop 20) f (by simp;omega) (by omega) (by omega) (by simp;omega) (hb.append hq m2 (by omega)) (fun z hz=>hp z (List.mem_of_mem_drop hz));refine ⟨D',R',q',?_,k2,k3,k4,k5,k6,Yz.trans ?_ k7⟩
   ·have e1:w64 (((D.length+20:Nat):Int)+20)=(((D++M).length+20:Nat):Int):=by rw[lD];exact Qio (b:=20) (by omega)
    rw[lD] at k1 e1
    rw[e0]
    simp only[iter,Ql8,oun,h',decide_true,cond_true,m1,Option.bind_some,QD,e1,k1]
   ·conv=>lhs;rw[e0]
    exact ((Yz.refl D).append m3).append (Yz.refl _)
  ·have h': ¬((D.length+20:Nat):Int)≤(n:Int):=by omega
   refine ⟨D,R,q,?_,by omega,hq,hl,hb,hp,Yz.refl _⟩
   simp only[iter,Ql8,oun,h',decide_false,cond_false,Option.bind_some,QD]
theorem QnC (hc: ∀x y,Pv x→Pv y→ ∃z,cmp x y=some z∧(z<0↔k x<k y)) {n F s:Nat} (hn:n≤100000000) (hF:2*n+4≤F) (hs:1≤s) (hs2:s≤n): ∀(r q:Nat) (D R:List α) (f:Nat),R.length<r→r<f→D.length=q*(2*s)→D.length+R.length=n→Blk k (2*s) D→Blk k s R→(∀z∈R,Pv z) →
  ∃D' R' q',iter (Qgl cmp F (n:Int) (s:Int)) f (D++R,(D.length:Int),((D.length+2*s:Nat):Int))=some (D'++R',(D'.length:Int))∧R'.length<2*s∧D'.length=q'*(2*s)∧D'.length+R'.length=n∧Blk k (2*s) D'∧Blk k s R'∧(∀z∈R',Pv z)∧Yz k (D++R) (D'++R')
 | _,_,_,_,0,_,h,_,_,_,_,_=>by omega
 | 0,_,_,_,_,h,_,_,_,_,_,_=>by omega
 | r+1,q,D,R,f+1,hR,hf,hq,hl,hb,hb2,hp=>by
  have e2:w64 (2*(s:Int))=((2*s:Nat):Int):=by rw[Yc (by omega) (by omega)];omega
  by_cases h:D.length+2*s≤n
  ·have h':((D.length+2*s:Nat):Int)≤(n:Int):=by omega
   have l1:(R.take s).length=s:=by simp;omega
   have l2:((R.drop s).take s).length=s:=by simp;omega
   have e0:R=R.take s++((R.drop s).take s++R.drop (2*s)):=by
    rw[show 2*s=s+s by omega,←List.drop_drop,List.take_append_drop,List.take_append_drop]
   have s1:Srt k (R.take s):=by have:=hb2 0;rwa [Nat.zero_mul,List.drop_zero] at this
   have s2:Srt k ((R.drop s).take s):=by have:=hb2 1;rwa [Nat.one_mul] at this
   obtain ⟨M,m1,m2,m3⟩:=Qjh (k:=k) hc F D (R.take s) ((R.drop s).take s) (R.drop (2*s)) D.length (D.length+s) (D.length+2*s) rfl (by omega) (by omega) (by omega) (by omega) (by omega) (by simp;omega) (by omega) s1 s2 (fun z hz=>hp z (List.mem_of_mem_take hz)) (fun z hz=>hp z (List.mem_of_mem_drop (List.mem_of_mem_take hz)))
   rw[←e0] at m1
   have lM:M.length=2*s:=by rw[←m3.perm.length_eq];simp;omega
   have lD:(D++M).length=D.length+2*s:=by simp;omega
   obtain ⟨D',R',q',k1,k2,k3,k4,k5,k6,k7,k8⟩:=QnC hc hn hF hs hs2 r (q+1) (D++M) (R.drop (2*s)) f (by simp;omega) (by omega) (by rw[lD,Nat.add_mul q 1 (2*s),Nat.one_mul];omega) (by simp;omega) (hb.append hq m2 (by omega)) (hb2.drop 2) (fun z hz=>hp z (List.mem_of_mem_drop hz));refine ⟨D',R',q',?_,k2,k3,k4,k5,k6,k7,Yz.trans ?_ k8⟩
   ·have e1:w64 (((D.length+2*s:Nat):Int)+((2*s:Nat):Int))=(((D.length+2*s)+2*s:Nat):Int):=Qio (by omega);have e3:w64 ((D.length:Int)+(s:Int))=((D.length+s:Nat):Int):=Qio (by omega)
    rw[lD,List.append_assoc] at k1
    simp only[iter,Qgl,oun,h',decide_true,cond_true,e3,m1,Option.bind_some,QD,e2,e1,k1]
   ·conv=>lhs;rw[e0]
    rw[List.append_assoc,←List.append_assoc (R.take s)]
    exact (Yz.refl D).append (m3.append (Yz.refl _))
  ·have h': ¬((D.length+2*s:Nat):Int)≤(n:Int):=by omega
   refine ⟨D,R,q,?_,by omega,hq,hl,hb,hb2,hp,Yz.refl _⟩
   simp only[iter,Qgl,oun,h',decide_false,cond_false,Option.bind_some,QD]
theorem QnD (hc: ∀x y,Pv x→Pv y→ ∃z,cmp x y=some z∧(z<0↔k x<k y)) {n F:Nat} (hn:n≤100000000) (hF:2*n+4≤F): ∀(r s:Nat) (L:List α) (f:Nat),n<s+r→r<f→1≤s→s≤2*n+20→L.length=n→Blk k s L→(∀z∈L,Pv z) →
  ∃L',iter (Qgm cmp F (n:Int)) f (L,(s:Int))=some L'∧Srt k L'∧Yz k L L'
 | _,_,_,0,_,h,_,_,_,_,_=>by omega
 | r,s,L,f+1,hr,hf,hs,hs2,hl,hb,hp=>by
  by_cases h:s<n
  ·cases r with
   | zero=>omega
   | succ r =>
   have h':(s:Int)<(n:Int):=by omega
   obtain ⟨D,R,q,k1,k2,k3,k4,k5,k6,k7,k8⟩:=QnC (k:=k) hc hn hF hs (by omega) (L.length+1) 0 [] L F (by omega) (by omega) (by simp) (by simpa using hl) (Blk.nil _) hb hp
   simp only[List.nil_append,List.length_nil,Nat.zero_add] at k1 k8
   rw[show ((0:Nat):Int)=0 from rfl] at k1
   have e2:w64 (2*(s:Int))=((2*s:Nat):Int):=by rw[Yc (by omega) (by omega)];omega
   have e3:w64 ((D.length:Int)+(s:Int))=((D.length+s:Nat):Int):=Qio (by omega);have e4:w64 ((s:Int)*2)=((2*s:Nat):Int):=by rw[Yc (by omega) (by omega)];omega
   obtain ⟨M,m1,m2,m3⟩: ∃M,(bif (decide (((D.length+s:Nat):Int)<(n:Int))) then
     Option.bind (Qje cmp F (D++R) D.length ((D.length+s:Nat):Int) n) fun r4=>some r4 else some (D++R))=some (D++M)∧Srt k M∧Yz k R M:=by
    by_cases h2:D.length+s<n
    ·have h2':((D.length+s:Nat):Int)<(n:Int):=by omega
     have e0:R=R.take s++(R.drop s++[]):=by simp
     have s1:Srt k (R.take s):=by have:=k6 0;rwa [Nat.zero_mul,List.drop_zero] at this
     have s2:Srt k (R.drop s):=Blk.all (s:=s) (by have h:=k6.drop 1;rw[Nat.one_mul] at h;exact h) (by simp;omega);obtain ⟨M,m1,m2,m3⟩:=Qjh (k:=k) hc F D (R.take s) (R.drop s) [] D.length (D.length+s) n rfl (by simp;omega) (by simp;omega) (by simp;omega) (by simp;omega) (by omega) (by simp;omega) (by omega) s1 s2 (fun z hz=>k7 z (List.mem_of_mem_take hz)) (fun z hz=>k7 z (List.mem_of_mem_drop hz))
     rw[←e0,List.append_nil] at m1
     refine ⟨M,?_,m2,by rw[List.take_append_drop] at m3;exact m3⟩
     simp only[h2',decide_true,cond_true,m1,Option.bind_some]
    ·have h2': ¬((D.length+s:Nat):Int)<(n:Int):=by omega
     exact ⟨R,by simp only[h2',decide_false,cond_false],k6.all (by omega),Yz.refl _⟩
   have st:Yz k L (D++M):=k8.trans ((Yz.refl D).append m3);have lM:M.length=R.length:=m3.perm.length_eq.symm;obtain ⟨L',j1,j2,j3⟩:=QnD hc hn hF r (2*s) (D++M) f (by omega) (by omega) (by omega) (by omega) (by simp;omega) (k5.append k3 m2 (by omega)) (st.mem hp);refine ⟨L',?_,j2,st.trans j3⟩
   simp only[iter,Qgm,oun,h',decide_true,cond_true,e2,k1,Option.bind_some,e3,m1,QD,e4,j1]
  ·have h': ¬(s:Int)<(n:Int):=by omega
   refine ⟨L,?_,hb.all (by omega),Yz.refl _⟩
   simp only[iter,Qgm,oun,h',decide_false,cond_false,Option.bind_some,QD]
theorem Qka (hc: ∀x y,Pv x→Pv y→ ∃z,cmp x y=some z∧(z<0↔k x<k y)) {F:Nat} {L:List α} (hn:L.length≤100000000) (hF:2*L.length+30≤F) (hp: ∀z∈L,Pv z) :
  ∃L',QiD cmp F L=some L'∧Srt k L'∧Yz k L L':=by
 obtain ⟨D,R,q,k1,k2,k3,k4,k5,k6,k7⟩:=QnB (k:=k) hc (n:=L.length) (F:=F) hn (by omega) (L.length+1) 0 [] L F (by omega) (by omega) (by simp) (by simp) (Blk.nil _) hp
 simp only[List.nil_append,List.length_nil,Nat.zero_add] at k1 k7
 obtain ⟨M,m1,m2,m3⟩:=Ql7 (k:=k) (B:=[]) hc (a:=D.length) (b:=L.length) (F:=F) (A:=D) (M:=R) rfl (by omega) (by omega) (by omega) k6
 rw[List.append_nil,List.append_nil] at m1
 have st:Yz k L (D++M):=k7.trans ((Yz.refl D).append m3);have lM:M.length=R.length:=m3.perm.length_eq.symm;obtain ⟨L',j1,j2,j3⟩:=QnD (k:=k) hc (n:=L.length) (F:=F) hn (by omega) (L.length+1) 20 (D++M) F (by omega) (by omega) (by omega) (by omega) (by simp;omega) (k5.append k3 m2 (by omega)) (st.mem hp);refine ⟨L',?_,j2,st.trans j3⟩;have z1:((0:Nat):Int)=0:=rfl;have z2:((20:Nat):Int)=20:=rfl
 rw[z1,z2] at k1
 rw[z2] at j1
 unfold QiD gSt
 simp only[k1,oun,Option.bind_some,m1,j1]
end
end Go.Proofs.YthpgjbbjpfiniaaGreat
namespace Go.Proofs.YthpgjbbjpfiniaaGreat
open Go.RowKit
set_option linter.unusedSimpArgs false
set_option linter.unusedVariables false
abbrev Op:=Qc
theorem QnY (rec_:List Op→Int→Int→Int→Option (List Op)) (F:Nat) (d:List Op) (a m b:Int):YM rec_ F d a m b=QdQ Ya rec_ F d a m b:=rfl
theorem Qjw: ∀F:Nat,QZ F=Qje Ya F
 | 0=>rfl
 | F+1=>by
  funext d a m b
  show YM (QZ F) F d a m b=QdQ Ya (Qje Ya F) F d a m b
  rw[Qjw F];exact QnY _ _ _ _ _ _
theorem Qp2 (F:Nat) (n s:Int):YX F n s=Qgl Ya F n s:=by
 funext j
 unfold YX Qgl
 rw[Qjw]
theorem Qp3 (F:Nat) (n:Int):YY F n=Qgm Ya F n:=by
 funext j
 unfold YY Qgm
 simp only[Qjw,Qp2]
theorem QnX (F:Nat) (d:List Op):Yk F d=QiD Ya F d:=by
 unfold Yk QiD Zl gSt
 simp only[Qp3]
 rfl
theorem QoX (x y:Op) (hx:0≤x.cost∧x.cost≤1000000000) (hy:0≤y.cost∧y.cost≤1000000000): ∃z,Ya x y=some z∧(z<0↔x.cost<y.cost) :=
 ⟨x.cost-y.cost,by unfold Ya;rw[Yc (by omega) (by omega)],by omega⟩
theorem Qlm {F:Nat} {L:List Op} (hn:L.length≤1000) (hF:40000≤F) (hb: ∀x∈L,0≤x.cost∧x.cost≤1000000000): ∃L',Yk F L=some L'∧Srt Qc.cost L'∧Yz Qc.cost L L':=by
 rw[QnX]
 exact Qka QoX (by omega) (by omega) hb
def Qig (l:List Int):List Int:=if l.getLast? =some (-1) then l else l++[-1]
def Qg6 (s:List Int) (d:Int) (k:Nat) (u:Bool):List Int:=Qig (s.take k++(d::(bif u then [-1] else []))++s.drop k)
def Jc (s:List Int) (d:Int) (i:Nat):List Int:=Qg6 s d (i/2) (decide (i%2=1))
def Qa6 (s:List Int) (d:Int):List (List Int):=(List.range (2*s.length+1)).map (Jc s d)
theorem Qbi {α:Type} {l:List α} {k:Nat} (h:k≤l.length):Wx l (k:Int) ((l.length:Nat):Int)=some (l.drop k):=by
 unfold Wx
 rw[if_pos (by omega)]
 simp
theorem QmL {α:Type} {l:List α} (h:l≠[]) (hn:l.length≤1000000):getI l (w64 (((l.length:Nat):Int)-1))=l.getLast? :=by
 have:0<l.length:=List.length_pos_iff.2 h;have e:w64 (((l.length:Nat):Int)-1)=((l.length-1:Nat):Int):=by rw[Yc (by omega) (by omega)];omega
 rw[e,Qq,List.getLast?_eq_getElem?]
theorem Qnz {l:List Int} (h:l≠[]) (hn:l.length≤10000):(Option.bind (getI l (w64 (((l.length:Nat):Int)-1))) fun x1 =>
  Option.bind (bif (!(decide (x1=(-1)))) then Option.bind (ZH l [(-1)]) fun l6=>some l6 else some l) (fun out1=>some out1))=some (Qig l):=by
 rw[QmL h (by omega),List.getLast?_eq_some_getLast h]
 unfold Qig
 rw[List.getLast?_eq_some_getLast h]
 by_cases hx:l.getLast h= -1
 ·simp[hx]
 ·rw[if_neg (by simpa using hx)]
  simp only[Option.bind_some,hx,decide_false,Bool.not_false,cond_true]
  rw[Yh (by simp;omega)]
  rfl
theorem QiH {s m:List Int} {k:Nat} (hk:k≤s.length) (hs:s.length≤1000) (hm:m≠[]) (hm2:m.length≤2):WB s (k:Int) m=some (Qig (s.take k++m++s.drop k)):=by
 have hm3:0<m.length:=List.length_pos_iff.2 hm;unfold WB
 rw[VJ hk,Qbi hk]
 simp only[Option.bind_some]
 rw[Yh (by simp;omega)]
 simp only[Option.bind_some]
 rw[Yh (by simp;omega)]
 simp only[Option.bind_some]
 rw[Yh (by simp;omega)]
 simp only[Option.bind_some,List.nil_append]
 exact Qnz (by intro h;have:=congrArg List.length h;simp only[List.length_append,List.length_nil] at this;omega) (by simp;omega)
theorem Qi8 {s:List Int} {d:Int} {k:Nat} {u:Bool} (hk:k≤s.length) (hs:s.length≤1000):JP s d (k:Int) u=some (Qg6 s d k u):=by
 unfold JP Qg6
 rw[VJ hk,Qbi hk]
 simp only[Option.bind_some]
 rw[Yh (by simp;omega)]
 simp only[Option.bind_some]
 rw[Yh (by simp;omega)]
 simp only[Option.bind_some,List.nil_append]
 have h1:(bif u then Option.bind (ZH (s.take k++[d]) [(-1)]) fun l4=>some l4 else some (s.take k++[d]))=some (s.take k++(d::(bif u then [-1] else []))):=by
  cases u
  ·simp
  ·rw[cond_true,Yh (by simp;omega)];simp
 have hl:(bif u then [(-1:Int)] else []).length≤1:=by cases u<;>simp
 rw[h1]
 simp only[Option.bind_some]
 rw[Yh (by simp;omega)]
 simp only[Option.bind_some]
 exact Qnz (by simp) (by simp;omega)
def toT (v:Int) (s:List Int):Qa:=⟨v,s⟩
def VV (t:Qa) (d:Int) (j:Nat):List Qa:=((List.range (min j (2*t.Stops.length+1))).map (Jc t.Stops d)).map (toT t.Vehicle)
theorem QeW (t:Qa) (d:Int) (j:Nat):(VV t d j).length=min j (2*t.Stops.length+1):=by simp[VV]
theorem QdO (t:Qa) (d:Int) {j:Nat} (h:j<2*t.Stops.length+1):VV t d (j+1)=VV t d j++[⟨t.Vehicle,Jc t.Stops d j⟩]:=by
 unfold VV
 rw[show min (j+1) (2*t.Stops.length+1)=j+1 by omega,show min j (2*t.Stops.length+1)=j by omega,List.range_succ,List.map_append,List.map_append]
 rfl
theorem Qds {t:Qa} {d:Int} (hs:t.Stops.length≤1000): ∀(r k f:Nat),k+r=t.Stops.length+1→r<f →
  iter (JS t d) f (VV t d (2*k),((t.Stops.length+1:Nat):Int),(k:Int))=some ((Qa6 t.Stops d).map (toT t.Vehicle))
 | _,_,0,_,h=>by omega
 | 0,k,f+1,hk,_=>by
  have h1: ¬((k:Int)<((t.Stops.length+1:Nat):Int)):=by omega
  simp only[iter,JS,oun,h1,decide_false,cond_false,Option.bind_some,QD]
  unfold VV Qa6
  rw[show min (2*k) (2*t.Stops.length+1)=2*t.Stops.length+1 by omega]
 | r+1,k,f+1,hk,hf=>by
  have h1:((k:Int)<((t.Stops.length+1:Nat):Int)):=by omega
  have ih:=Qds (t:=t) (d:=d) hs r (k+1) f (by omega) (by omega);have e1:w64 ((k:Int)+1)=((k+1:Nat):Int):=by rw[Yc (by omega) (by omega)];omega
  have j1:WB t.Stops (k:Int) [d]=some (Jc t.Stops d (2*k)):=by
   rw[QiH (by omega) hs (by simp) (by simp)]
   unfold Jc Qg6
   rw[show 2*k/2=k by omega,show decide (2*k%2=1)=false by simp]
   rfl
  simp only[iter,JS,oun,h1,decide_true,cond_true,j1,Option.bind_some,e1]
  rw[Yh (by rw[QeW];simp;omega),Option.bind_some,←QdO t d (by omega)]
  by_cases h2:k<t.Stops.length
  ·have h2':(k:Int)<((t.Stops.length:Nat):Int):=by omega
   have j2:WB t.Stops (k:Int) [d,-1]=some (Jc t.Stops d (2*k+1)):=by
    rw[QiH (by omega) hs (by simp) (by simp)]
    unfold Jc Qg6
    rw[show (2*k+1)/2=k by omega,show decide ((2*k+1)%2=1)=true by simp]
    rfl
   simp only[h2',decide_true,cond_true,j2,Option.bind_some]
   rw[Yh (by rw[QeW];simp;omega),Option.bind_some,←QdO t d (by omega)]
   simp only[Option.bind_some,QD]
   exact ih
  ·have h2': ¬((k:Int)<((t.Stops.length:Nat):Int)):=by omega
   have e2:VV t d (2*k+1)=VV t d (2*(k+1)):=by
    unfold VV
    rw[show min (2*k+1) (2*t.Stops.length+1)=min (2*(k+1)) (2*t.Stops.length+1) by omega]
   simp only[h2',decide_false,cond_false,Option.bind_some,QD]
   rw[e2]
   exact ih
theorem Qia {F:Nat} {t:Qa} {d:Int} (hs:t.Stops.length≤1000) (hF:40000≤F):W5 F t d=some ((Qa6 t.Stops d).map (toT t.Vehicle)):=by
 have e1:w64 (((t.Stops.length:Nat):Int)+1)=((t.Stops.length+1:Nat):Int):=by rw[Yc (by omega) (by omega)];omega
 have:=Qds (t:=t) (d:=d) hs (t.Stops.length+1) 0 F (by omega) (by omega);have e2:VV t d (2*0)=[]:=by simp[VV]
 rw[e2] at this
 unfold W5
 rw[e1,show (0:Int)=((0:Nat):Int) from rfl,this]
 rfl
end Go.Proofs.YthpgjbbjpfiniaaGreat
namespace Go.Proofs.YthpgjbbjpfiniaaGreat
open Go.RowKit
set_option linter.unusedSimpArgs false
set_option linter.unusedVariables false
abbrev Qbt:Op→Int:=Qc.cost
abbrev Z8:Op→Qa:=Qc.tour
theorem Qgh {p:Pr} (hp:OkP p) (t:Qa):0≤(Yx p t).1∧(Yx p t).1≤262400000:=by
 unfold Yx;cases h:WI p t with
 | inr q=>simp
 | inl u =>
  have:=Vt hp h;exact ⟨this.1,this.2.1⟩
def Qf4 (p:Pr) (t:Qa):Option Op:=if (Yx p t).2=0 then some ⟨t,(Yx p t).1⟩ else none
def QbK (p:Pr) (ts:List Qa):List Op:=ts.filterMap (Qf4 p)
theorem QfV (p:Pr) (ts:List Qa) (t:Qa):QbK p (ts++[t])=QbK p ts++(Qf4 p t).toList:=by
 unfold QbK
 rw[List.filterMap_append]
 cases h:Qf4 p t<;>simp[h]
theorem Qfo (p:Pr) (ts:List Qa):(QbK p ts).length≤ts.length:=List.length_filterMap_le _ _
theorem Qhi {p:Pr} {ts:List Qa} {x:Op} (h:x∈QbK p ts):x.tour∈ts∧(Yx p x.tour).2=0∧x.cost=(Yx p x.tour).1:=by
 obtain ⟨t,h1,h2⟩:=List.mem_filterMap.1 h;unfold Qf4 at h2
 split at h2
 ·injection h2 with h2;subst h2
  exact ⟨h1,by assumption,rfl⟩
 ·cases h2
theorem QmG {p:Pr} (hp:OkP p) {ts:List Qa}: ∀x∈QbK p ts,0≤x.cost∧x.cost≤1000000000:=fun x hx=>by
 have h1:=(Qhi hx).2.2;have h2:=Qgh hp x.tour
 omega
theorem QmV {F:Nat} (hF:40000≤F) {p:Pr} (hp:OkP p) (hc:Ql p=some 0) (hn:p.Road.Edges.length≤600) (L:List Qa) (hl:L.length≤1000) :
  iter (J0 F p L) (((L.length:Nat):Int).toNat+1) ([],0)=some (QbK p L):=by
 have:=YG (body:=J0 F p L) L (fun k=>QbK p (L.take k)) (fun m k=>(m,k)) (fun _ _=>none) (QbK p L) (by omega) (fun k t ht _=> ?_) (fun _=>by simp only[J0,oun,List.take_length];simp) (((L.length:Nat):Int).toNat+1) (by simp)
 ·rw[QP _ _ (fun _ _ _=>rfl)] at this
  exact this
 ·have hk:=Qr ht;have hk2:((k:Int)<(L.length:Nat)):=by omega
  have h1:=Qfo p (L.take k)
  rw[Yi (Nat.le_of_lt hk)] at h1
  simp only[J0,oun,hk2,decide_true,cond_true,Qq,ht,Option.bind_some,QoC hF hp hc hn,ZU]
  rw[Yw ht,QfV]
  unfold Qf4
  by_cases h:(Yx p t).2=0
  ·rw[if_pos h]
   simp only[h,decide_true,cond_true]
   rw[Yh (by simp;omega)]
   rfl
  ·rw[if_neg h]
   simp only[h,decide_false,cond_false,Option.bind_some,Option.toList_none,List.append_nil]
theorem QhM (c:Int): ∀(n:Nat) (Z R:List Op) (f:Nat),Z.length=n→n<f→n≤100000→Srt Qbt Z →
  ∃Z1 Z2,Z=Z1++Z2∧iter (Zz ((Z++R).map Qbt) c) f (n:Int)=some ((Z1.length:Nat):Int)∧(∀z∈Z1,z.cost≤c)∧ ∀z∈Z2,c<z.cost
 | _,_,_,0,_,h,_,_=>by omega
 | 0,Z,R,f+1,hZ,_,_,_=>by
  have:Z=[]:=List.eq_nil_of_length_eq_zero hZ;subst this;exact ⟨[],[],rfl,by simp[iter,Zz,QD],by simp,by simp⟩
 | n+1,Z,R,f+1,hZ,hf,hb,hs=>by
  obtain ⟨Y,y,rfl⟩: ∃Y y,Z=Y++[y]:=by
   have:Z≠[]:=by intro e;rw[e] at hZ;simp at hZ
   exact ⟨Z.dropLast,Z.getLast this,(List.dropLast_concat_getLast this).symm⟩
  have hY:Y.length=n:=by simpa using hZ
  have h0:(0:Int)<((n+1:Nat):Int):=by omega
  have e1:w64 (((n+1:Nat):Int)-1)=(n:Int):=by rw[Yc (by omega) (by omega)];omega
  have g1:((Y++[y]++R).map Qbt)[n]? =some y.cost:=by
   rw[List.getElem?_map,List.append_assoc,List.getElem?_append_right (by omega),hY]
   simp
  have hp:=List.pairwise_append.1 hs
  by_cases h:c<y.cost
  ·obtain ⟨Z1,Z2,k1,k2,k3,k4⟩:=QhM c n Y (y::R) f hY (by omega) (by omega) hp.1;refine ⟨Z1,Z2++[y],by rw[k1];simp,?_,k3,fun z hz=> ?_⟩
   ·have e2:Y++[y]++R=Y++y::R:=by simp
    rw[e2] at g1 ⊢
    simp only[iter,Zz,h0,decide_true,cond_true,e1,Qq,g1,Option.bind_some,h,QD,k2]
   ·rcases List.mem_append.1 hz with hz | hz
    ·exact k4 z hz
    ·rw[List.mem_singleton.1 hz];exact h
  ·refine ⟨Y++[y],[],by simp,?_,fun z hz=> ?_,by simp⟩
   ·simp only[iter,Zz,h0,decide_true,cond_true,e1,Qq,g1,Option.bind_some,h,decide_false,cond_false,QD]
    rw[hZ]
   ·rcases List.mem_append.1 hz with hz | hz
    ·have:=hp.2.2 z hz y (by simp)
     simp only[Qbt] at this
     omega
    ·rw[List.mem_singleton.1 hz];omega
theorem QoR (f:Op→Int) (g:Op→Qa) (Z1 Z2:List Op) (x:Op) (hl:(Z1++Z2).length≤100000):(Option.bind (Wx ((Z1++Z2).map g) 0 ((Z1.length:Nat):Int)) fun l1 =>
      Option.bind (ZH [] l1) fun l2 =>
      Option.bind (ZH l2 [g x]) fun l3 =>
      Option.bind (Wx ((Z1++Z2).map g) ((Z1.length:Nat):Int) ((((Z1++Z2).map g).length:Nat):Int)) fun l4 =>
      Option.bind (ZH l3 l4) fun l5 =>
      Option.bind (Wx ((Z1++Z2).map f) 0 ((Z1.length:Nat):Int)) fun l6 =>
      Option.bind (ZH [] l6) fun l7 =>
      Option.bind (ZH l7 [f x]) fun l8 =>
      Option.bind (Wx ((Z1++Z2).map f) ((Z1.length:Nat):Int) ((((Z1++Z2).map f).length:Nat):Int)) fun l9 =>
      Option.bind (ZH l8 l9) fun l10 =>
      some (l5,l10))=some ((Z1++x::Z2).map g,(Z1++x::Z2).map f):=by
 simp only[List.length_append] at hl
 rw[VJ (by simp),Qbi (by simp),VJ (by simp),Qbi (by simp)]
 simp only[Option.bind_some]
 rw[Yh (by simp;omega)]
 simp only[Option.bind_some]
 rw[Yh (by simp;omega)]
 simp only[Option.bind_some]
 rw[Yh (by simp;omega)]
 simp only[Option.bind_some]
 rw[Yh (by simp;omega)]
 simp only[Option.bind_some]
 rw[Yh (by simp;omega)]
 simp only[Option.bind_some]
 rw[Yh (by simp;omega)]
 simp[List.map_append]
theorem QhQ {F:Nat} (hF:40000≤F) {p:Pr} (hp:OkP p) (hc:Ql p=some 0) {t:Qa} {d:Int} (hs:t.Stops.length≤1000): ∀(r i:Nat) (L:List Op) (f:Nat),i+r=2*t.Stops.length+1→r<f→Srt Qbt L→Yz Qbt (QbK p (VV t d i)) L →
  ∃L',iter (ZA F p t d) f (L.map Z8,L.map Qbt,(i:Int))=some (L'.map Z8)∧Srt Qbt L'∧Yz Qbt (QbK p ((Qa6 t.Stops d).map (toT t.Vehicle))) L'
 | _,_,_,0,_,h,_,_=>by omega
 | 0,i,L,f+1,hi,_,h1,h2=>by
  have e1:w64 (2*((t.Stops.length:Nat):Int))=((2*t.Stops.length:Nat):Int):=by rw[Yc (by omega) (by omega)];omega
  have: ¬((i:Int)≤((2*t.Stops.length:Nat):Int)):=by omega
  refine ⟨L,?_,h1,?_⟩
  ·simp only[iter,ZA,oun,e1,this,decide_false,cond_false,Option.bind_some,QD]
  ·have e2:VV t d i=(Qa6 t.Stops d).map (toT t.Vehicle):=by
    unfold VV Qa6
    rw[show min i (2*t.Stops.length+1)=2*t.Stops.length+1 by omega]
   rw[←e2];exact h2
 | r+1,i,L,f+1,hi,hf,h1,h2=>by
  have e1:w64 (2*((t.Stops.length:Nat):Int))=((2*t.Stops.length:Nat):Int):=by rw[Yc (by omega) (by omega)];omega
  have hlt:((i:Int)≤((2*t.Stops.length:Nat):Int)):=by omega
  have e2:w64 ((i:Int)+1)=((i+1:Nat):Int):=by rw[Yc (by omega) (by omega)];omega
  have e3:w64 (Int.tdiv (i:Int) 2)=((i/2:Nat):Int):=by
   rw[show Int.tdiv (i:Int) 2=((i/2:Nat):Int) from rfl,Yc (by omega) (by omega)]
  have e4:(decide (Int.tmod (i:Int) 2=1))=decide (i%2=1):=by
   rw[show Int.tmod (i:Int) 2=((i%2:Nat):Int) from rfl]
   congr 1
   exact propext (by omega)
  have hcand:JP t.Stops d ((i/2:Nat):Int) (decide (i%2=1))=some (Jc t.Stops d i):=Qi8 (by omega) hs;have hcost:=Qea hp hc ⟨t.Vehicle,Jc t.Stops d i⟩;have hfs:=QdO t d (j:=i) (by omega);have hlen:L.length≤2001:=by
   rw[←h2.perm.length_eq]
   refine Nat.le_trans (Qfo _ _) ?_
   rw[QeW];omega
  by_cases h:(Yx p ⟨t.Vehicle,Jc t.Stops d i⟩).2=0
  ·have hop:Qf4 p ⟨t.Vehicle,Jc t.Stops d i⟩=some ⟨⟨t.Vehicle,Jc t.Stops d i⟩,(Yx p ⟨t.Vehicle,Jc t.Stops d i⟩).1⟩:=by unfold Qf4;rw[if_pos h]
   generalize hx:(⟨⟨t.Vehicle,Jc t.Stops d i⟩,(Yx p ⟨t.Vehicle,Jc t.Stops d i⟩).1⟩:Op)=x at hop
   obtain ⟨Z1,Z2,k1,k2,k3,k4⟩:=QhM (Yx p ⟨t.Vehicle,Jc t.Stops d i⟩).1 L.length L [] F rfl (by omega) (by omega) h1;have hxc:x.cost=(Yx p ⟨t.Vehicle,Jc t.Stops d i⟩).1:=by rw[←hx]
   rw[List.append_nil] at k2
   obtain ⟨j1,j2⟩:=Qfs (k:=Qbt) (x:=x) (by rw[←k1];exact h1) (fun z hz=>by have:=k4 z hz;simp only[Qbt];omega) (fun z hz=>by have:=k3 z hz;simp only[Qbt];omega)
   rw[←k1] at j2
   have h3:Yz Qbt (QbK p (VV t d (i+1))) (Z1++x::Z2):=by
    rw[hfs,QfV,hop]
    exact Yz.trans (h2.append (Yz.refl _)) j2
   obtain ⟨L',q1,q2,q3⟩:=QhQ hF hp hc hs r (i+1) (Z1++x::Z2) f (by omega) (by omega) j1 h3;refine ⟨L',?_,q2,q3⟩;have hmi:=QoR Qbt Z8 Z1 Z2 x (by rw[←k1];omega)
   rw[←k1] at hmi
   have hx1:Z8 x=⟨t.Vehicle,Jc t.Stops d i⟩:=by rw[←hx]
   have hx2:Qbt x=(Yx p ⟨t.Vehicle,Jc t.Stops d i⟩).1:=hxc
   rw[hx1,hx2] at hmi
   simp only[iter,ZA,oun,e1,hlt,decide_true,cond_true,e3,e4,hcand,Option.bind_some,hcost,h,Bool.not_true,cond_false,List.length_map,k2]
   rw[List.length_map,List.length_map] at hmi
   rw[hmi]
   simp only[Option.bind_some,e2,QD,q1]
  ·have hop:Qf4 p ⟨t.Vehicle,Jc t.Stops d i⟩=none:=by unfold Qf4;rw[if_neg h]
   obtain ⟨L',q1,q2,q3⟩:=QhQ hF hp hc hs r (i+1) L f (by omega) (by omega) h1 (by rw[hfs,QfV,hop];simpa using h2);refine ⟨L',?_,q2,q3⟩
   simp only[iter,ZA,oun,e1,hlt,decide_true,cond_true,e3,e4,hcand,Option.bind_some,hcost,h,decide_false,Bool.not_false,e2,QD,q1]
end Go.Proofs.YthpgjbbjpfiniaaGreat
namespace Go.Proofs.YthpgjbbjpfiniaaGreat
open Go.RowKit
set_option linter.unusedSimpArgs false
set_option linter.unusedVariables false
theorem Qny (l:List Int):l.length≤(Qig l).length:=by unfold Qig;split<;>simp
theorem Qk2 {s:List Int} {d:Int} {i:Nat} (h:i<2*s.length+1):s.length+1≤(Jc s d i).length:=by
 unfold Jc Qg6;refine Nat.le_trans ?_ (Qny _)
 simp;omega
theorem Qhb {p:Pr} {t:Qa} (h:40<t.Stops.length):(Yx p t).2≠0:=by
 unfold Yx WI
 split
 ·rename_i z hz
  split at hz
  ·cases hz
  ·first | rw[if_pos h] at hz | skip
   cases hz
 ·rename_i q hq
  split at hq
  ·injection hq with hq;subst hq;decide
  ·first | rw[if_pos h] at hq | skip
   injection hq with hq;subst hq;decide
theorem QmH {p:Pr} {t:Qa} {d:Int} (h:40≤t.Stops.length):QbK p ((Qa6 t.Stops d).map (toT t.Vehicle))=[]:=by
 unfold QbK
 rw[List.filterMap_eq_nil_iff]
 intro u hu;obtain ⟨s,h1,rfl⟩:=List.mem_map.1 hu;obtain ⟨i,h2,rfl⟩:=List.mem_map.1 h1;have:=Qk2 (s:=t.Stops) (d:=d) (List.mem_range.1 h2);unfold Qf4
 rw[if_neg]
 exact Qhb (by simp only[toT];omega)
structure OkO (p:Pr) (t:Qa) (d:Int) (L:List Op):Prop where
 chk:Ql p=some 0
 ok:OkP p
 v0:0≤t.Vehicle
 v1:t.Vehicle<((p.Vehicles.length:Nat):Int)
 d0:0≤d
 d1:d<((p.Demands.length:Nat):Int)
 new:d∉t.Stops
 srt:Srt Qbt L
 stab:Yz Qbt (QbK p ((Qa6 t.Stops d).map (toT t.Vehicle))) L
theorem Qo1 {t:Qa} {d:Int} (hs:t.Stops.length≤1000):iter (Zy t d) (((t.Stops.length:Nat):Int).toNat+1) 0=some (bif decide (d∈t.Stops) then .inr ([],6) else .inl ()):=by
 have:=YD (body:=Zy t d) t.Stops (fun k y=>bif decide (y=d) then some (.inr ([],6)) else none) (.inl ():Unit⊕(List Qa×Int)) (by omega) (fun k y hy=> ?_) (by simp[Zy]) (((t.Stops.length:Nat):Int).toNat+1) (by simp)
 ·rw[this,QjP]
  have:(t.Stops.any fun y=>decide (y=d))=decide (d∈t.Stops):=by
   rw[Bool.eq_iff_iff]
   simp only[List.any_eq_true,decide_eq_true_eq]
   exact ⟨fun ⟨y,h1,h2⟩=>h2▸h1,fun h=>⟨d,h,rfl⟩⟩
  rw[this]
 ·have hk:=Qr hy;have hk2:((k:Int)<(t.Stops.length:Nat)):=by omega
  simp only[Zy,hk2,decide_true,cond_true,Qq,hy,Option.bind_some]
  cases decide (y=d)<;>rfl
def Qi6 (p:Pr) (t:Qa) (d:Int):Bool:=decide (t.Vehicle<0)||(decide (((p.Vehicles.length:Nat):Int)≤t.Vehicle)||(decide (d<0)||decide (((p.Demands.length:Nat):Int)≤d)))
theorem QaV {F:Nat} (hF:40000≤F) (p:Pr) (hn:p.Road.Edges.length≤600) (t:Qa) (hs:t.Stops.length≤1000) (d:Int) :
  ∃L e,QO F p t d=some (L,e)∧YW F p t d=some (L.map Z8,e)∧((e≠0∧L=[])∨(e=0∧OkO p t d L))∧(Ql p=some 0→Qi6 p t d=false→e=bif decide (d∈t.Stops) then 6 else 0):=by
 unfold QO YW
 rw[Zq (by omega) p hn]
 rcases Qcj p hn with ⟨h1,h2⟩ | ⟨e,h1,h2⟩
 ·rw[h1]
  simp only[Option.bind_some,decide_true,Bool.not_true,cond_false,Y3]
  have hb:(decide (t.Vehicle<0)||(decide (((p.Vehicles.length:Nat):Int)≤t.Vehicle)||(decide (d<0)||decide (((p.Demands.length:Nat):Int)≤d))))=Qi6 p t d:=rfl
  rw[hb]
  cases hbi:Qi6 p t d with
  | true=>exact ⟨[],7,rfl,rfl,.inl ⟨by decide,rfl⟩,fun _ h=>by cases h⟩
  | false =>
   simp only[cond_false,Qcl _ hs,Option.bind_some,Qo1 hs]
   unfold Qi6 at hbi
   simp only[Bool.or_eq_false_iff,decide_eq_false_iff_not] at hbi
   by_cases hd:d∈t.Stops
   ·simp only[hd,decide_true,cond_true,QD]
    exact ⟨[],6,rfl,rfl,.inl ⟨by decide,rfl⟩,fun _ _=>rfl⟩
   ·simp only[hd,decide_false,cond_false,QD]
    obtain ⟨L',q1,q2,q3⟩:=QhQ hF h2 h1 hs (2*t.Stops.length+1) 0 [] F (t:=t) (d:=d) (by omega) (by omega) List.Pairwise.nil (by simp[VV,QbK];exact Yz.refl _)
    simp only[List.map_nil] at q1
    rw[show ((0:Nat):Int)=0 from rfl] at q1
    rw[q1]
    by_cases hl:40≤t.Stops.length
    ·have hl':(40:Int)≤((t.Stops.length:Nat):Int):=by omega
     have:L'=[]:=by rw[QmH hl] at q3;exact (q3.perm.symm.eq_nil)
     subst this;exact ⟨[],0,by simp only[hl',decide_true,cond_true],rfl,.inr ⟨rfl,h1,h2,by omega,by omega,by omega,by omega,hd,q2,q3⟩,fun _ _=>rfl⟩
    ·have hl': ¬(40:Int)≤((t.Stops.length:Nat):Int):=by omega
     have hcl:((Qa6 t.Stops d).map (toT t.Vehicle)).length≤1000:=by simp[Qa6];omega
     obtain ⟨L2,j1,j2,j3⟩:=Qlm (F:=F) (L:=QbK p ((Qa6 t.Stops d).map (toT t.Vehicle))) (Nat.le_trans (Qfo _ _) hcl) hF (QmG h2);have:L2=L':=j2.unique q2 (j3.symm.trans q3);subst this;refine ⟨L2,0,?_,rfl,.inr ⟨rfl,h1,h2,by omega,by omega,by omega,by omega,hd,q2,q3⟩,fun _ _=>rfl⟩
     simp only[hl',decide_false,cond_false,Qia hs hF,Option.bind_some,QmV hF h2 h1 hn _ hcl,j1]
 ·rw[h2]
  simp only[Option.bind_some]
  rw[show decide (e=0)=false by simpa using h1]
  exact ⟨[],e,rfl,rfl,.inl ⟨h1,rfl⟩,fun h=>by injection h with h;exact absurd h h1⟩
theorem Qg0 (L:List Op) (hl:L.length≤10000):iter (JZ L) (((L.length:Nat):Int).toNat+1) ([],0)=some (L.map Z8):=by
 have:=YG (body:=JZ L) L (fun k=>(L.take k).map Z8) (fun m k=>(m,k)) (fun _ _=>none) (L.map Z8) (by omega) (fun k x hx _=> ?_) (fun _=>by simp only[JZ,oun,List.take_length];simp) (((L.length:Nat):Int).toNat+1) (by simp)
 ·rw[QP _ _ (fun _ _ _=>rfl)] at this
  exact this
 ·have hk:=Qr hx;have hk2:((k:Int)<(L.length:Nat)):=by omega
  simp only[JZ,oun,hk2,decide_true,cond_true,Qq,hx,Option.bind_some,ZU]
  rw[Yh (by simp;omega),Yw hx]
  simp
theorem OkO.len {p:Pr} {t:Qa} {d:Int} {L:List Op} (h:OkO p t d L) (hs:t.Stops.length≤1000):L.length≤2001:=by
 rw[←h.stab.perm.length_eq]
 refine Nat.le_trans (Qfo _ _) ?_
 simp[Qa6];omega
theorem QgZ {F:Nat} (hF:40000≤F) (p:Pr) (hn:p.Road.Edges.length≤600) (t:Qa) (hs:t.Stops.length≤1000) (d:Int) :
  Jd F p t d=YW F p t d∧VX F p t d=Y8 F p t d:=by
 obtain ⟨L,e,h1,h2,h3,_⟩:=QaV hF p hn t hs d;have hl:L.length≤2001:=by
  rcases h3 with ⟨_,rfl⟩ | ⟨_,h3⟩
  ·simp
  ·exact h3.len hs
 constructor
 ·unfold Jd
  rw[h1,h2]
  simp only[Option.bind_some,oun,Qg0 L (by omega)]
 ·unfold VX Y8
  rw[h1,h2]
  simp only[Option.bind_some,oun,List.length_map]
  cases decide (e=0) with
  | false=>rfl
  | true =>
   simp only[Bool.not_true,cond_false]
   by_cases h0:L=[]
   ·subst h0;rfl
   ·obtain ⟨x,M,rfl⟩:=List.exists_cons_of_ne_nil h0;have: ¬((((x::M).length:Nat):Int)=0):=by simp;omega
    simp only[this,decide_false,cond_false,List.map_cons]
    rfl
theorem Qd4 {F:Nat} (hF:40000≤F) {p:Pr} (hn:p.Road.Edges.length≤600) {t:Qa} (hs:t.Stops.length≤1000) {d:Int} (hc:Ql p=some 0) (hb:Qi6 p t d=false) (hd:d∉t.Stops) :
  ∃L,QO F p t d=some (L,0)∧OkO p t d L:=by
 obtain ⟨L,e,h1,h2,h3,h4⟩:=QaV hF p hn t hs d;have:=h4 hc hb
 rw[show decide (d∈t.Stops)=false by simpa using hd] at this
 have he:e=0:=this;subst he;rcases h3 with ⟨h,_⟩ | ⟨_,h3⟩
 ·exact absurd rfl h
 ·exact ⟨L,h1,h3⟩
theorem QkS {F:Nat} {p:Pr} {t:Qa} {d e:Int} {L:List Op} (h:QO F p t d=some (L,e)) (hl:L.length≤10000):Jd F p t d=some (L.map Z8,e):=by
 unfold Jd
 rw[h]
 simp only[Option.bind_some,oun,Qg0 L hl]
theorem Qip (a:List Int) (h:a.length≤1000000):Jr a a=some true:=by
 unfold Jr;have:=YD (body:=Jk a a) a (fun _ _=>none) (.inl ():Unit⊕Bool) (by omega) (fun k y hy=> ?_) (by simp[Jk]) (((a.length:Nat):Int).toNat+1) (by simp)
 ·rw[this,QP _ _ (fun _ _ _=>rfl)]
  simp[QD]
 ·have hk:=Qr hy;have hk2:((k:Int)<(a.length:Nat)):=by omega
  simp only[Jk,hk2,decide_true,cond_true,Qq,hy,Option.bind_some,Bool.not_true,cond_false,ZU]
theorem QkV (a:List Qa) (h:a.length≤1000000) (h2: ∀x∈a,x.Stops.length≤1000000):Wg a a=some true:=by
 unfold Wg;have:=YD (body:=Jl a a) a (fun _ _=>none) (.inl ():Unit⊕Bool) (by omega) (fun k y hy=> ?_) (by simp[Jl]) (((a.length:Nat):Int).toNat+1) (by simp)
 ·rw[this,QP _ _ (fun _ _ _=>rfl)]
  simp[QD]
 ·have hk:=Qr hy;have hk2:((k:Int)<(a.length:Nat)):=by omega
  simp only[Jl,hk2,decide_true,cond_true,Qq,hy,Option.bind_some,Bool.not_true,cond_false,ZU,Qip _ (h2 y (List.mem_of_getElem? hy))]
theorem Qla {p:Pr} {ts:List Qa} {x:Op} (h:x∈QbK p ts):x.tour.Stops.length≤40:=by
 rcases Nat.lt_or_ge 40 x.tour.Stops.length with h1 | h1
 ·exact absurd (Qhi h).2.1 (Qhb h1)
 ·exact h1
theorem OkO.stops {p:Pr} {t:Qa} {d:Int} {L:List Op} (h:OkO p t d L): ∀x∈L,x.tour.Stops.length≤40:=fun x hx=>Qla (h.stab.perm.symm.subset hx)
end Go.Proofs.YthpgjbbjpfiniaaGreat
namespace Go.Proofs.YthpgjbbjpfiniaaGreat
open Go.RowKit
set_option linter.unusedSimpArgs false
set_option linter.unusedVariables false
abbrev Pl:=Qg
theorem Qdc {α ρ:Type} (p:α→Bool) (g:α→ρ) (fin:ρ): ∀l:List α,first (fun x=>bif p x then some (g x) else none) fin l=(match l.find? p with | some x=>g x | none=>fin)
 | []=>rfl
 | x::r=>by
  simp only[first,List.find?]
  cases h:p x with
  | true=>rfl
  | false=>exact Qdc p g fin r
def ofP (x:Pl) (v:Int):Qa:=(x.Tours.find? fun t=>decide (t.Vehicle=v)).getD ⟨v,[]⟩
def wo (d:Int) (l:List Int):List Int:=l.filter fun k=> !decide (k=d)
def Qbb (t:Qa):Bool:=t.Stops.any fun s=>decide (0≤s)
theorem QgY {x:Pl} (v:Int) (hx:x.Tours.length≤1000):Qaz x v=some (ofP x v)∧QaY x v=some (ofP x v):=by
 have key: ∀body:Int→Option (Int⊕(Unit⊕Qa)),(∀k,body k=bif decide (k<((x.Tours.length:Nat):Int)) then Option.bind (getI x.Tours k) fun x2=>bif decide (x2.Vehicle=v) then some (.inr (.inr x2)) else some (.inl (w64 (k+1))) else some (.inr (.inl ()))) →
   (Option.bind (iter body (((x.Tours.length:Nat):Int).toNat+1) 0) fun o_=>QD o_ (fun _=>some (Qa.mk v [])) (fun r=>some r))=some (ofP x v):=by
  intro body hb
  rw[Qdh x.Tours (fun t=>bif decide (t.Vehicle=v) then some (Sum.inr t) else none) (Sum.inl ()) (by omega) (fun k t hk=>by
    have h1:((k:Int)<((x.Tours.length:Nat):Int)):=by have:=Qr hk;omega
    rw[hb]
    simp only[h1,decide_true,cond_true,Qq,hk,Option.bind_some]
    cases decide (t.Vehicle=v)<;>rfl) (by rw[hb];simp) _ (by simp),Option.bind_some,Qdc]
  unfold ofP;cases x.Tours.find? fun t=>decide (t.Vehicle=v)<;>rfl
 exact ⟨key _ fun k=>rfl,key _ fun k=>rfl⟩
theorem QiF {p:Int→Bool} {body:Int→Option (Int⊕(Unit⊕Int))} {l:List Int} (hl:l.length≤1000000) (hb: ∀k,body k=bif decide (k<((l.length:Nat):Int)) then Option.bind (getI l k) fun x1=>bif p x1 then some (.inr (.inr k)) else some (.inl (w64 (k+1))) else some (.inr (.inl ()))) :
  (∃k:Nat,k<l.length∧(∀y∈l.take k,p y=false)∧(∀y,l[k]? =some y→p y=true)∧iter body (((l.length:Nat):Int).toNat+1) 0=some (.inr (k:Int))) ∨
  ((∀y∈l,p y=false)∧iter body (((l.length:Nat):Int).toNat+1) 0=some (.inl ())):=by
 rw[YD l (fun k x=>bif p x then some (Sum.inr (k:Int)) else none) (Sum.inl ()) (by omega) (fun k x hk=>by
   have h1:((k:Int)<((l.length:Nat):Int)):=by have:=Qr hk;omega
   rw[hb]
   simp only[h1,decide_true,cond_true,Qq,hk,Option.bind_some]
   cases p x<;>rfl) (by rw[hb];simp) _ (by simp)]
 have key: ∀(m:List Int) (n:Nat),(∃k:Nat,k<m.length∧(∀y∈m.take k,p y=false)∧(∀y,m[k]? =some y→p y=true)∧YA (fun k x=>bif p x then some (Sum.inr (k:Int)) else none) (Sum.inl ():Unit⊕Int) n m= .inr ((n+k:Nat):Int)) ∨
   ((∀y∈m,p y=false)∧YA (fun k x=>bif p x then some (Sum.inr (k:Int)) else none) (Sum.inl ():Unit⊕Int) n m= .inl ()):=by
  intro m
  induction m with
  | nil=>exact fun n=> .inr ⟨by simp,rfl⟩
  | cons x r ih =>
   intro n;cases hp:p x with
   | true=>exact .inl ⟨0,by simp,by simp,fun y hy=>by simp at hy;rw[←hy];exact hp,by simp[YA,hp]⟩
   | false =>
    rcases ih (n+1) with ⟨k,h1,h2,h3,h4⟩ | ⟨h1,h2⟩
    ·refine .inl ⟨k+1,by simp;omega,fun y hy=> ?_,fun y hy=>h3 y (by simpa using hy),?_⟩
     ·simp only[List.take_succ_cons,List.mem_cons] at hy
      rcases hy with rfl | hy
      ·exact hp
      ·exact h2 y hy
     ·simp only[YA,hp,cond_false]
      rw[h4];congr 2;omega
    ·refine .inr ⟨fun y hy=> ?_,?_⟩
     ·rcases List.mem_cons.1 hy with rfl | hy
      ·exact hp
      ·exact h1 y hy
     ·simp only[YA,hp,cond_false];exact h2
 rcases key l 0 with ⟨k,h1,h2,h3,h4⟩ | ⟨h1,h2⟩
 ·exact .inl ⟨k,h1,h2,h3,by rw[h4];simp⟩
 ·exact .inr ⟨h1,by rw[h2]⟩
theorem QmB {p:Int→Bool} {l:List Int} (h: ∀y∈l,p y=false):l.any p=false:=by
 rw[List.any_eq_false]
 exact fun y hy=>by rw[h y hy];simp
theorem QpM {p:Int→Bool} {l:List Int} {k:Nat} (hk:k<l.length) (h: ∀y,l[k]? =some y→p y=true):l.any p=true:=by
 rw[List.any_eq_true]
 exact ⟨l[k],List.getElem_mem hk,h _ (List.getElem?_eq_getElem hk)⟩
theorem Qf6 {t:Qa} (hl:t.Stops.length≤1000000):W0 t=some (Qbb t)∧VO t=some (Qbb t):=by
 constructor
 ·unfold W0 ZO JE;rcases QiF (p:=fun s=>decide (0≤s)) (body:=Wb t.Stops) hl (fun k=>rfl) with ⟨k,h1,h2,h3,h4⟩ | ⟨h1,h2⟩
  ·rw[h4]
   have h5:(0:Int)≤(k:Int):=by omega
   simp only[Option.bind_some,QD,h5,decide_true,Qbb,QpM h1 h3]
  ·rw[h2]
   simp only[Option.bind_some,QD,Qbb,QmB h1]
   rfl
 ·unfold VO
  rw[Qdh t.Stops (fun s=>bif decide (0≤s) then some (Sum.inr true) else none) (Sum.inl ()) (by omega) (fun k s hk=>by
   have h1:((k:Int)<((t.Stops.length:Nat):Int)):=by have:=Qr hk;omega
   simp only[Vb,h1,decide_true,cond_true,Qq,hk,Option.bind_some]
   cases decide (0≤s)<;>rfl) (by simp[Vb]) _ (by simp),Option.bind_some,Qdc]
  unfold Qbb;cases h:t.Stops.find? fun s=>decide (0≤s) with
  | none =>
   rw[List.find?_eq_none] at h
   have:t.Stops.any (fun s=>decide (0≤s))=false:=by rw[List.any_eq_false];exact h
   rw[this];rfl
  | some s =>
   have h1:=List.find?_some h;have h2:=List.mem_of_find?_eq_some h;have:t.Stops.any (fun s=>decide (0≤s))=true:=by rw[List.any_eq_true];exact ⟨s,h2,h1⟩
   rw[this];rfl
theorem Qks {l:List Int} (d:Int) (hl:l.length≤1000000):Vy l d=some (wo d l):=by
 unfold Vy;have:=QiG l (fun (o:List Int) k=>(o,k)) (body:=JB l d) (fun o x=> .inl (if x=d then o else o++[x])) (fun o=>o) (fun o k=>o=wo d (l.take k)) (by omega) (fun k x o hk ho=>by
  have h0:=Qr hk;have h1:((k:Int)<((l.length:Nat):Int)):=by omega
  have hw:wo d (l.take (k+1))=wo d (l.take k)++if x=d then [] else [x]:=by
   rw[Yw hk];unfold wo;rw[List.filter_append]
   by_cases h:x=d<;>simp[h]
  refine ⟨?_,fun o' h=> ?_⟩
  ·simp only[JB,oun,h1,decide_true,cond_true,Qq,hk,Option.bind_some]
   by_cases h:x=d
   ·simp[h]
   ·have hle:o.length≤k:=by rw[ho];exact Nat.le_trans (List.length_filter_le _ _) (by simp;omega)
    simp only[h,decide_false,Bool.not_false,cond_true,if_false]
    rw[Yh (by simp;omega)]
    rfl
  ·injection h with h
   subst h
   rw[hw,ho]
   by_cases h:x=d<;>simp[h]) (fun o ho=>by simp[JB,oun]) (((l.length:Nat):Int).toNat+1) [] rfl (by simp)
 rw[this]
 have key: ∀(m:List Int) (o:List Int),each (fun o x=>(.inl (if x=d then o else o++[x]):List Int⊕List Int)) (fun o=>o) m o=o++wo d m:=by
  intro m
  induction m with
  | nil=>intro o;simp[each,wo]
  | cons x r ih =>
   intro o
   simp only[each]
   rw[ih]
   by_cases h:x=d<;>simp[h,wo]
 rw[key];rfl
theorem QnG {l:List Int} (d:Int) (hl:l.length≤1000000):Vx l d=some (decide (d∈l)):=by
 unfold Vx
 rw[Qdh l (fun s=>bif decide (s=d) then some (Sum.inr true) else none) (Sum.inl ()) (by omega) (fun k s hk=>by
  have h1:((k:Int)<((l.length:Nat):Int)):=by have:=Qr hk;omega
  simp only[VN,h1,decide_true,cond_true,Qq,hk,Option.bind_some]
  cases decide (s=d)<;>rfl) (by simp[VN]) _ (by simp),Option.bind_some,Qdc]
 cases h:l.find? fun s=>decide (s=d) with
 | none =>
  rw[List.find?_eq_none] at h
  have: ¬d∈l:=fun hm=>by have:=h d hm;simp at this
  simp[this,QD]
 | some s =>
  have h1:=List.find?_some h;have h2:=List.mem_of_find?_eq_some h;have h3:s=d:=by simpa using h1
  rw[h3] at h2
  simp[h2,QD]
theorem Qhc {l:List Int} {d:Int} (hl:l.length≤100000): ∀(r j i f:Nat) (s:List Int),j+r=l.length→r<f→i<j→s.length=l.length→s.take i=wo d (l.take j)→s.drop j=l.drop j →
  ∃s',iter (Ys l d) f (s,(i:Int),(j:Int))=some (s',((wo d l).length:Int))∧s'.length=l.length∧s'.take (wo d l).length=wo d l∧(wo d l).length≤l.length
 | 0,j,i,f+1,s,hj,_,hij,hs,ht,hd=>by
  have h1: ¬((j:Int)<((l.length:Nat):Int)):=by omega
  have e:l.take j=l:=List.take_of_length_le (by omega)
  rw[e] at ht
  have hi:(wo d l).length=i:=by rw[←ht];simp;omega
  refine ⟨s,?_,hs,by rw[hi];exact ht,List.length_filter_le _ _⟩
  simp only[iter,Ys,oun,h1,decide_false,cond_false,hi]
  rfl
 | r+1,j,i,f+1,s,hj,hf,hij,hs,ht,hd=>by
  have h1:((j:Int)<((l.length:Nat):Int)):=by omega
  obtain ⟨x,hx⟩: ∃x,l[j]? =some x:=⟨_,List.getElem?_eq_getElem (by omega)⟩
  have hsx:s[j]? =some x:=by
   have e1:s[j]? =(s.drop j)[0]? :=by simp
   rw[e1,hd];simpa using hx
  obtain ⟨y,hy⟩: ∃y,s[i]? =some y:=⟨_,List.getElem?_eq_getElem (by omega)⟩
  have hw:wo d (l.take (j+1))=wo d (l.take j)++if x=d then [] else [x]:=by
   rw[Yw hx];unfold wo;rw[List.filter_append]
   by_cases h:x=d<;>simp[h]
  have e2:w64 ((i:Int)+1)=((i+1:Nat):Int):=J6 (by omega);have e3:w64 ((j:Int)+1)=((j+1:Nat):Int):=J6 (by omega)
  by_cases h:x=d
  ·obtain ⟨s',g1,g2⟩:=Qhc hl r (j+1) i f s (by omega) (by omega) (by omega) hs (by rw[hw];simp[h,ht]) (by rw[←List.drop_drop,hd];simp);refine ⟨s',?_,g2⟩
   rw[←g1]
   simp only[iter,Ys,JL,oun,h1,decide_true,cond_true,Qq,hsx,Option.bind_some,h,Bool.not_true,cond_false,e3]
   rfl
  ·have hlt:i<s.length:=by omega
   obtain ⟨s',g1,g2⟩:=Qhc hl r (j+1) (i+1) f (s.set i x) (by omega) (by omega) (by omega) (by simpa using hs) (by
     rw[hw,if_neg h,←ht]
     rw[List.take_add_one,List.take_set_of_le (Nat.le_refl _)]
     simp[hlt]) (by
     rw[List.drop_set_of_lt (by omega),←List.drop_drop,hd];simp)
   refine ⟨s',?_,g2⟩
   rw[←g1]
   simp only[iter,Ys,JL,oun,h1,decide_true,cond_true,Qq,hsx,hy,Option.bind_some,h,decide_false,Bool.not_false,e2,e3,Yg,Int.toNat_natCast]
   rfl
theorem QfM {d:Int} {l:List Int} (h: ∀y∈l,decide (y=d)=false):wo d l=l:=by
 unfold wo
 rw[List.filter_eq_self]
 exact fun y hy=>by rw[h y hy];rfl
theorem QpR {F:Nat} (hF:40000≤F) {l:List Int} (d:Int) (hl:l.length≤30000):Zp F l d=some (wo d l):=by
 unfold Zp JD;rcases QiF (p:=fun s=>decide (s=d)) (body:=J9 l d) (l:=l) (by omega) (fun k=>rfl) with ⟨k,h1,h2,h3,h4⟩ | ⟨h1,h2⟩
 ·rw[h4]
  have h5: ¬((k:Int)= -1):=by omega
  have hw:wo d (l.take (k+1))=l.take k:=by
   obtain ⟨x,hx⟩: ∃x,l[k]? =some x:=⟨_,List.getElem?_eq_getElem h1⟩
   have hxd:x=d:=by simpa using h3 x hx
   rw[Yw hx]
   have:=QfM h2;unfold wo at this ⊢
   rw[List.filter_append,this];simp[hxd]
  obtain ⟨s',g1,g2,g3,g4⟩:=Qhc (d:=d) (by omega) (l.length-(k+1)) (k+1) k F l (by omega) (by omega) (by omega) rfl hw.symm rfl
  simp only[Option.bind_some,QD,h5,decide_false,cond_false,J6 (show k<9223372036854775807 by omega)]
  rw[g1]
  simp only[Option.bind_some,oun]
  rw[Qbi (by omega)]
  have e1:(QeO s' (((wo d l).length:Nat):Int) 0).take (wo d l).length=wo d l:=by
   unfold QeO
   rw[List.take_append_of_le_length (by simp;omega)]
   simp[g3]
  have e2:Wx (QeO s' (((wo d l).length:Nat):Int) 0) 0 (((wo d l).length:Nat):Int)=some (wo d l):=by
   unfold Wx
   rw[if_pos ⟨by omega,by omega,by rw[Qco];omega⟩]
   simp only[Int.toNat_natCast,Int.toNat_zero,List.drop_zero,e1]
  rw[Option.bind_some,e2];rfl
 ·rw[h2]
  simp only[Option.bind_some,QD,decide_true,cond_true]
  rw[QfM h1]
theorem Qns {α:Type} (l:List α) (hl:l.length≤1000):Qg9 l=some l:=by
 unfold Qg9
 simp
 omega
theorem Qfa {F:Nat} (hF:40000≤F) {l:List Int} (d:Int) (hl:l.length≤1000):JK F l d=some (wo d l):=by
 unfold JK
 rw[Qns l hl,Option.bind_some,QpR hF d (by omega)];rfl
theorem QoK (a b:Int):WZ a b=some (if a<b then -1 else if b<a then 1 else 0):=by
 unfold WZ Qai
 simp only[Option.bind_some,decide_true,Bool.not_true,cond_false]
 by_cases h:a<b
 ·simp[h]
 ·by_cases h2:b<a<;>simp[h,h2]
theorem QqM (a b:Int):Qb5 [a,b]=some (if a=0 then b else a):=by
 unfold Qb5
 rw[Qdh [a,b] (fun x=>bif !decide (x=0) then some (Sum.inr x) else none) (Sum.inl ()) (by simp) (fun k x hk=>by
  have h1:((k:Int)<(([a,b].length:Nat):Int)):=by have:=Qr hk;omega
  simp only[Qbl,h1,decide_true,cond_true,Qq,hk,Option.bind_some]
  cases decide (x=0)<;>rfl) (by simp[Qbl]) _ (by simp),Option.bind_some]
 by_cases ha:a=0
 ·by_cases hb:b=0
  ·simp[first,ha,hb,QD]
  ·simp[first,ha,hb,QD]
 ·simp[first,ha,QD]
def ZN (x:Qb):Int:=((x.plan.Left.length:Nat):Int)*1000000000000+x.cost
def QaM (x:Qb):Prop:=0≤x.cost∧x.cost<1000000000000
theorem Qha {a b:Qb} (ha:QaM a) (hb:QaM b): ∃z,QV a b=some z∧(z<0↔ZN a<ZN b):=by
 unfold QV
 simp only[QoK,Option.bind_some,QqM]
 refine ⟨_,rfl,?_⟩;unfold ZN;obtain ⟨a0,a1⟩:=ha;obtain ⟨b0,b1⟩:=hb
 by_cases h1:((a.plan.Left.length:Nat):Int)<((b.plan.Left.length:Nat):Int)
 ·rw[if_pos h1,if_neg (by decide)];omega
 ·by_cases h2:((b.plan.Left.length:Nat):Int)<((a.plan.Left.length:Nat):Int)
  ·rw[if_neg h1,if_pos h2,if_neg (by decide)];omega
  ·rw[if_neg h1,if_neg h2,if_pos rfl]
   by_cases h3:a.cost<b.cost
   ·rw[if_pos h3];omega
   ·by_cases h4:b.cost<a.cost
    ·rw[if_neg h3,if_pos h4];omega
    ·rw[if_neg h3,if_neg h4];omega
end Go.Proofs.YthpgjbbjpfiniaaGreat
namespace Go.Proofs.YthpgjbbjpfiniaaGreat
open Go.RowKit
set_option linter.unusedSimpArgs false
set_option linter.unusedVariables false
theorem QmP {p:Pr} (hp:OkP p) {a:Int} (ha:0≤a∧a<p.Road.Nodes):Y9 p a a=⟨0,0⟩:=by
 obtain ⟨h1,_⟩:=Qep hp ha;have h2:=h1.best 0 a ⟨0,0⟩ .nil;have h3:=JM hp ha ha;unfold Y9 at h3 ⊢
 generalize lab (QdT p a) a=l at *
 have h4:=h2.2;unfold Lg.le at h4;cases l
 simp only at h2 h3 h4 ⊢
 congr 1<;>omega
theorem QjY {p:Pr} (hp:OkP p) (v:Int):(Yx p ⟨v,[]⟩).1=0:=by
 unfold Yx;cases h:WI p ⟨v,[]⟩ with
 | inr q=>rfl
 | inl u =>
  obtain ⟨z,y,hf,_,e2⟩:=QfH h;have hv:=hp.ve u.2.2 (by
   have:=hf.hv;unfold getI at this
   rw[if_pos hf.t0] at this
   exact List.mem_of_getElem? this)
  have h1:z=(x0 u.2.2,[]):=by
   have:=hf.fol;injection this with this
   exact this.symm
  have h6:y.Node=u.2.2.Depot:=by
   have hom:=hf.hom;unfold QaB at hom
   repeat' split at hom
   all_goals first | (cases hom;done) | (injection hom with hom;subst hom;rfl)
  simp only[e2,h1,List.nil_append,QaF,h6,QmP hp ⟨hv.d0,hv.d1⟩]
  rfl
def VE (h:Op→Option Op):List Op→Nat→Option (Nat×Op×Int)→Option (Nat×Op×Int)
 | [],_,s=>s
 | x::r,k,s=>VE h r (k+1) (match h x with
  | none=>s
  | some y=>match s with
   | none=>some (k,y,w64 (y.cost-x.cost))
   | some z=>if w64 (y.cost-x.cost)<z.2.2 then some (k,y,w64 (y.cost-x.cost)) else s)
def Qhf (s:Option (Nat×Op×Int)):Int×List Int×Int×Int:=match s with
 | none=>(0,[],0,-1)
 | some z=>(z.2.1.tour.Vehicle,z.2.1.tour.Stops,z.2.1.cost,((z.1:Nat):Int))
def QeT (s:Option (Nat×Op×Int)):Int×Int×Int×List Int:=match s with
 | none=>(-1,0,0,[])
 | some z=>(((z.1:Nat):Int),z.2.2,z.2.1.tour.Vehicle,z.2.1.tour.Stops)
def VR (F:Nat) (p:Pr) (d:Int) (x:Op):Option Op:=match QO F p x.tour d with
 | some (y::_,_)=>some y
 | _=>none
def Qpl (F:Nat) (p:Pr) (d:Int) (T:List Op):Prop:= ∀x∈T,x.cost=(Yx p x.tour).1∧ ∃L e,QO F p x.tour d=some (L,e)∧YW F p x.tour d=some (L.map Z8,e)∧((e≠0∧L=[])∨(e=0∧OkO p x.tour d L))
theorem Qd5 {F:Nat} {p:Pr} {T:List Op} {d:Int} (hT:T.length≤1000) (ha:Qpl F p d T): ∀(rest:List Op) (k:Nat) (s:Option (Nat×Op×Int)) (f:Nat),T.drop k=rest→k≤T.length→rest.length<f→(∀z,s=some z→ ∃x,T[z.1]? =some x∧z.2.2=w64 (z.2.1.cost-x.cost)) →
  iter (ZM F p T d) f ((Qhf s).1,(Qhf s).2.1,(Qhf s).2.2.1,(Qhf s).2.2.2,(k:Int))=some (Qhf (VE (VR F p d) rest k s))
 | [],k,s,0,_,_,h,_=>by simp at h
 | _::_,k,s,0,_,_,h,_=>by simp at h
 | [],k,s,f+1,hd,hk,_,_=>by
  have:k=T.length:=by have:=congrArg List.length hd;simp at this;omega
  have h1: ¬((k:Int)<((T.length:Nat):Int)):=by omega
  simp only[iter,ZM,oun,h1,decide_false,cond_false,Option.bind_some,QD,VE]
 | x::rest,k,s,f+1,hd,hk,hf,hs=>by
  have hx:T[k]? =some x:=by
   have:=congrArg List.head? hd
   rwa [List.head?_drop] at this
  have hlt:=Qr hx;have h1:((k:Int)<((T.length:Nat):Int)):=by omega
  have hd2:T.drop (k+1)=rest:=by rw[←List.drop_drop,hd];rfl
  have e1:w64 ((k:Int)+1)=((k+1:Nat):Int):=by rw[Yc (by omega) (by omega)];omega
  obtain ⟨_,L,e,ho,_⟩:=ha x (List.mem_of_getElem? hx);have hh:VR F p d x=L.head? :=by unfold VR;rw[ho];cases L<;>rfl
  rw[VE,hh]
  cases L with
  | nil =>
   have ih:=Qd5 hT ha rest (k+1) s f hd2 (by omega) (by simp at hf;omega) hs
   simp only[iter,ZM,oun,h1,decide_true,cond_true,Qq,hx,Option.bind_some,ho,List.length_nil,e1,QD,List.head?_nil]
   exact ih
  | cons y M =>
   have hl:(0:Int)<(((y::M).length:Nat):Int):=by simp only[List.length_cons];omega
   have g0:getI (y::M) 0=some y:=rfl;cases s with
   | none =>
    have ih:=Qd5 hT ha rest (k+1) (some (k,y,w64 (y.cost-x.cost))) f hd2 (by omega) (by simp at hf;omega) (fun z hz=>by injection hz with hz;subst hz;exact ⟨x,hx,rfl⟩)
    simp only[iter,ZM,oun,h1,decide_true,cond_true,Qq,hx,Option.bind_some,ho,hl,Qhf,g0,show decide ((-1:Int)<0)=true from rfl,e1,QD,List.head?_cons]
    exact ih
   | some z =>
    obtain ⟨u,hu,hz⟩:=hs z rfl;have hz0: ¬(((z.1:Nat):Int)<0):=by omega
    by_cases hc:w64 (y.cost-x.cost)<z.2.2
    ·have ih:=Qd5 hT ha rest (k+1) (some (k,y,w64 (y.cost-x.cost))) f hd2 (by omega) (by simp at hf;omega) (fun z hz=>by injection hz with hz;subst hz;exact ⟨x,hx,rfl⟩);have hc2:=hc
     rw[hz] at hc2
     simp only[iter,ZM,oun,h1,decide_true,cond_true,Qq,hx,Option.bind_some,ho,hl,Qhf,g0,hz0,decide_false,cond_false,hu,hc2,e1,QD,List.head?_cons]
     rw[if_pos hc]
     exact ih
    ·have ih:=Qd5 hT ha rest (k+1) (some z) f hd2 (by omega) (by simp at hf;omega) hs;have hc2:=hc
     rw[hz] at hc2
     simp only[iter,ZM,oun,h1,decide_true,cond_true,Qq,hx,Option.bind_some,ho,hl,Qhf,g0,hz0,decide_false,cond_false,hu,hc2,e1,QD,List.head?_cons]
     rw[if_neg hc]
     exact ih
end Go.Proofs.YthpgjbbjpfiniaaGreat
namespace Go.Proofs.YthpgjbbjpfiniaaGreat
open Go.RowKit
set_option linter.unusedSimpArgs false
set_option linter.unusedVariables false
theorem QmI (l:List Int):(Qig l).getLast? =some (-1):=by
 unfold Qig;split
 ·assumption
 ·simp
theorem Qlc (l:List Int) {e:Int} (he:0≤e):(Qig l).count e=l.count e:=by
 unfold Qig;split
 ·rfl
 ·rw[List.count_append,List.count_singleton,if_neg (by simp;omega)];rfl
theorem Qgf (s:List Int) (d:Int) (i:Nat):(Jc s d i).getLast? =some (-1):=QmI _
theorem QbI (s:List Int) (d:Int) (i:Nat) {e:Int} (he:0≤e):(Jc s d i).count e=s.count e+if e=d then 1 else 0:=by
 unfold Jc Qg6
 rw[Qlc _ he,List.count_append,List.count_append,List.count_cons]
 have h1:(bif decide (i%2=1) then [(-1:Int)] else []).count e=0:=by
  cases decide (i%2=1)
  ·rfl
  ·rw[cond_true,List.count_singleton,if_neg (by simp;omega)]
 have h2:s.count e=(s.take (i/2)).count e+(s.drop (i/2)).count e:=by rw[←List.count_append,List.take_append_drop]
 rw[h1,h2]
 by_cases h:e=d
 ·subst h;simp;omega
 ·have: ¬(d==e)=true:=by simp;exact fun h'=>h h'.symm
  simp[h,this]
theorem Qk3 (s:List Int) {d:Int} (hd:0≤d) (i:Nat):2≤(Jc s d i).length:=by
 have h1:=Qgf s d i;have h2:=QbI s d i hd
 rw[if_pos rfl] at h2
 generalize Jc s d i=l at *
 match l,h1,h2 with
 | [],_,h2=>simp at h2
 | [a],h1,h2 =>
  simp at h1;subst h1
  rw[List.count_singleton,if_neg (by simp;omega)] at h2
  omega
 | _::_::_,_,_=>simp
structure IsO (p:Pr) (t:Qa) (d:Int) (y:Op):Prop where
 cand: ∃i,i<2*t.Stops.length+1∧y.tour=⟨t.Vehicle,Jc t.Stops d i⟩
 ok:(Yx p y.tour).2=0
 cost:y.cost=(Yx p y.tour).1
theorem OkO.isO {p:Pr} {t:Qa} {d:Int} {L:List Op} (h:OkO p t d L) {y:Op} (hy:y∈L):IsO p t d y:=by
 obtain ⟨h1,h2,h3⟩:=Qhi (h.stab.perm.symm.subset hy);obtain ⟨s,g1,g2⟩:=List.mem_map.1 h1;obtain ⟨i,g3,g4⟩:=List.mem_map.1 g1;exact ⟨⟨i,List.mem_range.1 g3,by rw[←g2,←g4];rfl⟩,h2,h3⟩
def hdT:List Op→Qa
 | []=>⟨0,[]⟩
 | y::_=>y.tour
theorem Qi1 {F:Nat} {p:Pr} {t:Qa} {d e:Int} {L:List Op} (h:YW F p t d=some (L.map Z8,e)) (he:(e≠0∧L=[])∨(e=0∧OkO p t d L)) :
  ∃e',Y8 F p t d=some (hdT L,e')∧(e'=0↔L≠[])∧(e≠0→e'=e)∧(e=0→L=[]→e'=40):=by
 unfold Y8
 rw[h]
 simp only[Option.bind_some,oun]
 rcases he with ⟨h1,rfl⟩ | ⟨rfl,h2⟩
 ·rw[show decide (e=0)=false by simpa using h1]
  exact ⟨e,rfl,by simpa using h1,fun _=>rfl,fun h=>absurd h h1⟩
 ·cases L with
  | nil=>exact ⟨40,rfl,by decide,fun h=>absurd rfl h,fun _ _=>rfl⟩
  | cons y M =>
   have: ¬(((((y::M).map Z8).length:Nat):Int)=0):=by simp;omega
   simp only[decide_true,Bool.not_true,cond_false,this,decide_false,List.map_cons]
   exact ⟨0,rfl,by simp,fun h=>absurd rfl h,fun _ h=>by cases h⟩
theorem Qd6 {F:Nat} {p:Pr} {T:List Op} {d:Int} (hp:OkP p) (hc:Ql p=some 0) (hT:T.length≤1000) (ha:Qpl F p d T): ∀(rest:List Op) (k:Nat) (s:Option (Nat×Op×Int)) (f:Nat),T.drop k=rest→k≤T.length→rest.length<f →
  iter (Yr F p (T.map Z8) d) f ((QeT s).1,(QeT s).2.1,(QeT s).2.2.1,(QeT s).2.2.2,(k:Int))=some ((QeT (VE (VR F p d) rest k s)).1,(QeT (VE (VR F p d) rest k s)).2.2.1,(QeT (VE (VR F p d) rest k s)).2.2.2)
 | [],k,s,0,_,_,h=>by simp at h
 | _::_,k,s,0,_,_,h=>by simp at h
 | [],k,s,f+1,hd,hk,_=>by
  have:k=T.length:=by have:=congrArg List.length hd;simp at this;omega
  have h1: ¬((k:Int)<(((T.map Z8).length:Nat):Int)):=by simp;omega
  simp only[iter,Yr,oun,h1,decide_false,cond_false,Option.bind_some,QD,VE]
 | x::rest,k,s,f+1,hd,hk,hf=>by
  have hx:T[k]? =some x:=by
   have:=congrArg List.head? hd
   rwa [List.head?_drop] at this
  have hlt:=Qr hx;have h1:((k:Int)<(((T.map Z8).length:Nat):Int)):=by simp;omega
  have hd2:T.drop (k+1)=rest:=by rw[←List.drop_drop,hd];rfl
  have e1:w64 ((k:Int)+1)=((k+1:Nat):Int):=by rw[Yc (by omega) (by omega)];omega
  have hx2:(T.map Z8)[k]? =some x.tour:=by rw[List.getElem?_map,hx];rfl
  obtain ⟨hcx,L,e,ho,hr,hL⟩:=ha x (List.mem_of_getElem? hx);have hh:VR F p d x=L.head? :=by unfold VR;rw[ho];cases L<;>rfl
  obtain ⟨e',hb,he',_⟩:=Qi1 hr hL
  rw[VE,hh]
  cases L with
  | nil =>
   have ih:=Qd6 hp hc hT ha rest (k+1) s f hd2 (by omega) (by simp at hf;omega);have: ¬e'=0:=by simpa using he'
   simp only[iter,Yr,oun,h1,decide_true,cond_true,Qq,hx2,Option.bind_some,hb,hdT,this,decide_false,Bool.not_false,e1,QD,List.head?_nil]
   exact ih
  | cons y M =>
   have:e'=0:=by simpa using he'
   subst this;have hy:y.cost=(Yx p y.tour).1:=by
    rcases hL with ⟨_,h⟩ | ⟨_,h⟩
    ·cases h
    ·exact (h.isO (y:=y) (by simp)).cost
   have c1:YE p ⟨y.tour.Vehicle,y.tour.Stops⟩=some (Yx p y.tour):=Qea hp hc _;have c2:YE p x.tour=some (Yx p x.tour):=Qea hp hc _;cases s with
   | none =>
    have ih:=Qd6 hp hc hT ha rest (k+1) (some (k,y,w64 (y.cost-x.cost))) f hd2 (by omega) (by simp at hf;omega)
    simp only[iter,Yr,oun,h1,decide_true,cond_true,Qq,hx2,Option.bind_some,hb,hdT,decide_true,Bool.not_true,cond_false,c1,c2,QeT,show decide ((-1:Int)<0)=true from rfl,←hy,←hcx,e1,QD,List.head?_cons]
    exact ih
   | some z =>
    have hz0: ¬(((z.1:Nat):Int)<0):=by omega
    by_cases hcc:w64 (y.cost-x.cost)<z.2.2
    ·have ih:=Qd6 hp hc hT ha rest (k+1) (some (k,y,w64 (y.cost-x.cost))) f hd2 (by omega) (by simp at hf;omega)
     simp only[iter,Yr,oun,h1,decide_true,cond_true,Qq,hx2,Option.bind_some,hb,hdT,decide_true,Bool.not_true,cond_false,c1,c2,QeT,hz0,decide_false,hcc,←hy,←hcx,e1,QD,List.head?_cons]
     exact ih
    ·have ih:=Qd6 hp hc hT ha rest (k+1) (some z) f hd2 (by omega) (by simp at hf;omega)
     simp only[iter,Yr,oun,h1,decide_true,cond_true,Qq,hx2,Option.bind_some,hb,hdT,decide_true,Bool.not_true,cond_false,c1,c2,QeT,hz0,decide_false,hcc,←hy,←hcx,e1,QD,List.head?_cons]
     exact ih
theorem QhL (h:Op→Option Op): ∀(rest:List Op) (k:Nat) (s:Option (Nat×Op×Int)) (z:Nat×Op×Int),VE h rest k s=some z→s=some z∨ ∃i x,rest[i]? =some x∧z.1=k+i∧h x=some z.2.1
 | [],_,_,_,hz=> .inl hz
 | x::r,k,s,z,hz=>by
  rw[VE] at hz
  rcases QhL h r (k+1) _ z hz with h1 | ⟨i,y,g1,g2,g3⟩
  ·cases hx:h x with
   | none=>rw[hx] at h1;exact .inl h1
   | some y =>
    rw[hx] at h1
    have hn: ∀w:Int,some (k,y,w)=some z→ ∃i x',(x::r)[i]? =some x'∧z.1=k+i∧h x'=some z.2.1:=fun w hw=>by
     injection hw with hw;subst hw
     exact ⟨0,x,rfl,rfl,hx⟩
    cases s with
    | none=>exact .inr (hn _ h1)
    | some u =>
     simp only at h1
     split at h1
     ·exact .inr (hn _ h1)
     ·exact .inl h1
  ·exact .inr ⟨i+1,y,by simpa using g1,by omega,g3⟩
theorem Qdj (h:Op→Option Op): ∀(rest:List Op) (k:Nat) (z:Nat×Op×Int),VE h rest k (some z)≠none
 | [],_,_=>by simp[VE]
 | x::r,k,z=>by
  rw[VE]
  cases h x with
  | none=>exact Qdj h r (k+1) z
  | some y =>
   simp only
   split
   ·exact Qdj h r (k+1) _
   ·exact Qdj h r (k+1) _
theorem QhK (h:Op→Option Op): ∀(rest:List Op) (k:Nat),VE h rest k none=none→ ∀x∈rest,h x=none
 | [],_,_=>by simp
 | x::r,k,hn=>by
  rw[VE] at hn
  cases hx:h x with
  | none =>
   rw[hx] at hn
   intro y hy;rcases List.mem_cons.1 hy with rfl | hy
   ·exact hx
   ·exact QhK h r (k+1) hn y hy
  | some y =>
   rw[hx] at hn
   exact absurd hn (Qdj h r (k+1) _)
def QdB (h:Op→Option Op) (d:Int) (s:List Op×List Int):List Op×List Int:=match VE h s.1 0 none with
 | none=>(s.1,s.2++[d])
 | some z=>(s.1.set z.1 z.2.1,s.2)
def JX (n:Nat):List Op:=(List.range n).map fun (i:Nat)=>⟨⟨(i:Int),[]⟩,0⟩
def Qci (F:Nat) (p:Pr):Nat→List Op×List Int
 | 0=>(JX p.Vehicles.length,[])
 | k+1=>QdB (VR F p k) k (Qci F p k)
structure Qqy (p:Pr) (i:Nat) (x:Op):Prop where
 veh:x.tour.Vehicle=(i:Int)
 cost:x.cost=(Yx p x.tour).1
 len:x.tour.Stops.length≤40
 full:x.tour.Stops≠[]→(Yx p x.tour).2=0∧2≤x.tour.Stops.length∧x.tour.Stops.getLast? =some (-1)
def cnB (T:List Op) (e:Int):Nat:=(T.map fun x=>x.tour.Stops.count e).sum
structure QkO (F:Nat) (p:Pr) (k:Nat) (s:List Op×List Int):Prop where
 len:s.1.length=p.Vehicles.length
 tour: ∀(i:Nat) (x:Op),s.1[i]? =some x→Qqy p i x
 once: ∀e:Nat,cnB s.1 (e:Int)+s.2.count (e:Int)=if e<k then 1 else 0
 lo: ∀e∈s.2,0≤e∧e<(k:Int)
 asc:s.2.Pairwise (· < ·)
 ll:s.2.length≤k
 left: ∀e∈s.2,∀(i:Nat) (x:Op),s.1[i]? =some x→x.tour.Stops=[]→VR F p e x=none
theorem Ql0: ∀(T:List Op) (i:Nat) (x y:Op) (e:Int),T[i]? =some x→cnB (T.set i y) e+x.tour.Stops.count e=cnB T e+y.tour.Stops.count e
 | [],i,_,_,_,h=>by simp at h
 | z::T,0,x,y,e,h=>by
  simp at h;subst h
  simp[cnB];omega
 | z::T,i+1,x,y,e,h=>by
  have:=Ql0 T i x y e (by simpa using h)
  simp[cnB] at this ⊢;omega
theorem QlJ {n i:Nat} {x:Op} (h:(JX n)[i]? =some x):x=⟨⟨(i:Int),[]⟩,0⟩:=by
 unfold JX at h
 rw[List.getElem?_map] at h
 cases hr:(List.range n)[i]? with
 | none=>rw[hr] at h;cases h
 | some j =>
  rw[hr] at h
  have:=List.getElem?_eq_some_iff.1 hr;obtain ⟨h1,h2⟩:=this
  simp at h2;subst h2
  simp at h
  exact h.symm
theorem Qm6 (n:Nat) (e:Int):cnB (JX n) e=0:=by
 unfold cnB JX
 rw[List.map_map]
 induction n with
 | zero=>rfl
 | succ n ih=>rw[List.range_succ,List.map_append,List.sum_append,ih];rfl
theorem Qm7 {F:Nat} {p:Pr} (hp:OkP p):QkO F p 0 (JX p.Vehicles.length,[]) where
 len:=by simp[JX]
 tour:=fun i x hx=>by
  rw[QlJ hx]
  exact ⟨rfl,(QjY hp _).symm,by simp,fun h=>absurd rfl h⟩
 once:=fun e=>by simp[Qm6]
 lo:=by simp
 asc:=List.Pairwise.nil
 ll:=by simp
 left:=by simp
theorem QnH {F:Nat} {p:Pr} {d:Int} {x y:Op} (h:VR F p d x=some y) (ha: ∃L e,QO F p x.tour d=some (L,e)∧((e≠0∧L=[])∨(e=0∧OkO p x.tour d L))):IsO p x.tour d y∧y.tour.Stops.length≤40:=by
 obtain ⟨L,e,h1,h2⟩:=ha;unfold VR at h
 rw[h1] at h
 cases L with
 | nil=>cases h
 | cons z M =>
  injection h with h;subst h
  rcases h2 with ⟨_,h2⟩ | ⟨_,h2⟩
  ·cases h2
  ·exact ⟨h2.isO (by simp),h2.stops _ (by simp)⟩
theorem Qqz {F:Nat} (hF:40000≤F) {p:Pr} (hn:p.Road.Edges.length≤600) {k:Nat} {s:List Op×List Int} (h:QkO F p k s) (d:Int):Qpl F p d s.1:=fun x hx=>by
 obtain ⟨i,hi⟩:=List.getElem?_of_mem hx;have h1:=h.tour i x hi;obtain ⟨L,e,g1,g2,g3,_⟩:=QaV hF p hn x.tour (by have:=h1.len;omega) d;exact ⟨h1.cost,L,e,g1,g2,g3⟩
theorem Qow {F:Nat} (hF:40000≤F) {p:Pr} (hn:p.Road.Edges.length≤600) {k:Nat} {s:List Op×List Int} (h:QkO F p k s):QkO F p (k+1) (QdB (VR F p k) k s):=by
 have ha:=Qqz hF hn h k;unfold QdB;cases hz:VE (VR F p k) s.1 0 none with
 | none =>
  have hno:=QhK _ _ _ hz;refine ⟨h.len,h.tour,fun e=> ?_,fun e he=> ?_,?_,?_,fun e he i x hi hx=> ?_⟩
  ·have:=h.once e
   show cnB s.1 (e:Int)+(s.2++[(k:Int)]).count (e:Int)=_
   rw[List.count_append,List.count_singleton]
   by_cases hek:e=k
   ·subst hek;simp at this ⊢;omega
   ·have h1: ¬(((k:Int)==(e:Int))=true):=by simp;omega
    rw[if_neg h1]
    by_cases h2:e<k
    ·rw[if_pos (by omega)];rw[if_pos h2] at this;omega
    ·rw[if_neg (by omega)];rw[if_neg h2] at this;omega
  ·rcases List.mem_append.1 he with h1 | h1
   ·have:=h.lo e h1;omega
   ·rw[List.mem_singleton.1 h1];omega
  ·refine List.pairwise_append.2 ⟨h.asc,by simp,fun a ha b hb=> ?_⟩
   rw[List.mem_singleton.1 hb];exact (h.lo a ha).2
  ·have:=h.ll;simp;omega
  ·rcases List.mem_append.1 he with h1 | h1
   ·exact h.left e h1 i x hi hx
   ·rw[List.mem_singleton.1 h1];exact hno x (List.mem_of_getElem? hi)
 | some z =>
  obtain ⟨i,x,hi,hzi,hy⟩: ∃i x,s.1[i]? =some x∧z.1=i∧VR F p k x=some z.2.1:=by
   rcases QhL _ _ _ _ _ hz with h1 | ⟨i,x,h1,h2,h3⟩
   ·cases h1
   ·exact ⟨i,x,h1,by omega,h3⟩
  obtain ⟨hcx,L,e,g1,_,g3⟩:=ha x (List.mem_of_getElem? hi);obtain ⟨hO,hl⟩:=QnH hy ⟨L,e,g1,g3⟩;obtain ⟨j,_,hj⟩:=hO.cand;have hx:=h.tour i x hi;have hcount: ∀e:Nat,z.2.1.tour.Stops.count (e:Int)=x.tour.Stops.count (e:Int)+if e=k then 1 else 0:=fun e=>by
   rw[hj]
   show (Jc x.tour.Stops k j).count (e:Int)=_
   rw[QbI _ _ _ (by omega)]
   by_cases h1:e=k
   ·subst h1;simp
   ·rw[if_neg (by omega),if_neg h1]
  have htwo:2≤z.2.1.tour.Stops.length:=by rw[hj];exact Qk3 _ (by omega) _
  have hlast:z.2.1.tour.Stops.getLast? =some (-1):=by rw[hj];exact Qgf _ _ _
  have hg: ∀(j:Nat) (w:Op),(s.1.set z.1 z.2.1)[j]? =some w→(j=i∧w=z.2.1)∨s.1[j]? =some w:=fun j w hw=>by
   rw[List.getElem?_set,hzi] at hw
   split at hw
   ·rename_i h1
    split at hw
    ·injection hw with hw;exact .inl ⟨h1.symm,hw.symm⟩
    ·cases hw
   ·exact .inr hw
  refine ⟨by show (s.1.set _ _).length=_;rw[List.length_set];exact h.len,fun j w hw=> ?_,fun e=> ?_,fun e he=> ?_,h.asc,by have:=h.ll;show s.2.length≤_;omega,fun e he j w hw hws=> ?_⟩
  ·rcases hg j w hw with ⟨rfl,rfl⟩ | h1
   ·exact ⟨by rw[hj];exact hx.veh,hO.cost,hl,fun _=>⟨hO.ok,htwo,hlast⟩⟩
   ·exact h.tour j w h1
  ·have h1:=Ql0 s.1 i x z.2.1 (e:Int) hi;have h2:=h.once e
   rw[hcount e] at h1
   show cnB (s.1.set z.1 z.2.1) (e:Int)+s.2.count (e:Int)=_
   rw[hzi]
   by_cases hek:e=k
   ·subst hek;rw[if_neg (by omega)] at h2;rw[if_pos (by omega)];rw[if_pos rfl] at h1;omega
   ·rw[if_neg hek] at h1
    by_cases h3:e<k
    ·rw[if_pos h3] at h2;rw[if_pos (by omega)];omega
    ·rw[if_neg h3] at h2;rw[if_neg (by omega)];omega
  ·have:=h.lo e he;omega
  ·rcases hg j w hw with ⟨_,rfl⟩ | h1
   ·rw[hws] at htwo;simp at htwo
   ·exact h.left e he j w h1 hws
theorem Qet {F:Nat} (hF:40000≤F) {p:Pr} (hp:OkP p) (hn:p.Road.Edges.length≤600): ∀k,QkO F p k (Qci F p k)
 | 0=>Qm7 hp
 | k+1=>Qow hF hn (Qet hF hp hn k)
end Go.Proofs.YthpgjbbjpfiniaaGreat
namespace Go.Proofs.YthpgjbbjpfiniaaGreat
open Go.RowKit
set_option linter.unusedSimpArgs false
set_option linter.unusedVariables false
theorem Qp1 (y:Op):Qc.mk (Qa.mk y.tour.Vehicle y.tour.Stops) y.cost=y:=rfl
theorem Qk1 {F:Nat} (hF:40000≤F) {p:Pr} (hp:OkP p) (hc:Ql p=some 0) (hn:p.Road.Edges.length≤600) (hv:p.Vehicles.length≤1000) (hd:p.Demands.length≤1000) {k:Nat} (hk:k<p.Demands.length) {s:List Op×List Int} (h:QkO F p k s) :
  J8 F p (s.1,s.2,(k:Int))=some (.inl ((QdB (VR F p k) k s).1,(QdB (VR F p k) k s).2,((k+1:Nat):Int))) ∧
  Zh F p (s.1.map Z8,s.2,(k:Int))=some (.inl ((QdB (VR F p k) k s).1.map Z8,(QdB (VR F p k) k s).2,((k+1:Nat):Int))):=by
 have ha:=Qqz hF hn h k;have hlen:=h.len;have hll:=h.ll;have h1:((k:Int)<((p.Demands.length:Nat):Int)):=by omega
 have e1:w64 ((k:Int)+1)=((k+1:Nat):Int):=by rw[Yc (by omega) (by omega)];omega
 have q1:=Qd5 (F:=F) (p:=p) (T:=s.1) (d:=k) (by omega) ha s.1 0 none (((s.1.length:Nat):Int).toNat+1) (by simp) (by omega) (by simp) (fun z hz=>by cases hz);have q2:=Qd6 (F:=F) (p:=p) (T:=s.1) (d:=k) hp hc (by omega) ha s.1 0 none (((s.1.length:Nat):Int).toNat+1) (by simp) (by omega) (by simp);have hml:(s.1.map Z8).length=s.1.length:=by simp
 have q1':iter (ZM F p s.1 (k:Int)) (((s.1.length:Nat):Int).toNat+1) (0,[],0,-1,0)=some (Qhf (VE (VR F p k) s.1 0 none)):=q1;have q2':iter (Yr F p (s.1.map Z8) (k:Int)) (((s.1.length:Nat):Int).toNat+1) (-1,0,0,[],0)=some ((QeT (VE (VR F p k) s.1 0 none)).1,(QeT (VE (VR F p k) s.1 0 none)).2.2.1,(QeT (VE (VR F p k) s.1 0 none)).2.2.2):=q2;unfold J8 Zh QdB
 simp only[oun,h1,decide_true,cond_true,hml,q1',q2',Option.bind_some]
 cases hz:VE (VR F p k) s.1 0 none with
 | none =>
  simp only[Qhf,QeT,show decide ((-1:Int)<0)=true from rfl,cond_true,e1,Option.bind_some]
  rw[Yh (by simp;omega)]
  exact ⟨rfl,rfl⟩
 | some z =>
  obtain ⟨i,x,hi,hzi⟩: ∃i x,s.1[i]? =some x∧z.1=i:=by
   rcases QhL _ _ _ _ _ hz with h1 | ⟨i,x,h1,h2,h3⟩
   ·cases h1
   ·exact ⟨i,x,h1,by omega⟩
  have hz0: ¬(((z.1:Nat):Int)<0):=by omega
  have g1:s.1[z.1]? =some x:=by rw[hzi];exact hi
  have g2:(s.1.map Z8)[z.1]? =some x.tour:=by rw[List.getElem?_map,g1];rfl
  simp only[Qhf,QeT,hz0,decide_false,cond_false,Qq,g1,g2,Option.bind_some,e1,Yg,Int.toNat_natCast,Qp1]
  first | exact ⟨rfl,by rw[List.map_set]⟩ | simp[List.map_set]
theorem Qg5 {F:Nat} (hF:40000≤F) {p:Pr} (hp:OkP p) (hc:Ql p=some 0) (hn:p.Road.Edges.length≤600) (hv:p.Vehicles.length≤1000) (hd:p.Demands.length≤1000): ∀(r k f:Nat),k+r=p.Demands.length→r<f →
  iter (J8 F p) f ((Qci F p k).1,(Qci F p k).2,(k:Int))=some (Qci F p p.Demands.length) ∧
  iter (Zh F p) f ((Qci F p k).1.map Z8,(Qci F p k).2,(k:Int))=some ((Qci F p p.Demands.length).1.map Z8,(Qci F p p.Demands.length).2)
 | _,_,0,_,h=>by omega
 | 0,k,f+1,hk,_=>by
  have:k=p.Demands.length:=by omega
  subst this
  simp only[iter,J8,Zh,oun,Int.lt_irrefl,decide_false,cond_false,Option.bind_some,QD]
  first | exact ⟨rfl,rfl⟩ | exact ⟨trivial,trivial⟩ | simp
 | r+1,k,f+1,hk,hf=>by
  obtain ⟨h1,h2⟩:=Qk1 hF hp hc hn hv hd (by omega) (Qet hF hp hn k);obtain ⟨i1,i2⟩:=Qg5 hF hp hc hn hv hd r (k+1) f (by omega) (by omega)
  simp only[iter,h1,h2,Option.bind_some,QD]
  exact ⟨i1,i2⟩
def Qa2 (T:List Op):List Qa:=(T.map Z8).filter fun t=>decide (0<t.Stops.length)
theorem Qh5 (T:List Op) (x:Op):Qa2 (T++[x])=Qa2 T++if 0<x.tour.Stops.length then [x.tour] else []:=by
 unfold Qa2
 rw[List.map_append,List.filter_append]
 by_cases h:0<x.tour.Stops.length
 ·simp[h]
 ·simp[h]
theorem Qew (T:List Op):(Qa2 T).length≤T.length:=by
 unfold Qa2;refine Nat.le_trans (List.length_filter_le _ _) (by simp)
theorem Qm8 (T:List Op) (hT:T.length≤1000) :
  iter (W2 T) (((T.length:Nat):Int).toNat+1) ([],0)=some (Qa2 T) ∧
  iter (ZZ (T.map Z8)) ((((T.map Z8).length:Nat):Int).toNat+1) ([],0)=some (Qa2 T):=by
 have hml:(T.map Z8).length=T.length:=by simp
 constructor
 ·have:=YG (body:=W2 T) T (fun k=>Qa2 (T.take k)) (fun m k=>(m,k)) (fun _ _=>none) (Qa2 T) (by omega) (fun k x hx _=> ?_) (fun _=>by simp only[W2,oun,List.take_length];simp) (((T.length:Nat):Int).toNat+1) (by simp)
  ·rw[QP _ _ (fun _ _ _=>rfl)] at this
   exact this
  ·have hk:=Qr hx;have hk2:((k:Int)<(T.length:Nat)):=by omega
   have hul:=Qew (T.take k)
   rw[Yi (Nat.le_of_lt hk)] at hul
   simp only[W2,oun,hk2,decide_true,cond_true,Qq,hx,Option.bind_some,ZU]
   rw[Yw hx,Qh5]
   by_cases h:0<x.tour.Stops.length
   ·have h':(0:Int)<((x.tour.Stops.length:Nat):Int):=by omega
    simp only[h,h',decide_true,cond_true,if_true]
    rw[Yh (by simp;omega)]
    rfl
   ·have h': ¬(0:Int)<((x.tour.Stops.length:Nat):Int):=by omega
    simp only[h,h',decide_false,cond_false,if_false,List.append_nil,Option.bind_some]
 ·have:=YG (body:=ZZ (T.map Z8)) T (fun k=>Qa2 (T.take k)) (fun m k=>(m,k)) (fun _ _=>none) (Qa2 T) (by omega) (fun k x hx _=> ?_) (fun _=>by simp only[ZZ,oun,List.take_length,hml];simp) (((T.length:Nat):Int).toNat+1) (by simp)
  ·rw[QP _ _ (fun _ _ _=>rfl)] at this
   rw[hml]
   exact this
  ·have hk:=Qr hx;have hk2:((k:Int)<(T.length:Nat)):=by omega
   have hul:=Qew (T.take k)
   rw[Yi (Nat.le_of_lt hk)] at hul
   have hx2:(T.map Z8)[k]? =some x.tour:=by rw[List.getElem?_map,hx];rfl
   simp only[ZZ,oun,hml,hk2,decide_true,cond_true,Qq,hx2,Option.bind_some,ZU]
   rw[Yw hx,Qh5]
   by_cases h:0<x.tour.Stops.length
   ·have h':(0:Int)<((x.tour.Stops.length:Nat):Int):=by omega
    simp only[h,h',decide_true,cond_true,if_true]
    rw[Yh (by simp;omega)]
    rfl
   ·have h': ¬(0:Int)<((x.tour.Stops.length:Nat):Int):=by omega
    simp only[h,h',decide_false,cond_false,if_false,List.append_nil,Option.bind_some]
theorem QlK (n:Nat) (hn:n≤1000): ∃l,QbD (Qc.mk (Qa.mk 0 []) 0) ((n:Nat):Int)=some l∧l.length=n∧iter (W1 l) (((l.length:Nat):Int).toNat+1) (l,0)=some (JX n):=by
 have hm:QbD (Qc.mk (Qa.mk 0 []) 0) ((n:Nat):Int)=some (List.replicate n (Qc.mk (Qa.mk 0 []) 0)):=by
  unfold QbD
  rw[if_pos (by omega),Int.toNat_natCast]
 refine ⟨_,hm,by simp,?_⟩
 generalize hl:List.replicate n (Qc.mk (Qa.mk 0 []) 0)=l
 have hln:l.length=n:=by rw[←hl];simp
 have:=YG (body:=W1 l) l (fun k=>JX k++l.drop k) (fun m k=>(m,k)) (fun _ _=>none) (JX n) (by omega) (fun k x hx _=> ?_) (fun _=>by simp only[W1,oun,hln];simp[List.drop_of_length_le (Nat.le_of_eq hln)]) (((l.length:Nat):Int).toNat+1) (by simp)
 ·rw[QP _ _ (fun _ _ _=>rfl)] at this
  simpa [JX] using this
 ·have hk:=Qr hx;have hk2:((k:Int)<(l.length:Nat)):=by omega
  have hx0:x=⟨⟨0,[]⟩,0⟩:=by
   rw[←hl,List.getElem?_replicate] at hx
   split at hx
   ·injection hx with hx;exact hx.symm
   ·cases hx
  have hsl:(JX k).length=k:=by simp[JX]
  have hdr:l.drop k=x::l.drop (k+1):=by
   rw[List.drop_eq_getElem_cons hk]
   congr 1
   rw[List.getElem?_eq_getElem hk] at hx
   injection hx
  have hg:(JX k++l.drop k)[k]? =some x:=by
   rw[List.getElem?_append_right (by omega),hsl,Nat.sub_self,hdr];rfl
  simp only[W1,oun,hk2,decide_true,cond_true,Qq,hg,Option.bind_some,ZU,Yg,Int.toNat_natCast]
  rw[List.set_append_right _ _ (by omega),hsl,Nat.sub_self,hdr,List.set_cons_zero]
  have:JX (k+1)=JX k++[⟨⟨(k:Int),[]⟩,0⟩]:=by simp[JX,List.range_succ]
  rw[this,hx0]
  simp
theorem QlL {p:Pr} (hv:p.Vehicles.length≤1000):iter (ZY p) (((p.Vehicles.length:Nat):Int).toNat+1) ([],0)=some ((JX p.Vehicles.length).map Z8):=by
 have:=YG (body:=ZY p) p.Vehicles (fun k=>(JX k).map Z8) (fun m k=>(m,k)) (fun _ _=>none) ((JX p.Vehicles.length).map Z8) (by omega) (fun k x hx _=> ?_) (fun _=>by simp only[ZY,oun];simp) (((p.Vehicles.length:Nat):Int).toNat+1) (by simp)
 ·rw[QP _ _ (fun _ _ _=>rfl)] at this
  exact this
 ·have hk:=Qr hx;have hk2:((k:Int)<(p.Vehicles.length:Nat)):=by omega
  simp only[ZY,oun,hk2,decide_true,cond_true,ZU]
  have:JX (k+1)=JX k++[⟨⟨(k:Int),[]⟩,0⟩]:=by simp[JX,List.range_succ]
  rw[Yh (by simp[JX];omega),this,List.map_append]
  rfl
def QbE (F:Nat) (p:Pr):Qg:=⟨Qa2 (Qci F p p.Demands.length).1,(Qci F p p.Demands.length).2⟩
theorem Qk0 {F:Nat} (hF:40000≤F) (p:Pr) (hn:p.Road.Edges.length≤600) (hv:p.Vehicles.length≤1000) (hd:p.Demands.length≤1000) :
  ∃e,Ql p=some e∧((e≠0∧V6 F p=some (⟨[],[]⟩,e)∧V3 F p=some (⟨[],[]⟩,e))∨(e=0∧OkP p∧V6 F p=some (QbE F p,0)∧V3 F p=some (QbE F p,0))):=by
 unfold V6 V3
 rw[Zq (by omega) p hn]
 rcases Qcj p hn with ⟨h1,h2⟩ | ⟨e,h1,h2⟩
 ·refine ⟨0,h1,.inr ⟨rfl,h2,?_⟩⟩;obtain ⟨l,q1,q2,q3⟩:=QlK p.Vehicles.length hv;obtain ⟨b1,b2⟩:=Qg5 hF h2 h1 hn hv hd p.Demands.length 0 (((p.Demands.length:Nat):Int).toNat+1) (by omega) (by simp);have hr:=(Qet hF h2 hn p.Demands.length).len;obtain ⟨u1,u2⟩:=Qm8 (Qci F p p.Demands.length).1 (by omega);have b1':iter (J8 F p) (((p.Demands.length:Nat):Int).toNat+1) (JX p.Vehicles.length,[],0)=some (Qci F p p.Demands.length):=b1;have b2':iter (Zh F p) (((p.Demands.length:Nat):Int).toNat+1) ((JX p.Vehicles.length).map Z8,[],0)=some ((Qci F p p.Demands.length).1.map Z8,(Qci F p p.Demands.length).2):=b2
  rw[h1]
  simp only[Option.bind_some,decide_true,Bool.not_true,cond_false,q1,q3,QlL hv,b1',b2',oun,u1,u2]
  exact ⟨rfl,rfl⟩
 ·refine ⟨e,h2,.inl ⟨h1,?_⟩⟩
  rw[h2]
  simp only[Option.bind_some]
  rw[show decide (e=0)=false by simpa using h1]
  exact ⟨rfl,rfl⟩
theorem QkK {T:List Op} {t:Qa} (h:t∈Qa2 T): ∃(i:Nat) (x:Op),T[i]? =some x∧x.tour=t∧t.Stops≠[]:=by
 obtain ⟨h1,h2⟩:=List.mem_filter.1 h;obtain ⟨x,h3,rfl⟩:=List.mem_map.1 h1;obtain ⟨i,hi⟩:=List.getElem?_of_mem h3;refine ⟨i,x,hi,rfl,fun h=> ?_⟩;have:=of_decide_eq_true h2
 rw[h] at this
 simp at this
theorem Qln {F:Nat} (hF:40000≤F) {p:Pr} (hp:OkP p) (hn:p.Road.Edges.length≤600):(QbE F p).Tours.length≤p.Vehicles.length∧(QbE F p).Left.length≤p.Demands.length∧ ∀t∈(QbE F p).Tours,t.Stops.length≤40:=by
 have h:=Qet hF hp hn p.Demands.length;refine ⟨by rw[←h.len];exact Qew _,h.ll,fun t ht=> ?_⟩;obtain ⟨i,x,h1,rfl,_⟩:=QkK ht;exact (h.tour i x h1).len
end Go.Proofs.YthpgjbbjpfiniaaGreat
namespace Go.Proofs.YthpgjbbjpfiniaaGreat
open Go.RowKit
set_option linter.unusedSimpArgs false
set_option linter.unusedVariables false
theorem Qms (d:Nat): ∀(T:List Op),tn (Qa2 T) d=cnB T (d:Int)
 | []=>rfl
 | x::T=>by
  have ih:=Qms d T;unfold Qa2 tn at ih ⊢;unfold cnB at ih ⊢
  rw[List.map_cons,List.filter_cons,List.map_cons,List.sum_cons,←ih]
  by_cases h:0<x.tour.Stops.length
  ·simp[Z8,h,cn]
  ·have:x.tour.Stops=[]:=List.eq_nil_of_length_eq_zero (by omega)
   simp[Z8,this]
theorem QoA {F:Nat} {p:Pr} {k:Nat} {s:List Op×List Int} (h:QkO F p k s):(Qa2 s.1).Pairwise fun a b=>a.Vehicle<b.Vehicle:=by
 unfold Qa2;refine List.Pairwise.sublist List.filter_sublist ?_
 rw[List.pairwise_map,List.pairwise_iff_getElem]
 intro i j hi hj hij;have h1:=(h.tour i _ (List.getElem?_eq_getElem hi)).veh;have h2:=(h.tour j _ (List.getElem?_eq_getElem hj)).veh
 show s.1[i].tour.Vehicle<s.1[j].tour.Vehicle
 rw[h1,h2];omega
theorem QcL {p:Pr} {t:Qa} (h:(Yx p t).2=0): ∃u,WI p t= .inl u:=by
 unfold Yx at h;cases hr:WI p t with
 | inl u=>exact ⟨u,rfl⟩
 | inr q=>rw[hr] at h;exact absurd h (V8 hr)
theorem Qmi {F:Nat} (hF:40000≤F) {p:Pr} (hn:p.Road.Edges.length≤600) (hp:OkP p) (hc:Ql p=some 0) (x:Qg) (hx:x.Tours.length≤30) (hl:x.Left.length≤100)
  (ha:x.Tours.Pairwise fun a b=>a.Vehicle<b.Vehicle) (ht: ∀t∈x.Tours,(Yx p t).2=0) (hb: ∀e∈x.Left,0≤e∧e<((p.Demands.length:Nat):Int)) (h1: ∀d,d<p.Demands.length→tn x.Tours d+cn x.Left d=1) :
  YT F p x=some (YF p x.Tours,0):=by
 have hdl:=hp.dl;have hbad: ∀(k:Nat) (t:To),x.Tours[k]? =some t→QcH p x.Tours k t=none:=fun k t hk=>by
  obtain ⟨u,hu⟩:=QcL (ht t (List.mem_of_getElem? hk));have hany:(x.Tours.take k).any (fun u=>decide (u.Vehicle=t.Vehicle))=false:=by
   rw[List.any_eq_false]
   intro y hy he;obtain ⟨j,hj⟩:=List.getElem?_of_mem hy;have hjk:=Qr hj;have hkl:=Qr hk
   rw[Yi (Nat.le_of_lt hkl)] at hjk
   rw[List.getElem?_take,if_pos hjk] at hj
   have:=List.pairwise_iff_getElem.1 ha j k (by omega) hkl hjk
   rw[List.getElem?_eq_getElem (by omega)] at hj hk
   injection hj with hj
   injection hk with hk
   rw[hj,hk,of_decide_eq_true he] at this
   omega
  unfold QcH
  rw[hany,hu]
  rfl
 have hall: ∀t∈x.Tours,(∀s∈t.Stops,okS p.Demands.length s)∧t.Stops.length≤40:=fun t htm=>by
  obtain ⟨u,hu⟩:=QcL (ht t htm);exact (Vt hp hu).2.2
 have q1:=Qer hF hp x hx
 rw[QP _ _ (fun i t hi=>by rw[Nat.zero_add,hbad i t hi];rfl)] at q1
 have q3:=(QcS (n:=p.Demands.length) x (fun _=>0) (by omega) (fun _=>Nat.zero_le _)).1;have q4:=(Qcd (n:=p.Demands.length) x (fun d=>0+cn x.Left d) (by omega) (fun d=>by have:=Qiu x.Left d;omega) (fun t htm=>by have:=(hall t htm).2;omega) (fun t htm=>(hall t htm).1)).1;have hbl:QeN p.Demands.length x.Left=false:=by
  unfold QeN
  rw[List.any_eq_false]
  intro e he;have:=hb e he
  simp;omega
 have hv:(vec p.Demands.length fun d=>0+cn x.Left d+tn x.Tours d)=vec p.Demands.length fun _=>1:=QbT fun d hd=>by have:=h1 d hd;omega
 rw[hv] at q4
 rw[hbl] at q3
 have hmem: ∀c∈vec p.Demands.length (fun _=>1),c=(1:Int):=fun c hc=>by
  unfold vec at hc;obtain ⟨j,_,rfl⟩:=List.mem_map.1 hc
  rfl
 have a1:(vec p.Demands.length (fun _=>1)).any (fun c=>decide (1<c))=false:=by
  rw[List.any_eq_false];intro c hc;rw[hmem c hc];decide
 have a2:(vec p.Demands.length (fun _=>1)).any (fun c=>decide (c=0))=false:=by
  rw[List.any_eq_false];intro c hc;rw[hmem c hc];decide
 unfold YT
 rw[Zq (by omega) _ hn,hc]
 simp only[Option.bind_some,decide_true,Bool.not_true,cond_false]
 rw[q1]
 simp only[Option.bind_some,QD]
 rw[QdW _ (by omega)]
 simp only[Option.bind_some]
 rw[q3]
 simp only[cond_false,Option.bind_some,QD]
 rw[q4]
 simp only[Option.bind_some]
 rw[QgR _ (by rw[VB];omega),QgV _ (by rw[VB];omega),a1,a2]
 rfl
theorem Qn5 {F:Nat} (hF:40000≤F) {p:Pr} (hn:p.Road.Edges.length≤600) (hv:p.Vehicles.length≤30) (hp:OkP p) (hc:Ql p=some 0):YT F p (QbE F p)=some (YF p (QbE F p).Tours,0):=by
 have h:=Qet hF hp hn p.Demands.length;obtain ⟨l1,l2,l3⟩:=Qln hF hp hn;have hdl:=hp.dl;refine Qmi hF hn hp hc _ (by omega) (by omega) (QoA h) (fun t ht=> ?_) h.lo (fun d hd=> ?_)
 ·obtain ⟨i,x,g1,rfl,g2⟩:=QkK ht;exact ((h.tour i x g1).full g2).1
 ·have:=h.once d
  rw[if_pos hd] at this
  show tn (Qa2 _) d+cn _ d=1
  rw[Qms]
  exact this
end Go.Proofs.YthpgjbbjpfiniaaGreat
namespace Go.Proofs.YthpgjbbjpfiniaaGreat
open Go.RowKit
set_option linter.unusedSimpArgs false
set_option linter.unusedVariables false
theorem QdP {p:Pr} {v:Ve} (b:List Int): ∀(a pre:List Int) (x:Vi),Vu p v pre (a++b) x=match Vu p v pre a x with
  | .inr q=> .inr q
  | .inl z=>match Vu p v (pre++a) b z.1 with
   | .inr q=> .inr q
   | .inl z2=> .inl (z2.1,z.2++z2.2)
 | [],pre,x=>by
  simp only[List.nil_append,Vu,List.append_nil]
  cases Vu p v pre b x<;>rfl
 | s::a,pre,x=>by
  simp only[List.cons_append,Vu]
  cases Qam p v pre x s with
  | inr e=>rfl
  | inl y =>
   simp only[]
   rw[QdP b a (pre++[s]) y]
   cases Vu p v (pre++[s]) a y with
   | inr q=>rfl
   | inl z =>
    simp only[List.append_assoc,List.singleton_append]
    cases Vu p v (pre++s::a) b z.1<;>rfl
theorem Qoz {p:Pr} {t:Qa} {v:Ve} (h0:0≤t.Vehicle) (h1:t.Vehicle<((p.Vehicles.length:Nat):Int)) (hv:getI p.Vehicles t.Vehicle=some v) (hs:t.Stops.length≤40) :
  WI p t=match Vu p v [] t.Stops (x0 v) with
   | .inr q=> .inr (q.1,((q.2:Nat):Int))
   | .inl z=>match QaB p v z.1 with
    | .inr e=> .inr (e,((t.Stops.length:Nat):Int))
    | .inl y=> .inl (z.1,z.2++[y],v):=by
 unfold WI
 rw[if_neg (by omega),if_neg (by omega)]
 unfold getI at hv
 rw[if_pos h0] at hv
 rw[hv]
 rfl
end Go.Proofs.YthpgjbbjpfiniaaGreat
namespace Go.Proofs.YthpgjbbjpfiniaaGreat
open Go.RowKit
set_option linter.unusedSimpArgs false
set_option linter.unusedVariables false
theorem Wk.join {r:Rd_} {a b:Int} {k:Nat} {l:Lg} (h:Wk r a k b l): ∀{k':Nat} {c:Int} {l':Lg},Wk r b k' c l'→Wk r a (k+k') c ⟨l.Secs+l'.Secs,l.Meters+l'.Meters⟩
 | _,_,_,.nil=>by simpa using h
 | _,_,_,.cons (l:=m) (x:=x) h2 hx ha=>by
  have h3:=Wk.join h h2;have h4:=Wk.cons h3 hx ha;unfold Wq at h4 ⊢
  simp only[] at h4 ⊢
  rw[show l.Secs+(m.Secs+x.Secs)=l.Secs+m.Secs+x.Secs by omega,show l.Meters+(m.Meters+x.Meters)=l.Meters+m.Meters+x.Meters by omega]
  exact h4
theorem tri {p:Pr} (hp:OkP p) {a b c:Int} (ha:0≤a∧a<p.Road.Nodes) (hb:0≤b∧b<p.Road.Nodes) (hc:0≤c∧c<p.Road.Nodes) (h1:0≤(Y9 p a b).Secs) (h2:0≤(Y9 p b c).Secs) :
  0≤(Y9 p a c).Secs∧(Y9 p a c).Secs≤(Y9 p a b).Secs+(Y9 p b c).Secs:=by
 have hr:=OkR.of hp.road;obtain ⟨La,_⟩:=Qep hp ha;obtain ⟨Lb,_⟩:=Qep hp hb;obtain ⟨k,_,w1,_⟩:=Qeu hr (La.lb b hb.1 hb.2) (Qf3 h1);obtain ⟨k',_,w2,_⟩:=Qeu hr (Lb.lb c hc.1 hc.2) (Qf3 h2);have h3:=La.best _ _ _ (w1.join w2);have h4:=h3.2;unfold Lg.le at h4;refine ⟨h3.1,?_⟩;unfold Y9 at h1 h2 ⊢
 simp only[] at h4
 omega
structure Lax (p:Pr) (x' x:Vi):Prop where
 leg: ∀b,0≤b→b<p.Road.Nodes→0≤(Y9 p x.Node b).Secs→0≤(Y9 p x'.Node b).Secs∧x'.Leave+(Y9 p x'.Node b).Secs≤x.Leave+(Y9 p x.Node b).Secs
 load:x'.Load≤x.Load
theorem Lax.same {p:Pr} {x' x:Vi} (h1:x'.Node=x.Node) (h2:x'.Leave≤x.Leave) (h3:x'.Load≤x.Load):Lax p x' x :=
 ⟨fun b _ _ h=>⟨by rw[h1];exact h,by rw[h1];omega⟩,h3⟩
theorem QnN {p:Pr} {v:Ve} (hp:OkP p) {x' x y:Vi} {pre pre':List Int} {s:Int} (hl:Lax p x' x) (hsub: ∀u∈pre',u∈pre) (hs:Qam p v pre x s= .inl y) :
  ∃y',Qam p v pre' x' s= .inl y'∧Lax p y' y:=by
 unfold Qam at hs
 split at hs
 ·rename_i h1
  split at hs
  ·cases hs
  ·rename_i h2
   injection hs with hs;subst hs
   obtain ⟨g1,g2⟩:=hl.leg _ hp.u0 hp.u1 (by omega);unfold Qam
   rw[if_pos h1,if_neg (by omega)]
   exact ⟨_,rfl,Lax.same rfl (by simp only[];omega) (Int.le_refl _)⟩
 ·rename_i h1
  split at hs
  ·cases hs
  ·rename_i h2
   split at hs
   ·cases hs
   ·rename_i h3
    split at hs
    ·cases hs
    ·rename_i d hd
     have hd2:=hp.de d (List.mem_of_getElem? hd)
     split at hs
     ·cases hs
     ·rename_i h4
      split at hs
      ·cases hs
      ·rename_i h5
       split at hs
       ·cases hs
       ·rename_i h6
        split at hs
        ·cases hs
        ·rename_i h7
         injection hs with hs;subst hs
         obtain ⟨g1,g2⟩:=hl.leg _ hd2.n0 hd2.n1 (by omega);have g3:=hl.load;unfold Qam
         rw[if_neg h1,if_neg h2,if_neg (fun h=>h3 (hsub _ h)),hd]
         simp only[]
         rw[if_neg h4,if_neg (by omega),if_neg (by omega),if_neg (by omega)]
         exact ⟨_,rfl,Lax.same rfl (by simp only[];omega) (by simp only[];omega)⟩
theorem Qmc {p:Pr} {v:Ve} (hp:OkP p): ∀(rest pre pre':List Int) (x x':Vi) (z:Vi×List Vi),Lax p x' x→(∀u∈pre',u∈pre)→Vu p v pre rest x= .inl z→ ∃z',Vu p v pre' rest x'= .inl z'∧Lax p z'.1 z.1
 | [],pre,pre',x,x',z,hl,_,h=>by
  injection h with h;subst h
  exact ⟨_,rfl,hl⟩
 | s::rest,pre,pre',x,x',z,hl,hsub,h=>by
  unfold Vu at h
  split at h
  ·cases h
  ·rename_i y hy
   obtain ⟨y',h1,h2⟩:=QnN hp hl hsub hy
   split at h
   ·rename_i z1 hz
    injection h with h;subst h
    obtain ⟨z',h3,h4⟩:=Qmc hp rest (pre++[s]) (pre'++[s]) y y' z1 h2 (fun u hu=>by
     rcases List.mem_append.1 hu with h5 | h5
     ·exact List.mem_append_left _ (hsub u h5)
     ·exact List.mem_append_right _ h5) hz
    unfold Vu
    rw[h1]
    simp only[]
    rw[h3]
    exact ⟨_,rfl,h4⟩
   ·cases h
theorem QnM {p:Pr} {v:Ve} (hv:OkV p.Road.Nodes v) {x x' y:Vi} (hl:Lax p x' x) (h0:0≤x'.Load) (hs:QaB p v x= .inl y): ∃y',QaB p v x'= .inl y':=by
 unfold QaB at hs
 split at hs
 ·cases hs
 ·rename_i h1
  split at hs
  ·cases hs
  ·rename_i h2
   split at hs
   ·cases hs
   ·rename_i h3
    obtain ⟨g1,g2⟩:=hl.leg _ hv.d0 hv.d1 (by omega);have g3:=hl.load;unfold QaB
    simp only[ne_eq,Decidable.not_not] at h2
    rw[if_neg (by omega),if_neg (by omega),if_neg (by omega)]
    exact ⟨_,rfl⟩
theorem QnL {p:Pr} {v:Ve} (hp:OkP p) (hv:OkV p.Road.Nodes v) {k:Nat} {x y:Vi} {pre:List Int} {s:Int} (hx:InV p v k x) (h0:0≤s) (hs:Qam p v pre x s= .inl y):Lax p x y:=by
 have hin:=Qef hp hv hx hs;unfold Qam at hs
 rw[if_neg (by omega)] at hs
 split at hs
 ·cases hs
 ·split at hs
  ·cases hs
  ·split at hs
   ·cases hs
   ·rename_i d hd
    have hd2:=hp.de d (List.mem_of_getElem? hd);have a1:=hd2.g0;have a5:=hd2.s0
    split at hs
    ·cases hs
    ·split at hs
     ·cases hs
     ·rename_i h5
      split at hs
      ·cases hs
      ·split at hs
       ·cases hs
       ·injection hs with hs;subst hs
        refine ⟨fun b b0 b1 hb=> ?_,by simp only[];omega⟩
        simp only[] at hb ⊢
        have h6:=tri hp ⟨hx.n0,hx.n1⟩ ⟨hd2.n0,hd2.n1⟩ ⟨b0,b1⟩ (by omega) hb
        omega
theorem Qlb {p:Pr} (hp:OkP p) {t:Qa} {u:Vi×List Vi×Ve} (h:WI p t= .inl u) {n:Nat} {s:Int} (hn:t.Stops[n]? =some s) (h0:0≤s):(Qc5 p ⟨t.Vehicle,t.Stops.take n++t.Stops.drop (n+1)⟩).2.1=0:=by
 obtain ⟨z,y,hf,_,_⟩:=QfH h;have hv:=hp.ve u.2.2 (by
  have:=hf.hv;unfold getI at this
  rw[if_pos hf.t0] at this
  exact List.mem_of_getElem? this)
 have hnl:=Qr hn;have hsl:=hf.sl;have hfol:=hf.fol;have hsplit:t.Stops=t.Stops.take n++(s::t.Stops.drop (n+1)):=by
  conv=>lhs;rw[←List.take_append_drop n t.Stops]
  congr 1
  rw[List.drop_eq_getElem_cons hnl]
  rw[List.getElem?_eq_getElem hnl] at hn
  injection hn with hn
  rw[hn]
 rw[hsplit,QdP] at hfol
 cases hA:Vu p u.2.2 [] (t.Stops.take n) (x0 u.2.2) with
 | inr q=>rw[hA] at hfol;cases hfol
 | inl zA =>
  rw[hA] at hfol
  simp only[List.nil_append] at hfol
  have hzA:=Qdd hp hv (t.Stops.take n) [] _ _ (QgA hv) hA
  simp only[List.length_nil,Nat.zero_add,Yi (Nat.le_of_lt hnl)] at hzA
  cases hB:Vu p u.2.2 (t.Stops.take n) (s::t.Stops.drop (n+1)) zA.1 with
  | inr q=>rw[hB] at hfol;cases hfol
  | inl zB =>
   rw[hB] at hfol
   injection hfol with hfol
   have hB2:=hB;unfold Vu at hB2
   split at hB2
   ·cases hB2
   ·rename_i y1 hy1
    split at hB2
    ·rename_i zC hC
     injection hB2 with hB2
     have hlx:=QnL hp hv hzA.1 h0 hy1;obtain ⟨z',g1,g2⟩:=Qmc hp (t.Stops.drop (n+1)) (t.Stops.take n++[s]) (t.Stops.take n) y1 zA.1 zC hlx (fun w hw=>List.mem_append_left _ hw) hC;have hzn:=Qdd hp hv (t.Stops.drop (n+1)) (t.Stops.take n) _ _ (by rw[Yi (Nat.le_of_lt hnl)];exact hzA.1) g1;have hhom:=hf.hom
     rw[←hfol,←hB2] at hhom
     obtain ⟨y',g3⟩:=QnM hv g2 hzn.1.l0 hhom;have e:=Qoz (p:=p) (t:=⟨t.Vehicle,t.Stops.take n++t.Stops.drop (n+1)⟩) hf.t0 hf.t1 hf.hv (by simp;omega)
     simp only[] at e
     rw[QdP,hA] at e
     simp only[List.nil_append,g1,g3] at e
     unfold Qc5
     rw[e]
    ·cases hB2
end Go.Proofs.YthpgjbbjpfiniaaGreat
namespace Go.Proofs.YthpgjbbjpfiniaaGreat
open Go.RowKit
set_option linter.unusedSimpArgs false
set_option linter.unusedVariables false
structure Fe (p:Pr) (x:Pl):Prop where
 ok:OkP p
 chk:Ql p=some 0
 drv: ∀t∈x.Tours,(Yx p t).2=0
 dis:x.Tours.Pairwise fun a b=>a.Vehicle≠b.Vehicle
 lft: ∀e∈x.Left,0≤e∧e<((p.Demands.length:Nat):Int)
 one: ∀d,d<p.Demands.length→tn x.Tours d+cn x.Left d=1
theorem Qnn {n:Nat} {f:Nat→Nat} (h:QgB (vec n f)=0): ∀d,d<n→f d=1:=fun d hd=>by
 unfold QgB at h;have hm:((f d:Nat):Int)∈vec n f:=List.mem_of_getElem? (QfK f hd);cases h1:(vec n f).any fun c=>decide (1<c) with
 | true=>rw[h1] at h;cases h
 | false =>
  rw[h1] at h
  simp only[cond_false] at h
  cases h2:(vec n f).any fun c=>decide (c=0) with
  | true=>rw[h2] at h;cases h
  | false =>
   rw[List.any_eq_false] at h1 h2
   have a1:=h1 _ hm;have a2:=h2 _ hm
   simp at a1 a2
   omega
theorem Qnp {p:Pr} {ts:List To} (h: ∀(k:Nat) (t:To),ts[k]? =some t→QcH p ts k t=none):ts.Pairwise fun a b=>a.Vehicle≠b.Vehicle:=by
 rw[List.pairwise_iff_getElem]
 intro i j hi hj hij he;have:=h j _ (List.getElem?_eq_getElem hj);unfold QcH at this;have hany:(ts.take j).any (fun u=>decide (u.Vehicle=ts[j].Vehicle))=true:=by
  rw[List.any_eq_true]
  refine ⟨ts[i],?_,by simpa using he⟩;refine List.mem_of_getElem? (i:=i) ?_
  rw[List.getElem?_take,if_pos hij,List.getElem?_eq_getElem hi]
 rw[hany] at this
 cases this
theorem Qfk {p:Pr} {t:To} {u:Vi×List Vi×Ve} (h:WI p t= .inl u):(Yx p t).2=0:=by unfold Yx;rw[h]
theorem QcV {F:Nat} (hF:40000≤F) {p:Pr} (hn:p.Road.Edges.length≤600) (x:Pl) (hx:x.Tours.length≤30) (hl:x.Left.length≤100) :
  ∃s e,YT F p x=some (s,e)∧QN p x=some e∧Yd p x=some (s,e)∧(e=0→s=YF p x.Tours∧Fe p x):=by
 obtain ⟨s,e,h1,h2,h3⟩:=QmW hF hn x hx hl;refine ⟨s,e,h1,h2,h3,fun he=> ?_⟩;subst he;rcases Qcj p hn with ⟨g1,g2⟩ | ⟨e,g1,g2⟩
 ·rcases QeX (QcH p x.Tours) x.Tours 0 with k1 | ⟨c,i,t,k1,k2⟩
  ·simp only[Nat.zero_add] at k1
   have hdl:=g2.dl;have hall: ∀t∈x.Tours,(∀s∈t.Stops,okS p.Demands.length s)∧t.Stops.length≤40:=fun t htm=>by
    obtain ⟨i,hi⟩:=List.getElem?_of_mem htm;obtain ⟨u,hu⟩:=QcI (k1 i t hi);exact (Vt g2 hu).2.2
   have q1:=Qer hF g2 x hx
   rw[QP _ _ (fun i t hi=>by rw[Nat.zero_add,k1 i t hi];rfl)] at q1
   have q3:=(QcS (n:=p.Demands.length) x (fun _=>0) (by omega) (fun _=>Nat.zero_le _)).1;have q4:=(Qcd (n:=p.Demands.length) x (fun d=>0+cn x.Left d) (by omega) (fun d=>by have:=Qiu x.Left d;omega) (fun t htm=>by have:=(hall t htm).2;omega) (fun t htm=>(hall t htm).1)).1;have hpl:YT F p x=some (bif QeN p.Demands.length x.Left then (0,7) else (bif decide (QgB (vec p.Demands.length fun d=>0+cn x.Left d+tn x.Tours d)=0) then YF p x.Tours else 0,QgB (vec p.Demands.length fun d=>0+cn x.Left d+tn x.Tours d))):=by
    unfold YT
    rw[Zq (by omega) _ hn,g1]
    simp only[Option.bind_some,decide_true,Bool.not_true,cond_false]
    rw[q1]
    simp only[Option.bind_some,QD]
    rw[QdW _ (by omega)]
    simp only[Option.bind_some]
    rw[q3]
    cases QeN p.Demands.length x.Left with
    | true=>rfl
    | false =>
     simp only[cond_false,Option.bind_some,QD]
     rw[q4]
     simp only[Option.bind_some]
     rw[QgR _ (by rw[VB];omega),QgV _ (by rw[VB];omega)]
     unfold QgB
     simp only[Option.bind_some]
     generalize (vec p.Demands.length fun d=>0+cn x.Left d+tn x.Tours d).any (fun c=>decide (1<c))=a
     generalize (vec p.Demands.length fun d=>0+cn x.Left d+tn x.Tours d).any (fun c=>decide (c=0))=b
     cases a<;>cases b<;>rfl
   rw[h1] at hpl
   cases hbl:QeN p.Demands.length x.Left with
   | true=>rw[hbl] at hpl;cases hpl
   | false =>
    rw[hbl] at hpl
    simp only[cond_false,Option.some.injEq,Prod.mk.injEq] at hpl
    obtain ⟨p1,p2⟩:=hpl
    rw[←p2] at p1
    simp only[decide_true,cond_true] at p1
    refine ⟨p1,g2,g1,fun t ht=> ?_,Qnp k1,fun e he=> ?_,fun d hd=> ?_⟩
    ·obtain ⟨i,hi⟩:=List.getElem?_of_mem ht;obtain ⟨u,hu⟩:=QcI (k1 i t hi);exact Qfk hu
    ·unfold QeN at hbl
     rw[List.any_eq_false] at hbl
     have:=hbl e he
     simp at this
     omega
    ·have:=Qnn p2.symm d hd
     omega
  ·exfalso
   have hc0:=QjT k1;have q1:=Qer hF g2 x hx
   rw[k2] at q1
   unfold YT at h1
   rw[Zq (by omega) _ hn,g1] at h1
   simp only[Option.bind_some,decide_true,Bool.not_true,cond_false] at h1
   rw[q1] at h1
   simp only[Option.bind_some,QD,Option.some.injEq,Prod.mk.injEq] at h1
   exact hc0 h1.2
 ·exfalso
  unfold YT at h1
  rw[Zq (by omega) _ hn,g2] at h1
  simp only[Option.bind_some] at h1
  rw[show decide (e=0)=false by simpa using g1] at h1
  simp only[Bool.not_false,cond_true,Option.some.injEq,Prod.mk.injEq] at h1
  exact g1 h1.2
theorem Fe.tour {p:Pr} {x:Pl} (h:Fe p x) {t:To} (ht:t∈x.Tours):0≤t.Vehicle∧t.Vehicle<((p.Vehicles.length:Nat):Int)∧t.Stops.length≤40∧(∀s∈t.Stops,okS p.Demands.length s)∧ ∃u,WI p t= .inl u:=by
 obtain ⟨u,hu⟩:=QcL (h.drv t ht);obtain ⟨z,y,hf,_,_⟩:=QfH hu;exact ⟨hf.t0,hf.t1,hf.sl,(Vt h.ok hu).2.2.1,u,hu⟩
theorem QgT (x:Pl) (v:Int):(ofP x v∈x.Tours∧(ofP x v).Vehicle=v)∨ofP x v=⟨v,[]⟩:=by
 unfold ofP;cases h:x.Tours.find? fun t=>decide (t.Vehicle=v) with
 | none=>exact .inr rfl
 | some t =>
  have h1:=List.find?_some h;exact .inl ⟨List.mem_of_find?_eq_some h,by simpa using h1⟩
theorem Qmh (x:Pl) (v:Int):(ofP x v).Vehicle=v:=by
 rcases QgT x v with ⟨_,h⟩ | h
 ·exact h
 ·rw[h]
theorem Fe.of_len {p:Pr} {x:Pl} (h:Fe p x) (v:Int):(ofP x v).Stops.length≤40:=by
 rcases QgT x v with ⟨h1,_⟩ | h1
 ·exact (h.tour h1).2.2.1
 ·rw[h1];simp
theorem QjI (d:Int) (l:List Int):(wo d l).length≤l.length:=List.length_filter_le _ _
theorem QlR (d:Int) (l:List Int):d∉wo d l:=fun h=>by
 unfold wo at h
 simp at h
theorem Qh8 {d e:Int} (l:List Int) (h:e≠d):(wo d l).count e=l.count e:=by
 unfold wo
 rw[List.count_filter (by simpa using h)]
theorem QkM {d:Int}: ∀(l:List Int),l.count d≤1→d∈l→ ∃n,l[n]? =some d∧wo d l=l.take n++l.drop (n+1)
 | [],_,h=>by cases h
 | a::r,hc,h=>by
  by_cases ha:a=d
  ·subst ha;have h0:r.count a=0:=by simp at hc;omega
   have h1:wo a r=r:=QfM fun y hy=>by
    have:a∉r:=List.count_eq_zero.1 h0
    simp only[decide_eq_false_iff_not]
    intro e;rw[e] at hy;exact this hy
   exact ⟨0,rfl,by simp[wo] at h1 ⊢;exact h1⟩
  ·have hr:d∈r:=by rcases List.mem_cons.1 h with e | h;exact absurd e.symm ha;exact h
   have hc2:r.count d≤1:=by rw[List.count_cons] at hc;omega
   obtain ⟨n,h1,h2⟩:=QkM r hc2 hr;refine ⟨n+1,by simpa using h1,?_⟩;unfold wo at h2 ⊢
   simp[ha,h2]
theorem Qpi {ts:List To} {t:To} (h:t∈ts) (d:Nat):cn t.Stops d≤tn ts d:=by
 induction ts with
 | nil=>cases h
 | cons u ts ih =>
  simp only[tn,List.map_cons,List.sum_cons]
  rcases List.mem_cons.1 h with rfl | h
  ·omega
  ·have:=ih h;unfold tn at this;omega
theorem Fe.less {p:Pr} {x:Pl} (h:Fe p x) {d:Int} (h0:0≤d) (h1:d<((p.Demands.length:Nat):Int)) {t:To} (ht:t∈x.Tours):(Yx p ⟨t.Vehicle,wo d t.Stops⟩).2=0:=by
 obtain ⟨_,_,_,_,u,hu⟩:=h.tour ht
 by_cases hd:d∈t.Stops
 ·have hc:t.Stops.count d≤1:=by
   have a1:=h.one d.toNat (by omega);have a2:=Qpi ht d.toNat;unfold cn at a2
   rw[show ((d.toNat:Nat):Int)=d by omega] at a2
   omega
  obtain ⟨n,e1,e2⟩:=QkM t.Stops hc hd;have:=Qlb h.ok hu e1 h0
  rw[←e2] at this
  unfold Qc5 at this;cases hr:WI p ⟨t.Vehicle,wo d t.Stops⟩ with
  | inl w=>exact Qfk hr
  | inr q=>rw[hr] at this;exact absurd this (V8 hr)
 ·rw[QfM (fun y hy=>by simp only[decide_eq_false_iff_not];intro e;rw[e] at hy;exact hd hy)]
  exact h.drv t ht
theorem Qmr {n k:Nat} (a:Nat) (f:Nat→Nat) (hk:k<n) (h0:f k=0):((List.range n).map fun i=>if k=i then a else f i).sum=a+((List.range n).map f).sum:=by
 induction n with
 | zero=>omega
 | succ n ih =>
  simp only[List.range_succ,List.map_append,List.sum_append,List.map_cons,List.map_nil,List.sum_cons,List.sum_nil]
  by_cases h:k=n
  ·subst h;have:((List.range k).map fun i=>if k=i then a else f i)=(List.range k).map f:=List.map_congr_left fun i hi=>by
    rw[if_neg (by have:=List.mem_range.1 hi;omega)]
   rw[this,if_pos rfl,h0];omega
  ·rw[if_neg h,ih (by omega)];omega
theorem QkF (n:Nat):((List.range n).map fun _=>0).sum=0:=by
 induction n with
 | zero=>rfl
 | succ n ih=>simp only[List.range_succ,List.map_append,List.sum_append,ih];rfl
def gOf (ts:List To) (v:Int):To:=(ts.find? fun t=>decide (t.Vehicle=v)).getD ⟨v,[]⟩
theorem Qoy {n:Nat} (e:Nat): ∀{ts:List To},(ts.Pairwise fun a b=>a.Vehicle≠b.Vehicle)→(∀t∈ts,0≤t.Vehicle∧t.Vehicle<(n:Int))→((List.range n).map fun i:Nat=>cn (gOf ts (i:Int)).Stops e).sum=tn ts e
 | [],_,_=>by
  have:((List.range n).map fun i:Nat=>cn (gOf [] (i:Int)).Stops e)=(List.range n).map fun _=>0:=List.map_congr_left fun i _=>by simp[gOf,cn]
  rw[this,QkF]
  simp[tn]
 | t::r,hp,hv=>by
  have hp':=List.pairwise_cons.1 hp;have ih:=Qoy (n:=n) e hp'.2 fun u hu=>hv u (List.mem_cons_of_mem _ hu);obtain ⟨v0,v1⟩:=hv t List.mem_cons_self;have hg: ∀i:Nat,cn (gOf (t::r) (i:Int)).Stops e=if t.Vehicle.toNat=i then cn t.Stops e else cn (gOf r (i:Int)).Stops e:=fun i=>by
   unfold gOf
   by_cases h:t.Vehicle.toNat=i
   ·rw[if_pos h,List.find?_cons_of_pos (by simp;omega)];rfl
   ·rw[if_neg h,List.find?_cons_of_neg (by simp;omega)]
  have hz:cn (gOf r (t.Vehicle.toNat:Int)).Stops e=0:=by
   have:r.find? (fun u=>decide (u.Vehicle=(t.Vehicle.toNat:Int)))=none:=by
    rw[List.find?_eq_none]
    intro u hu;have:=hp'.1 u hu
    simp;omega
   unfold gOf
   rw[this]
   simp[cn]
  have e1:((List.range n).map fun i:Nat=>cn (gOf (t::r) (i:Int)).Stops e)=(List.range n).map fun i=>if t.Vehicle.toNat=i then cn t.Stops e else cn (gOf r (i:Int)).Stops e:=List.map_congr_left fun i _=>hg i
  rw[e1,Qmr _ (fun i:Nat=>cn (gOf r (i:Int)).Stops e) (by omega) hz,ih]
  simp[tn]
theorem Fe.sum {p:Pr} {x:Pl} (h:Fe p x) (e:Nat):((List.range p.Vehicles.length).map fun i:Nat=>cn (ofP x (i:Int)).Stops e).sum=tn x.Tours e :=
 Qoy e h.dis fun t ht=>⟨(h.tour ht).1,(h.tour ht).2.1⟩
def stB (x:Pl) (d v:Int) (b:To) (i:Nat):To:=if (i:Int)=v then b else ⟨(i:Int),wo d (ofP x (i:Int)).Stops⟩
def QgH (p:Pr) (x:Pl) (d:Int):List Int:=((List.range p.Demands.length).map fun k:Nat=>(k:Int)).filter fun k=> !decide (k=d)&&decide (k∈x.Left)
def Qdz (p:Pr) (x:Pl) (d v:Int) (b:To):Pl:=⟨((List.range p.Vehicles.length).map (stB x d v b)).filter Qbb,QgH p x d⟩
theorem Qkf (p:Pr) (x:Pl) (d:Int):(QgH p x d).Pairwise (· < ·):=by
 refine List.Pairwise.filter _ ?_
 rw[List.pairwise_map]
 exact List.Pairwise.imp (fun h=>by omega) List.pairwise_lt_range
theorem QhE {p:Pr} {x:Pl} {d e:Int}:e∈QgH p x d↔(0≤e∧e<((p.Demands.length:Nat):Int))∧e≠d∧e∈x.Left:=by
 unfold QgH
 rw[List.mem_filter]
 constructor
 ·rintro ⟨h1,h2⟩;obtain ⟨k,hk,rfl⟩:=List.mem_map.1 h1;have:=List.mem_range.1 hk
  simp at h2
  exact ⟨by omega,h2⟩
 ·rintro ⟨⟨h1,h2⟩,h3,h4⟩;refine ⟨List.mem_map.2 ⟨e.toNat,List.mem_range.2 (by omega),by omega⟩,?_⟩
  simp[h3,h4]
theorem Fe.left_nodup {p:Pr} {x:Pl} (h:Fe p x):x.Left.Nodup:=by
 rw[List.nodup_iff_count]
 intro e
 by_cases he:e∈x.Left
 ·have:=h.lft e he;have h1:=h.one e.toNat (by omega);unfold cn at h1
  rw[show ((e.toNat:Nat):Int)=e by omega] at h1
  omega
 ·rw[List.count_eq_zero.2 he];omega
theorem QnR {l:List Int} (h:l.Pairwise (· < ·)):l.Nodup:=List.Pairwise.imp (fun h=>by omega) h
theorem Qlk {a b:List Int} (ha:a.Nodup) (hb:b.Nodup) (h: ∀e,e∈a↔e∈b):a.Perm b:=(List.perm_ext_iff_of_nodup ha hb).2 h
theorem Fe.left_perm {p:Pr} {x:Pl} (h:Fe p x) (d:Int):(wo d x.Left).Perm (QgH p x d):=by
 refine Qlk (h.left_nodup.filter _) (QnR (Qkf p x d)) fun e=> ?_
 rw[QhE]
 unfold wo
 rw[List.mem_filter]
 simp only[Bool.not_eq_true',decide_eq_false_iff_not]
 exact ⟨fun ⟨h1,h2⟩=>⟨h.lft e h1,h2,h1⟩,fun ⟨_,h1,h2⟩=>⟨h2,h1⟩⟩
theorem Fe.left_sort {p:Pr} {x:Pl} (h:Fe p x) (hl:x.Left.length≤1000) (d:Int):QhW (wo d x.Left)=some (QgH p x d):=by
 have h1:=QjI d x.Left;unfold QhW
 rw[if_pos (by omega)]
 congr 1
 refine List.Perm.eq_of_pairwise (le:=(· ≤ ·)) (fun a b _ _=>Int.le_antisymm) (Qdg _) (List.Pairwise.imp (fun h=>by omega) (Qkf p x d)) ((Qdf _).trans (h.left_perm d))
end Go.Proofs.YthpgjbbjpfiniaaGreat
