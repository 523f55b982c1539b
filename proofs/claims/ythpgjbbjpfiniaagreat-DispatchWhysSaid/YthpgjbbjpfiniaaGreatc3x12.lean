/- DispatchWhys: for every input the given law returns true, and its arguments read as before. No condition. -/
import Derived.Test.YthpgjbbjpfiniaaGreatc3x10
import Derived.Test.YthpgjbbjpfiniaaGreatc3x11
namespace Go.Proofs.YthpgjbbjpfiniaaGreat
set_option linter.unusedSimpArgs false
set_option linter.unusedVariables false
section
variable {α:Type}
def QhT (cmp:α→α→Option Int) (a1:Int) (j_:(List α)×Int):Option (((List α)×Int)⊕((List α))) :=
 oun j_ fun data3 j1 =>
 Option.bind (
  bif (decide (a1<j1)) then
   Option.bind (getI data3 j1) fun x1 =>
   Option.bind (getI data3 (w64 (j1-1))) fun x2 =>
   Option.bind (cmp x1 x2) fun r1 =>
   some (decide (r1<0))
  else
   some false) (fun v1 =>
  bif v1 then
   Option.bind (getI data3 (w64 (j1-1))) fun x3 =>
   Option.bind (getI data3 j1) fun x4 =>
   Option.bind (getI data3 j1) fun x5 =>
   Option.bind (getI (Yi data3 j1 x3) (w64 (j1-1))) fun x6 =>
   some (.inl ((Yi (Yi data3 j1 x3) (w64 (j1-1)) x4),w64 (j1-1)))
  else
   some (.inr data3))
def QhU (cmp:α→α→Option Int) (F:Nat) (a1:Int) (b1:Int) (j_:(List α)×Int):Option (((List α)×Int)⊕((List α))) :=
 oun j_ fun data2 i1 =>
 bif (decide (i1<b1)) then
  Option.bind (
   Option.bind (
    iter (QhT cmp a1) F (data2,i1)) (fun data5 =>
    some data5)) (fun data6 =>
   some (.inl (data6,w64 (i1+1))))
 else
  some (.inr data2)
def Qn0 (cmp:α→α→Option Int) (F:Nat) (data1:(List α)) (a1:Int) (b1:Int):Option ((List α)) :=
 Option.bind (
  iter (QhU cmp F a1 b1) F (data1,w64 (a1+1))) (fun data7 =>
  some data7)
def Qmx (a1:Int) (b1:Int) (n2:Int) (j_:(List α)×Int):Option (((List α)×Int)⊕((List α))) :=
 oun j_ fun data2 i1 =>
 bif (decide (i1<n2)) then
  Option.bind (getI data2 (w64 (b1+i1))) fun x1 =>
  Option.bind (getI data2 (w64 (a1+i1))) fun x2 =>
  Option.bind (getI data2 (w64 (a1+i1))) fun x3 =>
  Option.bind (getI (Yi data2 (w64 (a1+i1)) x1) (w64 (b1+i1))) fun x4 =>
  some (.inl ((Yi (Yi data2 (w64 (a1+i1)) x1) (w64 (b1+i1)) x2),w64 (i1+1)))
 else
  some (.inr data2)
def gSw (data1:(List α)) (a1:Int) (b1:Int) (n2:Int):Option ((List α)) :=
 Option.bind (
  iter (Qmx a1 b1 n2) (n2.toNat+1) (data1,0)) (fun data4 =>
  some data4)
def QhX (m1:Int) (j_:(List α)×Int×Int):Option (((List α)×Int×Int)⊕(((List α)×Int))) :=
 oun j_ fun data2 j_=>oun j_ fun i1 j1 =>
 bif (!(decide (i1=j1))) then
  bif (decide (j1<i1)) then
   Option.bind (gSw data2 (w64 (m1-i1)) m1 j1) fun r1 =>
   some (.inl (r1,w64 (i1-j1),j1))
  else
   Option.bind (gSw data2 (w64 (m1-i1)) (w64 ((w64 (m1+j1))-i1)) i1) fun r2 =>
   some (.inl (r2,i1,w64 (j1-i1)))
 else
  some (.inr (data2,i1))
def Qpc (F:Nat) (data1:(List α)) (a1:Int) (m1:Int) (b1:Int):Option ((List α)) :=
 Option.bind (
  iter (QhX m1) F (data1,w64 (m1-a1),w64 (b1-m1))) (fun j_=>oun j_ fun data3 i2 =>
  Option.bind (gSw data3 (w64 (m1-i2)) m1 i2) fun r3 =>
  some r3)
def QhY (cmp:α→α→Option Int) (data1:(List α)) (a1:Int) (j_:Int×Int):Option ((Int×Int)⊕(Int)) :=
 oun j_ fun i1 j1 =>
 bif (decide (i1<j1)) then
  Option.bind (WG (0≤1∧1≤64)) fun _ =>
  Option.bind (getI data1 (w64 ((IntKind.u64.wrap (w64 (i1+j1)))/2^(1:Int).toNat))) fun x1 =>
  Option.bind (getI data1 a1) fun x2 =>
  Option.bind (cmp x1 x2) fun r1 =>
  bif (decide (r1<0)) then
   some (.inl (w64 ((w64 ((IntKind.u64.wrap (w64 (i1+j1)))/2^(1:Int).toNat))+1),j1))
  else
   some (.inl (i1,w64 ((IntKind.u64.wrap (w64 (i1+j1)))/2^(1:Int).toNat)))
 else
  some (.inr i1)
def QjG (cmp:α→α→Option Int) (i2:Int) (j_:(List α)×Int):Option (((List α)×Int)⊕((List α))) :=
 oun j_ fun data2 k1 =>
 bif (decide (k1<(w64 (i2-1)))) then
  Option.bind (getI data2 (w64 (k1+1))) fun x3 =>
  Option.bind (getI data2 k1) fun x4 =>
  Option.bind (getI data2 k1) fun x5 =>
  Option.bind (getI (Yi data2 k1 x3) (w64 (k1+1))) fun x6 =>
  some (.inl ((Yi (Yi data2 k1 x3) (w64 (k1+1)) x4),w64 (k1+1)))
 else
  some (.inr data2)
def QhZ (cmp:α→α→Option Int) (data1:(List α)) (m1:Int) (j_:Int×Int):Option ((Int×Int)⊕(Int)) :=
 oun j_ fun i3 j2 =>
 bif (decide (i3<j2)) then
  Option.bind (WG (0≤1∧1≤64)) fun _ =>
  Option.bind (getI data1 m1) fun x7 =>
  Option.bind (getI data1 (w64 ((IntKind.u64.wrap (w64 (i3+j2)))/2^(1:Int).toNat))) fun x8 =>
  Option.bind (cmp x7 x8) fun r2 =>
  bif (!(decide (r2<0))) then
   some (.inl (w64 ((w64 ((IntKind.u64.wrap (w64 (i3+j2)))/2^(1:Int).toNat))+1),j2))
  else
   some (.inl (i3,w64 ((IntKind.u64.wrap (w64 (i3+j2)))/2^(1:Int).toNat)))
 else
  some (.inr i3)
def QjH (cmp:α→α→Option Int) (i4:Int) (j_:(List α)×Int):Option (((List α)×Int)⊕((List α))) :=
 oun j_ fun data5 k2 =>
 bif (decide (i4<k2)) then
  Option.bind (getI data5 (w64 (k2-1))) fun x9 =>
  Option.bind (getI data5 k2) fun x10 =>
  Option.bind (getI data5 k2) fun x11 =>
  Option.bind (getI (Yi data5 k2 x9) (w64 (k2-1))) fun x12 =>
  some (.inl ((Yi (Yi data5 k2 x9) (w64 (k2-1)) x10),w64 (k2-1)))
 else
  some (.inr data5)
def Qgn (cmp:α→α→Option Int) (data1:(List α)) (j_:Int×Int×Int):Option ((Int×Int×Int)⊕(Int)) :=
 oun j_ fun start2 j_=>oun j_ fun r4 p1 =>
 bif (decide (start2<r4)) then
  Option.bind (WG (0≤1∧1≤64)) fun _ =>
  Option.bind (getI data1 (w64 (p1-(w64 ((IntKind.u64.wrap (w64 (start2+r4)))/2^(1:Int).toNat))))) fun x13 =>
  Option.bind (getI data1 (w64 ((IntKind.u64.wrap (w64 (start2+r4)))/2^(1:Int).toNat))) fun x14 =>
  Option.bind (cmp x13 x14) fun r5 =>
  bif (!(decide (r5<0))) then
   some (.inl (w64 ((w64 ((IntKind.u64.wrap (w64 (start2+r4)))/2^(1:Int).toNat))+1),r4,p1))
  else
   some (.inl (start2,w64 ((IntKind.u64.wrap (w64 (start2+r4)))/2^(1:Int).toNat),p1))
 else
  some (.inr start2)
def Qed (cmp:α→α→Option Int) (rec_:(List α)→Int→Int→Int→Option ((List α))) (F:Nat) (data1:(List α)) (a1:Int) (m1:Int) (b1:Int):Option ((List α)) :=
 bif (decide ((w64 (m1-a1))=1)) then
  Option.bind (
   iter (QhY cmp data1 a1) F (m1,b1)) (fun i2 =>
   Option.bind (
    iter (QjG cmp i2) F (data1,a1)) (fun data4 =>
    some data4))
 else
  bif (decide ((w64 (b1-m1))=1)) then
   Option.bind (
    iter (QhZ cmp data1 m1) F (a1,m1)) (fun i4 =>
    Option.bind (
     iter (QjH cmp i4) F (data1,m1)) (fun data7 =>
     some data7))
  else
   Option.bind (WG (0≤1∧1≤64)) fun _ =>
   Option.bind (
    bif (decide ((w64 ((IntKind.u64.wrap (w64 (a1+b1)))/2^(1:Int).toNat))<m1)) then
     some (w64 ((IntKind.u64.wrap (w64 (a1+b1)))/2^(1:Int).toNat),w64 ((w64 ((IntKind.u64.wrap (w64 (a1+b1)))/2^(1:Int).toNat))+m1),w64 ((w64 ((w64 ((IntKind.u64.wrap (w64 (a1+b1)))/2^(1:Int).toNat))+m1))-b1),w64 ((IntKind.u64.wrap (w64 (a1+b1)))/2^(1:Int).toNat))
    else
     some (w64 ((IntKind.u64.wrap (w64 (a1+b1)))/2^(1:Int).toNat),w64 ((w64 ((IntKind.u64.wrap (w64 (a1+b1)))/2^(1:Int).toNat))+m1),a1,m1)) (fun j_=>oun j_ fun mid1 j_=>oun j_ fun n2 j_=>oun j_ fun start1 r3 =>
    Option.bind (
     iter (Qgn cmp data1) F (start1,r3,w64 (n2-1))) (fun start3 =>
     Option.bind (
      bif (decide (start3<m1)) then
       some (w64 (n2-start3),(decide (m1<(w64 (n2-start3)))))
      else
       some (w64 (n2-start3),false)) (fun j_=>oun j_ fun f_end1 v1 =>
      Option.bind (
       bif v1 then
        Option.bind (Qpc F data1 start3 m1 f_end1) fun r6 =>
        some r6
       else
        some data1) (fun data8 =>
       Option.bind (
        bif (decide (a1<start3)) then
         some (decide (start3<mid1))
        else
         some false) (fun v2 =>
        Option.bind (
         bif v2 then
          Option.bind (rec_ data8 a1 start3 mid1) fun r7 =>
          some r7
         else
          some data8) (fun data9 =>
         Option.bind (
          bif (decide (mid1<f_end1)) then
           some (decide (f_end1<b1))
          else
           some false) (fun v3 =>
          Option.bind (
           bif v3 then
            Option.bind (rec_ data9 mid1 f_end1 b1) fun r8 =>
            some r8
           else
            some data9) (fun data10 =>
           some data10))))))))
def QjF (cmp:α→α→Option Int):Nat→(List α)→Int→Int→Int→Option ((List α))
 | 0,_,_,_,_=>none
 | F+1,data1,a1,m1,b1=>Qed cmp (QjF cmp F) F data1 a1 m1 b1
def Qmw (cmp:α→α→Option Int) (F:Nat) (n2:Int) (j_:(List α)×Int×Int):Option (((List α)×Int×Int)⊕(((List α)×Int))) :=
 oun j_ fun data2 j_=>oun j_ fun a1 b1 =>
 bif (decide (b1≤n2)) then
  Option.bind (Qn0 cmp F data2 a1 b1) fun r1 =>
  some (.inl (r1,b1,w64 (b1+20)))
 else
  some (.inr (data2,a1))
def QgL (cmp:α→α→Option Int) (F:Nat) (n2:Int) (blockSize1:Int) (j_:(List α)×Int×Int):Option (((List α)×Int×Int)⊕(((List α)×Int))) :=
 oun j_ fun data5 j_=>oun j_ fun a3 b2 =>
 bif (decide (b2≤n2)) then
  Option.bind (QjF cmp F data5 a3 (w64 (a3+blockSize1)) b2) fun r3 =>
  some (.inl (r3,b2,w64 (b2+(w64 (2*blockSize1)))))
 else
  some (.inr (data5,a3))
def QgM (cmp:α→α→Option Int) (F:Nat) (n2:Int) (j_:(List α)×Int):Option (((List α)×Int)⊕((List α))) :=
 oun j_ fun data4 blockSize1 =>
 bif (decide (blockSize1<n2)) then
  Option.bind (
   iter (QgL cmp F n2 blockSize1) F (data4,0,w64 (2*blockSize1))) (fun j_=>oun j_ fun data6 a4 =>
   Option.bind (
    bif (decide ((w64 (a4+blockSize1))<n2)) then
     Option.bind (QjF cmp F data6 a4 (w64 (a4+blockSize1)) n2) fun r4 =>
     some r4
    else
     some data6) (fun data7 =>
    some (.inl (data7,w64 (blockSize1*2)))))
 else
  some (.inr data4)
def gSt (cmp:α→α→Option Int) (F:Nat) (data1:(List α)) (n2:Int):Option ((List α)) :=
 Option.bind (
  iter (Qmw cmp F n2) F (data1,0,20)) (fun j_=>oun j_ fun data3 a2 =>
  Option.bind (Qn0 cmp F data3 a2 n2) fun r2 =>
  Option.bind (
   iter (QgM cmp F n2) F (r2,20)) (fun data8 =>
   some data8))
def Qi4 (cmp:α→α→Option Int) (F:Nat) (x1:(List α)):Option ((List α)) :=
 Option.bind (gSt cmp F x1 ((x1.length:Nat):Int)) fun r1 =>
 some r1
theorem QiQ {a b:Nat} (h:a+b≤1000000000000000):w64 ((a:Int)+(b:Int))=((a+b:Nat):Int):=by rw[Yg (by omega) (by omega)];omega
theorem QeI {a b:Nat} (h:b≤a) (h2:a≤1000000000000000):w64 ((a:Int)-(b:Int))=((a-b:Nat):Int):=by rw[Yg (by omega) (by omega)];omega
theorem Qld {a:Nat} (h:1≤a) (h2:a≤1000000000000000):w64 ((a:Int)-1)=((a-1:Nat):Int):=QeI (b:=1) h h2
theorem QgU {a:Nat} (h2:a≤1000000000000):w64 ((a:Int)+1)=((a+1:Nat):Int):=QiQ (b:=1) (by omega)
theorem QmS {i j:Nat} (h:i+j≤1000000000000000):w64 ((IntKind.u64.wrap (w64 ((i:Int)+(j:Int))))/2^(1:Int).toNat)=(((i+j)/2:Nat):Int):=by
 rw[QiQ h]
 have h1:IntKind.u64.wrap ((i+j:Nat):Int)=((i+j:Nat):Int):=by simp[IntKind.wrap,IntKind.bits,IntKind.signed];omega
 rw[h1]
 have h2:(2:Int)^(1:Int).toNat=2:=rfl
 rw[h2,Yg (by omega) (by omega)]
 omega
theorem Qb7 {L:List α} {i:Nat} (h:i<L.length): ∃x,L[i]? =some x:=⟨L[i],by simp[h]⟩
theorem Qf5 (L:List α) (i:Nat) (x:α):Yi L (i:Int) x=L.set i x:=by simp[Yi]
theorem QoW {L:List α} {i j:Nat} {x y:α} (hx:L[i]? =some x) (hy:L[j]? =some y) (t:Nat):((L.set i y).set j x)[t]? =if t=j then L[i]? else if t=i then L[j]? else L[t]? :=by
 have hi:=Qt hx;have hj:=Qt hy
 by_cases h1:t=j
 ·subst h1;rw[if_pos rfl];simp[hj,hx]
 ·by_cases h2:t=i
  ·subst h2;rw[if_neg h1,if_pos rfl,List.getElem?_set_ne (fun h=>h1 h.symm),hy];simp[hi]
  ·rw[if_neg h1,if_neg h2,List.getElem?_set_ne (fun h=>h1 h.symm),List.getElem?_set_ne (fun h=>h2 h.symm)]
def swF (L:List α) (a b n t:Nat):Option α:=if a≤t∧t<a+n then L[t-a+b]? else if b≤t∧t<b+n then L[t-b+a]? else L[t]?
theorem QkB {L:List α} {a b n:Nat} (h1:a+n≤b) (h2:b+n≤L.length) (hs:L.length≤1000000000000): ∀(r i:Nat) (M:List α) (f:Nat),i+r=n→r<f→M.length=L.length→(∀t,M[t]? =swF L a b i t) →
  ∃L',iter (Qmx (α:=α) a b n) f (M,(i:Int))=some L'∧L'.length=L.length∧ ∀t,L'[t]? =swF L a b n t
 | _,_,_,0,_,h,_,_=>by omega
 | 0,i,M,f+1,hi,_,hl,hM=>by
  have:i=n:=by omega
  subst this;refine ⟨M,?_,hl,hM⟩
  simp only[iter,Qmx,oun,Int.lt_irrefl,decide_false,cond_false,Option.bind_some,QI]
 | r+1,i,M,f+1,hi,hf,hl,hM=>by
  obtain ⟨x,hx⟩:=Qb7 (L:=M) (i:=b+i) (by omega);obtain ⟨y,hy⟩:=Qb7 (L:=M) (i:=a+i) (by omega);have hlt:((i:Nat):Int)<(n:Nat):=by omega
  have e1:w64 ((b:Int)+(i:Int))=((b+i:Nat):Int):=QiQ (by omega);have e2:w64 ((a:Int)+(i:Int))=((a+i:Nat):Int):=QiQ (by omega);have e3:w64 ((i:Int)+1)=((i+1:Nat):Int):=QgU (by omega);have e4:(M.set (a+i) x)[b+i]? =some x:=by rw[List.getElem?_set,if_neg (by omega)];exact hx
  have key:=QkB h1 h2 hs r (i+1) ((M.set (a+i) x).set (b+i) y) f (by omega) (by omega) (by simpa using hl) (fun t=>by
   rw[QoW hy hx t,hM t,hM (a+i),hM (b+i)]
   unfold swF
   repeat' split
   all_goals first | omega | rfl | (congr 1;omega))
  obtain ⟨L',k1,k2,k3⟩:=key;refine ⟨L',?_,k2,k3⟩
  rw[←k1]
  simp only[iter,Qmx,oun,hlt,decide_true,cond_true,e1,e2,e3,Qs,Qf5,hx,hy,e4,Option.bind_some,QI]
theorem QlD {L:List α} {a b n:Nat} (h1:a+n≤b) (h2:b+n≤L.length) (hs:L.length≤1000000000000): ∃L',gSw L a b n=some L'∧L'.length=L.length∧ ∀t,L'[t]? =swF L a b n t:=by
 obtain ⟨L',k1,k2,k3⟩:=QkB h1 h2 hs n 0 L ((n:Int).toNat+1) (by omega) (by omega) rfl (fun t=>by unfold swF;rw[if_neg (by omega),if_neg (by omega)]);refine ⟨L',?_,k2,k3⟩;unfold gSw
 rw[show ((0:Nat):Int)=0 from rfl] at k1
 rw[k1];rfl
def QlZ (L:List α) (m i j t:Nat):Option α:=if m-i≤t∧t<m+j then (if t<m-i+j then L[t+i]? else L[t-j]?) else L[t]?
theorem Qgm {m:Nat}: ∀(s i j:Nat) (L:List α) (f:Nat),i+j≤s→s<f→1≤i→1≤j→i≤m→m+j≤L.length→L.length≤1000000000000 →
  ∃(M:List α) (d:Nat),iter (QhX (α:=α) m) f (L,(i:Int),(j:Int))=some (M,(d:Int))∧M.length=L.length∧1≤d∧d≤i∧d≤j∧ ∀(L':List α),L'.length=L.length→(∀t,L'[t]? =swF M (m-d) m d t)→ ∀t,L'[t]? =QlZ L m i j t
 | _,_,_,_,0,_,h,_,_,_,_,_=>by omega
 | 0,i,j,_,_,h,_,_,_,_,_,_=>by omega
 | s+1,i,j,L,f+1,hs,hf,hi,hj,him,hjl,hl=>by
  by_cases hij:i=j
  ·subst hij;refine ⟨L,i,?_,rfl,hi,Nat.le_refl _,Nat.le_refl _,fun L' _ h t=> ?_⟩
   ·simp only[iter,QhX,oun,decide_true,Bool.not_true,cond_false,Option.bind_some,QI]
   ·rw[h t]
    unfold swF QlZ
    repeat' split
    all_goals first | omega | rfl | (congr 1;omega)
  ·have hne: ¬((i:Int)=(j:Int)):=by omega
   by_cases hlt:j<i
   ·have hlt':((j:Nat):Int)<(i:Nat):=by omega
    obtain ⟨L1,k1,k2,k3⟩:=QlD (L:=L) (a:=m-i) (b:=m) (n:=j) (by omega) (by omega) hl;obtain ⟨M,d,q1,q2,q3,q4,q5,q6⟩:=Qgm (m:=m) s (i-j) j L1 f (by omega) (by omega) (by omega) hj (by omega) (by omega) (by omega);refine ⟨M,d,?_,by omega,q3,by omega,q5,fun L' hL' h t=> ?_⟩
    ·rw[←q1]
     simp only[iter,QhX,oun,hne,hlt',decide_false,decide_true,Bool.not_false,cond_true,QeI him (by omega:m≤1000000000000000),k1,QeI (Nat.le_of_lt hlt) (by omega:i≤1000000000000000),Option.bind_some,QI]
    ·rw[q6 L' (by omega) h t]
     unfold QlZ
     simp only[k3]
     unfold swF
     repeat' split
     all_goals first | omega | rfl | (congr 1;omega)
   ·have hlt': ¬(((j:Nat):Int)<(i:Nat)):=by omega
    obtain ⟨L1,k1,k2,k3⟩:=QlD (L:=L) (a:=m-i) (b:=m+j-i) (n:=i) (by omega) (by omega) hl;obtain ⟨M,d,q1,q2,q3,q4,q5,q6⟩:=Qgm (m:=m) s i (j-i) L1 f (by omega) (by omega) hi (by omega) him (by omega) (by omega);refine ⟨M,d,?_,by omega,q3,q4,by omega,fun L' hL' h t=> ?_⟩
    ·rw[←q1]
     simp only[iter,QhX,oun,hne,hlt',decide_false,decide_true,Bool.not_false,cond_true,cond_false,QeI him (by omega:m≤1000000000000000),QiQ (by omega:m+j≤1000000000000000),QeI (by omega:i≤m+j) (by omega:m+j≤1000000000000000),k1,QeI (by omega:i≤j) (by omega:j≤1000000000000000),Option.bind_some,QI]
    ·rw[q6 L' (by omega) h t]
     unfold QlZ
     simp only[k3]
     unfold swF
     repeat' split
     all_goals first | omega | rfl | (congr 1;omega)
theorem Qpd {L:List α} {a m b F:Nat} (h1:a<m) (h2:m<b) (h3:b≤L.length) (hs:L.length≤1000000000000) (hF:b-a<F): ∃L',Qpc F L a m b=some L'∧L'.length=L.length∧ ∀t,L'[t]? =QlZ L m (m-a) (b-m) t:=by
 obtain ⟨M,d,q1,q2,q3,q4,q5,q6⟩:=Qgm (m:=m) (b-a) (m-a) (b-m) L F (by omega) hF (by omega) (by omega) (by omega) (by omega) hs;obtain ⟨L',k1,k2,k3⟩:=QlD (L:=M) (a:=m-d) (b:=m) (n:=d) (by omega) (by omega) (by omega);refine ⟨L',?_,by omega,q6 L' (by omega) k3⟩;unfold Qpc
 simp only[QeI (Nat.le_of_lt h1) (by omega:m≤1000000000000000),QeI (Nat.le_of_lt h2) (by omega:b≤1000000000000000),q1,Option.bind_some,oun,QeI (by omega:d≤m) (by omega:m≤1000000000000000),k1]
variable {k:α→Int}
def Srt (k:α→Int) (l:List α):Prop:=l.Pairwise fun x y=>k x≤k y
structure YP (k:α→Int) (l l':List α):Prop where
 perm:l.Perm l'
 fil: ∀c,l.filter (fun x=>decide (k x=c))=l'.filter (fun x=>decide (k x=c))
theorem YP.refl (l:List α):YP k l l:=⟨List.Perm.refl _,fun _=>rfl⟩
theorem YP.trans {a b c:List α} (h:YP k a b) (h2:YP k b c):YP k a c:=⟨h.perm.trans h2.perm,fun q=>(h.fil q).trans (h2.fil q)⟩
theorem YP.symm {a b:List α} (h:YP k a b):YP k b a:=⟨h.perm.symm,fun q=>(h.fil q).symm⟩
theorem YP.append {a b c d:List α} (h:YP k a b) (h2:YP k c d):YP k (a++c) (b++d):=⟨h.perm.append h2.perm,fun q=>by rw[List.filter_append,List.filter_append,h.fil q,h2.fil q]⟩
theorem YP.swap {u v:List α} (h: ∀x∈u,∀y∈v,k y<k x):YP k (u++v) (v++u):=by
 refine ⟨List.perm_append_comm,fun c=> ?_⟩
 rw[List.filter_append,List.filter_append]
 by_cases hu:u.filter (fun x=>decide (k x=c))=[]
 ·rw[hu];simp
 ·have hv:v.filter (fun x=>decide (k x=c))=[]:=by
   rw[List.filter_eq_nil_iff]
   intro y hy hyc;obtain ⟨x,hx⟩:=List.exists_mem_of_ne_nil _ hu;have hx':=List.mem_filter.1 hx;have:=h x hx'.1 y hy;have e1:=of_decide_eq_true hx'.2;have e2:=of_decide_eq_true hyc
   omega
  rw[hv];simp
theorem Srt.unique: ∀{l l':List α},Srt k l→Srt k l'→YP k l l'→l=l'
 | [],l',_,_,h=>(h.perm.symm.eq_nil).symm
 | x::r,[],_,_,h=>by have:=h.perm.eq_nil;cases this
 | x::r,y::r',h1,h2,h=>by
  have hx: ∀z∈x::r,k x≤k z:=fun z hz=>by
   rcases List.mem_cons.1 hz with rfl | hz
   ·exact Int.le_refl _
   ·exact (List.pairwise_cons.1 h1).1 z hz
  have hy: ∀z∈y::r',k y≤k z:=fun z hz=>by
   rcases List.mem_cons.1 hz with rfl | hz
   ·exact Int.le_refl _
   ·exact (List.pairwise_cons.1 h2).1 z hz
  have e1:=hx y (h.perm.mem_iff.2 List.mem_cons_self);have e2:=hy x (h.perm.mem_iff.1 List.mem_cons_self);have e3:k x=k y:=by omega
  have f1:=h.fil (k x)
  rw[List.filter_cons_of_pos (by simp),List.filter_cons_of_pos (by simp[e3])] at f1
  injection f1 with f1 f2
  subst f1;have:YP k r r':=⟨(List.perm_cons x).1 h.perm,fun c=>by
   by_cases hc:k x=c
   ·subst hc;exact f2
   ·have f3:=h.fil c
    rw[List.filter_cons_of_neg (by simp[hc]),List.filter_cons_of_neg (by simp[hc])] at f3
    exact f3⟩
  rw[Srt.unique (List.pairwise_cons.1 h1).2 (List.pairwise_cons.1 h2).2 this]
theorem Qpr {A U V B L':List α} {m:Nat} (hm:A.length+U.length=m) (h: ∀t,L'[t]? =QlZ (A++(U++(V++B))) m U.length V.length t):L'=A++(V++(U++B)):=by
 refine List.ext_getElem? fun t=> ?_
 rw[h t]
 unfold QlZ
 simp only[List.getElem?_append]
 repeat' split
 all_goals first | omega | rfl | (congr 1;omega)
variable {cmp:α→α→Option Int} {Pv:α→Prop}
theorem QcC {A B:List α} {x:α} {i:Nat} (h:A.length=i):(A++x::B)[i]? =some x:=by subst h;simp
theorem Qk6 {A B:List α} {x z:α} {i:Nat} (h:A.length=i):((A++z::x::B).set (i+1) z).set i x=A++x::z::B:=by
 subst h
 rw[List.set_append_right _ _ (by omega),List.set_append_right _ _ (by omega)]
 simp
theorem QhV (hc: ∀x y,Pv x→Pv y→ ∃z,cmp x y=some z∧(z<0↔k x<k y)) {a:Nat} {A:List α} (hA:A.length=a) {x:α} (hx:Pv x): ∀(n:Nat) (Z B:List α) (f:Nat),Z.length=n→n<f→Srt k Z→(∀z∈Z,Pv z)→a+n≤1000000000000 →
  ∃Z1 Z2,Z=Z1++Z2∧iter (QhT cmp a) f (A++Z++x::B,((a+n:Nat):Int))=some (A++Z1++x::(Z2++B))∧(∀z∈Z2,k x<k z)∧ ∀z∈Z1,k z≤k x
 | _,_,_,0,_,h,_,_,_=>by omega
 | 0,Z,B,f+1,hZ,_,_,_,_=>by
  have:Z=[]:=List.eq_nil_of_length_eq_zero hZ;subst this;refine ⟨[],[],rfl,?_,by simp,by simp⟩;have: ¬((a:Int)<((a+0:Nat):Int)):=by omega
  simp only[iter,QhT,oun,this,decide_false,cond_false,Option.bind_some,QI,List.append_nil,List.nil_append]
 | n+1,Z,B,f+1,hZ,hf,hs,hp,hb=>by
  obtain ⟨Z',z,rfl⟩: ∃Z' z,Z=Z'++[z]:=by
   have:Z≠[]:=by intro e;rw[e] at hZ;simp at hZ
   exact ⟨Z.dropLast,Z.getLast this,(List.dropLast_concat_getLast this).symm⟩
  have hl:Z'.length=n:=by simpa using hZ
  have hz:Pv z:=hp z (by simp);have hlt:(a:Int)<((a+(n+1):Nat):Int):=by omega
  have e0:A++(Z'++[z])++x::B=(A++Z')++z::x::B:=by simp
  have g1:(A++(Z'++[z])++x::B)[a+(n+1)]? =some x:=QcC (by simp[hA,hl]);have g2:(A++(Z'++[z])++x::B)[a+(n+1)-1]? =some z:=by rw[e0];exact QcC (by simp[hA,hl])
  have e1:w64 (((a+(n+1):Nat):Int)-1)=((a+(n+1)-1:Nat):Int):=Qld (by omega) (by omega);obtain ⟨q,hq,hqk⟩:=hc x z hx hz
  by_cases hk:k x<k z
  ·have hq0:=hqk.2 hk;obtain ⟨Z1,Z2,k1,k2,k3,k4⟩:=QhV hc hA hx n Z' (z::B) f hl (by omega) (List.pairwise_append.1 hs).1 (fun y hy=>hp y (by simp[hy])) (by omega);refine ⟨Z1,Z2++[z],by rw[k1];simp,?_,?_,k4⟩
   ·have e2:((A++(Z'++[z])++x::B).set (a+(n+1)) z).set (a+(n+1)-1) x=A++Z'++x::(z::B):=by
     rw[e0]
     have:a+(n+1)-1=a+n:=by omega
     rw[this]
     have e3:a+(n+1)=(a+n)+1:=by omega
     rw[e3]
     exact Qk6 (by simp[hA,hl])
    have g3:((A++(Z'++[z])++x::B).set (a+(n+1)) z)[a+(n+1)-1]? =some z:=by
     rw[List.getElem?_set_ne (by omega)];exact g2
    have e4:((a+(n+1)-1:Nat):Int)=((a+n:Nat):Int):=by omega
    simp only[iter,QhT,oun,hlt,decide_true,cond_true,Qs,Qf5,e1,g1,g2,g3,hq,hq0,Option.bind_some,QI,e2]
    rw[e4,k2]
    simp
   ·intro y hy;rcases List.mem_append.1 hy with hy | hy
    ·exact k3 y hy
    ·simp only[List.mem_singleton] at hy;subst hy;exact hk
  ·have hq0: ¬q<0:=fun h=>hk (hqk.1 h);refine ⟨Z'++[z],[],by simp,?_,by simp,?_⟩
   ·simp only[iter,QhT,oun,hlt,decide_true,cond_true,Qs,e1,g1,g2,hq,hq0,decide_false,cond_false,Option.bind_some,QI,List.nil_append]
   ·intro y hy;rcases List.mem_append.1 hy with hy | hy
    ·have:=(List.pairwise_append.1 hs).2.2 y hy z (by simp)
     omega
    ·simp only[List.mem_singleton] at hy;subst hy;omega
theorem QfR {Z1 Z2:List α} {x:α} (hs:Srt k (Z1++Z2)) (h2: ∀z∈Z2,k x<k z) (h1: ∀z∈Z1,k z≤k x):Srt k (Z1++x::Z2)∧YP k (Z1++Z2++[x]) (Z1++x::Z2):=by
 have hp:=List.pairwise_append.1 hs;refine ⟨List.pairwise_append.2 ⟨hp.1,List.pairwise_cons.2 ⟨fun z hz=>by have:=h2 z hz;omega,hp.2.1⟩,fun y hy z hz=> ?_⟩,?_⟩
 ·rcases List.mem_cons.1 hz with rfl | hz
  ·exact h1 y hy
  ·exact hp.2.2 y hy z hz
 ·rw[List.append_assoc]
  refine (YP.refl Z1).append (?_:YP k (Z2++[x]) ([x]++Z2));exact YP.swap fun z hz y hy=>by simp only[List.mem_singleton] at hy;subst hy;exact h2 z hz
theorem QhW (hc: ∀x y,Pv x→Pv y→ ∃z,cmp x y=some z∧(z<0↔k x<k y)) {a b F:Nat} {A B:List α} (hA:A.length=a) (hb:b≤1000000000) (hF:b<F): ∀(r:Nat) (Z R:List α) (f:Nat),R.length=r→r<f→a+Z.length+r=b→Srt k Z→(∀z∈Z,Pv z)→(∀z∈R,Pv z) →
  ∃M,iter (QhU cmp F a b) f (A++Z++(R++B),((a+Z.length:Nat):Int))=some (A++M++B)∧Srt k M∧YP k (Z++R) M
 | _,_,_,0,_,h,_,_,_,_=>by omega
 | 0,Z,R,f+1,hR,_,hab,hs,_,_=>by
  have:R=[]:=List.eq_nil_of_length_eq_zero hR;subst this;refine ⟨Z,?_,hs,by rw[List.append_nil];exact YP.refl _⟩;have: ¬(((a+Z.length:Nat):Int)<(b:Int)):=by omega
  simp only[iter,QhU,oun,this,decide_false,cond_false,Option.bind_some,QI,List.nil_append]
 | r+1,Z,[],f+1,hR,_,_,_,_,_=>by simp at hR
 | r+1,Z,x::R,f+1,hR,hf,hab,hs,hp,hq=>by
  have hlt:((a+Z.length:Nat):Int)<(b:Int):=by omega
  obtain ⟨Z1,Z2,k1,k2,k3,k4⟩:=QhV hc hA (hq x (by simp)) Z.length Z (R++B) F rfl (by omega) hs hp (by omega);subst k1;obtain ⟨j1,j2⟩:=QfR hs k3 k4;have hl:(Z1++x::Z2).length=(Z1++Z2).length+1:=by simp;omega
  obtain ⟨M,m1,m2,m3⟩:=QhW (B:=B) hc hA hb hF r (Z1++x::Z2) R f (by simpa using hR) (by omega) (by rw[hl];omega) j1 (fun z hz=>by
   rcases List.mem_append.1 hz with hz | hz
   ·exact hp z (by simp[hz])
   ·rcases List.mem_cons.1 hz with rfl | hz
    ·exact hq z (by simp)
    ·exact hp z (by simp[hz])) (fun z hz=>hq z (by simp[hz]))
  refine ⟨M,?_,m2,?_⟩
  ·have e1:w64 (((a+(Z1++Z2).length:Nat):Int)+1)=((a+(Z1++x::Z2).length:Nat):Int):=by rw[QgU (by omega),hl];rfl
   have e2:A++Z1++x::(Z2++(R++B))=A++(Z1++x::Z2)++(R++B):=by simp
   simp only[iter,QhU,oun,hlt,decide_true,cond_true,List.cons_append,k2,Option.bind_some,QI,e1,e2,m1]
  ·refine YP.trans (b:=(Z1++x::Z2)++R) ?_ m3;have:Z1++Z2++x::R=(Z1++Z2++[x])++R:=by simp
   rw[this]
   exact j2.append (YP.refl R)
theorem Qmv (hc: ∀x y,Pv x→Pv y→ ∃z,cmp x y=some z∧(z<0↔k x<k y)) {a b F:Nat} {A M B:List α} (hA:A.length=a) (hM:a+M.length=b) (hb:b≤1000000000) (hF:b+1<F) (hp: ∀z∈M,Pv z) :
  ∃M',Qn0 cmp F (A++M++B) a b=some (A++M'++B)∧Srt k M'∧YP k M M':=by
 cases M with
 | nil =>
  refine ⟨[],?_,List.Pairwise.nil,YP.refl _⟩;cases F with
  | zero=>omega
  | succ F =>
   have e1:w64 ((a:Int)+1)=((a+1:Nat):Int):=QgU (by simp at hM;omega);have: ¬(((a+1:Nat):Int)<(b:Int)):=by simp at hM;omega
   unfold Qn0
   simp only[e1,iter,QhU,oun,this,decide_false,cond_false,Option.bind_some,QI]
 | cons x R =>
  obtain ⟨M',m1,m2,m3⟩:=QhW (B:=B) hc hA hb (by omega:b<F) R.length [x] R F rfl (by simp at hM;omega) (by simp at hM ⊢;omega) (List.pairwise_singleton _ _) (fun z hz=>hp z (by simp at hz;simp[hz])) (fun z hz=>hp z (by simp[hz]));refine ⟨M',?_,m2,m3⟩;have e1:w64 ((a:Int)+1)=((a+[x].length:Nat):Int):=by rw[QgU (by simp at hM;omega)];rfl
  have e2:A++x::R++B=A++[x]++(R++B):=by simp
  unfold Qn0
  rw[e1,e2,m1];rfl
theorem Qhu {τ:Type} {body:τ→Option (τ⊕Int)} {mk:Nat→Nat→τ} {test:Nat→Bool} {i0 j0:Nat} (hb: ∀i j,i0≤i→i<j→j≤j0→body (mk i j)=some (.inl (bif test ((i+j)/2) then mk ((i+j)/2+1) j else mk i ((i+j)/2)))) (he: ∀i,i0≤i→i≤j0→body (mk i i)=some (.inr (i:Int)))
  (hm: ∀s t,i0≤s→s≤t→t<j0→test t=true→test s=true): ∀(n i j f:Nat),j-i≤n→n<f→i0≤i→i≤j→j≤j0→(∀t,i0≤t→t<i→test t=true)→(∀t,j≤t→t<j0→test t=false) →
  ∃r:Nat,iter body f (mk i j)=some (r:Int)∧i≤r∧r≤j∧(∀t,i0≤t→t<r→test t=true)∧ ∀t,r≤t→t<j0→test t=false
 | _,_,_,0,_,h,_,_,_,_,_=>by omega
 | n,i,j,f+1,hn,hf,h0,hij,hj,ht,hfa=>by
  by_cases hlt:i<j
  ·cases n with
   | zero=>omega
   | succ n =>
    have h1:=hb i j h0 hlt hj;cases hq:test ((i+j)/2) with
    | true =>
     rw[hq] at h1
     obtain ⟨r,k1,k2,k3,k4,k5⟩:=Qhu hb he hm n ((i+j)/2+1) j f (by omega) (by omega) (by omega) (by omega) hj (fun t h2 h3=>hm t ((i+j)/2) h2 (by omega) (by omega) hq) hfa;refine ⟨r,?_,by omega,k3,k4,k5⟩
     rw[iter,h1]
     exact k1
    | false =>
     rw[hq] at h1
     obtain ⟨r,k1,k2,k3,k4,k5⟩:=Qhu hb he hm n i ((i+j)/2) f (by omega) (by omega) h0 (by omega) (by omega) ht (fun t h2 h3=>by
      cases hq2:test t with
      | false=>rfl
      | true=>have:=hm ((i+j)/2) t (by omega) h2 h3 hq2;rw[hq] at this;cases this)
     refine ⟨r,?_,k2,by omega,k4,k5⟩
     rw[iter,h1]
     exact k1
  ·have:i=j:=by omega
   subst this;exact ⟨i,by rw[iter,he i h0 hj];rfl,Nat.le_refl _,Nat.le_refl _,ht,hfa⟩
theorem Qh0 {a e:Nat} {A B:List α} {x:α}: ∀(n:Nat) (W V:List α) (f:Nat),V.length=n→n<f→A.length+W.length+n+1=e→e≤1000000000 →
  iter (QjG (α:=α) cmp (e:Int)) f (A++W++x::(V++B),((A.length+W.length:Nat):Int))=some (A++W++V++x::B)
 | _,_,_,0,_,h,_,_=>by omega
 | 0,W,V,f+1,hV,_,he,hb=>by
  have:V=[]:=List.eq_nil_of_length_eq_zero hV;subst this;have e1:w64 ((e:Int)-1)=((e-1:Nat):Int):=Qld (by omega) (by omega);have: ¬(((A.length+W.length:Nat):Int)<((e-1:Nat):Int)):=by omega
  simp only[iter,QjG,oun,e1,this,decide_false,cond_false,Option.bind_some,QI,List.append_nil,List.nil_append]
 | n+1,W,[],f+1,hV,_,_,_=>by simp at hV
 | n+1,W,v::V,f+1,hV,hf,he,hb=>by
  have e1:w64 ((e:Int)-1)=((e-1:Nat):Int):=Qld (by omega) (by omega);have hlt:((A.length+W.length:Nat):Int)<((e-1:Nat):Int):=by omega
  have e2:w64 (((A.length+W.length:Nat):Int)+1)=((A.length+W.length+1:Nat):Int):=QgU (by omega);have g1:(A++W++x::(v::V++B))[A.length+W.length]? =some x:=QcC (by simp);have g2:(A++W++x::(v::V++B))[A.length+W.length+1]? =some v:=by
   have:A++W++x::(v::V++B)=(A++W++[x])++v::(V++B):=by simp
   rw[this];exact QcC (by simp;omega)
  have e3:((A++W++x::(v::V++B)).set (A.length+W.length) v).set (A.length+W.length+1) x=A++(W++[v])++x::(V++B):=by
   rw[List.set_append_right _ _ (by simp),List.set_append_right _ _ (by simp)]
   simp
  have g3:((A++W++x::(v::V++B)).set (A.length+W.length) v)[A.length+W.length+1]? =some v:=by
   rw[List.getElem?_set_ne (by omega)];exact g2
  have ih:=Qh0 (a:=a) (e:=e) (A:=A) (B:=B) (x:=x) n (W++[v]) V f (by simpa using hV) (by omega) (by simp;omega) hb;have e4:((A.length+W.length+1:Nat):Int)=((A.length+(W++[v]).length:Nat):Int):=by simp;omega
  simp only[iter,QjG,oun,e1,hlt,decide_true,cond_true,e2,Qs,Qf5,g1,g2,g3,e3,Option.bind_some,QI]
  rw[e4,ih]
  simp
theorem Qi5 {e:Nat} {A B:List α} {x:α} (hA:A.length=e): ∀(n:Nat) (U W:List α) (f:Nat),U.length=n→n<f→e+n≤1000000000 →
  iter (QjH (α:=α) cmp (e:Int)) f (A++U++x::(W++B),((e+n:Nat):Int))=some (A++x::(U++W++B))
 | _,_,_,0,_,h,_=>by omega
 | 0,U,W,f+1,hU,_,hb=>by
  have:U=[]:=List.eq_nil_of_length_eq_zero hU;subst this;have: ¬((e:Int)<((e+0:Nat):Int)):=by omega
  simp only[iter,QjH,oun,this,decide_false,cond_false,Option.bind_some,QI,List.append_nil,List.nil_append]
 | n+1,U,W,f+1,hU,hf,hb=>by
  obtain ⟨U',u,rfl⟩: ∃U' u,U=U'++[u]:=by
   have:U≠[]:=by intro e;rw[e] at hU;simp at hU
   exact ⟨U.dropLast,U.getLast this,(List.dropLast_concat_getLast this).symm⟩
  have hl:U'.length=n:=by simpa using hU
  have e1:w64 (((e+(n+1):Nat):Int)-1)=((e+n:Nat):Int):=Qld (by omega) (by omega);have hlt:(e:Int)<((e+(n+1):Nat):Int):=by omega
  have e0:A++(U'++[u])++x::(W++B)=(A++U')++u::x::(W++B):=by simp
  have g1:(A++(U'++[u])++x::(W++B))[e+(n+1)]? =some x:=QcC (by simp[hA,hl]);have g2:(A++(U'++[u])++x::(W++B))[e+n]? =some u:=by rw[e0];exact QcC (by simp[hA,hl])
  have e2:((A++(U'++[u])++x::(W++B)).set (e+(n+1)) u).set (e+n) x=A++U'++x::((u::W)++B):=by
   rw[e0]
   exact Qk6 (by simp[hA,hl])
  have g3:((A++(U'++[u])++x::(W++B)).set (e+(n+1)) u)[e+n]? =some u:=by
   rw[List.getElem?_set_ne (by omega)];exact g2
  have ih:=Qi5 (B:=B) (x:=x) hA n U' (u::W) f hl (by omega) (by omega)
  simp only[iter,QjH,oun,hlt,decide_true,cond_true,e1,Qs,Qf5,g1,g2,g3,e2,Option.bind_some,QI]
  rw[ih]
  simp
theorem Qhf {A U B:List α} {a t:Nat} (hA:A.length=a) (h1:a≤t) (h2:t<a+U.length):(A++(U++B))[t]? =U[t-a]? :=by
 rw[List.getElem?_append_right (by omega),hA,List.getElem?_append_left (by omega)]
theorem Qb3 {l:List α} (h:Srt k l) {i j:Nat} {x y:α} (hij:i≤j) (hx:l[i]? =some x) (hy:l[j]? =some y):k x≤k y:=by
 rcases Nat.lt_or_ge i j with h1 | h1
 ·have hj:=Qt hy;have:=List.pairwise_iff_getElem.1 h i j (by omega) hj h1
  rw[List.getElem?_eq_getElem (by omega)] at hx hy
  injection hx with hx;injection hy with hy
  rw[←hx,←hy];exact this
 ·have:i=j:=by omega
  subst this
  rw[hx] at hy;injection hy with hy
  subst hy;exact Int.le_refl _
theorem Qem {l:List α} {n:Nat} {x:α} (h:x∈l.take n): ∃i,i<n∧l[i]? =some x:=by
 obtain ⟨i,hi⟩:=List.getElem?_of_mem h
 rw[List.getElem?_take] at hi
 split at hi
 ·exact ⟨i,by assumption,hi⟩
 ·cases hi
theorem Qel {l:List α} {n:Nat} {x:α} (h:x∈l.drop n): ∃i,n≤i∧l[i]? =some x:=by
 obtain ⟨i,hi⟩:=List.getElem?_of_mem h
 rw[List.getElem?_drop] at hi
 exact ⟨n+i,by omega,hi⟩
theorem Qn4 (hc: ∀x y,Pv x→Pv y→ ∃z,cmp x y=some z∧(z<0↔k x<k y)) {a b F:Nat} {A V B:List α} {x:α} (hA:A.length=a) (hV:a+1+V.length=b) (hb:b≤1000000000) (hF:b-a<F) (hs:Srt k V) (hx:Pv x) (hp: ∀z∈V,Pv z) (rec_:List α→Int→Int→Int→Option (List α)) :
  ∃M,Qed cmp rec_ F (A++([x]++(V++B))) a ((a+1:Nat):Int) b=some (A++(M++B))∧Srt k M∧YP k ([x]++V) M:=by
 have hd:w64 (((a+1:Nat):Int)-(a:Int))=1:=by rw[QeI (by omega) (by omega)];omega
 have gx:(A++([x]++(V++B)))[a]? =some x:=QcC hA;have gv: ∀t,a+1≤t→t<b→ ∃v,(A++([x]++(V++B)))[t]? =some v∧V[t-(a+1)]? =some v:=by
  intro t h1 h2;have e:A++([x]++(V++B))=(A++[x])++(V++B):=by simp
  obtain ⟨v,hv⟩:=Qb7 (L:=V) (i:=t-(a+1)) (by omega);exact ⟨v,by rw[e,Qhf (a:=a+1) (by simp[hA]) h1 (by omega)];exact hv,hv⟩
 obtain ⟨r,k1,k2,k3,k4,k5⟩:=Qhu (body:=QhY cmp (A++([x]++(V++B))) (a:Int)) (mk:=fun i j=>((i:Int),(j:Int))) (test:=fun h=>match (A++([x]++(V++B)))[h]? with | some v=>decide (k v<k x) | none=>false) (i0:=a+1) (j0:=b) (fun i j h0 hij hj=>by
   obtain ⟨v,g1,g2⟩:=gv ((i+j)/2) (by omega) (by omega);obtain ⟨z,hz,hz2⟩:=hc v x (hp v (List.mem_of_getElem? g2)) hx;have hlt:(i:Int)<(j:Int):=by omega
   have hw:=QmS (i:=i) (j:=j) (by omega);have hw1:w64 (((((i+j)/2:Nat):Int))+1)=(((i+j)/2+1:Nat):Int):=QgU (by omega);have hg:WG (0≤1∧1≤64)=some ():=QaM (by decide)
   by_cases hk:k v<k x
   ·have hz0:=hz2.2 hk
    simp only[QhY,oun,hlt,decide_true,cond_true,hg,Option.bind_some,hw,Qs,g1,gx,hz,hz0,hk,hw1]
   ·have hz0: ¬z<0:=fun h=>hk (hz2.1 h)
    simp only[QhY,oun,hlt,decide_true,cond_true,hg,Option.bind_some,hw,Qs,g1,gx,hz,hz0,hk,decide_false,cond_false])
  (fun i h0 hj=>by simp only[QhY,oun,Int.lt_irrefl,decide_false,cond_false])
  (fun s t h1 h2 h3 ht=>by
   obtain ⟨v,g1,g2⟩:=gv s h1 (by omega);obtain ⟨w,q1,q2⟩:=gv t (by omega) h3
   simp only[q1,g1,decide_eq_true_eq] at ht ⊢
   have:=Qb3 hs (by omega:s-(a+1)≤t-(a+1)) g2 q2
   omega) (b-(a+1)) (a+1) b F (Nat.le_refl _) (by omega) (Nat.le_refl _) (by omega) (Nat.le_refl _) (fun t h1 h2=>by omega) (fun t h1 h2=>by omega)
 have hl:(V.take (r-(a+1))).length=r-(a+1):=by simp;omega
 have h1: ∀z∈V.take (r-(a+1)),k z<k x:=by
  intro z hz;obtain ⟨i,hi,hz⟩:=Qem hz;have h2:=k4 (a+1+i) (by omega) (by omega);obtain ⟨v,g1,g2⟩:=gv (a+1+i) (by omega) (by omega)
  simp only[g1,decide_eq_true_eq] at h2
  rw[show a+1+i-(a+1)=i by omega,hz] at g2
  injection g2 with g2;subst g2;exact h2
 have h2: ∀z∈V.drop (r-(a+1)),k x≤k z:=by
  intro z hz;obtain ⟨i,hi,hz⟩:=Qel hz;have hlt:=Qt hz;have h2:=k5 (a+1+i) (by omega) (by omega);obtain ⟨v,g1,g2⟩:=gv (a+1+i) (by omega) (by omega)
  simp only[g1,decide_eq_false_iff_not] at h2
  rw[show a+1+i-(a+1)=i by omega,hz] at g2
  injection g2 with g2;subst g2;omega
 have hvs:V=V.take (r-(a+1))++V.drop (r-(a+1)):=(List.take_append_drop _ _).symm;refine ⟨V.take (r-(a+1))++x::V.drop (r-(a+1)),?_,?_,?_⟩
 ·have key:=Qh0 (cmp:=cmp) (a:=a) (e:=r) (A:=A) (B:=V.drop (r-(a+1))++B) (x:=x) (r-(a+1)) [] (V.take (r-(a+1))) F hl (by omega) (by simp;omega) (by omega);have e1:A++([x]++(V++B))=A++[]++x::(V.take (r-(a+1))++(V.drop (r-(a+1))++B)):=by
   rw[←List.append_assoc (V.take _),←hvs];simp
  have e2:((a:Nat):Int)=((A.length+([]:List α).length:Nat):Int):=by simp[hA]
  unfold Qed
  simp only[hd,decide_true,cond_true,k1,Option.bind_some]
  rw[e1]
  conv=>lhs;rw[e2]
  rw[key]
  simp
 ·have:=hs
  rw[hvs] at this
  have hp2:=List.pairwise_append.1 this;refine List.pairwise_append.2 ⟨hp2.1,List.pairwise_cons.2 ⟨h2,hp2.2.1⟩,fun y hy z hz=> ?_⟩;have:=h1 y hy;rcases List.mem_cons.1 hz with rfl | hz
  ·omega
  ·have:=h2 z hz;omega
 ·conv=>lhs;rw[hvs,←List.append_assoc]
  have:V.take (r-(a+1))++x::V.drop (r-(a+1))=(V.take (r-(a+1))++[x])++V.drop (r-(a+1)):=by simp
  rw[this]
  refine YP.append (YP.swap fun u hu v hv=> ?_) (YP.refl _)
  simp only[List.mem_singleton] at hu;subst hu;exact h1 v hv
end
end Go.Proofs.YthpgjbbjpfiniaaGreat
namespace Go.Proofs.YthpgjbbjpfiniaaGreat
set_option linter.unusedSimpArgs false
set_option linter.unusedVariables false
set_option maxHeartbeats 1000000
section
variable {α:Type} {k:α→Int} {cmp:α→α→Option Int} {Pv:α→Prop}
theorem Qm9 (hc: ∀x y,Pv x→Pv y→ ∃z,cmp x y=some z∧(z<0↔k x<k y)) {a m F:Nat} {A U B:List α} {y:α} (hA:A.length=a) (hU:a+U.length=m) (h2:2≤U.length) (hb:m+1≤1000000000) (hF:m+1-a<F) (hs:Srt k U) (hy:Pv y) (hp: ∀z∈U,Pv z) (rec_:List α→Int→Int→Int→Option (List α)) :
  ∃M,Qed cmp rec_ F (A++(U++([y]++B))) a m ((m+1:Nat):Int)=some (A++(M++B))∧Srt k M∧YP k (U++[y]) M:=by
 have hd1: ¬w64 ((m:Int)-(a:Int))=1:=by rw[QeI (by omega) (by omega)];omega
 have hd:w64 (((m+1:Nat):Int)-(m:Int))=1:=by rw[QeI (by omega) (by omega)];omega
 have gy:(A++(U++([y]++B)))[m]? =some y:=by
  have:A++(U++([y]++B))=(A++U)++y::B:=by simp
  rw[this];exact QcC (by simp[hA,hU])
 have gu: ∀t,a≤t→t<m→ ∃v,(A++(U++([y]++B)))[t]? =some v∧U[t-a]? =some v:=by
  intro t h1 h2;obtain ⟨v,hv⟩:=Qb7 (L:=U) (i:=t-a) (by omega);exact ⟨v,by rw[Qhf hA h1 (by omega)];exact hv,hv⟩
 obtain ⟨r,k1,k2,k3,k4,k5⟩:=Qhu (body:=QhZ cmp (A++(U++([y]++B))) (m:Int)) (mk:=fun i j=>((i:Int),(j:Int))) (test:=fun h=>match (A++(U++([y]++B)))[h]? with | some v=>decide (¬k y<k v) | none=>false) (i0:=a) (j0:=m) (fun i j h0 hij hj=>by
   obtain ⟨v,g1,g2⟩:=gu ((i+j)/2) (by omega) (by omega);obtain ⟨z,hz,hz2⟩:=hc y v hy (hp v (List.mem_of_getElem? g2));have hlt:(i:Int)<(j:Int):=by omega
   have hw:=QmS (i:=i) (j:=j) (by omega);have hw1:w64 (((((i+j)/2:Nat):Int))+1)=(((i+j)/2+1:Nat):Int):=QgU (by omega);have hg:WG (0≤1∧1≤64)=some ():=QaM (by decide)
   by_cases hk:k y<k v
   ·have hz0:=hz2.2 hk
    simp only[QhZ,oun,hlt,decide_true,cond_true,hg,Option.bind_some,hw,Qs,g1,gy,hz,hz0,hk,hw1,Bool.not_true,cond_false,not_true_eq_false,decide_false]
   ·have hz0: ¬z<0:=fun h=>hk (hz2.1 h)
    simp only[QhZ,oun,hlt,decide_true,cond_true,hg,Option.bind_some,hw,Qs,g1,gy,hz,hz0,hk,decide_false,cond_false,Bool.not_false,not_false_eq_true,hw1])
  (fun i h0 hj=>by simp only[QhZ,oun,Int.lt_irrefl,decide_false,cond_false])
  (fun s t h1 h2 h3 ht=>by
   obtain ⟨v,g1,g2⟩:=gu s h1 (by omega);obtain ⟨w,q1,q2⟩:=gu t (by omega) h3
   simp only[q1,g1,decide_eq_true_eq] at ht ⊢
   have:=Qb3 hs (by omega:s-a≤t-a) g2 q2
   omega) (m-a) a m F (Nat.le_refl _) (by omega) (Nat.le_refl _) (by omega) (Nat.le_refl _) (fun t h1 h2=>by omega) (fun t h1 h2=>by omega)
 have hl:(U.take (r-a)).length=r-a:=by simp;omega
 have h1: ∀z∈U.take (r-a),k z≤k y:=by
  intro z hz;obtain ⟨i,hi,hz⟩:=Qem hz;have h2:=k4 (a+i) (by omega) (by omega);obtain ⟨v,g1,g2⟩:=gu (a+i) (by omega) (by omega)
  simp only[g1,decide_eq_true_eq] at h2
  rw[show a+i-a=i by omega,hz] at g2
  injection g2 with g2;subst g2;omega
 have h2: ∀z∈U.drop (r-a),k y<k z:=by
  intro z hz;obtain ⟨i,hi,hz⟩:=Qel hz;have hlt:=Qt hz;have h2:=k5 (a+i) (by omega) (by omega);obtain ⟨v,g1,g2⟩:=gu (a+i) (by omega) (by omega)
  simp only[g1,decide_eq_false_iff_not,Classical.not_not] at h2
  rw[show a+i-a=i by omega,hz] at g2
  injection g2 with g2;subst g2;exact h2
 have hus:U=U.take (r-a)++U.drop (r-a):=(List.take_append_drop _ _).symm;obtain ⟨j1,j2⟩:=QfR (x:=y) (by rw[←hus];exact hs) h2 h1;refine ⟨U.take (r-a)++y::U.drop (r-a),?_,j1,by rw[←hus] at j2;exact j2⟩;have key:=Qi5 (cmp:=cmp) (e:=r) (A:=A++U.take (r-a)) (B:=B) (x:=y) (by simp[hA];omega) (U.drop (r-a)).length (U.drop (r-a)) [] F rfl (by simp;omega) (by simp;omega);have e1:A++(U++([y]++B))=A++U.take (r-a)++U.drop (r-a)++y::([]++B):=by
  rw[List.append_assoc A,←hus];simp
 have e2:((m:Nat):Int)=((r+(U.drop (r-a)).length:Nat):Int):=by simp;omega
 unfold Qed
 simp only[hd1,hd,decide_false,cond_false,decide_true,cond_true,k1,Option.bind_some]
 rw[e1]
 conv=>lhs;rw[e2]
 rw[key]
 simp
theorem Qk7 {s a m b:Nat} {rec_:List α→Int→Int→Int→Option (List α)} (hr: ∀(A U V B:List α) (a m b:Nat),A.length=a→a+U.length=m→m+V.length=b→1≤U.length→1≤V.length→b≤1000000000→(A++(U++(V++B))).length≤1000000000000→b-a≤s→Srt k U→Srt k V→(∀z∈U,Pv z)→(∀z∈V,Pv z)→ ∃M,rec_ (A++(U++(V++B))) a m b=some (A++(M++B))∧Srt k M∧YP k (U++V) M) {A U V B:List α} (hA:A.length=a) (hU:a+U.length=m) (hV:m+V.length=b) (hb:b≤1000000000) (hl:(A++(U++(V++B))).length≤1000000000000) (hs:b-a≤s) (su:Srt k U) (sv:Srt k V) (pu: ∀z∈U,Pv z) (pv: ∀z∈V,Pv z) :
  ∃v M,(bif (decide ((a:Int)<(m:Int))) then some (decide ((m:Int)<(b:Int))) else some false)=some v∧(bif v then Option.bind (rec_ (A++(U++(V++B))) a m b) fun r=>some r else some (A++(U++(V++B))))=some (A++(M++B))∧Srt k M∧YP k (U++V) M:=by
 by_cases h1:a<m
 ·have h1':(a:Int)<(m:Int):=by omega
  by_cases h2:m<b
  ·have h2':(m:Int)<(b:Int):=by omega
   obtain ⟨M,k1,k2,k3⟩:=hr A U V B a m b hA hU hV (by omega) (by omega) hb hl hs su sv pu pv;refine ⟨true,M,?_,?_,k2,k3⟩
   ·simp only[h1',h2',decide_true,cond_true]
   ·simp only[cond_true,k1,Option.bind_some]
  ·have h2': ¬(m:Int)<(b:Int):=by omega
   have:V=[]:=List.eq_nil_of_length_eq_zero (by omega);subst this;refine ⟨false,U,?_,?_,su,by rw[List.append_nil];exact YP.refl U⟩
   ·simp only[h1',h2',decide_true,cond_true,decide_false]
   ·simp only[cond_false,List.nil_append]
 ·have h1': ¬(a:Int)<(m:Int):=by omega
  have:U=[]:=List.eq_nil_of_length_eq_zero (by omega);subst this;refine ⟨false,V,?_,?_,sv,YP.refl V⟩
  ·simp only[h1',decide_false,cond_false]
  ·simp only[cond_false,List.nil_append]
theorem Qiq {l:List α} (h:Srt k l) (n:Nat):Srt k (l.take n):=List.Pairwise.sublist (List.take_sublist n l) h
theorem Qip {l:List α} (h:Srt k l) (n:Nat):Srt k (l.drop n):=List.Pairwise.sublist (List.drop_sublist n l) h
theorem QoU {l:List α} (h:Srt k l) {n:Nat} {x y:α} (hx:x∈l.take n) (hy:y∈l.drop n):k x≤k y:=by
 obtain ⟨i,hi,hx⟩:=Qem hx;obtain ⟨j,hj,hy⟩:=Qel hy;exact Qb3 h (by omega) hx hy
theorem Qpx (hc: ∀x y,Pv x→Pv y→ ∃z,cmp x y=some z∧(z<0↔k x<k y)) {F a m b:Nat}
  {A U V B:List α} (hA:A.length=a) (hU:a+U.length=m) (hV:m+V.length=b) (hu:2≤U.length) (hv:2≤V.length) (hb:b≤1000000000) (hF:b-a<F) (su:Srt k U) (sv:Srt k V) (pu: ∀z∈U,Pv z) (pv: ∀z∈V,Pv z) :
  ∃st r0 r e:Nat,(bif (decide ((((a+b)/2:Nat):Int)<(m:Int))) then some ((((a+b)/2:Nat):Int),(((a+b)/2+m:Nat):Int),w64 ((((a+b)/2+m:Nat):Int)-(b:Int)),(((a+b)/2:Nat):Int)) else some ((((a+b)/2:Nat):Int),(((a+b)/2+m:Nat):Int),(a:Int),(m:Int)))=some ((((a+b)/2:Nat):Int),(((a+b)/2+m:Nat):Int),(st:Int),(r0:Int)) ∧
   iter (Qgn cmp (A++(U++(V++B)))) F ((st:Int),(r0:Int),(((a+b)/2+m-1:Nat):Int))=some (r:Int)∧a≤r∧r≤m∧e+r=(a+b)/2+m∧m≤e∧e≤b∧a<(a+b)/2∧(a+b)/2<b∧(∀x∈U.take (r-a),∀y∈V.drop (e-m),k x≤k y)∧(∀x∈U.drop (r-a),∀y∈V.take (e-m),k y<k x):=by
 have hg:WG (0≤1∧1≤64)=some ():=QaM (by decide)
 generalize hm:(a+b)/2=mid
 obtain ⟨st,r0,hst,hst1,hst2,hst3⟩: ∃st r0:Nat,(bif (decide ((mid:Int)<(m:Int))) then some ((mid:Int),((mid+m:Nat):Int),w64 (((mid+m:Nat):Int)-(b:Int)),(mid:Int)) else some ((mid:Int),((mid+m:Nat):Int),(a:Int),(m:Int)))=some ((mid:Int),((mid+m:Nat):Int),(st:Int),(r0:Int))∧a≤st∧st≤r0∧((mid<m∧st+b=mid+m∧r0=mid)∨(m≤mid∧st=a∧r0=m)):=by
  by_cases h:mid<m
  ·have h':(mid:Int)<(m:Int):=by omega
   refine ⟨mid+m-b,mid,?_,by omega,by omega,.inl ⟨h,by omega,rfl⟩⟩
   simp only[h',decide_true,cond_true,QeI (by omega:b≤mid+m) (by omega)]
  ·have h': ¬(mid:Int)<(m:Int):=by omega
   refine ⟨a,m,?_,Nat.le_refl _,by omega,.inr ⟨by omega,rfl,rfl⟩⟩
   simp only[h',decide_false,cond_false]
 have gu: ∀t,a≤t→t<m→ ∃v,(A++(U++(V++B)))[t]? =some v∧U[t-a]? =some v:=by
  intro t h1 h2;obtain ⟨v,hv⟩:=Qb7 (L:=U) (i:=t-a) (by omega);exact ⟨v,by rw[Qhf hA h1 (by omega)];exact hv,hv⟩
 have gv: ∀t,m≤t→t<b→ ∃v,(A++(U++(V++B)))[t]? =some v∧V[t-m]? =some v:=by
  intro t h1 h2;obtain ⟨v,hv⟩:=Qb7 (L:=V) (i:=t-m) (by omega);have e:A++(U++(V++B))=(A++U)++(V++B):=by simp
  exact ⟨v,by rw[e,Qhf (a:=m) (by simp[hA,hU]) h1 (by omega)];exact hv,hv⟩
 obtain ⟨r,k1,k2,k3,k4,k5⟩:=Qhu (body:=Qgn cmp (A++(U++(V++B)))) (mk:=fun i j=>((i:Int),(j:Int),((mid+m-1:Nat):Int))) (test:=fun h=>match (A++(U++(V++B)))[mid+m-1-h]?,(A++(U++(V++B)))[h]? with | some v,some u=>decide (¬k v<k u) | _,_=>false) (i0:=st) (j0:=r0) (fun i j h0 hij hj=>by
   obtain ⟨u,u1,u2⟩:=gu ((i+j)/2) (by omega) (by omega);obtain ⟨v,v1,v2⟩:=gv (mid+m-1-(i+j)/2) (by omega) (by omega);obtain ⟨z,hz,hz2⟩:=hc v u (pv v (List.mem_of_getElem? v2)) (pu u (List.mem_of_getElem? u2));have hlt:(i:Int)<(j:Int):=by omega
   have hw:=QmS (i:=i) (j:=j) (by omega);have hw1:w64 (((((i+j)/2:Nat):Int))+1)=(((i+j)/2+1:Nat):Int):=QgU (by omega);have hw2:w64 (((mid+m-1:Nat):Int)-(((i+j)/2:Nat):Int))=((mid+m-1-(i+j)/2:Nat):Int):=QeI (by omega) (by omega)
   by_cases hk:k v<k u
   ·have hz0:=hz2.2 hk
    simp only[Qgn,oun,hlt,decide_true,cond_true,hg,Option.bind_some,hw,hw2,Qs,u1,v1,hz,hz0,hk,hw1,Bool.not_true,cond_false,not_true_eq_false,decide_false]
   ·have hz0: ¬z<0:=fun h=>hk (hz2.1 h)
    simp only[Qgn,oun,hlt,decide_true,cond_true,hg,Option.bind_some,hw,hw2,Qs,u1,v1,hz,hz0,hk,decide_false,cond_false,Bool.not_false,not_false_eq_true,hw1])
  (fun i h0 hj=>by simp only[Qgn,oun,Int.lt_irrefl,decide_false,cond_false])
  (fun s t h1 h2 h3 ht=>by
   obtain ⟨u,u1,u2⟩:=gu s (by omega) (by omega);obtain ⟨v,v1,v2⟩:=gv (mid+m-1-s) (by omega) (by omega);obtain ⟨u',u1',u2'⟩:=gu t (by omega) (by omega);obtain ⟨v',v1',v2'⟩:=gv (mid+m-1-t) (by omega) (by omega)
   simp only[u1,v1,u1',v1',decide_eq_true_eq] at ht ⊢
   have h4:=Qb3 su (by omega:s-a≤t-a) u2 u2';have h5:=Qb3 sv (by omega:mid+m-1-t-m≤mid+m-1-s-m) v2' v2
   omega) (r0-st) st r0 F (Nat.le_refl _) (by omega) (Nat.le_refl _) (by omega) (Nat.le_refl _) (fun t h1 h2=>by omega) (fun t h1 h2=>by omega)
 generalize he:mid+m-r=e
 have hme:m≤e:=by omega
 have heb:e≤b:=by omega
 have hi: ∀x∈U.take (r-a),∀y∈V.drop (e-m),k x≤k y:=by
  intro x hx y hy;obtain ⟨i,hi,hx⟩:=Qem hx;obtain ⟨j,hj,hy⟩:=Qel hy;have hj2:=Qt hy
  by_cases hrs:r=st
  ·omega
  ·have ht:=k4 (r-1) (by omega) (by omega);obtain ⟨u,u1,u2⟩:=gu (r-1) (by omega) (by omega);obtain ⟨v,v1,v2⟩:=gv (mid+m-1-(r-1)) (by omega) (by omega)
   simp only[u1,v1,decide_eq_true_eq] at ht
   have h4:=Qb3 su (by omega:i≤r-1-a) hx u2;have h5:=Qb3 sv (by omega:mid+m-1-(r-1)-m≤j) v2 hy
   omega
 have hii: ∀x∈U.drop (r-a),∀y∈V.take (e-m),k y<k x:=by
  intro x hx y hy;obtain ⟨i,hi,hx⟩:=Qel hx;obtain ⟨j,hj,hy⟩:=Qem hy;have hi2:=Qt hx
  by_cases hrs:r=r0
  ·omega
  ·have ht:=k5 r (by omega) (by omega);obtain ⟨u,u1,u2⟩:=gu r (by omega) (by omega);obtain ⟨v,v1,v2⟩:=gv (mid+m-1-r) (by omega) (by omega)
   simp only[u1,v1,decide_eq_false_iff_not,Classical.not_not] at ht
   have h4:=Qb3 su (by omega:r-a≤i) u2 hx;have h5:=Qb3 sv (by omega:j≤mid+m-1-r-m) hy v2
   omega
 exact ⟨st,r0,r,e,hst,k1,by omega,by omega,by omega,hme,heb,by omega,by omega,hi,hii⟩
theorem Qna (hc: ∀x y,Pv x→Pv y→ ∃z,cmp x y=some z∧(z<0↔k x<k y)) {s F a m b:Nat} {rec_:List α→Int→Int→Int→Option (List α)} (hr: ∀(A U V B:List α) (a m b:Nat),A.length=a→a+U.length=m→m+V.length=b→1≤U.length→1≤V.length→b≤1000000000→(A++(U++(V++B))).length≤1000000000000→b-a≤s→Srt k U→Srt k V→(∀z∈U,Pv z)→(∀z∈V,Pv z)→ ∃M,rec_ (A++(U++(V++B))) a m b=some (A++(M++B))∧Srt k M∧YP k (U++V) M)
  {A U V B:List α} (hA:A.length=a) (hU:a+U.length=m) (hV:m+V.length=b) (hu:2≤U.length) (hv:2≤V.length) (hb:b≤1000000000) (hl:(A++(U++(V++B))).length≤1000000000000) (hs:b-a≤s+1) (hF:b-a<F) (su:Srt k U) (sv:Srt k V) (pu: ∀z∈U,Pv z) (pv: ∀z∈V,Pv z) :
  ∃M,Qed cmp rec_ F (A++(U++(V++B))) a m b=some (A++(M++B))∧Srt k M∧YP k (U++V) M:=by
 have hd1: ¬w64 ((m:Int)-(a:Int))=1:=by rw[QeI (by omega) (by omega)];omega
 have hd2: ¬w64 ((b:Int)-(m:Int))=1:=by rw[QeI (by omega) (by omega)];omega
 have hg:WG (0≤1∧1≤64)=some ():=QaM (by decide);obtain ⟨st,r0,r,e,hst,k1,r1,r2,he,hme,heb,hm1,hm2,hi,hii⟩:=Qpx (B:=B) hc hA hU hV hu hv hb hF su sv pu pv
 generalize hm:(a+b)/2=mid at *
 have hw:w64 ((IntKind.u64.wrap (w64 ((a:Int)+(b:Int))))/2^(1:Int).toNat)=(mid:Int):=by rw[QmS (by omega),hm]
 have hn:w64 ((mid:Int)+(m:Int))=((mid+m:Nat):Int):=QiQ (by omega);have hp:w64 (((mid+m:Nat):Int)-1)=((mid+m-1:Nat):Int):=Qld (by omega) (by omega);have hend:w64 (((mid+m:Nat):Int)-(r:Int))=(e:Int):=by rw[QeI (by omega) (by omega)];omega
 have l1:(U.take (r-a)).length=r-a:=by simp;omega
 have l2:(U.drop (r-a)).length=m-r:=by simp;omega
 have l3:(V.take (e-m)).length=e-m:=by simp;omega
 have l4:(V.drop (e-m)).length=b-e:=by simp;omega
 have hus:U.take (r-a)++U.drop (r-a)=U:=List.take_append_drop _ _;have hvs:V.take (e-m)++V.drop (e-m)=V:=List.take_append_drop _ _
 generalize hU1:U.take (r-a)=U1 at *
 generalize hU2:U.drop (r-a)=U2 at *
 generalize hV1:V.take (e-m)=V1 at *
 generalize hV2:V.drop (e-m)=V2 at *
 have s1:Srt k U1:=by rw[←hU1];exact Qiq su _
 have s2:Srt k U2:=by rw[←hU2];exact Qip su _
 have s3:Srt k V1:=by rw[←hV1];exact Qiq sv _
 have s4:Srt k V2:=by rw[←hV2];exact Qip sv _
 have c1: ∀x∈U1,∀y∈U2,k x≤k y:=fun x hx y hy=>by rw[←hU1] at hx;rw[←hU2] at hy;exact QoU su hx hy
 have c2: ∀x∈V1,∀y∈V2,k x≤k y:=fun x hx y hy=>by rw[←hV1] at hx;rw[←hV2] at hy;exact QoU sv hx hy
 have p1: ∀z∈U1,Pv z:=fun z hz=>pu z (by rw[←hus];simp[hz]);have p2: ∀z∈U2,Pv z:=fun z hz=>pu z (by rw[←hus];simp[hz]);have p3: ∀z∈V1,Pv z:=fun z hz=>pv z (by rw[←hvs];simp[hz]);have p4: ∀z∈V2,Pv z:=fun z hz=>pv z (by rw[←hvs];simp[hz]);have hmid:a+U1.length+V1.length=mid:=by omega
 obtain ⟨w0,hr1,hr2⟩: ∃v,(bif (decide ((r:Int)<(m:Int))) then some ((e:Int),(decide ((m:Int)<(e:Int)))) else some ((e:Int),false))=some ((e:Int),v) ∧
   (bif v then Option.bind (Qpc F (A++(U++(V++B))) r m e) fun r6=>some r6 else some (A++(U++(V++B))))=some (A++(U1++(V1++(U2++(V2++B))))):=by
  by_cases h1:r<m
  ·have h1':(r:Int)<(m:Int):=by omega
   by_cases h2:m<e
   ·have h2':(m:Int)<(e:Int):=by omega
    obtain ⟨L',q1,q2,q3⟩:=Qpd (L:=A++(U++(V++B))) (a:=r) (m:=m) (b:=e) (F:=F) h1 h2 (by simp;omega) hl (by omega);have e0:A++(U++(V++B))=(A++U1)++(U2++(V1++(V2++B))):=by rw[←hus,←hvs];simp
    have:=Qpr (A:=A++U1) (U:=U2) (V:=V1) (B:=V2++B) (L':=L') (m:=m) (by simp;omega) (fun t=>by rw[q3 t,e0,l2,l3]);refine ⟨true,by simp only[h1',h2',decide_true,cond_true],?_⟩
    simp only[cond_true,Option.bind_some,q1,this]
    simp
   ·have h2': ¬(m:Int)<(e:Int):=by omega
    have:V1=[]:=List.eq_nil_of_length_eq_zero (by omega);refine ⟨false,by simp only[h1',h2',decide_true,cond_true,decide_false],?_⟩
    rw[cond_false,←hus,←hvs,this];simp
  ·have h1': ¬(r:Int)<(m:Int):=by omega
   have:U2=[]:=List.eq_nil_of_length_eq_zero (by omega);refine ⟨false,by simp only[h1',decide_false,cond_false],?_⟩
   rw[cond_false,←hus,←hvs,this];simp
 obtain ⟨w1,M1,a1,a2,a3,a4⟩:=Qk7 hr (A:=A) (U:=U1) (V:=V1) (B:=U2++(V2++B)) (a:=a) (m:=r) (b:=mid) hA (by omega) (by omega) (by omega) (by rw[←hus,←hvs] at hl;simp at hl ⊢;omega) (by omega) s1 s3 p1 p3;have lM:M1.length=U1.length+V1.length:=by rw[←a4.perm.length_eq];simp
 obtain ⟨w2,M2,b1,b2,b3,b4⟩:=Qk7 hr (A:=A++M1) (U:=U2) (V:=V2) (B:=B) (a:=mid) (m:=e) (b:=b) (by simp;omega) (by omega) (by omega) (by omega) (by rw[←hus,←hvs] at hl;simp at hl ⊢;omega) (by omega) s2 s4 p2 p4;refine ⟨M1++M2,?_,?_,?_⟩
 ·have e1:A++(M1++(U2++(V2++B)))=(A++M1)++(U2++(V2++B)):=by simp
  unfold Qed
  simp only[hd1,hd2,decide_false,cond_false,hg,Option.bind_some,hw,hn,hst,oun,hp,k1,hend,hr1,hr2,a1,a2,b1]
  rw[e1]
  simp only[b2,Option.bind_some]
  simp
 ·refine List.pairwise_append.2 ⟨a3,b3,fun x hx y hy=> ?_⟩;have hx:=a4.perm.symm.subset hx;have hy:=b4.perm.symm.subset hy;rcases List.mem_append.1 hx with hx | hx<;>rcases List.mem_append.1 hy with hy | hy
  ·exact c1 x hx y hy
  ·exact hi x hx y hy
  ·have:=hii y hy x hx;omega
  ·exact c2 x hx y hy
 ·rw[←hus,←hvs]
  have e1:U1++U2++(V1++V2)=U1++(U2++V1)++V2:=by simp
  have e2:U1++(V1++U2)++V2=(U1++V1)++(U2++V2):=by simp
  rw[e1]
  refine YP.trans (b:=(U1++V1)++(U2++V2)) ?_ (a4.append b4)
  rw[←e2]
  exact ((YP.refl U1).append (YP.swap hii)).append (YP.refl V2)
theorem QjI (hc: ∀x y,Pv x→Pv y→ ∃z,cmp x y=some z∧(z<0↔k x<k y)): ∀(F:Nat) (A U V B:List α) (a m b:Nat),A.length=a→a+U.length=m→m+V.length=b→1≤U.length→1≤V.length→b≤1000000000→(A++(U++(V++B))).length≤1000000000000→2*(b-a)+4≤F→Srt k U→Srt k V→(∀z∈U,Pv z)→(∀z∈V,Pv z) →
  ∃M,QjF cmp F (A++(U++(V++B))) a m b=some (A++(M++B))∧Srt k M∧YP k (U++V) M
 | 0,_,_,_,_,_,_,_,_,_,_,_,_,_,_,h,_,_,_,_=>by omega
 | F+1,A,U,V,B,a,m,b,hA,hU,hV,hu,hv,hb,hl,hF,su,sv,pu,pv=>by
  by_cases h1:U.length=1
  ·obtain ⟨x,rfl⟩:=List.length_eq_one_iff.1 h1;have:m=a+1:=by simp at hU;omega
   subst this;exact Qn4 hc hA (by omega) hb (by omega) sv (pu x (by simp)) pv _
  ·by_cases h2:V.length=1
   ·obtain ⟨y,rfl⟩:=List.length_eq_one_iff.1 h2;have:b=m+1:=by simp at hV;omega
    subst this;exact Qm9 hc hA hU (by omega) hb (by omega) su (pv y (by simp)) pu _
   ·exact Qna (s:=b-a-1) hc (fun A U V B a m b hA hU hV hu hv hb hl hs su sv pu pv=>QjI hc F A U V B a m b hA hU hV hu hv hb hl (by omega) su sv pu pv) hA hU hV (by omega) (by omega) hb hl (by omega) (by omega) su sv pu pv
end
end Go.Proofs.YthpgjbbjpfiniaaGreat
namespace Go.Proofs.YthpgjbbjpfiniaaGreat
set_option linter.unusedSimpArgs false
set_option linter.unusedVariables false
set_option maxHeartbeats 1000000
section
variable {α:Type} {k:α→Int} {cmp:α→α→Option Int} {Pv:α→Prop}
def Blk (k:α→Int) (s:Nat) (l:List α):Prop:= ∀i,Srt k ((l.drop (i*s)).take s)
theorem Blk.nil (s:Nat):Blk k s []:=fun i=>by simp[Srt]
theorem Blk.append {s q:Nat} {D M:List α} (h:Blk k s D) (hd:D.length=q*s) (hm:Srt k M) (hl:M.length≤s):Blk k s (D++M):=fun i=>by
 by_cases hi:i<q
 ·have h1:i*s+s≤q*s:=by rw[←Nat.succ_mul];exact Nat.mul_le_mul_right s hi
  rw[List.drop_append_of_le_length (by omega),List.take_append_of_le_length (by simp;omega)]
  exact h i
 ·have h1:q*s≤i*s:=Nat.mul_le_mul_right s (by omega);have:(D++M).drop (i*s)=M.drop (i*s-D.length):=by rw[List.drop_append,List.drop_eq_nil_of_le (by omega),List.nil_append]
  rw[this]
  exact Qiq (Qip hm _) _
theorem Blk.drop {s:Nat} {R:List α} (h:Blk k s R) (j:Nat):Blk k s (R.drop (j*s)):=fun i=>by
 rw[List.drop_drop,←Nat.add_mul]
 exact h _
theorem Blk.all {s:Nat} {R:List α} (h:Blk k s R) (hl:R.length≤s):Srt k R:=by
 have:=h 0
 rwa [Nat.zero_mul,List.drop_zero,List.take_of_length_le hl] at this
theorem YP.mem {l l':List α} (h:YP k l l') (hp: ∀z∈l,Pv z): ∀z∈l',Pv z:=fun z hz=>hp z (h.perm.symm.subset hz)
theorem Qn1 (hc: ∀x y,Pv x→Pv y→ ∃z,cmp x y=some z∧(z<0↔k x<k y)) {n F:Nat} (hn:n≤100000000) (hF:n+1<F): ∀(r q:Nat) (D R:List α) (f:Nat),R.length<r→r<f→D.length=q*20→D.length+R.length=n→Blk k 20 D→(∀z∈R,Pv z) →
  ∃D' R' q',iter (Qmw cmp F (n:Int)) f (D++R,(D.length:Int),((D.length+20:Nat):Int))=some (D'++R',(D'.length:Int))∧R'.length<20∧D'.length=q'*20∧D'.length+R'.length=n∧Blk k 20 D'∧(∀z∈R',Pv z)∧YP k (D++R) (D'++R')
 | _,_,_,_,0,_,h,_,_,_,_=>by omega
 | 0,_,_,_,_,h,_,_,_,_,_=>by omega
 | r+1,q,D,R,f+1,hR,hf,hq,hl,hb,hp=>by
  by_cases h:D.length+20≤n
  ·have h':((D.length+20:Nat):Int)≤(n:Int):=by omega
   have l1:(R.take 20).length=20:=by simp;omega
   obtain ⟨M,m1,m2,m3⟩:=Qmv (k:=k) (B:=R.drop 20) hc (a:=D.length) (b:=D.length+20) (F:=F) (A:=D) (M:=R.take 20) rfl (by omega) (by omega) (by omega) (fun z hz=>hp z (List.mem_of_mem_take hz));have lM:M.length=20:=by rw[←m3.perm.length_eq];exact l1
   have e0:D++R=D++R.take 20++R.drop 20:=by simp
   have lD:(D++M).length=D.length+20:=by simp;omega
   obtain ⟨D',R',q',k1,k2,k3,k4,k5,k6,k7⟩:=Qn1 hc hn hF r (q+1) (D++M) (R.drop 20) f (by simp;omega) (by omega) (by omega) (by simp;omega) (hb.append hq m2 (by omega)) (fun z hz=>hp z (List.mem_of_mem_drop hz));refine ⟨D',R',q',?_,k2,k3,k4,k5,k6,YP.trans ?_ k7⟩
   ·have e1:w64 (((D.length+20:Nat):Int)+20)=(((D++M).length+20:Nat):Int):=by rw[lD];exact QiQ (b:=20) (by omega)
    rw[lD] at k1 e1
    rw[e0]
    simp only[iter,Qmw,oun,h',decide_true,cond_true,m1,Option.bind_some,QI,e1,k1]
   ·conv=>lhs;rw[e0]
    exact ((YP.refl D).append m3).append (YP.refl _)
  ·have h': ¬((D.length+20:Nat):Int)≤(n:Int):=by omega
   refine ⟨D,R,q,?_,by omega,hq,hl,hb,hp,YP.refl _⟩
   simp only[iter,Qmw,oun,h',decide_false,cond_false,Option.bind_some,QI]
theorem Qn2 (hc: ∀x y,Pv x→Pv y→ ∃z,cmp x y=some z∧(z<0↔k x<k y)) {n F s:Nat} (hn:n≤100000000) (hF:2*n+4≤F) (hs:1≤s) (hs2:s≤n): ∀(r q:Nat) (D R:List α) (f:Nat),R.length<r→r<f→D.length=q*(2*s)→D.length+R.length=n→Blk k (2*s) D→Blk k s R→(∀z∈R,Pv z) →
  ∃D' R' q',iter (QgL cmp F (n:Int) (s:Int)) f (D++R,(D.length:Int),((D.length+2*s:Nat):Int))=some (D'++R',(D'.length:Int))∧R'.length<2*s∧D'.length=q'*(2*s)∧D'.length+R'.length=n∧Blk k (2*s) D'∧Blk k s R'∧(∀z∈R',Pv z)∧YP k (D++R) (D'++R')
 | _,_,_,_,0,_,h,_,_,_,_,_=>by omega
 | 0,_,_,_,_,h,_,_,_,_,_,_=>by omega
 | r+1,q,D,R,f+1,hR,hf,hq,hl,hb,hb2,hp=>by
  have e2:w64 (2*(s:Int))=((2*s:Nat):Int):=by rw[Yg (by omega) (by omega)];omega
  by_cases h:D.length+2*s≤n
  ·have h':((D.length+2*s:Nat):Int)≤(n:Int):=by omega
   have l1:(R.take s).length=s:=by simp;omega
   have l2:((R.drop s).take s).length=s:=by simp;omega
   have e0:R=R.take s++((R.drop s).take s++R.drop (2*s)):=by
    rw[show 2*s=s+s by omega,←List.drop_drop,List.take_append_drop,List.take_append_drop]
   have s1:Srt k (R.take s):=by have:=hb2 0;rwa [Nat.zero_mul,List.drop_zero] at this
   have s2:Srt k ((R.drop s).take s):=by have:=hb2 1;rwa [Nat.one_mul] at this
   obtain ⟨M,m1,m2,m3⟩:=QjI (k:=k) hc F D (R.take s) ((R.drop s).take s) (R.drop (2*s)) D.length (D.length+s) (D.length+2*s) rfl (by omega) (by omega) (by omega) (by omega) (by omega) (by simp;omega) (by omega) s1 s2 (fun z hz=>hp z (List.mem_of_mem_take hz)) (fun z hz=>hp z (List.mem_of_mem_drop (List.mem_of_mem_take hz)))
   rw[←e0] at m1
   have lM:M.length=2*s:=by rw[←m3.perm.length_eq];simp;omega
   have lD:(D++M).length=D.length+2*s:=by simp;omega
   obtain ⟨D',R',q',k1,k2,k3,k4,k5,k6,k7,k8⟩:=Qn2 hc hn hF hs hs2 r (q+1) (D++M) (R.drop (2*s)) f (by simp;omega) (by omega) (by rw[lD,Nat.add_mul q 1 (2*s),Nat.one_mul];omega) (by simp;omega) (hb.append hq m2 (by omega)) (hb2.drop 2) (fun z hz=>hp z (List.mem_of_mem_drop hz));refine ⟨D',R',q',?_,k2,k3,k4,k5,k6,k7,YP.trans ?_ k8⟩
   ·have e1:w64 (((D.length+2*s:Nat):Int)+((2*s:Nat):Int))=(((D.length+2*s)+2*s:Nat):Int):=QiQ (by omega);have e3:w64 ((D.length:Int)+(s:Int))=((D.length+s:Nat):Int):=QiQ (by omega)
    rw[lD,List.append_assoc] at k1
    simp only[iter,QgL,oun,h',decide_true,cond_true,e3,m1,Option.bind_some,QI,e2,e1,k1]
   ·conv=>lhs;rw[e0]
    rw[List.append_assoc,←List.append_assoc (R.take s)]
    exact (YP.refl D).append (m3.append (YP.refl _))
  ·have h': ¬((D.length+2*s:Nat):Int)≤(n:Int):=by omega
   refine ⟨D,R,q,?_,by omega,hq,hl,hb,hb2,hp,YP.refl _⟩
   simp only[iter,QgL,oun,h',decide_false,cond_false,Option.bind_some,QI]
theorem Qn3 (hc: ∀x y,Pv x→Pv y→ ∃z,cmp x y=some z∧(z<0↔k x<k y)) {n F:Nat} (hn:n≤100000000) (hF:2*n+4≤F): ∀(r s:Nat) (L:List α) (f:Nat),n<s+r→r<f→1≤s→s≤2*n+20→L.length=n→Blk k s L→(∀z∈L,Pv z) →
  ∃L',iter (QgM cmp F (n:Int)) f (L,(s:Int))=some L'∧Srt k L'∧YP k L L'
 | _,_,_,0,_,h,_,_,_,_,_=>by omega
 | r,s,L,f+1,hr,hf,hs,hs2,hl,hb,hp=>by
  by_cases h:s<n
  ·cases r with
   | zero=>omega
   | succ r =>
   have h':(s:Int)<(n:Int):=by omega
   obtain ⟨D,R,q,k1,k2,k3,k4,k5,k6,k7,k8⟩:=Qn2 (k:=k) hc hn hF hs (by omega) (L.length+1) 0 [] L F (by omega) (by omega) (by simp) (by simpa using hl) (Blk.nil _) hb hp
   simp only[List.nil_append,List.length_nil,Nat.zero_add] at k1 k8
   rw[show ((0:Nat):Int)=0 from rfl] at k1
   have e2:w64 (2*(s:Int))=((2*s:Nat):Int):=by rw[Yg (by omega) (by omega)];omega
   have e3:w64 ((D.length:Int)+(s:Int))=((D.length+s:Nat):Int):=QiQ (by omega);have e4:w64 ((s:Int)*2)=((2*s:Nat):Int):=by rw[Yg (by omega) (by omega)];omega
   obtain ⟨M,m1,m2,m3⟩: ∃M,(bif (decide (((D.length+s:Nat):Int)<(n:Int))) then
     Option.bind (QjF cmp F (D++R) D.length ((D.length+s:Nat):Int) n) fun r4=>some r4 else some (D++R))=some (D++M)∧Srt k M∧YP k R M:=by
    by_cases h2:D.length+s<n
    ·have h2':((D.length+s:Nat):Int)<(n:Int):=by omega
     have e0:R=R.take s++(R.drop s++[]):=by simp
     have s1:Srt k (R.take s):=by have:=k6 0;rwa [Nat.zero_mul,List.drop_zero] at this
     have s2:Srt k (R.drop s):=Blk.all (s:=s) (by have h:=k6.drop 1;rw[Nat.one_mul] at h;exact h) (by simp;omega);obtain ⟨M,m1,m2,m3⟩:=QjI (k:=k) hc F D (R.take s) (R.drop s) [] D.length (D.length+s) n rfl (by simp;omega) (by simp;omega) (by simp;omega) (by simp;omega) (by omega) (by simp;omega) (by omega) s1 s2 (fun z hz=>k7 z (List.mem_of_mem_take hz)) (fun z hz=>k7 z (List.mem_of_mem_drop hz))
     rw[←e0,List.append_nil] at m1
     refine ⟨M,?_,m2,by rw[List.take_append_drop] at m3;exact m3⟩
     simp only[h2',decide_true,cond_true,m1,Option.bind_some]
    ·have h2': ¬((D.length+s:Nat):Int)<(n:Int):=by omega
     exact ⟨R,by simp only[h2',decide_false,cond_false],k6.all (by omega),YP.refl _⟩
   have st:YP k L (D++M):=k8.trans ((YP.refl D).append m3);have lM:M.length=R.length:=m3.perm.length_eq.symm;obtain ⟨L',j1,j2,j3⟩:=Qn3 hc hn hF r (2*s) (D++M) f (by omega) (by omega) (by omega) (by omega) (by simp;omega) (k5.append k3 m2 (by omega)) (st.mem hp);refine ⟨L',?_,j2,st.trans j3⟩
   simp only[iter,QgM,oun,h',decide_true,cond_true,e2,k1,Option.bind_some,e3,m1,QI,e4,j1]
  ·have h': ¬(s:Int)<(n:Int):=by omega
   refine ⟨L,?_,hb.all (by omega),YP.refl _⟩
   simp only[iter,QgM,oun,h',decide_false,cond_false,Option.bind_some,QI]
theorem QkA (hc: ∀x y,Pv x→Pv y→ ∃z,cmp x y=some z∧(z<0↔k x<k y)) {F:Nat} {L:List α} (hn:L.length≤100000000) (hF:2*L.length+30≤F) (hp: ∀z∈L,Pv z) :
  ∃L',Qi4 cmp F L=some L'∧Srt k L'∧YP k L L':=by
 obtain ⟨D,R,q,k1,k2,k3,k4,k5,k6,k7⟩:=Qn1 (k:=k) hc (n:=L.length) (F:=F) hn (by omega) (L.length+1) 0 [] L F (by omega) (by omega) (by simp) (by simp) (Blk.nil _) hp
 simp only[List.nil_append,List.length_nil,Nat.zero_add] at k1 k7
 obtain ⟨M,m1,m2,m3⟩:=Qmv (k:=k) (B:=[]) hc (a:=D.length) (b:=L.length) (F:=F) (A:=D) (M:=R) rfl (by omega) (by omega) (by omega) k6
 rw[List.append_nil,List.append_nil] at m1
 have st:YP k L (D++M):=k7.trans ((YP.refl D).append m3);have lM:M.length=R.length:=m3.perm.length_eq.symm;obtain ⟨L',j1,j2,j3⟩:=Qn3 (k:=k) hc (n:=L.length) (F:=F) hn (by omega) (L.length+1) 20 (D++M) F (by omega) (by omega) (by omega) (by omega) (by simp;omega) (k5.append k3 m2 (by omega)) (st.mem hp);refine ⟨L',?_,j2,st.trans j3⟩;have z1:((0:Nat):Int)=0:=rfl;have z2:((20:Nat):Int)=20:=rfl
 rw[z1,z2] at k1
 rw[z2] at j1
 unfold Qi4 gSt
 simp only[k1,oun,Option.bind_some,m1,j1]
end
end Go.Proofs.YthpgjbbjpfiniaaGreat
namespace Go.Proofs.YthpgjbbjpfiniaaGreat
open Go.RowKit
set_option linter.unusedSimpArgs false
set_option linter.unusedVariables false
abbrev Op:=Qc
theorem Qoo (rec_:List Op→Int→Int→Int→Option (List Op)) (F:Nat) (d:List Op) (a m b:Int):YW rec_ F d a m b=Qed Yc rec_ F d a m b:=rfl
theorem QjX: ∀F:Nat,Q8 F=QjF Yc F
 | 0=>rfl
 | F+1=>by
  funext d a m b
  show YW (Q8 F) F d a m b=Qed Yc (QjF Yc F) F d a m b
  rw[QjX F];exact Qoo _ _ _ _ _ _
theorem Qqq (F:Nat) (n s:Int):Y7 F n s=QgL Yc F n s:=by
 funext j
 unfold Y7 QgL
 rw[QjX]
theorem Qqr (F:Nat) (n:Int):Y8 F n=QgM Yc F n:=by
 funext j
 unfold Y8 QgM
 simp only[QjX,Qqq]
theorem Qon (F:Nat) (d:List Op):Ym F d=Qi4 Yc F d:=by
 unfold Ym Qi4 ZE gSt
 simp only[Qqr]
 rfl
theorem Qpm (x y:Op) (hx:0≤x.cost∧x.cost≤1000000000) (hy:0≤y.cost∧y.cost≤1000000000): ∃z,Yc x y=some z∧(z<0↔x.cost<y.cost) :=
 ⟨x.cost-y.cost,by unfold Yc;rw[Yg (by omega) (by omega)],by omega⟩
theorem QlK {F:Nat} {L:List Op} (hn:L.length≤1000) (hF:40000≤F) (hb: ∀x∈L,0≤x.cost∧x.cost≤1000000000): ∃L',Ym F L=some L'∧Srt Qc.cost L'∧YP Qc.cost L L':=by
 rw[Qon]
 exact QkA Qpm (by omega) (by omega) hb
def QiI (l:List Int):List Int:=if l.getLast? =some (-1) then l else l++[-1]
def Qhy (s:List Int) (d:Int) (k:Nat) (u:Bool):List Int:=QiI (s.take k++(d::(bif u then [-1] else []))++s.drop k)
def Jt (s:List Int) (d:Int) (i:Nat):List Int:=Qhy s d (i/2) (decide (i%2=1))
def Qbk (s:List Int) (d:Int):List (List Int):=(List.range (2*s.length+1)).map (Jt s d)
theorem Qbt {α:Type} {l:List α} {k:Nat} (h:k≤l.length):WI l (k:Int) ((l.length:Nat):Int)=some (l.drop k):=by
 unfold WI
 rw[if_pos (by omega)]
 simp
theorem Qnb {α:Type} {l:List α} (h:l≠[]) (hn:l.length≤1000000):getI l (w64 (((l.length:Nat):Int)-1))=l.getLast? :=by
 have:0<l.length:=List.length_pos_iff.2 h;have e:w64 (((l.length:Nat):Int)-1)=((l.length-1:Nat):Int):=by rw[Yg (by omega) (by omega)];omega
 rw[e,Qs,List.getLast?_eq_getElem?]
theorem QnZ {l:List Int} (h:l≠[]) (hn:l.length≤10000):(Option.bind (getI l (w64 (((l.length:Nat):Int)-1))) fun x1 =>
  Option.bind (bif (!(decide (x1=(-1)))) then Option.bind (Z0 l [(-1)]) fun l6=>some l6 else some l) (fun out1=>some out1))=some (QiI l):=by
 rw[Qnb h (by omega),List.getLast?_eq_some_getLast h]
 unfold QiI
 rw[List.getLast?_eq_some_getLast h]
 by_cases hx:l.getLast h= -1
 ·simp[hx]
 ·rw[if_neg (by simpa using hx)]
  simp only[Option.bind_some,hx,decide_false,Bool.not_false,cond_true]
  rw[Yj (by simp;omega)]
  rfl
theorem Qi8 {s m:List Int} {k:Nat} (hk:k≤s.length) (hs:s.length≤1000) (hm:m≠[]) (hm2:m.length≤2):WM s (k:Int) m=some (QiI (s.take k++m++s.drop k)):=by
 have hm3:0<m.length:=List.length_pos_iff.2 hm;unfold WM
 rw[VR hk,Qbt hk]
 simp only[Option.bind_some]
 rw[Yj (by simp;omega)]
 simp only[Option.bind_some]
 rw[Yj (by simp;omega)]
 simp only[Option.bind_some]
 rw[Yj (by simp;omega)]
 simp only[Option.bind_some,List.nil_append]
 exact QnZ (by intro h;have:=congrArg List.length h;simp only[List.length_append,List.length_nil] at this;omega) (by simp;omega)
theorem Qjz {s:List Int} {d:Int} {k:Nat} {u:Bool} (hk:k≤s.length) (hs:s.length≤1000):Zk s d (k:Int) u=some (Qhy s d k u):=by
 unfold Zk Qhy
 rw[VR hk,Qbt hk]
 simp only[Option.bind_some]
 rw[Yj (by simp;omega)]
 simp only[Option.bind_some]
 rw[Yj (by simp;omega)]
 simp only[Option.bind_some,List.nil_append]
 have h1:(bif u then Option.bind (Z0 (s.take k++[d]) [(-1)]) fun l4=>some l4 else some (s.take k++[d]))=some (s.take k++(d::(bif u then [-1] else []))):=by
  cases u
  ·simp
  ·rw[cond_true,Yj (by simp;omega)];simp
 have hl:(bif u then [(-1:Int)] else []).length≤1:=by cases u<;>simp
 rw[h1]
 simp only[Option.bind_some]
 rw[Yj (by simp;omega)]
 simp only[Option.bind_some]
 exact QnZ (by simp) (by simp;omega)
def toT (v:Int) (s:List Int):Qa:=⟨v,s⟩
def V6 (t:Qa) (d:Int) (j:Nat):List Qa:=((List.range (min j (2*t.Stops.length+1))).map (Jt t.Stops d)).map (toT t.Vehicle)
theorem Qfk (t:Qa) (d:Int) (j:Nat):(V6 t d j).length=min j (2*t.Stops.length+1):=by simp[V6]
theorem Qeb (t:Qa) (d:Int) {j:Nat} (h:j<2*t.Stops.length+1):V6 t d (j+1)=V6 t d j++[⟨t.Vehicle,Jt t.Stops d j⟩]:=by
 unfold V6
 rw[show min (j+1) (2*t.Stops.length+1)=j+1 by omega,show min j (2*t.Stops.length+1)=j by omega,List.range_succ,List.map_append,List.map_append]
 rfl
theorem QdN {t:Qa} {d:Int} (hs:t.Stops.length≤1000): ∀(r k f:Nat),k+r=t.Stops.length+1→r<f →
  iter (J8 t d) f (V6 t d (2*k),((t.Stops.length+1:Nat):Int),(k:Int))=some ((Qbk t.Stops d).map (toT t.Vehicle))
 | _,_,0,_,h=>by omega
 | 0,k,f+1,hk,_=>by
  have h1: ¬((k:Int)<((t.Stops.length+1:Nat):Int)):=by omega
  simp only[iter,J8,oun,h1,decide_false,cond_false,Option.bind_some,QI]
  unfold V6 Qbk
  rw[show min (2*k) (2*t.Stops.length+1)=2*t.Stops.length+1 by omega]
 | r+1,k,f+1,hk,hf=>by
  have h1:((k:Int)<((t.Stops.length+1:Nat):Int)):=by omega
  have ih:=QdN (t:=t) (d:=d) hs r (k+1) f (by omega) (by omega);have e1:w64 ((k:Int)+1)=((k+1:Nat):Int):=by rw[Yg (by omega) (by omega)];omega
  have j1:WM t.Stops (k:Int) [d]=some (Jt t.Stops d (2*k)):=by
   rw[Qi8 (by omega) hs (by simp) (by simp)]
   unfold Jt Qhy
   rw[show 2*k/2=k by omega,show decide (2*k%2=1)=false by simp]
   rfl
  simp only[iter,J8,oun,h1,decide_true,cond_true,j1,Option.bind_some,e1]
  rw[Yj (by rw[Qfk];simp;omega),Option.bind_some,←Qeb t d (by omega)]
  by_cases h2:k<t.Stops.length
  ·have h2':(k:Int)<((t.Stops.length:Nat):Int):=by omega
   have j2:WM t.Stops (k:Int) [d,-1]=some (Jt t.Stops d (2*k+1)):=by
    rw[Qi8 (by omega) hs (by simp) (by simp)]
    unfold Jt Qhy
    rw[show (2*k+1)/2=k by omega,show decide ((2*k+1)%2=1)=true by simp]
    rfl
   simp only[h2',decide_true,cond_true,j2,Option.bind_some]
   rw[Yj (by rw[Qfk];simp;omega),Option.bind_some,←Qeb t d (by omega)]
   simp only[Option.bind_some,QI]
   exact ih
  ·have h2': ¬((k:Int)<((t.Stops.length:Nat):Int)):=by omega
   have e2:V6 t d (2*k+1)=V6 t d (2*(k+1)):=by
    unfold V6
    rw[show min (2*k+1) (2*t.Stops.length+1)=min (2*(k+1)) (2*t.Stops.length+1) by omega]
   simp only[h2',decide_false,cond_false,Option.bind_some,QI]
   rw[e2]
   exact ih
theorem QiC {F:Nat} {t:Qa} {d:Int} (hs:t.Stops.length≤1000) (hF:40000≤F):Vf F t d=some ((Qbk t.Stops d).map (toT t.Vehicle)):=by
 have e1:w64 (((t.Stops.length:Nat):Int)+1)=((t.Stops.length+1:Nat):Int):=by rw[Yg (by omega) (by omega)];omega
 have:=QdN (t:=t) (d:=d) hs (t.Stops.length+1) 0 F (by omega) (by omega);have e2:V6 t d (2*0)=[]:=by simp[V6]
 rw[e2] at this
 unfold Vf
 rw[e1,show (0:Int)=((0:Nat):Int) from rfl,this]
 rfl
end Go.Proofs.YthpgjbbjpfiniaaGreat
namespace Go.Proofs.YthpgjbbjpfiniaaGreat
open Go.RowKit
set_option linter.unusedSimpArgs false
set_option linter.unusedVariables false
abbrev QbE:Op→Int:=Qc.cost
abbrev Jr:Op→Qa:=Qc.tour
theorem QgH {p:Pr} (hp:OkP p) (t:Qa):0≤(YF p t).1∧(YF p t).1≤262400000:=by
 unfold YF;cases h:WU p t with
 | inr q=>simp
 | inl u =>
  have:=VB hp h;exact ⟨this.1,this.2.1⟩
def Qgu (p:Pr) (t:Qa):Option Op:=if (YF p t).2=0 then some ⟨t,(YF p t).1⟩ else none
def QbX (p:Pr) (ts:List Qa):List Op:=ts.filterMap (Qgu p)
theorem Qgl (p:Pr) (ts:List Qa) (t:Qa):QbX p (ts++[t])=QbX p ts++(Qgu p t).toList:=by
 unfold QbX
 rw[List.filterMap_append]
 cases h:Qgu p t<;>simp[h]
theorem QfN (p:Pr) (ts:List Qa):(QbX p ts).length≤ts.length:=List.length_filterMap_le _ _
theorem QhK {p:Pr} {ts:List Qa} {x:Op} (h:x∈QbX p ts):x.tour∈ts∧(YF p x.tour).2=0∧x.cost=(YF p x.tour).1:=by
 obtain ⟨t,h1,h2⟩:=List.mem_filterMap.1 h;unfold Qgu at h2
 split at h2
 ·injection h2 with h2;subst h2
  exact ⟨h1,by assumption,rfl⟩
 ·cases h2
theorem Qm6 {p:Pr} (hp:OkP p) {ts:List Qa}: ∀x∈QbX p ts,0≤x.cost∧x.cost≤1000000000:=fun x hx=>by
 have h1:=(QhK hx).2.2;have h2:=QgH hp x.tour
 omega
theorem Qnl {F:Nat} (hF:40000≤F) {p:Pr} (hp:OkP p) (hc:Qo p=some 0) (hn:p.Road.Edges.length≤600) (L:List Qa) (hl:L.length≤1000) :
  iter (Wi F p L) (((L.length:Nat):Int).toNat+1) ([],0)=some (QbX p L):=by
 have:=YX (body:=Wi F p L) L (fun k=>QbX p (L.take k)) (fun m k=>(m,k)) (fun _ _=>none) (QbX p L) (by omega) (fun k t ht _=> ?_) (fun _=>by simp only[Wi,oun,List.take_length];simp) (((L.length:Nat):Int).toNat+1) (by simp)
 ·rw[QW _ _ (fun _ _ _=>rfl)] at this
  exact this
 ·have hk:=Qt ht;have hk2:((k:Int)<(L.length:Nat)):=by omega
  have h1:=QfN p (L.take k)
  rw[Yk (Nat.le_of_lt hk)] at h1
  simp only[Wi,oun,hk2,decide_true,cond_true,Qs,ht,Option.bind_some,Qo2 hF hp hc hn,Je]
  rw[YK ht,Qgl]
  unfold Qgu
  by_cases h:(YF p t).2=0
  ·rw[if_pos h]
   simp only[h,decide_true,cond_true]
   rw[Yj (by simp;omega)]
   rfl
  ·rw[if_neg h]
   simp only[h,decide_false,cond_false,Option.bind_some,Option.toList_none,List.append_nil]
theorem Qie (c:Int): ∀(n:Nat) (Z R:List Op) (f:Nat),Z.length=n→n<f→n≤100000→Srt QbE Z →
  ∃Z1 Z2,Z=Z1++Z2∧iter (Y2 ((Z++R).map QbE) c) f (n:Int)=some ((Z1.length:Nat):Int)∧(∀z∈Z1,z.cost≤c)∧ ∀z∈Z2,c<z.cost
 | _,_,_,0,_,h,_,_=>by omega
 | 0,Z,R,f+1,hZ,_,_,_=>by
  have:Z=[]:=List.eq_nil_of_length_eq_zero hZ;subst this;exact ⟨[],[],rfl,by simp[iter,Y2,QI],by simp,by simp⟩
 | n+1,Z,R,f+1,hZ,hf,hb,hs=>by
  obtain ⟨Y,y,rfl⟩: ∃Y y,Z=Y++[y]:=by
   have:Z≠[]:=by intro e;rw[e] at hZ;simp at hZ
   exact ⟨Z.dropLast,Z.getLast this,(List.dropLast_concat_getLast this).symm⟩
  have hY:Y.length=n:=by simpa using hZ
  have h0:(0:Int)<((n+1:Nat):Int):=by omega
  have e1:w64 (((n+1:Nat):Int)-1)=(n:Int):=by rw[Yg (by omega) (by omega)];omega
  have g1:((Y++[y]++R).map QbE)[n]? =some y.cost:=by
   rw[List.getElem?_map,List.append_assoc,List.getElem?_append_right (by omega),hY]
   simp
  have hp:=List.pairwise_append.1 hs
  by_cases h:c<y.cost
  ·obtain ⟨Z1,Z2,k1,k2,k3,k4⟩:=Qie c n Y (y::R) f hY (by omega) (by omega) hp.1;refine ⟨Z1,Z2++[y],by rw[k1];simp,?_,k3,fun z hz=> ?_⟩
   ·have e2:Y++[y]++R=Y++y::R:=by simp
    rw[e2] at g1 ⊢
    simp only[iter,Y2,h0,decide_true,cond_true,e1,Qs,g1,Option.bind_some,h,QI,k2]
   ·rcases List.mem_append.1 hz with hz | hz
    ·exact k4 z hz
    ·rw[List.mem_singleton.1 hz];exact h
  ·refine ⟨Y++[y],[],by simp,?_,fun z hz=> ?_,by simp⟩
   ·simp only[iter,Y2,h0,decide_true,cond_true,e1,Qs,g1,Option.bind_some,h,decide_false,cond_false,QI]
    rw[hZ]
   ·rcases List.mem_append.1 hz with hz | hz
    ·have:=hp.2.2 z hz y (by simp)
     simp only[QbE] at this
     omega
    ·rw[List.mem_singleton.1 hz];omega
theorem Qpg (f:Op→Int) (g:Op→Qa) (Z1 Z2:List Op) (x:Op) (hl:(Z1++Z2).length≤100000):(Option.bind (WI ((Z1++Z2).map g) 0 ((Z1.length:Nat):Int)) fun l1 =>
      Option.bind (Z0 [] l1) fun l2 =>
      Option.bind (Z0 l2 [g x]) fun l3 =>
      Option.bind (WI ((Z1++Z2).map g) ((Z1.length:Nat):Int) ((((Z1++Z2).map g).length:Nat):Int)) fun l4 =>
      Option.bind (Z0 l3 l4) fun l5 =>
      Option.bind (WI ((Z1++Z2).map f) 0 ((Z1.length:Nat):Int)) fun l6 =>
      Option.bind (Z0 [] l6) fun l7 =>
      Option.bind (Z0 l7 [f x]) fun l8 =>
      Option.bind (WI ((Z1++Z2).map f) ((Z1.length:Nat):Int) ((((Z1++Z2).map f).length:Nat):Int)) fun l9 =>
      Option.bind (Z0 l8 l9) fun l10 =>
      some (l5,l10))=some ((Z1++x::Z2).map g,(Z1++x::Z2).map f):=by
 simp only[List.length_append] at hl
 rw[VR (by simp),Qbt (by simp),VR (by simp),Qbt (by simp)]
 simp only[Option.bind_some]
 rw[Yj (by simp;omega)]
 simp only[Option.bind_some]
 rw[Yj (by simp;omega)]
 simp only[Option.bind_some]
 rw[Yj (by simp;omega)]
 simp only[Option.bind_some]
 rw[Yj (by simp;omega)]
 simp only[Option.bind_some]
 rw[Yj (by simp;omega)]
 simp only[Option.bind_some]
 rw[Yj (by simp;omega)]
 simp[List.map_append]
theorem Qii {F:Nat} (hF:40000≤F) {p:Pr} (hp:OkP p) (hc:Qo p=some 0) {t:Qa} {d:Int} (hs:t.Stops.length≤1000): ∀(r i:Nat) (L:List Op) (f:Nat),i+r=2*t.Stops.length+1→r<f→Srt QbE L→YP QbE (QbX p (V6 t d i)) L →
  ∃L',iter (Y3 F p t d) f (L.map Jr,L.map QbE,(i:Int))=some (L'.map Jr)∧Srt QbE L'∧YP QbE (QbX p ((Qbk t.Stops d).map (toT t.Vehicle))) L'
 | _,_,_,0,_,h,_,_=>by omega
 | 0,i,L,f+1,hi,_,h1,h2=>by
  have e1:w64 (2*((t.Stops.length:Nat):Int))=((2*t.Stops.length:Nat):Int):=by rw[Yg (by omega) (by omega)];omega
  have: ¬((i:Int)≤((2*t.Stops.length:Nat):Int)):=by omega
  refine ⟨L,?_,h1,?_⟩
  ·simp only[iter,Y3,oun,e1,this,decide_false,cond_false,Option.bind_some,QI]
  ·have e2:V6 t d i=(Qbk t.Stops d).map (toT t.Vehicle):=by
    unfold V6 Qbk
    rw[show min i (2*t.Stops.length+1)=2*t.Stops.length+1 by omega]
   rw[←e2];exact h2
 | r+1,i,L,f+1,hi,hf,h1,h2=>by
  have e1:w64 (2*((t.Stops.length:Nat):Int))=((2*t.Stops.length:Nat):Int):=by rw[Yg (by omega) (by omega)];omega
  have hlt:((i:Int)≤((2*t.Stops.length:Nat):Int)):=by omega
  have e2:w64 ((i:Int)+1)=((i+1:Nat):Int):=by rw[Yg (by omega) (by omega)];omega
  have e3:w64 (Int.tdiv (i:Int) 2)=((i/2:Nat):Int):=by
   rw[show Int.tdiv (i:Int) 2=((i/2:Nat):Int) from rfl,Yg (by omega) (by omega)]
  have e4:(decide (Int.tmod (i:Int) 2=1))=decide (i%2=1):=by
   rw[show Int.tmod (i:Int) 2=((i%2:Nat):Int) from rfl]
   congr 1
   exact propext (by omega)
  have hcand:Zk t.Stops d ((i/2:Nat):Int) (decide (i%2=1))=some (Jt t.Stops d i):=Qjz (by omega) hs;have hcost:=Qey hp hc ⟨t.Vehicle,Jt t.Stops d i⟩;have hfs:=Qeb t d (j:=i) (by omega);have hlen:L.length≤2001:=by
   rw[←h2.perm.length_eq]
   refine Nat.le_trans (QfN _ _) ?_
   rw[Qfk];omega
  by_cases h:(YF p ⟨t.Vehicle,Jt t.Stops d i⟩).2=0
  ·have hop:Qgu p ⟨t.Vehicle,Jt t.Stops d i⟩=some ⟨⟨t.Vehicle,Jt t.Stops d i⟩,(YF p ⟨t.Vehicle,Jt t.Stops d i⟩).1⟩:=by unfold Qgu;rw[if_pos h]
   generalize hx:(⟨⟨t.Vehicle,Jt t.Stops d i⟩,(YF p ⟨t.Vehicle,Jt t.Stops d i⟩).1⟩:Op)=x at hop
   obtain ⟨Z1,Z2,k1,k2,k3,k4⟩:=Qie (YF p ⟨t.Vehicle,Jt t.Stops d i⟩).1 L.length L [] F rfl (by omega) (by omega) h1;have hxc:x.cost=(YF p ⟨t.Vehicle,Jt t.Stops d i⟩).1:=by rw[←hx]
   rw[List.append_nil] at k2
   obtain ⟨j1,j2⟩:=QfR (k:=QbE) (x:=x) (by rw[←k1];exact h1) (fun z hz=>by have:=k4 z hz;simp only[QbE];omega) (fun z hz=>by have:=k3 z hz;simp only[QbE];omega)
   rw[←k1] at j2
   have h3:YP QbE (QbX p (V6 t d (i+1))) (Z1++x::Z2):=by
    rw[hfs,Qgl,hop]
    exact YP.trans (h2.append (YP.refl _)) j2
   obtain ⟨L',q1,q2,q3⟩:=Qii hF hp hc hs r (i+1) (Z1++x::Z2) f (by omega) (by omega) j1 h3;refine ⟨L',?_,q2,q3⟩;have hmi:=Qpg QbE Jr Z1 Z2 x (by rw[←k1];omega)
   rw[←k1] at hmi
   have hx1:Jr x=⟨t.Vehicle,Jt t.Stops d i⟩:=by rw[←hx]
   have hx2:QbE x=(YF p ⟨t.Vehicle,Jt t.Stops d i⟩).1:=hxc
   rw[hx1,hx2] at hmi
   simp only[iter,Y3,oun,e1,hlt,decide_true,cond_true,e3,e4,hcand,Option.bind_some,hcost,h,Bool.not_true,cond_false,List.length_map,k2]
   rw[List.length_map,List.length_map] at hmi
   rw[hmi]
   simp only[Option.bind_some,e2,QI,q1]
  ·have hop:Qgu p ⟨t.Vehicle,Jt t.Stops d i⟩=none:=by unfold Qgu;rw[if_neg h]
   obtain ⟨L',q1,q2,q3⟩:=Qii hF hp hc hs r (i+1) L f (by omega) (by omega) h1 (by rw[hfs,Qgl,hop];simpa using h2);refine ⟨L',?_,q2,q3⟩
   simp only[iter,Y3,oun,e1,hlt,decide_true,cond_true,e3,e4,hcand,Option.bind_some,hcost,h,decide_false,Bool.not_false,e2,QI,q1]
end Go.Proofs.YthpgjbbjpfiniaaGreat
namespace Go.Proofs.YthpgjbbjpfiniaaGreat
open Go.RowKit
set_option linter.unusedSimpArgs false
set_option linter.unusedVariables false
theorem QnY (l:List Int):l.length≤(QiI l).length:=by unfold QiI;split<;>simp
theorem Qlr {s:List Int} {d:Int} {i:Nat} (h:i<2*s.length+1):s.length+1≤(Jt s d i).length:=by
 unfold Jt Qhy;refine Nat.le_trans ?_ (QnY _)
 simp;omega
theorem QhD {p:Pr} {t:Qa} (h:40<t.Stops.length):(YF p t).2≠0:=by
 unfold YF WU
 split
 ·rename_i z hz
  split at hz
  ·cases hz
  ·first | rw[if_pos h] at hz | skip
   cases hz
 ·rename_i q hq
  split at hq
  ·injection hq with hq;subst hq;decide
  ·first | rw[if_pos h] at hq | skip
   injection hq with hq;subst hq;decide
theorem Qm7 {p:Pr} {t:Qa} {d:Int} (h:40≤t.Stops.length):QbX p ((Qbk t.Stops d).map (toT t.Vehicle))=[]:=by
 unfold QbX
 rw[List.filterMap_eq_nil_iff]
 intro u hu;obtain ⟨s,h1,rfl⟩:=List.mem_map.1 hu;obtain ⟨i,h2,rfl⟩:=List.mem_map.1 h1;have:=Qlr (s:=t.Stops) (d:=d) (List.mem_range.1 h2);unfold Qgu
 rw[if_neg]
 exact QhD (by simp only[toT];omega)
structure OkO (p:Pr) (t:Qa) (d:Int) (L:List Op):Prop where
 chk:Qo p=some 0
 ok:OkP p
 v0:0≤t.Vehicle
 v1:t.Vehicle<((p.Vehicles.length:Nat):Int)
 d0:0≤d
 d1:d<((p.Demands.length:Nat):Int)
 new:d∉t.Stops
 srt:Srt QbE L
 stab:YP QbE (QbX p ((Qbk t.Stops d).map (toT t.Vehicle))) L
theorem Qpq {t:Qa} {d:Int} (hs:t.Stops.length≤1000):iter (Y1 t d) (((t.Stops.length:Nat):Int).toNat+1) 0=some (bif decide (d∈t.Stops) then .inr ([],6) else .inl ()):=by
 have:=YN (body:=Y1 t d) t.Stops (fun k y=>bif decide (y=d) then some (.inr ([],6)) else none) (.inl ():Unit⊕(List Qa×Int)) (by omega) (fun k y hy=> ?_) (by simp[Y1]) (((t.Stops.length:Nat):Int).toNat+1) (by simp)
 ·rw[this,Qkf]
  have:(t.Stops.any fun y=>decide (y=d))=decide (d∈t.Stops):=by
   rw[Bool.eq_iff_iff]
   simp only[List.any_eq_true,decide_eq_true_eq]
   exact ⟨fun ⟨y,h1,h2⟩=>h2▸h1,fun h=>⟨d,h,rfl⟩⟩
  rw[this]
 ·have hk:=Qt hy;have hk2:((k:Int)<(t.Stops.length:Nat)):=by omega
  simp only[Y1,hk2,decide_true,cond_true,Qs,hy,Option.bind_some]
  cases decide (y=d)<;>rfl
def Qjx (p:Pr) (t:Qa) (d:Int):Bool:=decide (t.Vehicle<0)||(decide (((p.Vehicles.length:Nat):Int)≤t.Vehicle)||(decide (d<0)||decide (((p.Demands.length:Nat):Int)≤d)))
theorem Qa9 {F:Nat} (hF:40000≤F) (p:Pr) (hn:p.Road.Edges.length≤600) (t:Qa) (hs:t.Stops.length≤1000) (d:Int) :
  ∃L e,QT F p t d=some (L,e)∧Yr F p t d=some (L.map Jr,e)∧((e≠0∧L=[])∨(e=0∧OkO p t d L))∧(Qo p=some 0→Qjx p t d=false→e=bif decide (d∈t.Stops) then 6 else 0):=by
 unfold QT Yr
 rw[ZJ (by omega) p hn]
 rcases Qcy p hn with ⟨h1,h2⟩ | ⟨e,h1,h2⟩
 ·rw[h1]
  simp only[Option.bind_some,decide_true,Bool.not_true,cond_false,Zc]
  have hb:(decide (t.Vehicle<0)||(decide (((p.Vehicles.length:Nat):Int)≤t.Vehicle)||(decide (d<0)||decide (((p.Demands.length:Nat):Int)≤d))))=Qjx p t d:=rfl
  rw[hb]
  cases hbi:Qjx p t d with
  | true=>exact ⟨[],7,rfl,rfl,.inl ⟨by decide,rfl⟩,fun _ h=>by cases h⟩
  | false =>
   simp only[cond_false,QcA _ hs,Option.bind_some,Qpq hs]
   unfold Qjx at hbi
   simp only[Bool.or_eq_false_iff,decide_eq_false_iff_not] at hbi
   by_cases hd:d∈t.Stops
   ·simp only[hd,decide_true,cond_true,QI]
    exact ⟨[],6,rfl,rfl,.inl ⟨by decide,rfl⟩,fun _ _=>rfl⟩
   ·simp only[hd,decide_false,cond_false,QI]
    obtain ⟨L',q1,q2,q3⟩:=Qii hF h2 h1 hs (2*t.Stops.length+1) 0 [] F (t:=t) (d:=d) (by omega) (by omega) List.Pairwise.nil (by simp[V6,QbX];exact YP.refl _)
    simp only[List.map_nil] at q1
    rw[show ((0:Nat):Int)=0 from rfl] at q1
    rw[q1]
    by_cases hl:40≤t.Stops.length
    ·have hl':(40:Int)≤((t.Stops.length:Nat):Int):=by omega
     have:L'=[]:=by rw[Qm7 hl] at q3;exact (q3.perm.symm.eq_nil)
     subst this;exact ⟨[],0,by simp only[hl',decide_true,cond_true],rfl,.inr ⟨rfl,h1,h2,by omega,by omega,by omega,by omega,hd,q2,q3⟩,fun _ _=>rfl⟩
    ·have hl': ¬(40:Int)≤((t.Stops.length:Nat):Int):=by omega
     have hcl:((Qbk t.Stops d).map (toT t.Vehicle)).length≤1000:=by simp[Qbk];omega
     obtain ⟨L2,j1,j2,j3⟩:=QlK (F:=F) (L:=QbX p ((Qbk t.Stops d).map (toT t.Vehicle))) (Nat.le_trans (QfN _ _) hcl) hF (Qm6 h2);have:L2=L':=j2.unique q2 (j3.symm.trans q3);subst this;refine ⟨L2,0,?_,rfl,.inr ⟨rfl,h1,h2,by omega,by omega,by omega,by omega,hd,q2,q3⟩,fun _ _=>rfl⟩
     simp only[hl',decide_false,cond_false,QiC hs hF,Option.bind_some,Qnl hF h2 h1 hn _ hcl,j1]
 ·rw[h2]
  simp only[Option.bind_some]
  rw[show decide (e=0)=false by simpa using h1]
  exact ⟨[],e,rfl,rfl,.inl ⟨h1,rfl⟩,fun h=>by injection h with h;exact absurd h h1⟩
theorem Qhr (L:List Op) (hl:L.length≤10000):iter (Wh L) (((L.length:Nat):Int).toNat+1) ([],0)=some (L.map Jr):=by
 have:=YX (body:=Wh L) L (fun k=>(L.take k).map Jr) (fun m k=>(m,k)) (fun _ _=>none) (L.map Jr) (by omega) (fun k x hx _=> ?_) (fun _=>by simp only[Wh,oun,List.take_length];simp) (((L.length:Nat):Int).toNat+1) (by simp)
 ·rw[QW _ _ (fun _ _ _=>rfl)] at this
  exact this
 ·have hk:=Qt hx;have hk2:((k:Int)<(L.length:Nat)):=by omega
  simp only[Wh,oun,hk2,decide_true,cond_true,Qs,hx,Option.bind_some,Je]
  rw[Yj (by simp;omega),YK hx]
  simp
theorem OkO.len {p:Pr} {t:Qa} {d:Int} {L:List Op} (h:OkO p t d L) (hs:t.Stops.length≤1000):L.length≤2001:=by
 rw[←h.stab.perm.length_eq]
 refine Nat.le_trans (QfN _ _) ?_
 simp[Qbk];omega
theorem Qhq {F:Nat} (hF:40000≤F) (p:Pr) (hn:p.Road.Edges.length≤600) (t:Qa) (hs:t.Stops.length≤1000) (d:Int) :
  Jv F p t d=Yr F p t d∧V8 F p t d=Zo F p t d:=by
 obtain ⟨L,e,h1,h2,h3,_⟩:=Qa9 hF p hn t hs d;have hl:L.length≤2001:=by
  rcases h3 with ⟨_,rfl⟩ | ⟨_,h3⟩
  ·simp
  ·exact h3.len hs
 constructor
 ·unfold Jv
  rw[h1,h2]
  simp only[Option.bind_some,oun,Qhr L (by omega)]
 ·unfold V8 Zo
  rw[h1,h2]
  simp only[Option.bind_some,oun,List.length_map]
  cases decide (e=0) with
  | false=>rfl
  | true =>
   simp only[Bool.not_true,cond_false]
   by_cases h0:L=[]
   ·subst h0;rfl
   ·obtain ⟨x,M,rfl⟩:=List.exists_cons_of_ne_nil h0;have: ¬((((x::M).length:Nat):Int)=0):=by simp;omega
    simp only[this,decide_false,cond_false,List.map_cons]
    rfl
theorem Qer {F:Nat} (hF:40000≤F) {p:Pr} (hn:p.Road.Edges.length≤600) {t:Qa} (hs:t.Stops.length≤1000) {d:Int} (hc:Qo p=some 0) (hb:Qjx p t d=false) (hd:d∉t.Stops) :
  ∃L,QT F p t d=some (L,0)∧OkO p t d L:=by
 obtain ⟨L,e,h1,h2,h3,h4⟩:=Qa9 hF p hn t hs d;have:=h4 hc hb
 rw[show decide (d∈t.Stops)=false by simpa using hd] at this
 have he:e=0:=this;subst he;rcases h3 with ⟨h,_⟩ | ⟨_,h3⟩
 ·exact absurd rfl h
 ·exact ⟨L,h1,h3⟩
theorem Qlh {F:Nat} {p:Pr} {t:Qa} {d e:Int} {L:List Op} (h:QT F p t d=some (L,e)) (hl:L.length≤10000):Jv F p t d=some (L.map Jr,e):=by
 unfold Jv
 rw[h]
 simp only[Option.bind_some,oun,Qhr L hl]
theorem QiR (a:List Int) (h:a.length≤1000000):JF a a=some true:=by
 unfold JF;have:=YN (body:=Jz a a) a (fun _ _=>none) (.inl ():Unit⊕Bool) (by omega) (fun k y hy=> ?_) (by simp[Jz]) (((a.length:Nat):Int).toNat+1) (by simp)
 ·rw[this,QW _ _ (fun _ _ _=>rfl)]
  simp[QI]
 ·have hk:=Qt hy;have hk2:((k:Int)<(a.length:Nat)):=by omega
  simp only[Jz,hk2,decide_true,cond_true,Qs,hy,Option.bind_some,Bool.not_true,cond_false,Je]
theorem Qlk (a:List Qa) (h:a.length≤1000000) (h2: ∀x∈a,x.Stops.length≤1000000):Ww a a=some true:=by
 unfold Ww;have:=YN (body:=JA a a) a (fun _ _=>none) (.inl ():Unit⊕Bool) (by omega) (fun k y hy=> ?_) (by simp[JA]) (((a.length:Nat):Int).toNat+1) (by simp)
 ·rw[this,QW _ _ (fun _ _ _=>rfl)]
  simp[QI]
 ·have hk:=Qt hy;have hk2:((k:Int)<(a.length:Nat)):=by omega
  simp only[JA,hk2,decide_true,cond_true,Qs,hy,Option.bind_some,Bool.not_true,cond_false,Je,QiR _ (h2 y (List.mem_of_getElem? hy))]
theorem Qlz {p:Pr} {ts:List Qa} {x:Op} (h:x∈QbX p ts):x.tour.Stops.length≤40:=by
 rcases Nat.lt_or_ge 40 x.tour.Stops.length with h1 | h1
 ·exact absurd (QhK h).2.1 (QhD h1)
 ·exact h1
theorem OkO.stops {p:Pr} {t:Qa} {d:Int} {L:List Op} (h:OkO p t d L): ∀x∈L,x.tour.Stops.length≤40:=fun x hx=>Qlz (h.stab.perm.symm.subset hx)
end Go.Proofs.YthpgjbbjpfiniaaGreat
namespace Go.Proofs.YthpgjbbjpfiniaaGreat
open Go.RowKit
set_option linter.unusedSimpArgs false
set_option linter.unusedVariables false
abbrev Pl:=Qf
theorem Qds {α ρ:Type} (p:α→Bool) (g:α→ρ) (fin:ρ): ∀l:List α,first (fun x=>bif p x then some (g x) else none) fin l=(match l.find? p with | some x=>g x | none=>fin)
 | []=>rfl
 | x::r=>by
  simp only[first,List.find?]
  cases h:p x with
  | true=>rfl
  | false=>exact Qds p g fin r
def ofP (x:Pl) (v:Int):Qa:=(x.Tours.find? fun t=>decide (t.Vehicle=v)).getD ⟨v,[]⟩
def wo (d:Int) (l:List Int):List Int:=l.filter fun k=> !decide (k=d)
def Qbm (t:Qa):Bool:=t.Stops.any fun s=>decide (0≤s)
theorem Qhp {x:Pl} (v:Int) (hx:x.Tours.length≤1000):QaK x v=some (ofP x v)∧Vk x v=some (ofP x v):=by
 have key: ∀body:Int→Option (Int⊕(Unit⊕Qa)),(∀k,body k=bif decide (k<((x.Tours.length:Nat):Int)) then Option.bind (getI x.Tours k) fun x2=>bif decide (x2.Vehicle=v) then some (.inr (.inr x2)) else some (.inl (w64 (k+1))) else some (.inr (.inl ()))) →
   (Option.bind (iter body (((x.Tours.length:Nat):Int).toNat+1) 0) fun o_=>QI o_ (fun _=>some (Qa.mk v [])) (fun r=>some r))=some (ofP x v):=by
  intro body hb
  rw[Qdx x.Tours (fun t=>bif decide (t.Vehicle=v) then some (Sum.inr t) else none) (Sum.inl ()) (by omega) (fun k t hk=>by
    have h1:((k:Int)<((x.Tours.length:Nat):Int)):=by have:=Qt hk;omega
    rw[hb]
    simp only[h1,decide_true,cond_true,Qs,hk,Option.bind_some]
    cases decide (t.Vehicle=v)<;>rfl) (by rw[hb];simp) _ (by simp),Option.bind_some,Qds]
  unfold ofP;cases x.Tours.find? fun t=>decide (t.Vehicle=v)<;>rfl
 exact ⟨key _ fun k=>rfl,key _ fun k=>rfl⟩
theorem Qi6 {p:Int→Bool} {body:Int→Option (Int⊕(Unit⊕Int))} {l:List Int} (hl:l.length≤1000000) (hb: ∀k,body k=bif decide (k<((l.length:Nat):Int)) then Option.bind (getI l k) fun x1=>bif p x1 then some (.inr (.inr k)) else some (.inl (w64 (k+1))) else some (.inr (.inl ()))) :
  (∃k:Nat,k<l.length∧(∀y∈l.take k,p y=false)∧(∀y,l[k]? =some y→p y=true)∧iter body (((l.length:Nat):Int).toNat+1) 0=some (.inr (k:Int))) ∨
  ((∀y∈l,p y=false)∧iter body (((l.length:Nat):Int).toNat+1) 0=some (.inl ())):=by
 rw[YN l (fun k x=>bif p x then some (Sum.inr (k:Int)) else none) (Sum.inl ()) (by omega) (fun k x hk=>by
   have h1:((k:Int)<((l.length:Nat):Int)):=by have:=Qt hk;omega
   rw[hb]
   simp only[h1,decide_true,cond_true,Qs,hk,Option.bind_some]
   cases p x<;>rfl) (by rw[hb];simp) _ (by simp)]
 have key: ∀(m:List Int) (n:Nat),(∃k:Nat,k<m.length∧(∀y∈m.take k,p y=false)∧(∀y,m[k]? =some y→p y=true)∧YI (fun k x=>bif p x then some (Sum.inr (k:Int)) else none) (Sum.inl ():Unit⊕Int) n m= .inr ((n+k:Nat):Int)) ∨
   ((∀y∈m,p y=false)∧YI (fun k x=>bif p x then some (Sum.inr (k:Int)) else none) (Sum.inl ():Unit⊕Int) n m= .inl ()):=by
  intro m
  induction m with
  | nil=>exact fun n=> .inr ⟨by simp,rfl⟩
  | cons x r ih =>
   intro n;cases hp:p x with
   | true=>exact .inl ⟨0,by simp,by simp,fun y hy=>by simp at hy;rw[←hy];exact hp,by simp[YI,hp]⟩
   | false =>
    rcases ih (n+1) with ⟨k,h1,h2,h3,h4⟩ | ⟨h1,h2⟩
    ·refine .inl ⟨k+1,by simp;omega,fun y hy=> ?_,fun y hy=>h3 y (by simpa using hy),?_⟩
     ·simp only[List.take_succ_cons,List.mem_cons] at hy
      rcases hy with rfl | hy
      ·exact hp
      ·exact h2 y hy
     ·simp only[YI,hp,cond_false]
      rw[h4];congr 2;omega
    ·refine .inr ⟨fun y hy=> ?_,?_⟩
     ·rcases List.mem_cons.1 hy with rfl | hy
      ·exact hp
      ·exact h1 y hy
     ·simp only[YI,hp,cond_false];exact h2
 rcases key l 0 with ⟨k,h1,h2,h3,h4⟩ | ⟨h1,h2⟩
 ·exact .inl ⟨k,h1,h2,h3,by rw[h4];simp⟩
 ·exact .inr ⟨h1,by rw[h2]⟩
theorem Qm1 {p:Int→Bool} {l:List Int} (h: ∀y∈l,p y=false):l.any p=false:=by
 rw[List.any_eq_false]
 exact fun y hy=>by rw[h y hy];simp
theorem Qqb {p:Int→Bool} {l:List Int} {k:Nat} (hk:k<l.length) (h: ∀y,l[k]? =some y→p y=true):l.any p=true:=by
 rw[List.any_eq_true]
 exact ⟨l[k],List.getElem_mem hk,h _ (List.getElem?_eq_getElem hk)⟩
theorem Qgv {t:Qa} (hl:t.Stops.length≤1000000):W9 t=some (Qbm t)∧VW t=some (Qbm t):=by
 constructor
 ·unfold W9 Z6 JT;rcases Qi6 (p:=fun s=>decide (0≤s)) (body:=Wr t.Stops) hl (fun k=>rfl) with ⟨k,h1,h2,h3,h4⟩ | ⟨h1,h2⟩
  ·rw[h4]
   have h5:(0:Int)≤(k:Int):=by omega
   simp only[Option.bind_some,QI,h5,decide_true,Qbm,Qqb h1 h3]
  ·rw[h2]
   simp only[Option.bind_some,QI,Qbm,Qm1 h1]
   rfl
 ·unfold VW
  rw[Qdx t.Stops (fun s=>bif decide (0≤s) then some (Sum.inr true) else none) (Sum.inl ()) (by omega) (fun k s hk=>by
   have h1:((k:Int)<((t.Stops.length:Nat):Int)):=by have:=Qt hk;omega
   simp only[Vm,h1,decide_true,cond_true,Qs,hk,Option.bind_some]
   cases decide (0≤s)<;>rfl) (by simp[Vm]) _ (by simp),Option.bind_some,Qds]
  unfold Qbm;cases h:t.Stops.find? fun s=>decide (0≤s) with
  | none =>
   rw[List.find?_eq_none] at h
   have:t.Stops.any (fun s=>decide (0≤s))=false:=by rw[List.any_eq_false];exact h
   rw[this];rfl
  | some s =>
   have h1:=List.find?_some h;have h2:=List.mem_of_find?_eq_some h;have:t.Stops.any (fun s=>decide (0≤s))=true:=by rw[List.any_eq_true];exact ⟨s,h2,h1⟩
   rw[this];rfl
theorem QkS {l:List Int} (d:Int) (hl:l.length≤1000000):VG l d=some (wo d l):=by
 unfold VG;have:=Qi7 l (fun (o:List Int) k=>(o,k)) (body:=JQ l d) (fun o x=> .inl (if x=d then o else o++[x])) (fun o=>o) (fun o k=>o=wo d (l.take k)) (by omega) (fun k x o hk ho=>by
  have h0:=Qt hk;have h1:((k:Int)<((l.length:Nat):Int)):=by omega
  have hw:wo d (l.take (k+1))=wo d (l.take k)++if x=d then [] else [x]:=by
   rw[YK hk];unfold wo;rw[List.filter_append]
   by_cases h:x=d<;>simp[h]
  refine ⟨?_,fun o' h=> ?_⟩
  ·simp only[JQ,oun,h1,decide_true,cond_true,Qs,hk,Option.bind_some]
   by_cases h:x=d
   ·simp[h]
   ·have hle:o.length≤k:=by rw[ho];exact Nat.le_trans (List.length_filter_le _ _) (by simp;omega)
    simp only[h,decide_false,Bool.not_false,cond_true,if_false]
    rw[Yj (by simp;omega)]
    rfl
  ·injection h with h
   subst h
   rw[hw,ho]
   by_cases h:x=d<;>simp[h]) (fun o ho=>by simp[JQ,oun]) (((l.length:Nat):Int).toNat+1) [] rfl (by simp)
 rw[this]
 have key: ∀(m:List Int) (o:List Int),each (fun o x=>(.inl (if x=d then o else o++[x]):List Int⊕List Int)) (fun o=>o) m o=o++wo d m:=by
  intro m
  induction m with
  | nil=>intro o;simp[each,wo]
  | cons x r ih =>
   intro o
   simp only[each]
   rw[ih]
   by_cases h:x=d<;>simp[h,wo]
 rw[key];rfl
theorem Qn6 {l:List Int} (d:Int) (hl:l.length≤1000000):J2 l d=some (decide (d∈l)):=by
 unfold J2
 rw[Qdx l (fun s=>bif decide (s=d) then some (Sum.inr true) else none) (Sum.inl ()) (by omega) (fun k s hk=>by
  have h1:((k:Int)<((l.length:Nat):Int)):=by have:=Qt hk;omega
  simp only[W4,h1,decide_true,cond_true,Qs,hk,Option.bind_some]
  cases decide (s=d)<;>rfl) (by simp[W4]) _ (by simp),Option.bind_some,Qds]
 cases h:l.find? fun s=>decide (s=d) with
 | none =>
  rw[List.find?_eq_none] at h
  have: ¬d∈l:=fun hm=>by have:=h d hm;simp at this
  simp[this,QI]
 | some s =>
  have h1:=List.find?_some h;have h2:=List.mem_of_find?_eq_some h;have h3:s=d:=by simpa using h1
  rw[h3] at h2
  simp[h2,QI]
theorem QhE {l:List Int} {d:Int} (hl:l.length≤100000): ∀(r j i f:Nat) (s:List Int),j+r=l.length→r<f→i<j→s.length=l.length→s.take i=wo d (l.take j)→s.drop j=l.drop j →
  ∃s',iter (YA l d) f (s,(i:Int),(j:Int))=some (s',((wo d l).length:Int))∧s'.length=l.length∧s'.take (wo d l).length=wo d l∧(wo d l).length≤l.length
 | 0,j,i,f+1,s,hj,_,hij,hs,ht,hd=>by
  have h1: ¬((j:Int)<((l.length:Nat):Int)):=by omega
  have e:l.take j=l:=List.take_of_length_le (by omega)
  rw[e] at ht
  have hi:(wo d l).length=i:=by rw[←ht];simp;omega
  refine ⟨s,?_,hs,by rw[hi];exact ht,List.length_filter_le _ _⟩
  simp only[iter,YA,oun,h1,decide_false,cond_false,hi]
  rfl
 | r+1,j,i,f+1,s,hj,hf,hij,hs,ht,hd=>by
  have h1:((j:Int)<((l.length:Nat):Int)):=by omega
  obtain ⟨x,hx⟩: ∃x,l[j]? =some x:=⟨_,List.getElem?_eq_getElem (by omega)⟩
  have hsx:s[j]? =some x:=by
   have e1:s[j]? =(s.drop j)[0]? :=by simp
   rw[e1,hd];simpa using hx
  obtain ⟨y,hy⟩: ∃y,s[i]? =some y:=⟨_,List.getElem?_eq_getElem (by omega)⟩
  have hw:wo d (l.take (j+1))=wo d (l.take j)++if x=d then [] else [x]:=by
   rw[YK hx];unfold wo;rw[List.filter_append]
   by_cases h:x=d<;>simp[h]
  have e2:w64 ((i:Int)+1)=((i+1:Nat):Int):=Wn (by omega);have e3:w64 ((j:Int)+1)=((j+1:Nat):Int):=Wn (by omega)
  by_cases h:x=d
  ·obtain ⟨s',g1,g2⟩:=QhE hl r (j+1) i f s (by omega) (by omega) (by omega) hs (by rw[hw];simp[h,ht]) (by rw[←List.drop_drop,hd];simp);refine ⟨s',?_,g2⟩
   rw[←g1]
   simp only[iter,YA,J0,oun,h1,decide_true,cond_true,Qs,hsx,Option.bind_some,h,Bool.not_true,cond_false,e3]
   rfl
  ·have hlt:i<s.length:=by omega
   obtain ⟨s',g1,g2⟩:=QhE hl r (j+1) (i+1) f (s.set i x) (by omega) (by omega) (by omega) (by simpa using hs) (by
     rw[hw,if_neg h,←ht]
     rw[List.take_add_one,List.take_set_of_le (Nat.le_refl _)]
     simp[hlt]) (by
     rw[List.drop_set_of_lt (by omega),←List.drop_drop,hd];simp)
   refine ⟨s',?_,g2⟩
   rw[←g1]
   simp only[iter,YA,J0,oun,h1,decide_true,cond_true,Qs,hsx,hy,Option.bind_some,h,decide_false,Bool.not_false,e2,e3,Yi,Int.toNat_natCast]
   rfl
theorem Qgc {d:Int} {l:List Int} (h: ∀y∈l,decide (y=d)=false):wo d l=l:=by
 unfold wo
 rw[List.filter_eq_self]
 exact fun y hy=>by rw[h y hy];rfl
theorem Qqf {F:Nat} (hF:40000≤F) {l:List Int} (d:Int) (hl:l.length≤30000):ZI F l d=some (wo d l):=by
 unfold ZI JS;rcases Qi6 (p:=fun s=>decide (s=d)) (body:=Wq l d) (l:=l) (by omega) (fun k=>rfl) with ⟨k,h1,h2,h3,h4⟩ | ⟨h1,h2⟩
 ·rw[h4]
  have h5: ¬((k:Int)= -1):=by omega
  have hw:wo d (l.take (k+1))=l.take k:=by
   obtain ⟨x,hx⟩: ∃x,l[k]? =some x:=⟨_,List.getElem?_eq_getElem h1⟩
   have hxd:x=d:=by simpa using h3 x hx
   rw[YK hx]
   have:=Qgc h2;unfold wo at this ⊢
   rw[List.filter_append,this];simp[hxd]
  obtain ⟨s',g1,g2,g3,g4⟩:=QhE (d:=d) (by omega) (l.length-(k+1)) (k+1) k F l (by omega) (by omega) (by omega) rfl hw.symm rfl
  simp only[Option.bind_some,QI,h5,decide_false,cond_false,Wn (show k<9223372036854775807 by omega)]
  rw[g1]
  simp only[Option.bind_some,oun]
  rw[Qbt (by omega)]
  have e1:(Qfc s' (((wo d l).length:Nat):Int) 0).take (wo d l).length=wo d l:=by
   unfold Qfc
   rw[List.take_append_of_le_length (by simp;omega)]
   simp[g3]
  have e2:WI (Qfc s' (((wo d l).length:Nat):Int) 0) 0 (((wo d l).length:Nat):Int)=some (wo d l):=by
   unfold WI
   rw[if_pos ⟨by omega,by omega,by rw[QcE];omega⟩]
   simp only[Int.toNat_natCast,Int.toNat_zero,List.drop_zero,e1]
  rw[Option.bind_some,e2];rfl
 ·rw[h2]
  simp only[Option.bind_some,QI,decide_true,cond_true]
  rw[Qgc h1]
theorem QnS {α:Type} (l:List α) (hl:l.length≤1000):QhB l=some l:=by
 unfold QhB
 simp
 omega
theorem Qfy {F:Nat} (hF:40000≤F) {l:List Int} (d:Int) (hl:l.length≤1000):JZ F l d=some (wo d l):=by
 unfold JZ
 rw[QnS l hl,Option.bind_some,Qqf hF d (by omega)];rfl
theorem Qo9 (a b:Int):W8 a b=some (if a<b then -1 else if b<a then 1 else 0):=by
 unfold W8 Qat
 simp only[Option.bind_some,decide_true,Bool.not_true,cond_false]
 by_cases h:a<b
 ·simp[h]
 ·by_cases h2:b<a<;>simp[h,h2]
theorem Qq8 (a b:Int):Qcg [a,b]=some (if a=0 then b else a):=by
 unfold Qcg
 rw[Qdx [a,b] (fun x=>bif !decide (x=0) then some (Sum.inr x) else none) (Sum.inl ()) (by simp) (fun k x hk=>by
  have h1:((k:Int)<(([a,b].length:Nat):Int)):=by have:=Qt hk;omega
  simp only[Qbx,h1,decide_true,cond_true,Qs,hk,Option.bind_some]
  cases decide (x=0)<;>rfl) (by simp[Qbx]) _ (by simp),Option.bind_some]
 by_cases ha:a=0
 ·by_cases hb:b=0
  ·simp[first,ha,hb,QI]
  ·simp[first,ha,hb,QI]
 ·simp[first,ha,QI]
def Wf (x:Qb):Int:=((x.plan.Left.length:Nat):Int)*1000000000000+x.cost
def QbK (x:Qb):Prop:=0≤x.cost∧x.cost<1000000000000
theorem QhC {a b:Qb} (ha:QbK a) (hb:QbK b): ∃z,Q6 a b=some z∧(z<0↔Wf a<Wf b):=by
 unfold Q6
 simp only[Qo9,Option.bind_some,Qq8]
 refine ⟨_,rfl,?_⟩;unfold Wf;obtain ⟨a0,a1⟩:=ha;obtain ⟨b0,b1⟩:=hb
 by_cases h1:((a.plan.Left.length:Nat):Int)<((b.plan.Left.length:Nat):Int)
 ·rw[if_pos h1,if_neg (by decide)];omega
 ·by_cases h2:((b.plan.Left.length:Nat):Int)<((a.plan.Left.length:Nat):Int)
  ·rw[if_neg h1,if_pos h2,if_neg (by decide)];omega
  ·rw[if_neg h1,if_neg h2,if_pos rfl]
   by_cases h3:a.cost<b.cost
   ·rw[if_pos h3];omega
   ·by_cases h4:b.cost<a.cost
    ·rw[if_neg h3,if_pos h4];omega
    ·rw[if_neg h3,if_neg h4];omega
end Go.Proofs.YthpgjbbjpfiniaaGreat
