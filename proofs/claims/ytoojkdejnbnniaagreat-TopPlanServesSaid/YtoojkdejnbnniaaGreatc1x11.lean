/- TopPlanServes: for every input the given law returns true, and its arguments read as before. No condition. -/
import Derived.Test.YtoojkdejnbnniaaGreatc1x9
import Derived.Test.YtoojkdejnbnniaaGreatc1x10
namespace Go.Proofs.YtoojkdejnbnniaaGreat
set_option linter.unusedSimpArgs false
set_option linter.unusedVariables false
section
variable {α:Type}
def QiM (cmp:α→α→Option Int) (a1:Int) (j_:(List α)×Int):Option (((List α)×Int)⊕((List α))) :=
 oun j_ fun data3 j1 =>
 Option.bind (
  bif (decide (a1<j1)) then
   Option.bind (getI data3 j1) fun x1 =>
   Option.bind (getI data3 (w64 (j1-1))) fun x2 =>
   Option.bind (cmp x1 x2) fun r1 =>
   some (decide (r1<0))
  else
   some false) (fun v1 =>
  bif v1 then
   Option.bind (getI data3 (w64 (j1-1))) fun x3 =>
   Option.bind (getI data3 j1) fun x4 =>
   Option.bind (getI data3 j1) fun x5 =>
   Option.bind (getI (Yk data3 j1 x3) (w64 (j1-1))) fun x6 =>
   some (.inl ((Yk (Yk data3 j1 x3) (w64 (j1-1)) x4),w64 (j1-1)))
  else
   some (.inr data3))
def QiN (cmp:α→α→Option Int) (F:Nat) (a1:Int) (b1:Int) (j_:(List α)×Int):Option (((List α)×Int)⊕((List α))) :=
 oun j_ fun data2 i1 =>
 bif (decide (i1<b1)) then
  Option.bind (
   Option.bind (
    iter (QiM cmp a1) F (data2,i1)) (fun data5 =>
    some data5)) (fun data6 =>
   some (.inl (data6,w64 (i1+1))))
 else
  some (.inr data2)
def QoX (cmp:α→α→Option Int) (F:Nat) (data1:(List α)) (a1:Int) (b1:Int):Option ((List α)) :=
 Option.bind (
  iter (QiN cmp F a1 b1) F (data1,w64 (a1+1))) (fun data7 =>
  some data7)
def Qnt (a1:Int) (b1:Int) (n2:Int) (j_:(List α)×Int):Option (((List α)×Int)⊕((List α))) :=
 oun j_ fun data2 i1 =>
 bif (decide (i1<n2)) then
  Option.bind (getI data2 (w64 (b1+i1))) fun x1 =>
  Option.bind (getI data2 (w64 (a1+i1))) fun x2 =>
  Option.bind (getI data2 (w64 (a1+i1))) fun x3 =>
  Option.bind (getI (Yk data2 (w64 (a1+i1)) x1) (w64 (b1+i1))) fun x4 =>
  some (.inl ((Yk (Yk data2 (w64 (a1+i1)) x1) (w64 (b1+i1)) x2),w64 (i1+1)))
 else
  some (.inr data2)
def gSw (data1:(List α)) (a1:Int) (b1:Int) (n2:Int):Option ((List α)) :=
 Option.bind (
  iter (Qnt a1 b1 n2) (n2.toNat+1) (data1,0)) (fun data4 =>
  some data4)
def QiQ (m1:Int) (j_:(List α)×Int×Int):Option (((List α)×Int×Int)⊕(((List α)×Int))) :=
 oun j_ fun data2 j_=>oun j_ fun i1 j1 =>
 bif (!(decide (i1=j1))) then
  bif (decide (j1<i1)) then
   Option.bind (gSw data2 (w64 (m1-i1)) m1 j1) fun r1 =>
   some (.inl (r1,w64 (i1-j1),j1))
  else
   Option.bind (gSw data2 (w64 (m1-i1)) (w64 ((w64 (m1+j1))-i1)) i1) fun r2 =>
   some (.inl (r2,i1,w64 (j1-i1)))
 else
  some (.inr (data2,i1))
def Qp8 (F:Nat) (data1:(List α)) (a1:Int) (m1:Int) (b1:Int):Option ((List α)) :=
 Option.bind (
  iter (QiQ m1) F (data1,w64 (m1-a1),w64 (b1-m1))) (fun j_=>oun j_ fun data3 i2 =>
  Option.bind (gSw data3 (w64 (m1-i2)) m1 i2) fun r3 =>
  some r3)
def QiR (cmp:α→α→Option Int) (data1:(List α)) (a1:Int) (j_:Int×Int):Option ((Int×Int)⊕(Int)) :=
 oun j_ fun i1 j1 =>
 bif (decide (i1<j1)) then
  Option.bind (Wd (0≤1∧1≤64)) fun _ =>
  Option.bind (getI data1 (w64 ((IntKind.u64.wrap (w64 (i1+j1)))/2^(1:Int).toNat))) fun x1 =>
  Option.bind (getI data1 a1) fun x2 =>
  Option.bind (cmp x1 x2) fun r1 =>
  bif (decide (r1<0)) then
   some (.inl (w64 ((w64 ((IntKind.u64.wrap (w64 (i1+j1)))/2^(1:Int).toNat))+1),j1))
  else
   some (.inl (i1,w64 ((IntKind.u64.wrap (w64 (i1+j1)))/2^(1:Int).toNat)))
 else
  some (.inr i1)
def QkD (cmp:α→α→Option Int) (i2:Int) (j_:(List α)×Int):Option (((List α)×Int)⊕((List α))) :=
 oun j_ fun data2 k1 =>
 bif (decide (k1<(w64 (i2-1)))) then
  Option.bind (getI data2 (w64 (k1+1))) fun x3 =>
  Option.bind (getI data2 k1) fun x4 =>
  Option.bind (getI data2 k1) fun x5 =>
  Option.bind (getI (Yk data2 k1 x3) (w64 (k1+1))) fun x6 =>
  some (.inl ((Yk (Yk data2 k1 x3) (w64 (k1+1)) x4),w64 (k1+1)))
 else
  some (.inr data2)
def QiS (cmp:α→α→Option Int) (data1:(List α)) (m1:Int) (j_:Int×Int):Option ((Int×Int)⊕(Int)) :=
 oun j_ fun i3 j2 =>
 bif (decide (i3<j2)) then
  Option.bind (Wd (0≤1∧1≤64)) fun _ =>
  Option.bind (getI data1 m1) fun x7 =>
  Option.bind (getI data1 (w64 ((IntKind.u64.wrap (w64 (i3+j2)))/2^(1:Int).toNat))) fun x8 =>
  Option.bind (cmp x7 x8) fun r2 =>
  bif (!(decide (r2<0))) then
   some (.inl (w64 ((w64 ((IntKind.u64.wrap (w64 (i3+j2)))/2^(1:Int).toNat))+1),j2))
  else
   some (.inl (i3,w64 ((IntKind.u64.wrap (w64 (i3+j2)))/2^(1:Int).toNat)))
 else
  some (.inr i3)
def QkE (cmp:α→α→Option Int) (i4:Int) (j_:(List α)×Int):Option (((List α)×Int)⊕((List α))) :=
 oun j_ fun data5 k2 =>
 bif (decide (i4<k2)) then
  Option.bind (getI data5 (w64 (k2-1))) fun x9 =>
  Option.bind (getI data5 k2) fun x10 =>
  Option.bind (getI data5 k2) fun x11 =>
  Option.bind (getI (Yk data5 k2 x9) (w64 (k2-1))) fun x12 =>
  some (.inl ((Yk (Yk data5 k2 x9) (w64 (k2-1)) x10),w64 (k2-1)))
 else
  some (.inr data5)
def Qhh (cmp:α→α→Option Int) (data1:(List α)) (j_:Int×Int×Int):Option ((Int×Int×Int)⊕(Int)) :=
 oun j_ fun start2 j_=>oun j_ fun r4 p1 =>
 bif (decide (start2<r4)) then
  Option.bind (Wd (0≤1∧1≤64)) fun _ =>
  Option.bind (getI data1 (w64 (p1-(w64 ((IntKind.u64.wrap (w64 (start2+r4)))/2^(1:Int).toNat))))) fun x13 =>
  Option.bind (getI data1 (w64 ((IntKind.u64.wrap (w64 (start2+r4)))/2^(1:Int).toNat))) fun x14 =>
  Option.bind (cmp x13 x14) fun r5 =>
  bif (!(decide (r5<0))) then
   some (.inl (w64 ((w64 ((IntKind.u64.wrap (w64 (start2+r4)))/2^(1:Int).toNat))+1),r4,p1))
  else
   some (.inl (start2,w64 ((IntKind.u64.wrap (w64 (start2+r4)))/2^(1:Int).toNat),p1))
 else
  some (.inr start2)
def QeU (cmp:α→α→Option Int) (rec_:(List α)→Int→Int→Int→Option ((List α))) (F:Nat) (data1:(List α)) (a1:Int) (m1:Int) (b1:Int):Option ((List α)) :=
 bif (decide ((w64 (m1-a1))=1)) then
  Option.bind (
   iter (QiR cmp data1 a1) F (m1,b1)) (fun i2 =>
   Option.bind (
    iter (QkD cmp i2) F (data1,a1)) (fun data4 =>
    some data4))
 else
  bif (decide ((w64 (b1-m1))=1)) then
   Option.bind (
    iter (QiS cmp data1 m1) F (a1,m1)) (fun i4 =>
    Option.bind (
     iter (QkE cmp i4) F (data1,m1)) (fun data7 =>
     some data7))
  else
   Option.bind (Wd (0≤1∧1≤64)) fun _ =>
   Option.bind (
    bif (decide ((w64 ((IntKind.u64.wrap (w64 (a1+b1)))/2^(1:Int).toNat))<m1)) then
     some (w64 ((IntKind.u64.wrap (w64 (a1+b1)))/2^(1:Int).toNat),w64 ((w64 ((IntKind.u64.wrap (w64 (a1+b1)))/2^(1:Int).toNat))+m1),w64 ((w64 ((w64 ((IntKind.u64.wrap (w64 (a1+b1)))/2^(1:Int).toNat))+m1))-b1),w64 ((IntKind.u64.wrap (w64 (a1+b1)))/2^(1:Int).toNat))
    else
     some (w64 ((IntKind.u64.wrap (w64 (a1+b1)))/2^(1:Int).toNat),w64 ((w64 ((IntKind.u64.wrap (w64 (a1+b1)))/2^(1:Int).toNat))+m1),a1,m1)) (fun j_=>oun j_ fun mid1 j_=>oun j_ fun n2 j_=>oun j_ fun start1 r3 =>
    Option.bind (
     iter (Qhh cmp data1) F (start1,r3,w64 (n2-1))) (fun start3 =>
     Option.bind (
      bif (decide (start3<m1)) then
       some (w64 (n2-start3),(decide (m1<(w64 (n2-start3)))))
      else
       some (w64 (n2-start3),false)) (fun j_=>oun j_ fun f_end1 v1 =>
      Option.bind (
       bif v1 then
        Option.bind (Qp8 F data1 start3 m1 f_end1) fun r6 =>
        some r6
       else
        some data1) (fun data8 =>
       Option.bind (
        bif (decide (a1<start3)) then
         some (decide (start3<mid1))
        else
         some false) (fun v2 =>
        Option.bind (
         bif v2 then
          Option.bind (rec_ data8 a1 start3 mid1) fun r7 =>
          some r7
         else
          some data8) (fun data9 =>
         Option.bind (
          bif (decide (mid1<f_end1)) then
           some (decide (f_end1<b1))
          else
           some false) (fun v3 =>
          Option.bind (
           bif v3 then
            Option.bind (rec_ data9 mid1 f_end1 b1) fun r8 =>
            some r8
           else
            some data9) (fun data10 =>
           some data10))))))))
def QkC (cmp:α→α→Option Int):Nat→(List α)→Int→Int→Int→Option ((List α))
 | 0,_,_,_,_=>none
 | F+1,data1,a1,m1,b1=>QeU cmp (QkC cmp F) F data1 a1 m1 b1
def Qns (cmp:α→α→Option Int) (F:Nat) (n2:Int) (j_:(List α)×Int×Int):Option (((List α)×Int×Int)⊕(((List α)×Int))) :=
 oun j_ fun data2 j_=>oun j_ fun a1 b1 =>
 bif (decide (b1≤n2)) then
  Option.bind (QoX cmp F data2 a1 b1) fun r1 =>
  some (.inl (r1,b1,w64 (b1+20)))
 else
  some (.inr (data2,a1))
def QhG (cmp:α→α→Option Int) (F:Nat) (n2:Int) (blockSize1:Int) (j_:(List α)×Int×Int):Option (((List α)×Int×Int)⊕(((List α)×Int))) :=
 oun j_ fun data5 j_=>oun j_ fun a3 b2 =>
 bif (decide (b2≤n2)) then
  Option.bind (QkC cmp F data5 a3 (w64 (a3+blockSize1)) b2) fun r3 =>
  some (.inl (r3,b2,w64 (b2+(w64 (2*blockSize1)))))
 else
  some (.inr (data5,a3))
def QhH (cmp:α→α→Option Int) (F:Nat) (n2:Int) (j_:(List α)×Int):Option (((List α)×Int)⊕((List α))) :=
 oun j_ fun data4 blockSize1 =>
 bif (decide (blockSize1<n2)) then
  Option.bind (
   iter (QhG cmp F n2 blockSize1) F (data4,0,w64 (2*blockSize1))) (fun j_=>oun j_ fun data6 a4 =>
   Option.bind (
    bif (decide ((w64 (a4+blockSize1))<n2)) then
     Option.bind (QkC cmp F data6 a4 (w64 (a4+blockSize1)) n2) fun r4 =>
     some r4
    else
     some data6) (fun data7 =>
    some (.inl (data7,w64 (blockSize1*2)))))
 else
  some (.inr data4)
def gSt (cmp:α→α→Option Int) (F:Nat) (data1:(List α)) (n2:Int):Option ((List α)) :=
 Option.bind (
  iter (Qns cmp F n2) F (data1,0,20)) (fun j_=>oun j_ fun data3 a2 =>
  Option.bind (QoX cmp F data3 a2 n2) fun r2 =>
  Option.bind (
   iter (QhH cmp F n2) F (r2,20)) (fun data8 =>
   some data8))
def QjY (cmp:α→α→Option Int) (F:Nat) (x1:(List α)):Option ((List α)) :=
 Option.bind (gSt cmp F x1 ((x1.length:Nat):Int)) fun r1 =>
 some r1
theorem QjI {a b:Nat} (h:a+b≤1000000000000000):w64 ((a:Int)+(b:Int))=((a+b:Nat):Int):=by rw[Yb (by omega) (by omega)];omega
theorem Qfp {a b:Nat} (h:b≤a) (h2:a≤1000000000000000):w64 ((a:Int)-(b:Int))=((a-b:Nat):Int):=by rw[Yb (by omega) (by omega)];omega
theorem Qmc {a:Nat} (h:1≤a) (h2:a≤1000000000000000):w64 ((a:Int)-1)=((a-1:Nat):Int):=Qfp (b:=1) h h2
theorem QhQ {a:Nat} (h2:a≤1000000000000):w64 ((a:Int)+1)=((a+1:Nat):Int):=QjI (b:=1) (by omega)
theorem QnQ {i j:Nat} (h:i+j≤1000000000000000):w64 ((IntKind.u64.wrap (w64 ((i:Int)+(j:Int))))/2^(1:Int).toNat)=(((i+j)/2:Nat):Int):=by
 rw[QjI h]
 have h1:IntKind.u64.wrap ((i+j:Nat):Int)=((i+j:Nat):Int):=by simp[IntKind.wrap,IntKind.bits,IntKind.signed];omega
 rw[h1]
 have h2:(2:Int)^(1:Int).toNat=2:=rfl
 rw[h2,Yb (by omega) (by omega)]
 omega
theorem QcF {L:List α} {i:Nat} (h:i<L.length): ∃x,L[i]? =some x:=⟨L[i],by simp[h]⟩
theorem Qg0 (L:List α) (i:Nat) (x:α):Yk L (i:Int) x=L.set i x:=by simp[Yk]
theorem QpT {L:List α} {i j:Nat} {x y:α} (hx:L[i]? =some x) (hy:L[j]? =some y) (t:Nat):((L.set i y).set j x)[t]? =if t=j then L[i]? else if t=i then L[j]? else L[t]? :=by
 have hi:=Qp hx;have hj:=Qp hy
 by_cases h1:t=j
 ·subst h1;rw[if_pos rfl];simp[hj,hx]
 ·by_cases h2:t=i
  ·subst h2;rw[if_neg h1,if_pos rfl,List.getElem?_set_ne (fun h=>h1 h.symm),hy];simp[hi]
  ·rw[if_neg h1,if_neg h2,List.getElem?_set_ne (fun h=>h1 h.symm),List.getElem?_set_ne (fun h=>h2 h.symm)]
def swF (L:List α) (a b n t:Nat):Option α:=if a≤t∧t<a+n then L[t-a+b]? else if b≤t∧t<b+n then L[t-b+a]? else L[t]?
theorem Qlz {L:List α} {a b n:Nat} (h1:a+n≤b) (h2:b+n≤L.length) (hs:L.length≤1000000000000): ∀(r i:Nat) (M:List α) (f:Nat),i+r=n→r<f→M.length=L.length→(∀t,M[t]? =swF L a b i t) →
  ∃L',iter (Qnt (α:=α) a b n) f (M,(i:Int))=some L'∧L'.length=L.length∧ ∀t,L'[t]? =swF L a b n t
 | _,_,_,0,_,h,_,_=>by omega
 | 0,i,M,f+1,hi,_,hl,hM=>by
  have:i=n:=by omega
  subst this;refine ⟨M,?_,hl,hM⟩
  simp only[iter,Qnt,oun,Int.lt_irrefl,decide_false,cond_false,Option.bind_some,Qy]
 | r+1,i,M,f+1,hi,hf,hl,hM=>by
  obtain ⟨x,hx⟩:=QcF (L:=M) (i:=b+i) (by omega);obtain ⟨y,hy⟩:=QcF (L:=M) (i:=a+i) (by omega);have hlt:((i:Nat):Int)<(n:Nat):=by omega
  have e1:w64 ((b:Int)+(i:Int))=((b+i:Nat):Int):=QjI (by omega);have e2:w64 ((a:Int)+(i:Int))=((a+i:Nat):Int):=QjI (by omega);have e3:w64 ((i:Int)+1)=((i+1:Nat):Int):=QhQ (by omega);have e4:(M.set (a+i) x)[b+i]? =some x:=by rw[List.getElem?_set,if_neg (by omega)];exact hx
  have key:=Qlz h1 h2 hs r (i+1) ((M.set (a+i) x).set (b+i) y) f (by omega) (by omega) (by simpa using hl) (fun t=>by
   rw[QpT hy hx t,hM t,hM (a+i),hM (b+i)]
   unfold swF
   repeat' split
   all_goals first | omega | rfl | (congr 1;omega))
  obtain ⟨L',k1,k2,k3⟩:=key;refine ⟨L',?_,k2,k3⟩
  rw[←k1]
  simp only[iter,Qnt,oun,hlt,decide_true,cond_true,e1,e2,e3,Qm,Qg0,hx,hy,e4,Option.bind_some,Qy]
theorem QmB {L:List α} {a b n:Nat} (h1:a+n≤b) (h2:b+n≤L.length) (hs:L.length≤1000000000000): ∃L',gSw L a b n=some L'∧L'.length=L.length∧ ∀t,L'[t]? =swF L a b n t:=by
 obtain ⟨L',k1,k2,k3⟩:=Qlz h1 h2 hs n 0 L ((n:Int).toNat+1) (by omega) (by omega) rfl (fun t=>by unfold swF;rw[if_neg (by omega),if_neg (by omega)]);refine ⟨L',?_,k2,k3⟩;unfold gSw
 rw[show ((0:Nat):Int)=0 from rfl] at k1
 rw[k1];rfl
def QmW (L:List α) (m i j t:Nat):Option α:=if m-i≤t∧t<m+j then (if t<m-i+j then L[t+i]? else L[t-j]?) else L[t]?
theorem Qhg {m:Nat}: ∀(s i j:Nat) (L:List α) (f:Nat),i+j≤s→s<f→1≤i→1≤j→i≤m→m+j≤L.length→L.length≤1000000000000 →
  ∃(M:List α) (d:Nat),iter (QiQ (α:=α) m) f (L,(i:Int),(j:Int))=some (M,(d:Int))∧M.length=L.length∧1≤d∧d≤i∧d≤j∧ ∀(L':List α),L'.length=L.length→(∀t,L'[t]? =swF M (m-d) m d t)→ ∀t,L'[t]? =QmW L m i j t
 | _,_,_,_,0,_,h,_,_,_,_,_=>by omega
 | 0,i,j,_,_,h,_,_,_,_,_,_=>by omega
 | s+1,i,j,L,f+1,hs,hf,hi,hj,him,hjl,hl=>by
  by_cases hij:i=j
  ·subst hij;refine ⟨L,i,?_,rfl,hi,Nat.le_refl _,Nat.le_refl _,fun L' _ h t=> ?_⟩
   ·simp only[iter,QiQ,oun,decide_true,Bool.not_true,cond_false,Option.bind_some,Qy]
   ·rw[h t]
    unfold swF QmW
    repeat' split
    all_goals first | omega | rfl | (congr 1;omega)
  ·have hne: ¬((i:Int)=(j:Int)):=by omega
   by_cases hlt:j<i
   ·have hlt':((j:Nat):Int)<(i:Nat):=by omega
    obtain ⟨L1,k1,k2,k3⟩:=QmB (L:=L) (a:=m-i) (b:=m) (n:=j) (by omega) (by omega) hl;obtain ⟨M,d,q1,q2,q3,q4,q5,q6⟩:=Qhg (m:=m) s (i-j) j L1 f (by omega) (by omega) (by omega) hj (by omega) (by omega) (by omega);refine ⟨M,d,?_,by omega,q3,by omega,q5,fun L' hL' h t=> ?_⟩
    ·rw[←q1]
     simp only[iter,QiQ,oun,hne,hlt',decide_false,decide_true,Bool.not_false,cond_true,Qfp him (by omega:m≤1000000000000000),k1,Qfp (Nat.le_of_lt hlt) (by omega:i≤1000000000000000),Option.bind_some,Qy]
    ·rw[q6 L' (by omega) h t]
     unfold QmW
     simp only[k3]
     unfold swF
     repeat' split
     all_goals first | omega | rfl | (congr 1;omega)
   ·have hlt': ¬(((j:Nat):Int)<(i:Nat)):=by omega
    obtain ⟨L1,k1,k2,k3⟩:=QmB (L:=L) (a:=m-i) (b:=m+j-i) (n:=i) (by omega) (by omega) hl;obtain ⟨M,d,q1,q2,q3,q4,q5,q6⟩:=Qhg (m:=m) s i (j-i) L1 f (by omega) (by omega) hi (by omega) him (by omega) (by omega);refine ⟨M,d,?_,by omega,q3,q4,by omega,fun L' hL' h t=> ?_⟩
    ·rw[←q1]
     simp only[iter,QiQ,oun,hne,hlt',decide_false,decide_true,Bool.not_false,cond_true,cond_false,Qfp him (by omega:m≤1000000000000000),QjI (by omega:m+j≤1000000000000000),Qfp (by omega:i≤m+j) (by omega:m+j≤1000000000000000),k1,Qfp (by omega:i≤j) (by omega:j≤1000000000000000),Option.bind_some,Qy]
    ·rw[q6 L' (by omega) h t]
     unfold QmW
     simp only[k3]
     unfold swF
     repeat' split
     all_goals first | omega | rfl | (congr 1;omega)
theorem Qp9 {L:List α} {a m b F:Nat} (h1:a<m) (h2:m<b) (h3:b≤L.length) (hs:L.length≤1000000000000) (hF:b-a<F): ∃L',Qp8 F L a m b=some L'∧L'.length=L.length∧ ∀t,L'[t]? =QmW L m (m-a) (b-m) t:=by
 obtain ⟨M,d,q1,q2,q3,q4,q5,q6⟩:=Qhg (m:=m) (b-a) (m-a) (b-m) L F (by omega) hF (by omega) (by omega) (by omega) (by omega) hs;obtain ⟨L',k1,k2,k3⟩:=QmB (L:=M) (a:=m-d) (b:=m) (n:=d) (by omega) (by omega) (by omega);refine ⟨L',?_,by omega,q6 L' (by omega) k3⟩;unfold Qp8
 simp only[Qfp (Nat.le_of_lt h1) (by omega:m≤1000000000000000),Qfp (Nat.le_of_lt h2) (by omega:b≤1000000000000000),q1,Option.bind_some,oun,Qfp (by omega:d≤m) (by omega:m≤1000000000000000),k1]
variable {k:α→Int}
def Srt (k:α→Int) (l:List α):Prop:=l.Pairwise fun x y=>k x≤k y
structure YN (k:α→Int) (l l':List α):Prop where
 perm:l.Perm l'
 fil: ∀c,l.filter (fun x=>decide (k x=c))=l'.filter (fun x=>decide (k x=c))
theorem YN.refl (l:List α):YN k l l:=⟨List.Perm.refl _,fun _=>rfl⟩
theorem YN.trans {a b c:List α} (h:YN k a b) (h2:YN k b c):YN k a c:=⟨h.perm.trans h2.perm,fun q=>(h.fil q).trans (h2.fil q)⟩
theorem YN.symm {a b:List α} (h:YN k a b):YN k b a:=⟨h.perm.symm,fun q=>(h.fil q).symm⟩
theorem YN.append {a b c d:List α} (h:YN k a b) (h2:YN k c d):YN k (a++c) (b++d):=⟨h.perm.append h2.perm,fun q=>by rw[List.filter_append,List.filter_append,h.fil q,h2.fil q]⟩
theorem YN.swap {u v:List α} (h: ∀x∈u,∀y∈v,k y<k x):YN k (u++v) (v++u):=by
 refine ⟨List.perm_append_comm,fun c=> ?_⟩
 rw[List.filter_append,List.filter_append]
 by_cases hu:u.filter (fun x=>decide (k x=c))=[]
 ·rw[hu];simp
 ·have hv:v.filter (fun x=>decide (k x=c))=[]:=by
   rw[List.filter_eq_nil_iff]
   intro y hy hyc;obtain ⟨x,hx⟩:=List.exists_mem_of_ne_nil _ hu;have hx':=List.mem_filter.1 hx;have:=h x hx'.1 y hy;have e1:=of_decide_eq_true hx'.2;have e2:=of_decide_eq_true hyc
   omega
  rw[hv];simp
theorem Srt.unique: ∀{l l':List α},Srt k l→Srt k l'→YN k l l'→l=l'
 | [],l',_,_,h=>(h.perm.symm.eq_nil).symm
 | x::r,[],_,_,h=>by have:=h.perm.eq_nil;cases this
 | x::r,y::r',h1,h2,h=>by
  have hx: ∀z∈x::r,k x≤k z:=fun z hz=>by
   rcases List.mem_cons.1 hz with rfl | hz
   ·exact Int.le_refl _
   ·exact (List.pairwise_cons.1 h1).1 z hz
  have hy: ∀z∈y::r',k y≤k z:=fun z hz=>by
   rcases List.mem_cons.1 hz with rfl | hz
   ·exact Int.le_refl _
   ·exact (List.pairwise_cons.1 h2).1 z hz
  have e1:=hx y (h.perm.mem_iff.2 List.mem_cons_self);have e2:=hy x (h.perm.mem_iff.1 List.mem_cons_self);have e3:k x=k y:=by omega
  have f1:=h.fil (k x)
  rw[List.filter_cons_of_pos (by simp),List.filter_cons_of_pos (by simp[e3])] at f1
  injection f1 with f1 f2
  subst f1;have:YN k r r':=⟨(List.perm_cons x).1 h.perm,fun c=>by
   by_cases hc:k x=c
   ·subst hc;exact f2
   ·have f3:=h.fil c
    rw[List.filter_cons_of_neg (by simp[hc]),List.filter_cons_of_neg (by simp[hc])] at f3
    exact f3⟩
  rw[Srt.unique (List.pairwise_cons.1 h1).2 (List.pairwise_cons.1 h2).2 this]
theorem Qql {A U V B L':List α} {m:Nat} (hm:A.length+U.length=m) (h: ∀t,L'[t]? =QmW (A++(U++(V++B))) m U.length V.length t):L'=A++(V++(U++B)):=by
 refine List.ext_getElem? fun t=> ?_
 rw[h t]
 unfold QmW
 simp only[List.getElem?_append]
 repeat' split
 all_goals first | omega | rfl | (congr 1;omega)
variable {cmp:α→α→Option Int} {Pv:α→Prop}
theorem Qdd {A B:List α} {x:α} {i:Nat} (h:A.length=i):(A++x::B)[i]? =some x:=by subst h;simp
theorem Ql5 {A B:List α} {x z:α} {i:Nat} (h:A.length=i):((A++z::x::B).set (i+1) z).set i x=A++x::z::B:=by
 subst h
 rw[List.set_append_right _ _ (by omega),List.set_append_right _ _ (by omega)]
 simp
theorem QiO (hc: ∀x y,Pv x→Pv y→ ∃z,cmp x y=some z∧(z<0↔k x<k y)) {a:Nat} {A:List α} (hA:A.length=a) {x:α} (hx:Pv x): ∀(n:Nat) (Z B:List α) (f:Nat),Z.length=n→n<f→Srt k Z→(∀z∈Z,Pv z)→a+n≤1000000000000 →
  ∃Z1 Z2,Z=Z1++Z2∧iter (QiM cmp a) f (A++Z++x::B,((a+n:Nat):Int))=some (A++Z1++x::(Z2++B))∧(∀z∈Z2,k x<k z)∧ ∀z∈Z1,k z≤k x
 | _,_,_,0,_,h,_,_,_=>by omega
 | 0,Z,B,f+1,hZ,_,_,_,_=>by
  have:Z=[]:=List.eq_nil_of_length_eq_zero hZ;subst this;refine ⟨[],[],rfl,?_,by simp,by simp⟩;have: ¬((a:Int)<((a+0:Nat):Int)):=by omega
  simp only[iter,QiM,oun,this,decide_false,cond_false,Option.bind_some,Qy,List.append_nil,List.nil_append]
 | n+1,Z,B,f+1,hZ,hf,hs,hp,hb=>by
  obtain ⟨Z',z,rfl⟩: ∃Z' z,Z=Z'++[z]:=by
   have:Z≠[]:=by intro e;rw[e] at hZ;simp at hZ
   exact ⟨Z.dropLast,Z.getLast this,(List.dropLast_concat_getLast this).symm⟩
  have hl:Z'.length=n:=by simpa using hZ
  have hz:Pv z:=hp z (by simp);have hlt:(a:Int)<((a+(n+1):Nat):Int):=by omega
  have e0:A++(Z'++[z])++x::B=(A++Z')++z::x::B:=by simp
  have g1:(A++(Z'++[z])++x::B)[a+(n+1)]? =some x:=Qdd (by simp[hA,hl]);have g2:(A++(Z'++[z])++x::B)[a+(n+1)-1]? =some z:=by rw[e0];exact Qdd (by simp[hA,hl])
  have e1:w64 (((a+(n+1):Nat):Int)-1)=((a+(n+1)-1:Nat):Int):=Qmc (by omega) (by omega);obtain ⟨q,hq,hqk⟩:=hc x z hx hz
  by_cases hk:k x<k z
  ·have hq0:=hqk.2 hk;obtain ⟨Z1,Z2,k1,k2,k3,k4⟩:=QiO hc hA hx n Z' (z::B) f hl (by omega) (List.pairwise_append.1 hs).1 (fun y hy=>hp y (by simp[hy])) (by omega);refine ⟨Z1,Z2++[z],by rw[k1];simp,?_,?_,k4⟩
   ·have e2:((A++(Z'++[z])++x::B).set (a+(n+1)) z).set (a+(n+1)-1) x=A++Z'++x::(z::B):=by
     rw[e0]
     have:a+(n+1)-1=a+n:=by omega
     rw[this]
     have e3:a+(n+1)=(a+n)+1:=by omega
     rw[e3]
     exact Ql5 (by simp[hA,hl])
    have g3:((A++(Z'++[z])++x::B).set (a+(n+1)) z)[a+(n+1)-1]? =some z:=by
     rw[List.getElem?_set_ne (by omega)];exact g2
    have e4:((a+(n+1)-1:Nat):Int)=((a+n:Nat):Int):=by omega
    simp only[iter,QiM,oun,hlt,decide_true,cond_true,Qm,Qg0,e1,g1,g2,g3,hq,hq0,Option.bind_some,Qy,e2]
    rw[e4,k2]
    simp
   ·intro y hy;rcases List.mem_append.1 hy with hy | hy
    ·exact k3 y hy
    ·simp only[List.mem_singleton] at hy;subst hy;exact hk
  ·have hq0: ¬q<0:=fun h=>hk (hqk.1 h);refine ⟨Z'++[z],[],by simp,?_,by simp,?_⟩
   ·simp only[iter,QiM,oun,hlt,decide_true,cond_true,Qm,e1,g1,g2,hq,hq0,decide_false,cond_false,Option.bind_some,Qy,List.nil_append]
   ·intro y hy;rcases List.mem_append.1 hy with hy | hy
    ·have:=(List.pairwise_append.1 hs).2.2 y hy z (by simp)
     omega
    ·simp only[List.mem_singleton] at hy;subst hy;omega
theorem QgM {Z1 Z2:List α} {x:α} (hs:Srt k (Z1++Z2)) (h2: ∀z∈Z2,k x<k z) (h1: ∀z∈Z1,k z≤k x):Srt k (Z1++x::Z2)∧YN k (Z1++Z2++[x]) (Z1++x::Z2):=by
 have hp:=List.pairwise_append.1 hs;refine ⟨List.pairwise_append.2 ⟨hp.1,List.pairwise_cons.2 ⟨fun z hz=>by have:=h2 z hz;omega,hp.2.1⟩,fun y hy z hz=> ?_⟩,?_⟩
 ·rcases List.mem_cons.1 hz with rfl | hz
  ·exact h1 y hy
  ·exact hp.2.2 y hy z hz
 ·rw[List.append_assoc]
  refine (YN.refl Z1).append (?_:YN k (Z2++[x]) ([x]++Z2));exact YN.swap fun z hz y hy=>by simp only[List.mem_singleton] at hy;subst hy;exact h2 z hz
theorem QiP (hc: ∀x y,Pv x→Pv y→ ∃z,cmp x y=some z∧(z<0↔k x<k y)) {a b F:Nat} {A B:List α} (hA:A.length=a) (hb:b≤1000000000) (hF:b<F): ∀(r:Nat) (Z R:List α) (f:Nat),R.length=r→r<f→a+Z.length+r=b→Srt k Z→(∀z∈Z,Pv z)→(∀z∈R,Pv z) →
  ∃M,iter (QiN cmp F a b) f (A++Z++(R++B),((a+Z.length:Nat):Int))=some (A++M++B)∧Srt k M∧YN k (Z++R) M
 | _,_,_,0,_,h,_,_,_,_=>by omega
 | 0,Z,R,f+1,hR,_,hab,hs,_,_=>by
  have:R=[]:=List.eq_nil_of_length_eq_zero hR;subst this;refine ⟨Z,?_,hs,by rw[List.append_nil];exact YN.refl _⟩;have: ¬(((a+Z.length:Nat):Int)<(b:Int)):=by omega
  simp only[iter,QiN,oun,this,decide_false,cond_false,Option.bind_some,Qy,List.nil_append]
 | r+1,Z,[],f+1,hR,_,_,_,_,_=>by simp at hR
 | r+1,Z,x::R,f+1,hR,hf,hab,hs,hp,hq=>by
  have hlt:((a+Z.length:Nat):Int)<(b:Int):=by omega
  obtain ⟨Z1,Z2,k1,k2,k3,k4⟩:=QiO hc hA (hq x (by simp)) Z.length Z (R++B) F rfl (by omega) hs hp (by omega);subst k1;obtain ⟨j1,j2⟩:=QgM hs k3 k4;have hl:(Z1++x::Z2).length=(Z1++Z2).length+1:=by simp;omega
  obtain ⟨M,m1,m2,m3⟩:=QiP (B:=B) hc hA hb hF r (Z1++x::Z2) R f (by simpa using hR) (by omega) (by rw[hl];omega) j1 (fun z hz=>by
   rcases List.mem_append.1 hz with hz | hz
   ·exact hp z (by simp[hz])
   ·rcases List.mem_cons.1 hz with rfl | hz
    ·exact hq z (by simp)
    ·exact hp z (by simp[hz])) (fun z hz=>hq z (by simp[hz]))
  refine ⟨M,?_,m2,?_⟩
  ·have e1:w64 (((a+(Z1++Z2).length:Nat):Int)+1)=((a+(Z1++x::Z2).length:Nat):Int):=by rw[QhQ (by omega),hl];rfl
   have e2:A++Z1++x::(Z2++(R++B))=A++(Z1++x::Z2)++(R++B):=by simp
   simp only[iter,QiN,oun,hlt,decide_true,cond_true,List.cons_append,k2,Option.bind_some,Qy,e1,e2,m1]
  ·refine YN.trans (b:=(Z1++x::Z2)++R) ?_ m3;have:Z1++Z2++x::R=(Z1++Z2++[x])++R:=by simp
   rw[this]
   exact j2.append (YN.refl R)
theorem Qnr (hc: ∀x y,Pv x→Pv y→ ∃z,cmp x y=some z∧(z<0↔k x<k y)) {a b F:Nat} {A M B:List α} (hA:A.length=a) (hM:a+M.length=b) (hb:b≤1000000000) (hF:b+1<F) (hp: ∀z∈M,Pv z) :
  ∃M',QoX cmp F (A++M++B) a b=some (A++M'++B)∧Srt k M'∧YN k M M':=by
 cases M with
 | nil =>
  refine ⟨[],?_,List.Pairwise.nil,YN.refl _⟩;cases F with
  | zero=>omega
  | succ F =>
   have e1:w64 ((a:Int)+1)=((a+1:Nat):Int):=QhQ (by simp at hM;omega);have: ¬(((a+1:Nat):Int)<(b:Int)):=by simp at hM;omega
   unfold QoX
   simp only[e1,iter,QiN,oun,this,decide_false,cond_false,Option.bind_some,Qy]
 | cons x R =>
  obtain ⟨M',m1,m2,m3⟩:=QiP (B:=B) hc hA hb (by omega:b<F) R.length [x] R F rfl (by simp at hM;omega) (by simp at hM ⊢;omega) (List.pairwise_singleton _ _) (fun z hz=>hp z (by simp at hz;simp[hz])) (fun z hz=>hp z (by simp[hz]));refine ⟨M',?_,m2,m3⟩;have e1:w64 ((a:Int)+1)=((a+[x].length:Nat):Int):=by rw[QhQ (by simp at hM;omega)];rfl
  have e2:A++x::R++B=A++[x]++(R++B):=by simp
  unfold QoX
  rw[e1,e2,m1];rfl
theorem Qio {τ:Type} {body:τ→Option (τ⊕Int)} {mk:Nat→Nat→τ} {test:Nat→Bool} {i0 j0:Nat} (hb: ∀i j,i0≤i→i<j→j≤j0→body (mk i j)=some (.inl (bif test ((i+j)/2) then mk ((i+j)/2+1) j else mk i ((i+j)/2)))) (he: ∀i,i0≤i→i≤j0→body (mk i i)=some (.inr (i:Int)))
  (hm: ∀s t,i0≤s→s≤t→t<j0→test t=true→test s=true): ∀(n i j f:Nat),j-i≤n→n<f→i0≤i→i≤j→j≤j0→(∀t,i0≤t→t<i→test t=true)→(∀t,j≤t→t<j0→test t=false) →
  ∃r:Nat,iter body f (mk i j)=some (r:Int)∧i≤r∧r≤j∧(∀t,i0≤t→t<r→test t=true)∧ ∀t,r≤t→t<j0→test t=false
 | _,_,_,0,_,h,_,_,_,_,_=>by omega
 | n,i,j,f+1,hn,hf,h0,hij,hj,ht,hfa=>by
  by_cases hlt:i<j
  ·cases n with
   | zero=>omega
   | succ n =>
    have h1:=hb i j h0 hlt hj;cases hq:test ((i+j)/2) with
    | true =>
     rw[hq] at h1
     obtain ⟨r,k1,k2,k3,k4,k5⟩:=Qio hb he hm n ((i+j)/2+1) j f (by omega) (by omega) (by omega) (by omega) hj (fun t h2 h3=>hm t ((i+j)/2) h2 (by omega) (by omega) hq) hfa;refine ⟨r,?_,by omega,k3,k4,k5⟩
     rw[iter,h1]
     exact k1
    | false =>
     rw[hq] at h1
     obtain ⟨r,k1,k2,k3,k4,k5⟩:=Qio hb he hm n i ((i+j)/2) f (by omega) (by omega) h0 (by omega) (by omega) ht (fun t h2 h3=>by
      cases hq2:test t with
      | false=>rfl
      | true=>have:=hm ((i+j)/2) t (by omega) h2 h3 hq2;rw[hq] at this;cases this)
     refine ⟨r,?_,k2,by omega,k4,k5⟩
     rw[iter,h1]
     exact k1
  ·have:i=j:=by omega
   subst this;exact ⟨i,by rw[iter,he i h0 hj];rfl,Nat.le_refl _,Nat.le_refl _,ht,hfa⟩
theorem QiT {a e:Nat} {A B:List α} {x:α}: ∀(n:Nat) (W V:List α) (f:Nat),V.length=n→n<f→A.length+W.length+n+1=e→e≤1000000000 →
  iter (QkD (α:=α) cmp (e:Int)) f (A++W++x::(V++B),((A.length+W.length:Nat):Int))=some (A++W++V++x::B)
 | _,_,_,0,_,h,_,_=>by omega
 | 0,W,V,f+1,hV,_,he,hb=>by
  have:V=[]:=List.eq_nil_of_length_eq_zero hV;subst this;have e1:w64 ((e:Int)-1)=((e-1:Nat):Int):=Qmc (by omega) (by omega);have: ¬(((A.length+W.length:Nat):Int)<((e-1:Nat):Int)):=by omega
  simp only[iter,QkD,oun,e1,this,decide_false,cond_false,Option.bind_some,Qy,List.append_nil,List.nil_append]
 | n+1,W,[],f+1,hV,_,_,_=>by simp at hV
 | n+1,W,v::V,f+1,hV,hf,he,hb=>by
  have e1:w64 ((e:Int)-1)=((e-1:Nat):Int):=Qmc (by omega) (by omega);have hlt:((A.length+W.length:Nat):Int)<((e-1:Nat):Int):=by omega
  have e2:w64 (((A.length+W.length:Nat):Int)+1)=((A.length+W.length+1:Nat):Int):=QhQ (by omega);have g1:(A++W++x::(v::V++B))[A.length+W.length]? =some x:=Qdd (by simp);have g2:(A++W++x::(v::V++B))[A.length+W.length+1]? =some v:=by
   have:A++W++x::(v::V++B)=(A++W++[x])++v::(V++B):=by simp
   rw[this];exact Qdd (by simp;omega)
  have e3:((A++W++x::(v::V++B)).set (A.length+W.length) v).set (A.length+W.length+1) x=A++(W++[v])++x::(V++B):=by
   rw[List.set_append_right _ _ (by simp),List.set_append_right _ _ (by simp)]
   simp
  have g3:((A++W++x::(v::V++B)).set (A.length+W.length) v)[A.length+W.length+1]? =some v:=by
   rw[List.getElem?_set_ne (by omega)];exact g2
  have ih:=QiT (a:=a) (e:=e) (A:=A) (B:=B) (x:=x) n (W++[v]) V f (by simpa using hV) (by omega) (by simp;omega) hb;have e4:((A.length+W.length+1:Nat):Int)=((A.length+(W++[v]).length:Nat):Int):=by simp;omega
  simp only[iter,QkD,oun,e1,hlt,decide_true,cond_true,e2,Qm,Qg0,g1,g2,g3,e3,Option.bind_some,Qy]
  rw[e4,ih]
  simp
theorem QjZ {e:Nat} {A B:List α} {x:α} (hA:A.length=e): ∀(n:Nat) (U W:List α) (f:Nat),U.length=n→n<f→e+n≤1000000000 →
  iter (QkE (α:=α) cmp (e:Int)) f (A++U++x::(W++B),((e+n:Nat):Int))=some (A++x::(U++W++B))
 | _,_,_,0,_,h,_=>by omega
 | 0,U,W,f+1,hU,_,hb=>by
  have:U=[]:=List.eq_nil_of_length_eq_zero hU;subst this;have: ¬((e:Int)<((e+0:Nat):Int)):=by omega
  simp only[iter,QkE,oun,this,decide_false,cond_false,Option.bind_some,Qy,List.append_nil,List.nil_append]
 | n+1,U,W,f+1,hU,hf,hb=>by
  obtain ⟨U',u,rfl⟩: ∃U' u,U=U'++[u]:=by
   have:U≠[]:=by intro e;rw[e] at hU;simp at hU
   exact ⟨U.dropLast,U.getLast this,(List.dropLast_concat_getLast this).symm⟩
  have hl:U'.length=n:=by simpa using hU
  have e1:w64 (((e+(n+1):Nat):Int)-1)=((e+n:Nat):Int):=Qmc (by omega) (by omega);have hlt:(e:Int)<((e+(n+1):Nat):Int):=by omega
  have e0:A++(U'++[u])++x::(W++B)=(A++U')++u::x::(W++B):=by simp
  have g1:(A++(U'++[u])++x::(W++B))[e+(n+1)]? =some x:=Qdd (by simp[hA,hl]);have g2:(A++(U'++[u])++x::(W++B))[e+n]? =some u:=by rw[e0];exact Qdd (by simp[hA,hl])
  have e2:((A++(U'++[u])++x::(W++B)).set (e+(n+1)) u).set (e+n) x=A++U'++x::((u::W)++B):=by
   rw[e0]
   exact Ql5 (by simp[hA,hl])
  have g3:((A++(U'++[u])++x::(W++B)).set (e+(n+1)) u)[e+n]? =some u:=by
   rw[List.getElem?_set_ne (by omega)];exact g2
  have ih:=QjZ (B:=B) (x:=x) hA n U' (u::W) f hl (by omega) (by omega)
  simp only[iter,QkE,oun,hlt,decide_true,cond_true,e1,Qm,Qg0,g1,g2,g3,e2,Option.bind_some,Qy]
  rw[ih]
  simp
theorem Qib {A U B:List α} {a t:Nat} (hA:A.length=a) (h1:a≤t) (h2:t<a+U.length):(A++(U++B))[t]? =U[t-a]? :=by
 rw[List.getElem?_append_right (by omega),hA,List.getElem?_append_left (by omega)]
theorem QcC {l:List α} (h:Srt k l) {i j:Nat} {x y:α} (hij:i≤j) (hx:l[i]? =some x) (hy:l[j]? =some y):k x≤k y:=by
 rcases Nat.lt_or_ge i j with h1 | h1
 ·have hj:=Qp hy;have:=List.pairwise_iff_getElem.1 h i j (by omega) hj h1
  rw[List.getElem?_eq_getElem (by omega)] at hx hy
  injection hx with hx;injection hy with hy
  rw[←hx,←hy];exact this
 ·have:i=j:=by omega
  subst this
  rw[hx] at hy;injection hy with hy
  subst hy;exact Int.le_refl _
theorem Qe3 {l:List α} {n:Nat} {x:α} (h:x∈l.take n): ∃i,i<n∧l[i]? =some x:=by
 obtain ⟨i,hi⟩:=List.getElem?_of_mem h
 rw[List.getElem?_take] at hi
 split at hi
 ·exact ⟨i,by assumption,hi⟩
 ·cases hi
theorem Qe2 {l:List α} {n:Nat} {x:α} (h:x∈l.drop n): ∃i,n≤i∧l[i]? =some x:=by
 obtain ⟨i,hi⟩:=List.getElem?_of_mem h
 rw[List.getElem?_drop] at hi
 exact ⟨n+i,by omega,hi⟩
theorem Qo1 (hc: ∀x y,Pv x→Pv y→ ∃z,cmp x y=some z∧(z<0↔k x<k y)) {a b F:Nat} {A V B:List α} {x:α} (hA:A.length=a) (hV:a+1+V.length=b) (hb:b≤1000000000) (hF:b-a<F) (hs:Srt k V) (hx:Pv x) (hp: ∀z∈V,Pv z) (rec_:List α→Int→Int→Int→Option (List α)) :
  ∃M,QeU cmp rec_ F (A++([x]++(V++B))) a ((a+1:Nat):Int) b=some (A++(M++B))∧Srt k M∧YN k ([x]++V) M:=by
 have hd:w64 (((a+1:Nat):Int)-(a:Int))=1:=by rw[Qfp (by omega) (by omega)];omega
 have gx:(A++([x]++(V++B)))[a]? =some x:=Qdd hA;have gv: ∀t,a+1≤t→t<b→ ∃v,(A++([x]++(V++B)))[t]? =some v∧V[t-(a+1)]? =some v:=by
  intro t h1 h2;have e:A++([x]++(V++B))=(A++[x])++(V++B):=by simp
  obtain ⟨v,hv⟩:=QcF (L:=V) (i:=t-(a+1)) (by omega);exact ⟨v,by rw[e,Qib (a:=a+1) (by simp[hA]) h1 (by omega)];exact hv,hv⟩
 obtain ⟨r,k1,k2,k3,k4,k5⟩:=Qio (body:=QiR cmp (A++([x]++(V++B))) (a:Int)) (mk:=fun i j=>((i:Int),(j:Int))) (test:=fun h=>match (A++([x]++(V++B)))[h]? with | some v=>decide (k v<k x) | none=>false) (i0:=a+1) (j0:=b) (fun i j h0 hij hj=>by
   obtain ⟨v,g1,g2⟩:=gv ((i+j)/2) (by omega) (by omega);obtain ⟨z,hz,hz2⟩:=hc v x (hp v (List.mem_of_getElem? g2)) hx;have hlt:(i:Int)<(j:Int):=by omega
   have hw:=QnQ (i:=i) (j:=j) (by omega);have hw1:w64 (((((i+j)/2:Nat):Int))+1)=(((i+j)/2+1:Nat):Int):=QhQ (by omega);have hg:Wd (0≤1∧1≤64)=some ():=Qal (by decide)
   by_cases hk:k v<k x
   ·have hz0:=hz2.2 hk
    simp only[QiR,oun,hlt,decide_true,cond_true,hg,Option.bind_some,hw,Qm,g1,gx,hz,hz0,hk,hw1]
   ·have hz0: ¬z<0:=fun h=>hk (hz2.1 h)
    simp only[QiR,oun,hlt,decide_true,cond_true,hg,Option.bind_some,hw,Qm,g1,gx,hz,hz0,hk,decide_false,cond_false])
  (fun i h0 hj=>by simp only[QiR,oun,Int.lt_irrefl,decide_false,cond_false])
  (fun s t h1 h2 h3 ht=>by
   obtain ⟨v,g1,g2⟩:=gv s h1 (by omega);obtain ⟨w,q1,q2⟩:=gv t (by omega) h3
   simp only[q1,g1,decide_eq_true_eq] at ht ⊢
   have:=QcC hs (by omega:s-(a+1)≤t-(a+1)) g2 q2
   omega) (b-(a+1)) (a+1) b F (Nat.le_refl _) (by omega) (Nat.le_refl _) (by omega) (Nat.le_refl _) (fun t h1 h2=>by omega) (fun t h1 h2=>by omega)
 have hl:(V.take (r-(a+1))).length=r-(a+1):=by simp;omega
 have h1: ∀z∈V.take (r-(a+1)),k z<k x:=by
  intro z hz;obtain ⟨i,hi,hz⟩:=Qe3 hz;have h2:=k4 (a+1+i) (by omega) (by omega);obtain ⟨v,g1,g2⟩:=gv (a+1+i) (by omega) (by omega)
  simp only[g1,decide_eq_true_eq] at h2
  rw[show a+1+i-(a+1)=i by omega,hz] at g2
  injection g2 with g2;subst g2;exact h2
 have h2: ∀z∈V.drop (r-(a+1)),k x≤k z:=by
  intro z hz;obtain ⟨i,hi,hz⟩:=Qe2 hz;have hlt:=Qp hz;have h2:=k5 (a+1+i) (by omega) (by omega);obtain ⟨v,g1,g2⟩:=gv (a+1+i) (by omega) (by omega)
  simp only[g1,decide_eq_false_iff_not] at h2
  rw[show a+1+i-(a+1)=i by omega,hz] at g2
  injection g2 with g2;subst g2;omega
 have hvs:V=V.take (r-(a+1))++V.drop (r-(a+1)):=(List.take_append_drop _ _).symm;refine ⟨V.take (r-(a+1))++x::V.drop (r-(a+1)),?_,?_,?_⟩
 ·have key:=QiT (cmp:=cmp) (a:=a) (e:=r) (A:=A) (B:=V.drop (r-(a+1))++B) (x:=x) (r-(a+1)) [] (V.take (r-(a+1))) F hl (by omega) (by simp;omega) (by omega);have e1:A++([x]++(V++B))=A++[]++x::(V.take (r-(a+1))++(V.drop (r-(a+1))++B)):=by
   rw[←List.append_assoc (V.take _),←hvs];simp
  have e2:((a:Nat):Int)=((A.length+([]:List α).length:Nat):Int):=by simp[hA]
  unfold QeU
  simp only[hd,decide_true,cond_true,k1,Option.bind_some]
  rw[e1]
  conv=>lhs;rw[e2]
  rw[key]
  simp
 ·have:=hs
  rw[hvs] at this
  have hp2:=List.pairwise_append.1 this;refine List.pairwise_append.2 ⟨hp2.1,List.pairwise_cons.2 ⟨h2,hp2.2.1⟩,fun y hy z hz=> ?_⟩;have:=h1 y hy;rcases List.mem_cons.1 hz with rfl | hz
  ·omega
  ·have:=h2 z hz;omega
 ·conv=>lhs;rw[hvs,←List.append_assoc]
  have:V.take (r-(a+1))++x::V.drop (r-(a+1))=(V.take (r-(a+1))++[x])++V.drop (r-(a+1)):=by simp
  rw[this]
  refine YN.append (YN.swap fun u hu v hv=> ?_) (YN.refl _)
  simp only[List.mem_singleton] at hu;subst hu;exact h1 v hv
end
end Go.Proofs.YtoojkdejnbnniaaGreat
namespace Go.Proofs.YtoojkdejnbnniaaGreat
set_option linter.unusedSimpArgs false
set_option linter.unusedVariables false
set_option maxHeartbeats 1000000
section
variable {α:Type} {k:α→Int} {cmp:α→α→Option Int} {Pv:α→Prop}
theorem Qn8 (hc: ∀x y,Pv x→Pv y→ ∃z,cmp x y=some z∧(z<0↔k x<k y)) {a m F:Nat} {A U B:List α} {y:α} (hA:A.length=a) (hU:a+U.length=m) (h2:2≤U.length) (hb:m+1≤1000000000) (hF:m+1-a<F) (hs:Srt k U) (hy:Pv y) (hp: ∀z∈U,Pv z) (rec_:List α→Int→Int→Int→Option (List α)) :
  ∃M,QeU cmp rec_ F (A++(U++([y]++B))) a m ((m+1:Nat):Int)=some (A++(M++B))∧Srt k M∧YN k (U++[y]) M:=by
 have hd1: ¬w64 ((m:Int)-(a:Int))=1:=by rw[Qfp (by omega) (by omega)];omega
 have hd:w64 (((m+1:Nat):Int)-(m:Int))=1:=by rw[Qfp (by omega) (by omega)];omega
 have gy:(A++(U++([y]++B)))[m]? =some y:=by
  have:A++(U++([y]++B))=(A++U)++y::B:=by simp
  rw[this];exact Qdd (by simp[hA,hU])
 have gu: ∀t,a≤t→t<m→ ∃v,(A++(U++([y]++B)))[t]? =some v∧U[t-a]? =some v:=by
  intro t h1 h2;obtain ⟨v,hv⟩:=QcF (L:=U) (i:=t-a) (by omega);exact ⟨v,by rw[Qib hA h1 (by omega)];exact hv,hv⟩
 obtain ⟨r,k1,k2,k3,k4,k5⟩:=Qio (body:=QiS cmp (A++(U++([y]++B))) (m:Int)) (mk:=fun i j=>((i:Int),(j:Int))) (test:=fun h=>match (A++(U++([y]++B)))[h]? with | some v=>decide (¬k y<k v) | none=>false) (i0:=a) (j0:=m) (fun i j h0 hij hj=>by
   obtain ⟨v,g1,g2⟩:=gu ((i+j)/2) (by omega) (by omega);obtain ⟨z,hz,hz2⟩:=hc y v hy (hp v (List.mem_of_getElem? g2));have hlt:(i:Int)<(j:Int):=by omega
   have hw:=QnQ (i:=i) (j:=j) (by omega);have hw1:w64 (((((i+j)/2:Nat):Int))+1)=(((i+j)/2+1:Nat):Int):=QhQ (by omega);have hg:Wd (0≤1∧1≤64)=some ():=Qal (by decide)
   by_cases hk:k y<k v
   ·have hz0:=hz2.2 hk
    simp only[QiS,oun,hlt,decide_true,cond_true,hg,Option.bind_some,hw,Qm,g1,gy,hz,hz0,hk,hw1,Bool.not_true,cond_false,not_true_eq_false,decide_false]
   ·have hz0: ¬z<0:=fun h=>hk (hz2.1 h)
    simp only[QiS,oun,hlt,decide_true,cond_true,hg,Option.bind_some,hw,Qm,g1,gy,hz,hz0,hk,decide_false,cond_false,Bool.not_false,not_false_eq_true,hw1])
  (fun i h0 hj=>by simp only[QiS,oun,Int.lt_irrefl,decide_false,cond_false])
  (fun s t h1 h2 h3 ht=>by
   obtain ⟨v,g1,g2⟩:=gu s h1 (by omega);obtain ⟨w,q1,q2⟩:=gu t (by omega) h3
   simp only[q1,g1,decide_eq_true_eq] at ht ⊢
   have:=QcC hs (by omega:s-a≤t-a) g2 q2
   omega) (m-a) a m F (Nat.le_refl _) (by omega) (Nat.le_refl _) (by omega) (Nat.le_refl _) (fun t h1 h2=>by omega) (fun t h1 h2=>by omega)
 have hl:(U.take (r-a)).length=r-a:=by simp;omega
 have h1: ∀z∈U.take (r-a),k z≤k y:=by
  intro z hz;obtain ⟨i,hi,hz⟩:=Qe3 hz;have h2:=k4 (a+i) (by omega) (by omega);obtain ⟨v,g1,g2⟩:=gu (a+i) (by omega) (by omega)
  simp only[g1,decide_eq_true_eq] at h2
  rw[show a+i-a=i by omega,hz] at g2
  injection g2 with g2;subst g2;omega
 have h2: ∀z∈U.drop (r-a),k y<k z:=by
  intro z hz;obtain ⟨i,hi,hz⟩:=Qe2 hz;have hlt:=Qp hz;have h2:=k5 (a+i) (by omega) (by omega);obtain ⟨v,g1,g2⟩:=gu (a+i) (by omega) (by omega)
  simp only[g1,decide_eq_false_iff_not,Classical.not_not] at h2
  rw[show a+i-a=i by omega,hz] at g2
  injection g2 with g2;subst g2;exact h2
 have hus:U=U.take (r-a)++U.drop (r-a):=(List.take_append_drop _ _).symm;obtain ⟨j1,j2⟩:=QgM (x:=y) (by rw[←hus];exact hs) h2 h1;refine ⟨U.take (r-a)++y::U.drop (r-a),?_,j1,by rw[←hus] at j2;exact j2⟩;have key:=QjZ (cmp:=cmp) (e:=r) (A:=A++U.take (r-a)) (B:=B) (x:=y) (by simp[hA];omega) (U.drop (r-a)).length (U.drop (r-a)) [] F rfl (by simp;omega) (by simp;omega);have e1:A++(U++([y]++B))=A++U.take (r-a)++U.drop (r-a)++y::([]++B):=by
  rw[List.append_assoc A,←hus];simp
 have e2:((m:Nat):Int)=((r+(U.drop (r-a)).length:Nat):Int):=by simp;omega
 unfold QeU
 simp only[hd1,hd,decide_false,cond_false,decide_true,cond_true,k1,Option.bind_some]
 rw[e1]
 conv=>lhs;rw[e2]
 rw[key]
 simp
theorem Ql6 {s a m b:Nat} {rec_:List α→Int→Int→Int→Option (List α)} (hr: ∀(A U V B:List α) (a m b:Nat),A.length=a→a+U.length=m→m+V.length=b→1≤U.length→1≤V.length→b≤1000000000→(A++(U++(V++B))).length≤1000000000000→b-a≤s→Srt k U→Srt k V→(∀z∈U,Pv z)→(∀z∈V,Pv z)→ ∃M,rec_ (A++(U++(V++B))) a m b=some (A++(M++B))∧Srt k M∧YN k (U++V) M) {A U V B:List α} (hA:A.length=a) (hU:a+U.length=m) (hV:m+V.length=b) (hb:b≤1000000000) (hl:(A++(U++(V++B))).length≤1000000000000) (hs:b-a≤s) (su:Srt k U) (sv:Srt k V) (pu: ∀z∈U,Pv z) (pv: ∀z∈V,Pv z) :
  ∃v M,(bif (decide ((a:Int)<(m:Int))) then some (decide ((m:Int)<(b:Int))) else some false)=some v∧(bif v then Option.bind (rec_ (A++(U++(V++B))) a m b) fun r=>some r else some (A++(U++(V++B))))=some (A++(M++B))∧Srt k M∧YN k (U++V) M:=by
 by_cases h1:a<m
 ·have h1':(a:Int)<(m:Int):=by omega
  by_cases h2:m<b
  ·have h2':(m:Int)<(b:Int):=by omega
   obtain ⟨M,k1,k2,k3⟩:=hr A U V B a m b hA hU hV (by omega) (by omega) hb hl hs su sv pu pv;refine ⟨true,M,?_,?_,k2,k3⟩
   ·simp only[h1',h2',decide_true,cond_true]
   ·simp only[cond_true,k1,Option.bind_some]
  ·have h2': ¬(m:Int)<(b:Int):=by omega
   have:V=[]:=List.eq_nil_of_length_eq_zero (by omega);subst this;refine ⟨false,U,?_,?_,su,by rw[List.append_nil];exact YN.refl U⟩
   ·simp only[h1',h2',decide_true,cond_true,decide_false]
   ·simp only[cond_false,List.nil_append]
 ·have h1': ¬(a:Int)<(m:Int):=by omega
  have:U=[]:=List.eq_nil_of_length_eq_zero (by omega);subst this;refine ⟨false,V,?_,?_,sv,YN.refl V⟩
  ·simp only[h1',decide_false,cond_false]
  ·simp only[cond_false,List.nil_append]
theorem Qjk {l:List α} (h:Srt k l) (n:Nat):Srt k (l.take n):=List.Pairwise.sublist (List.take_sublist n l) h
theorem Qjj {l:List α} (h:Srt k l) (n:Nat):Srt k (l.drop n):=List.Pairwise.sublist (List.drop_sublist n l) h
theorem QpR {l:List α} (h:Srt k l) {n:Nat} {x y:α} (hx:x∈l.take n) (hy:y∈l.drop n):k x≤k y:=by
 obtain ⟨i,hi,hx⟩:=Qe3 hx;obtain ⟨j,hj,hy⟩:=Qe2 hy;exact QcC h (by omega) hx hy
theorem Qqt (hc: ∀x y,Pv x→Pv y→ ∃z,cmp x y=some z∧(z<0↔k x<k y)) {F a m b:Nat}
  {A U V B:List α} (hA:A.length=a) (hU:a+U.length=m) (hV:m+V.length=b) (hu:2≤U.length) (hv:2≤V.length) (hb:b≤1000000000) (hF:b-a<F) (su:Srt k U) (sv:Srt k V) (pu: ∀z∈U,Pv z) (pv: ∀z∈V,Pv z) :
  ∃st r0 r e:Nat,(bif (decide ((((a+b)/2:Nat):Int)<(m:Int))) then some ((((a+b)/2:Nat):Int),(((a+b)/2+m:Nat):Int),w64 ((((a+b)/2+m:Nat):Int)-(b:Int)),(((a+b)/2:Nat):Int)) else some ((((a+b)/2:Nat):Int),(((a+b)/2+m:Nat):Int),(a:Int),(m:Int)))=some ((((a+b)/2:Nat):Int),(((a+b)/2+m:Nat):Int),(st:Int),(r0:Int)) ∧
   iter (Qhh cmp (A++(U++(V++B)))) F ((st:Int),(r0:Int),(((a+b)/2+m-1:Nat):Int))=some (r:Int)∧a≤r∧r≤m∧e+r=(a+b)/2+m∧m≤e∧e≤b∧a<(a+b)/2∧(a+b)/2<b∧(∀x∈U.take (r-a),∀y∈V.drop (e-m),k x≤k y)∧(∀x∈U.drop (r-a),∀y∈V.take (e-m),k y<k x):=by
 have hg:Wd (0≤1∧1≤64)=some ():=Qal (by decide)
 generalize hm:(a+b)/2=mid
 obtain ⟨st,r0,hst,hst1,hst2,hst3⟩: ∃st r0:Nat,(bif (decide ((mid:Int)<(m:Int))) then some ((mid:Int),((mid+m:Nat):Int),w64 (((mid+m:Nat):Int)-(b:Int)),(mid:Int)) else some ((mid:Int),((mid+m:Nat):Int),(a:Int),(m:Int)))=some ((mid:Int),((mid+m:Nat):Int),(st:Int),(r0:Int))∧a≤st∧st≤r0∧((mid<m∧st+b=mid+m∧r0=mid)∨(m≤mid∧st=a∧r0=m)):=by
  by_cases h:mid<m
  ·have h':(mid:Int)<(m:Int):=by omega
   refine ⟨mid+m-b,mid,?_,by omega,by omega,.inl ⟨h,by omega,rfl⟩⟩
   simp only[h',decide_true,cond_true,Qfp (by omega:b≤mid+m) (by omega)]
  ·have h': ¬(mid:Int)<(m:Int):=by omega
   refine ⟨a,m,?_,Nat.le_refl _,by omega,.inr ⟨by omega,rfl,rfl⟩⟩
   simp only[h',decide_false,cond_false]
 have gu: ∀t,a≤t→t<m→ ∃v,(A++(U++(V++B)))[t]? =some v∧U[t-a]? =some v:=by
  intro t h1 h2;obtain ⟨v,hv⟩:=QcF (L:=U) (i:=t-a) (by omega);exact ⟨v,by rw[Qib hA h1 (by omega)];exact hv,hv⟩
 have gv: ∀t,m≤t→t<b→ ∃v,(A++(U++(V++B)))[t]? =some v∧V[t-m]? =some v:=by
  intro t h1 h2;obtain ⟨v,hv⟩:=QcF (L:=V) (i:=t-m) (by omega);have e:A++(U++(V++B))=(A++U)++(V++B):=by simp
  exact ⟨v,by rw[e,Qib (a:=m) (by simp[hA,hU]) h1 (by omega)];exact hv,hv⟩
 obtain ⟨r,k1,k2,k3,k4,k5⟩:=Qio (body:=Qhh cmp (A++(U++(V++B)))) (mk:=fun i j=>((i:Int),(j:Int),((mid+m-1:Nat):Int))) (test:=fun h=>match (A++(U++(V++B)))[mid+m-1-h]?,(A++(U++(V++B)))[h]? with | some v,some u=>decide (¬k v<k u) | _,_=>false) (i0:=st) (j0:=r0) (fun i j h0 hij hj=>by
   obtain ⟨u,u1,u2⟩:=gu ((i+j)/2) (by omega) (by omega);obtain ⟨v,v1,v2⟩:=gv (mid+m-1-(i+j)/2) (by omega) (by omega);obtain ⟨z,hz,hz2⟩:=hc v u (pv v (List.mem_of_getElem? v2)) (pu u (List.mem_of_getElem? u2));have hlt:(i:Int)<(j:Int):=by omega
   have hw:=QnQ (i:=i) (j:=j) (by omega);have hw1:w64 (((((i+j)/2:Nat):Int))+1)=(((i+j)/2+1:Nat):Int):=QhQ (by omega);have hw2:w64 (((mid+m-1:Nat):Int)-(((i+j)/2:Nat):Int))=((mid+m-1-(i+j)/2:Nat):Int):=Qfp (by omega) (by omega)
   by_cases hk:k v<k u
   ·have hz0:=hz2.2 hk
    simp only[Qhh,oun,hlt,decide_true,cond_true,hg,Option.bind_some,hw,hw2,Qm,u1,v1,hz,hz0,hk,hw1,Bool.not_true,cond_false,not_true_eq_false,decide_false]
   ·have hz0: ¬z<0:=fun h=>hk (hz2.1 h)
    simp only[Qhh,oun,hlt,decide_true,cond_true,hg,Option.bind_some,hw,hw2,Qm,u1,v1,hz,hz0,hk,decide_false,cond_false,Bool.not_false,not_false_eq_true,hw1])
  (fun i h0 hj=>by simp only[Qhh,oun,Int.lt_irrefl,decide_false,cond_false])
  (fun s t h1 h2 h3 ht=>by
   obtain ⟨u,u1,u2⟩:=gu s (by omega) (by omega);obtain ⟨v,v1,v2⟩:=gv (mid+m-1-s) (by omega) (by omega);obtain ⟨u',u1',u2'⟩:=gu t (by omega) (by omega);obtain ⟨v',v1',v2'⟩:=gv (mid+m-1-t) (by omega) (by omega)
   simp only[u1,v1,u1',v1',decide_eq_true_eq] at ht ⊢
   have h4:=QcC su (by omega:s-a≤t-a) u2 u2';have h5:=QcC sv (by omega:mid+m-1-t-m≤mid+m-1-s-m) v2' v2
   omega) (r0-st) st r0 F (Nat.le_refl _) (by omega) (Nat.le_refl _) (by omega) (Nat.le_refl _) (fun t h1 h2=>by omega) (fun t h1 h2=>by omega)
 generalize he:mid+m-r=e
 have hme:m≤e:=by omega
 have heb:e≤b:=by omega
 have hi: ∀x∈U.take (r-a),∀y∈V.drop (e-m),k x≤k y:=by
  intro x hx y hy;obtain ⟨i,hi,hx⟩:=Qe3 hx;obtain ⟨j,hj,hy⟩:=Qe2 hy;have hj2:=Qp hy
  by_cases hrs:r=st
  ·omega
  ·have ht:=k4 (r-1) (by omega) (by omega);obtain ⟨u,u1,u2⟩:=gu (r-1) (by omega) (by omega);obtain ⟨v,v1,v2⟩:=gv (mid+m-1-(r-1)) (by omega) (by omega)
   simp only[u1,v1,decide_eq_true_eq] at ht
   have h4:=QcC su (by omega:i≤r-1-a) hx u2;have h5:=QcC sv (by omega:mid+m-1-(r-1)-m≤j) v2 hy
   omega
 have hii: ∀x∈U.drop (r-a),∀y∈V.take (e-m),k y<k x:=by
  intro x hx y hy;obtain ⟨i,hi,hx⟩:=Qe2 hx;obtain ⟨j,hj,hy⟩:=Qe3 hy;have hi2:=Qp hx
  by_cases hrs:r=r0
  ·omega
  ·have ht:=k5 r (by omega) (by omega);obtain ⟨u,u1,u2⟩:=gu r (by omega) (by omega);obtain ⟨v,v1,v2⟩:=gv (mid+m-1-r) (by omega) (by omega)
   simp only[u1,v1,decide_eq_false_iff_not,Classical.not_not] at ht
   have h4:=QcC su (by omega:r-a≤i) u2 hx;have h5:=QcC sv (by omega:j≤mid+m-1-r-m) hy v2
   omega
 exact ⟨st,r0,r,e,hst,k1,by omega,by omega,by omega,hme,heb,by omega,by omega,hi,hii⟩
theorem Qn9 (hc: ∀x y,Pv x→Pv y→ ∃z,cmp x y=some z∧(z<0↔k x<k y)) {s F a m b:Nat} {rec_:List α→Int→Int→Int→Option (List α)} (hr: ∀(A U V B:List α) (a m b:Nat),A.length=a→a+U.length=m→m+V.length=b→1≤U.length→1≤V.length→b≤1000000000→(A++(U++(V++B))).length≤1000000000000→b-a≤s→Srt k U→Srt k V→(∀z∈U,Pv z)→(∀z∈V,Pv z)→ ∃M,rec_ (A++(U++(V++B))) a m b=some (A++(M++B))∧Srt k M∧YN k (U++V) M)
  {A U V B:List α} (hA:A.length=a) (hU:a+U.length=m) (hV:m+V.length=b) (hu:2≤U.length) (hv:2≤V.length) (hb:b≤1000000000) (hl:(A++(U++(V++B))).length≤1000000000000) (hs:b-a≤s+1) (hF:b-a<F) (su:Srt k U) (sv:Srt k V) (pu: ∀z∈U,Pv z) (pv: ∀z∈V,Pv z) :
  ∃M,QeU cmp rec_ F (A++(U++(V++B))) a m b=some (A++(M++B))∧Srt k M∧YN k (U++V) M:=by
 have hd1: ¬w64 ((m:Int)-(a:Int))=1:=by rw[Qfp (by omega) (by omega)];omega
 have hd2: ¬w64 ((b:Int)-(m:Int))=1:=by rw[Qfp (by omega) (by omega)];omega
 have hg:Wd (0≤1∧1≤64)=some ():=Qal (by decide);obtain ⟨st,r0,r,e,hst,k1,r1,r2,he,hme,heb,hm1,hm2,hi,hii⟩:=Qqt (B:=B) hc hA hU hV hu hv hb hF su sv pu pv
 generalize hm:(a+b)/2=mid at *
 have hw:w64 ((IntKind.u64.wrap (w64 ((a:Int)+(b:Int))))/2^(1:Int).toNat)=(mid:Int):=by rw[QnQ (by omega),hm]
 have hn:w64 ((mid:Int)+(m:Int))=((mid+m:Nat):Int):=QjI (by omega);have hp:w64 (((mid+m:Nat):Int)-1)=((mid+m-1:Nat):Int):=Qmc (by omega) (by omega);have hend:w64 (((mid+m:Nat):Int)-(r:Int))=(e:Int):=by rw[Qfp (by omega) (by omega)];omega
 have l1:(U.take (r-a)).length=r-a:=by simp;omega
 have l2:(U.drop (r-a)).length=m-r:=by simp;omega
 have l3:(V.take (e-m)).length=e-m:=by simp;omega
 have l4:(V.drop (e-m)).length=b-e:=by simp;omega
 have hus:U.take (r-a)++U.drop (r-a)=U:=List.take_append_drop _ _;have hvs:V.take (e-m)++V.drop (e-m)=V:=List.take_append_drop _ _
 generalize hU1:U.take (r-a)=U1 at *
 generalize hU2:U.drop (r-a)=U2 at *
 generalize hV1:V.take (e-m)=V1 at *
 generalize hV2:V.drop (e-m)=V2 at *
 have s1:Srt k U1:=by rw[←hU1];exact Qjk su _
 have s2:Srt k U2:=by rw[←hU2];exact Qjj su _
 have s3:Srt k V1:=by rw[←hV1];exact Qjk sv _
 have s4:Srt k V2:=by rw[←hV2];exact Qjj sv _
 have c1: ∀x∈U1,∀y∈U2,k x≤k y:=fun x hx y hy=>by rw[←hU1] at hx;rw[←hU2] at hy;exact QpR su hx hy
 have c2: ∀x∈V1,∀y∈V2,k x≤k y:=fun x hx y hy=>by rw[←hV1] at hx;rw[←hV2] at hy;exact QpR sv hx hy
 have p1: ∀z∈U1,Pv z:=fun z hz=>pu z (by rw[←hus];simp[hz]);have p2: ∀z∈U2,Pv z:=fun z hz=>pu z (by rw[←hus];simp[hz]);have p3: ∀z∈V1,Pv z:=fun z hz=>pv z (by rw[←hvs];simp[hz]);have p4: ∀z∈V2,Pv z:=fun z hz=>pv z (by rw[←hvs];simp[hz]);have hmid:a+U1.length+V1.length=mid:=by omega
 obtain ⟨w0,hr1,hr2⟩: ∃v,(bif (decide ((r:Int)<(m:Int))) then some ((e:Int),(decide ((m:Int)<(e:Int)))) else some ((e:Int),false))=some ((e:Int),v) ∧
   (bif v then Option.bind (Qp8 F (A++(U++(V++B))) r m e) fun r6=>some r6 else some (A++(U++(V++B))))=some (A++(U1++(V1++(U2++(V2++B))))):=by
  by_cases h1:r<m
  ·have h1':(r:Int)<(m:Int):=by omega
   by_cases h2:m<e
   ·have h2':(m:Int)<(e:Int):=by omega
    obtain ⟨L',q1,q2,q3⟩:=Qp9 (L:=A++(U++(V++B))) (a:=r) (m:=m) (b:=e) (F:=F) h1 h2 (by simp;omega) hl (by omega);have e0:A++(U++(V++B))=(A++U1)++(U2++(V1++(V2++B))):=by rw[←hus,←hvs];simp
    have:=Qql (A:=A++U1) (U:=U2) (V:=V1) (B:=V2++B) (L':=L') (m:=m) (by simp;omega) (fun t=>by rw[q3 t,e0,l2,l3]);refine ⟨true,by simp only[h1',h2',decide_true,cond_true],?_⟩
    simp only[cond_true,Option.bind_some,q1,this]
    simp
   ·have h2': ¬(m:Int)<(e:Int):=by omega
    have:V1=[]:=List.eq_nil_of_length_eq_zero (by omega);refine ⟨false,by simp only[h1',h2',decide_true,cond_true,decide_false],?_⟩
    rw[cond_false,←hus,←hvs,this];simp
  ·have h1': ¬(r:Int)<(m:Int):=by omega
   have:U2=[]:=List.eq_nil_of_length_eq_zero (by omega);refine ⟨false,by simp only[h1',decide_false,cond_false],?_⟩
   rw[cond_false,←hus,←hvs,this];simp
 obtain ⟨w1,M1,a1,a2,a3,a4⟩:=Ql6 hr (A:=A) (U:=U1) (V:=V1) (B:=U2++(V2++B)) (a:=a) (m:=r) (b:=mid) hA (by omega) (by omega) (by omega) (by rw[←hus,←hvs] at hl;simp at hl ⊢;omega) (by omega) s1 s3 p1 p3;have lM:M1.length=U1.length+V1.length:=by rw[←a4.perm.length_eq];simp
 obtain ⟨w2,M2,b1,b2,b3,b4⟩:=Ql6 hr (A:=A++M1) (U:=U2) (V:=V2) (B:=B) (a:=mid) (m:=e) (b:=b) (by simp;omega) (by omega) (by omega) (by omega) (by rw[←hus,←hvs] at hl;simp at hl ⊢;omega) (by omega) s2 s4 p2 p4;refine ⟨M1++M2,?_,?_,?_⟩
 ·have e1:A++(M1++(U2++(V2++B)))=(A++M1)++(U2++(V2++B)):=by simp
  unfold QeU
  simp only[hd1,hd2,decide_false,cond_false,hg,Option.bind_some,hw,hn,hst,oun,hp,k1,hend,hr1,hr2,a1,a2,b1]
  rw[e1]
  simp only[b2,Option.bind_some]
  simp
 ·refine List.pairwise_append.2 ⟨a3,b3,fun x hx y hy=> ?_⟩;have hx:=a4.perm.symm.subset hx;have hy:=b4.perm.symm.subset hy;rcases List.mem_append.1 hx with hx | hx<;>rcases List.mem_append.1 hy with hy | hy
  ·exact c1 x hx y hy
  ·exact hi x hx y hy
  ·have:=hii y hy x hx;omega
  ·exact c2 x hx y hy
 ·rw[←hus,←hvs]
  have e1:U1++U2++(V1++V2)=U1++(U2++V1)++V2:=by simp
  have e2:U1++(V1++U2)++V2=(U1++V1)++(U2++V2):=by simp
  rw[e1]
  refine YN.trans (b:=(U1++V1)++(U2++V2)) ?_ (a4.append b4)
  rw[←e2]
  exact ((YN.refl U1).append (YN.swap hii)).append (YN.refl V2)
theorem QkF (hc: ∀x y,Pv x→Pv y→ ∃z,cmp x y=some z∧(z<0↔k x<k y)): ∀(F:Nat) (A U V B:List α) (a m b:Nat),A.length=a→a+U.length=m→m+V.length=b→1≤U.length→1≤V.length→b≤1000000000→(A++(U++(V++B))).length≤1000000000000→2*(b-a)+4≤F→Srt k U→Srt k V→(∀z∈U,Pv z)→(∀z∈V,Pv z) →
  ∃M,QkC cmp F (A++(U++(V++B))) a m b=some (A++(M++B))∧Srt k M∧YN k (U++V) M
 | 0,_,_,_,_,_,_,_,_,_,_,_,_,_,_,h,_,_,_,_=>by omega
 | F+1,A,U,V,B,a,m,b,hA,hU,hV,hu,hv,hb,hl,hF,su,sv,pu,pv=>by
  by_cases h1:U.length=1
  ·obtain ⟨x,rfl⟩:=List.length_eq_one_iff.1 h1;have:m=a+1:=by simp at hU;omega
   subst this;exact Qo1 hc hA (by omega) hb (by omega) sv (pu x (by simp)) pv _
  ·by_cases h2:V.length=1
   ·obtain ⟨y,rfl⟩:=List.length_eq_one_iff.1 h2;have:b=m+1:=by simp at hV;omega
    subst this;exact Qn8 hc hA hU (by omega) hb (by omega) su (pv y (by simp)) pu _
   ·exact Qn9 (s:=b-a-1) hc (fun A U V B a m b hA hU hV hu hv hb hl hs su sv pu pv=>QkF hc F A U V B a m b hA hU hV hu hv hb hl (by omega) su sv pu pv) hA hU hV (by omega) (by omega) hb hl (by omega) (by omega) su sv pu pv
end
end Go.Proofs.YtoojkdejnbnniaaGreat
namespace Go.Proofs.YtoojkdejnbnniaaGreat
set_option linter.unusedSimpArgs false
set_option linter.unusedVariables false
set_option maxHeartbeats 1000000
section
variable {α:Type} {k:α→Int} {cmp:α→α→Option Int} {Pv:α→Prop}
def Blk (k:α→Int) (s:Nat) (l:List α):Prop:= ∀i,Srt k ((l.drop (i*s)).take s)
theorem Blk.nil (s:Nat):Blk k s []:=fun i=>by simp[Srt]
theorem Blk.append {s q:Nat} {D M:List α} (h:Blk k s D) (hd:D.length=q*s) (hm:Srt k M) (hl:M.length≤s):Blk k s (D++M):=fun i=>by
 by_cases hi:i<q
 ·have h1:i*s+s≤q*s:=by rw[←Nat.succ_mul];exact Nat.mul_le_mul_right s hi
  rw[List.drop_append_of_le_length (by omega),List.take_append_of_le_length (by simp;omega)]
  exact h i
 ·have h1:q*s≤i*s:=Nat.mul_le_mul_right s (by omega);have:(D++M).drop (i*s)=M.drop (i*s-D.length):=by rw[List.drop_append,List.drop_eq_nil_of_le (by omega),List.nil_append]
  rw[this]
  exact Qjk (Qjj hm _) _
theorem Blk.drop {s:Nat} {R:List α} (h:Blk k s R) (j:Nat):Blk k s (R.drop (j*s)):=fun i=>by
 rw[List.drop_drop,←Nat.add_mul]
 exact h _
theorem Blk.all {s:Nat} {R:List α} (h:Blk k s R) (hl:R.length≤s):Srt k R:=by
 have:=h 0
 rwa [Nat.zero_mul,List.drop_zero,List.take_of_length_le hl] at this
theorem YN.mem {l l':List α} (h:YN k l l') (hp: ∀z∈l,Pv z): ∀z∈l',Pv z:=fun z hz=>hp z (h.perm.symm.subset hz)
theorem QoY (hc: ∀x y,Pv x→Pv y→ ∃z,cmp x y=some z∧(z<0↔k x<k y)) {n F:Nat} (hn:n≤100000000) (hF:n+1<F): ∀(r q:Nat) (D R:List α) (f:Nat),R.length<r→r<f→D.length=q*20→D.length+R.length=n→Blk k 20 D→(∀z∈R,Pv z) →
  ∃D' R' q',iter (Qns cmp F (n:Int)) f (D++R,(D.length:Int),((D.length+20:Nat):Int))=some (D'++R',(D'.length:Int))∧R'.length<20∧D'.length=q'*20∧D'.length+R'.length=n∧Blk k 20 D'∧(∀z∈R',Pv z)∧YN k (D++R) (D'++R')
 | _,_,_,_,0,_,h,_,_,_,_=>by omega
 | 0,_,_,_,_,h,_,_,_,_,_=>by omega
 | r+1,q,D,R,f+1,hR,hf,hq,hl,hb,hp=>by
  by_cases h:D.length+20≤n
  ·have h':((D.length+20:Nat):Int)≤(n:Int):=by omega
   have l1:(R.take 20).length=20:=by simp;omega
   obtain ⟨M,m1,m2,m3⟩:=Qnr (k:=k) (B:=R.drop 20) hc (a:=D.length) (b:=D.length+20) (F:=F) (A:=D) (M:=R.take 20) rfl (by omega) (by omega) (by omega) (fun z hz=>hp z (List.mem_of_mem_take hz));have lM:M.length=20:=by rw[←m3.perm.length_eq];exact l1
   have e0:D++R=D++R.take 20++R.drop 20:=by simp
   have lD:(D++M).length=D.length+20:=by simp;omega
   obtain ⟨D',R',q',k1,k2,k3,k4,k5,k6,k7⟩:=QoY hc hn hF r (q+1) (D++M) (R.drop 20) f (by simp;omega) (by omega) (by omega) (by simp;omega) (hb.append hq m2 (by omega)) (fun z hz=>hp z (List.mem_of_mem_drop hz));refine ⟨D',R',q',?_,k2,k3,k4,k5,k6,YN.trans ?_ k7⟩
   ·have e1:w64 (((D.length+20:Nat):Int)+20)=(((D++M).length+20:Nat):Int):=by rw[lD];exact QjI (b:=20) (by omega)
    rw[lD] at k1 e1
    rw[e0]
    simp only[iter,Qns,oun,h',decide_true,cond_true,m1,Option.bind_some,Qy,e1,k1]
   ·conv=>lhs;rw[e0]
    exact ((YN.refl D).append m3).append (YN.refl _)
  ·have h': ¬((D.length+20:Nat):Int)≤(n:Int):=by omega
   refine ⟨D,R,q,?_,by omega,hq,hl,hb,hp,YN.refl _⟩
   simp only[iter,Qns,oun,h',decide_false,cond_false,Option.bind_some,Qy]
theorem QoZ (hc: ∀x y,Pv x→Pv y→ ∃z,cmp x y=some z∧(z<0↔k x<k y)) {n F s:Nat} (hn:n≤100000000) (hF:2*n+4≤F) (hs:1≤s) (hs2:s≤n): ∀(r q:Nat) (D R:List α) (f:Nat),R.length<r→r<f→D.length=q*(2*s)→D.length+R.length=n→Blk k (2*s) D→Blk k s R→(∀z∈R,Pv z) →
  ∃D' R' q',iter (QhG cmp F (n:Int) (s:Int)) f (D++R,(D.length:Int),((D.length+2*s:Nat):Int))=some (D'++R',(D'.length:Int))∧R'.length<2*s∧D'.length=q'*(2*s)∧D'.length+R'.length=n∧Blk k (2*s) D'∧Blk k s R'∧(∀z∈R',Pv z)∧YN k (D++R) (D'++R')
 | _,_,_,_,0,_,h,_,_,_,_,_=>by omega
 | 0,_,_,_,_,h,_,_,_,_,_,_=>by omega
 | r+1,q,D,R,f+1,hR,hf,hq,hl,hb,hb2,hp=>by
  have e2:w64 (2*(s:Int))=((2*s:Nat):Int):=by rw[Yb (by omega) (by omega)];omega
  by_cases h:D.length+2*s≤n
  ·have h':((D.length+2*s:Nat):Int)≤(n:Int):=by omega
   have l1:(R.take s).length=s:=by simp;omega
   have l2:((R.drop s).take s).length=s:=by simp;omega
   have e0:R=R.take s++((R.drop s).take s++R.drop (2*s)):=by
    rw[show 2*s=s+s by omega,←List.drop_drop,List.take_append_drop,List.take_append_drop]
   have s1:Srt k (R.take s):=by have:=hb2 0;rwa [Nat.zero_mul,List.drop_zero] at this
   have s2:Srt k ((R.drop s).take s):=by have:=hb2 1;rwa [Nat.one_mul] at this
   obtain ⟨M,m1,m2,m3⟩:=QkF (k:=k) hc F D (R.take s) ((R.drop s).take s) (R.drop (2*s)) D.length (D.length+s) (D.length+2*s) rfl (by omega) (by omega) (by omega) (by omega) (by omega) (by simp;omega) (by omega) s1 s2 (fun z hz=>hp z (List.mem_of_mem_take hz)) (fun z hz=>hp z (List.mem_of_mem_drop (List.mem_of_mem_take hz)))
   rw[←e0] at m1
   have lM:M.length=2*s:=by rw[←m3.perm.length_eq];simp;omega
   have lD:(D++M).length=D.length+2*s:=by simp;omega
   obtain ⟨D',R',q',k1,k2,k3,k4,k5,k6,k7,k8⟩:=QoZ hc hn hF hs hs2 r (q+1) (D++M) (R.drop (2*s)) f (by simp;omega) (by omega) (by rw[lD,Nat.add_mul q 1 (2*s),Nat.one_mul];omega) (by simp;omega) (hb.append hq m2 (by omega)) (hb2.drop 2) (fun z hz=>hp z (List.mem_of_mem_drop hz));refine ⟨D',R',q',?_,k2,k3,k4,k5,k6,k7,YN.trans ?_ k8⟩
   ·have e1:w64 (((D.length+2*s:Nat):Int)+((2*s:Nat):Int))=(((D.length+2*s)+2*s:Nat):Int):=QjI (by omega);have e3:w64 ((D.length:Int)+(s:Int))=((D.length+s:Nat):Int):=QjI (by omega)
    rw[lD,List.append_assoc] at k1
    simp only[iter,QhG,oun,h',decide_true,cond_true,e3,m1,Option.bind_some,Qy,e2,e1,k1]
   ·conv=>lhs;rw[e0]
    rw[List.append_assoc,←List.append_assoc (R.take s)]
    exact (YN.refl D).append (m3.append (YN.refl _))
  ·have h': ¬((D.length+2*s:Nat):Int)≤(n:Int):=by omega
   refine ⟨D,R,q,?_,by omega,hq,hl,hb,hb2,hp,YN.refl _⟩
   simp only[iter,QhG,oun,h',decide_false,cond_false,Option.bind_some,Qy]
theorem Qo0 (hc: ∀x y,Pv x→Pv y→ ∃z,cmp x y=some z∧(z<0↔k x<k y)) {n F:Nat} (hn:n≤100000000) (hF:2*n+4≤F): ∀(r s:Nat) (L:List α) (f:Nat),n<s+r→r<f→1≤s→s≤2*n+20→L.length=n→Blk k s L→(∀z∈L,Pv z) →
  ∃L',iter (QhH cmp F (n:Int)) f (L,(s:Int))=some L'∧Srt k L'∧YN k L L'
 | _,_,_,0,_,h,_,_,_,_,_=>by omega
 | r,s,L,f+1,hr,hf,hs,hs2,hl,hb,hp=>by
  by_cases h:s<n
  ·cases r with
   | zero=>omega
   | succ r =>
   have h':(s:Int)<(n:Int):=by omega
   obtain ⟨D,R,q,k1,k2,k3,k4,k5,k6,k7,k8⟩:=QoZ (k:=k) hc hn hF hs (by omega) (L.length+1) 0 [] L F (by omega) (by omega) (by simp) (by simpa using hl) (Blk.nil _) hb hp
   simp only[List.nil_append,List.length_nil,Nat.zero_add] at k1 k8
   rw[show ((0:Nat):Int)=0 from rfl] at k1
   have e2:w64 (2*(s:Int))=((2*s:Nat):Int):=by rw[Yb (by omega) (by omega)];omega
   have e3:w64 ((D.length:Int)+(s:Int))=((D.length+s:Nat):Int):=QjI (by omega);have e4:w64 ((s:Int)*2)=((2*s:Nat):Int):=by rw[Yb (by omega) (by omega)];omega
   obtain ⟨M,m1,m2,m3⟩: ∃M,(bif (decide (((D.length+s:Nat):Int)<(n:Int))) then
     Option.bind (QkC cmp F (D++R) D.length ((D.length+s:Nat):Int) n) fun r4=>some r4 else some (D++R))=some (D++M)∧Srt k M∧YN k R M:=by
    by_cases h2:D.length+s<n
    ·have h2':((D.length+s:Nat):Int)<(n:Int):=by omega
     have e0:R=R.take s++(R.drop s++[]):=by simp
     have s1:Srt k (R.take s):=by have:=k6 0;rwa [Nat.zero_mul,List.drop_zero] at this
     have s2:Srt k (R.drop s):=Blk.all (s:=s) (by have h:=k6.drop 1;rw[Nat.one_mul] at h;exact h) (by simp;omega);obtain ⟨M,m1,m2,m3⟩:=QkF (k:=k) hc F D (R.take s) (R.drop s) [] D.length (D.length+s) n rfl (by simp;omega) (by simp;omega) (by simp;omega) (by simp;omega) (by omega) (by simp;omega) (by omega) s1 s2 (fun z hz=>k7 z (List.mem_of_mem_take hz)) (fun z hz=>k7 z (List.mem_of_mem_drop hz))
     rw[←e0,List.append_nil] at m1
     refine ⟨M,?_,m2,by rw[List.take_append_drop] at m3;exact m3⟩
     simp only[h2',decide_true,cond_true,m1,Option.bind_some]
    ·have h2': ¬((D.length+s:Nat):Int)<(n:Int):=by omega
     exact ⟨R,by simp only[h2',decide_false,cond_false],k6.all (by omega),YN.refl _⟩
   have st:YN k L (D++M):=k8.trans ((YN.refl D).append m3);have lM:M.length=R.length:=m3.perm.length_eq.symm;obtain ⟨L',j1,j2,j3⟩:=Qo0 hc hn hF r (2*s) (D++M) f (by omega) (by omega) (by omega) (by omega) (by simp;omega) (k5.append k3 m2 (by omega)) (st.mem hp);refine ⟨L',?_,j2,st.trans j3⟩
   simp only[iter,QhH,oun,h',decide_true,cond_true,e2,k1,Option.bind_some,e3,m1,Qy,e4,j1]
  ·have h': ¬(s:Int)<(n:Int):=by omega
   refine ⟨L,?_,hb.all (by omega),YN.refl _⟩
   simp only[iter,QhH,oun,h',decide_false,cond_false,Option.bind_some,Qy]
theorem Qly (hc: ∀x y,Pv x→Pv y→ ∃z,cmp x y=some z∧(z<0↔k x<k y)) {F:Nat} {L:List α} (hn:L.length≤100000000) (hF:2*L.length+30≤F) (hp: ∀z∈L,Pv z) :
  ∃L',QjY cmp F L=some L'∧Srt k L'∧YN k L L':=by
 obtain ⟨D,R,q,k1,k2,k3,k4,k5,k6,k7⟩:=QoY (k:=k) hc (n:=L.length) (F:=F) hn (by omega) (L.length+1) 0 [] L F (by omega) (by omega) (by simp) (by simp) (Blk.nil _) hp
 simp only[List.nil_append,List.length_nil,Nat.zero_add] at k1 k7
 obtain ⟨M,m1,m2,m3⟩:=Qnr (k:=k) (B:=[]) hc (a:=D.length) (b:=L.length) (F:=F) (A:=D) (M:=R) rfl (by omega) (by omega) (by omega) k6
 rw[List.append_nil,List.append_nil] at m1
 have st:YN k L (D++M):=k7.trans ((YN.refl D).append m3);have lM:M.length=R.length:=m3.perm.length_eq.symm;obtain ⟨L',j1,j2,j3⟩:=Qo0 (k:=k) hc (n:=L.length) (F:=F) hn (by omega) (L.length+1) 20 (D++M) F (by omega) (by omega) (by omega) (by omega) (by simp;omega) (k5.append k3 m2 (by omega)) (st.mem hp);refine ⟨L',?_,j2,st.trans j3⟩;have z1:((0:Nat):Int)=0:=rfl;have z2:((20:Nat):Int)=20:=rfl
 rw[z1,z2] at k1
 rw[z2] at j1
 unfold QjY gSt
 simp only[k1,oun,Option.bind_some,m1,j1]
end
end Go.Proofs.YtoojkdejnbnniaaGreat
namespace Go.Proofs.YtoojkdejnbnniaaGreat
open Go.RowKit
set_option linter.unusedSimpArgs false
set_option linter.unusedVariables false
abbrev Op:=Qc
theorem Qpn (rec_:List Op→Int→Int→Int→Option (List Op)) (F:Nat) (d:List Op) (a m b:Int):YU rec_ F d a m b=QeU Yd rec_ F d a m b:=rfl
theorem QkS: ∀F:Nat,Q5 F=QkC Yd F
 | 0=>rfl
 | F+1=>by
  funext d a m b
  show YU (Q5 F) F d a m b=QeU Yd (QkC Yd F) F d a m b
  rw[QkS F];exact Qpn _ _ _ _ _ _
theorem Qrk (F:Nat) (n s:Int):Y1 F n s=QhG Yd F n s:=by
 funext j
 unfold Y1 QhG
 rw[QkS]
theorem Qrl (F:Nat) (n:Int):Y2 F n=QhH Yd F n:=by
 funext j
 unfold Y2 QhH
 simp only[QkS,Qrk]
theorem Qpm (F:Nat) (d:List Op):Yl F d=QjY Yd F d:=by
 unfold Yl QjY Zq gSt
 simp only[Qrl]
 rfl
theorem Qqi (x y:Op) (hx:0≤x.cost∧x.cost≤1000000000) (hy:0≤y.cost∧y.cost≤1000000000): ∃z,Yd x y=some z∧(z<0↔x.cost<y.cost) :=
 ⟨x.cost-y.cost,by unfold Yd;rw[Yb (by omega) (by omega)],by omega⟩
theorem QmI {F:Nat} {L:List Op} (hn:L.length≤1000) (hF:40000≤F) (hb: ∀x∈L,0≤x.cost∧x.cost≤1000000000): ∃L',Yl F L=some L'∧Srt Qc.cost L'∧YN Qc.cost L L':=by
 rw[Qpm]
 exact Qly Qqi (by omega) (by omega) hb
def QjB (l:List Int):List Int:=if l.getLast? =some (-1) then l else l++[-1]
def Qis (s:List Int) (d:Int) (k:Nat) (u:Bool):List Int:=QjB (s.take k++(d::(bif u then [-1] else []))++s.drop k)
def Jn (s:List Int) (d:Int) (i:Nat):List Int:=Qis s d (i/2) (decide (i%2=1))
def Qer (s:List Int) (d:Int):List (List Int):=(List.range (2*s.length+1)).map (Jn s d)
theorem QbZ {α:Type} {l:List α} {k:Nat} (h:k≤l.length):WL l (k:Int) ((l.length:Nat):Int)=some (l.drop k):=by
 unfold WL
 rw[if_pos (by omega)]
 simp
theorem Qoa {α:Type} {l:List α} (h:l≠[]) (hn:l.length≤1000000):getI l (w64 (((l.length:Nat):Int)-1))=l.getLast? :=by
 have:0<l.length:=List.length_pos_iff.2 h;have e:w64 (((l.length:Nat):Int)-1)=((l.length-1:Nat):Int):=by rw[Yb (by omega) (by omega)];omega
 rw[e,Qm,List.getLast?_eq_getElem?]
theorem QoW {l:List Int} (h:l≠[]) (hn:l.length≤10000):(Option.bind (getI l (w64 (((l.length:Nat):Int)-1))) fun x1 =>
  Option.bind (bif (!(decide (x1=(-1)))) then Option.bind (ZO l [(-1)]) fun l6=>some l6 else some l) (fun out1=>some out1))=some (QjB l):=by
 rw[Qoa h (by omega),List.getLast?_eq_some_getLast h]
 unfold QjB
 rw[List.getLast?_eq_some_getLast h]
 by_cases hx:l.getLast h= -1
 ·simp[hx]
 ·rw[if_neg (by simpa using hx)]
  simp only[Option.bind_some,hx,decide_false,Bool.not_false,cond_true]
  rw[Yi (by simp;omega)]
  rfl
theorem Qj2 {s m:List Int} {k:Nat} (hk:k≤s.length) (hs:s.length≤1000) (hm:m≠[]) (hm2:m.length≤2):WV s (k:Int) m=some (QjB (s.take k++m++s.drop k)):=by
 have hm3:0<m.length:=List.length_pos_iff.2 hm;unfold WV
 rw[Qan hk,QbZ hk]
 simp only[Option.bind_some]
 rw[Yi (by simp;omega)]
 simp only[Option.bind_some]
 rw[Yi (by simp;omega)]
 simp only[Option.bind_some]
 rw[Yi (by simp;omega)]
 simp only[Option.bind_some,List.nil_append]
 exact QoW (by intro h;have:=congrArg List.length h;simp only[List.length_append,List.length_nil] at this;omega) (by simp;omega)
theorem Qkv {s:List Int} {d:Int} {k:Nat} {u:Bool} (hk:k≤s.length) (hs:s.length≤1000):J7 s d (k:Int) u=some (Qis s d k u):=by
 unfold J7 Qis
 rw[Qan hk,QbZ hk]
 simp only[Option.bind_some]
 rw[Yi (by simp;omega)]
 simp only[Option.bind_some]
 rw[Yi (by simp;omega)]
 simp only[Option.bind_some,List.nil_append]
 have h1:(bif u then Option.bind (ZO (s.take k++[d]) [(-1)]) fun l4=>some l4 else some (s.take k++[d]))=some (s.take k++(d::(bif u then [-1] else []))):=by
  cases u
  ·simp
  ·rw[cond_true,Yi (by simp;omega)];simp
 have hl:(bif u then [(-1:Int)] else []).length≤1:=by cases u<;>simp
 rw[h1]
 simp only[Option.bind_some]
 rw[Yi (by simp;omega)]
 simp only[Option.bind_some]
 exact QoW (by simp) (by simp;omega)
def toT (v:Int) (s:List Int):Qb:=⟨v,s⟩
def QaE (t:Qb) (d:Int) (j:Nat):List Qb:=((List.range (min j (2*t.Stops.length+1))).map (Jn t.Stops d)).map (toT t.Vehicle)
theorem Qga (t:Qb) (d:Int) (j:Nat):(QaE t d j).length=min j (2*t.Stops.length+1):=by simp[QaE]
theorem QeS (t:Qb) (d:Int) {j:Nat} (h:j<2*t.Stops.length+1):QaE t d (j+1)=QaE t d j++[⟨t.Vehicle,Jn t.Stops d j⟩]:=by
 unfold QaE
 rw[show min (j+1) (2*t.Stops.length+1)=j+1 by omega,show min j (2*t.Stops.length+1)=j by omega,List.range_succ,List.map_append,List.map_append]
 rfl
theorem Qeq {t:Qb} {d:Int} (hs:t.Stops.length≤1000): ∀(r k f:Nat),k+r=t.Stops.length+1→r<f →
  iter (We t d) f (QaE t d (2*k),((t.Stops.length+1:Nat):Int),(k:Int))=some ((Qer t.Stops d).map (toT t.Vehicle))
 | _,_,0,_,h=>by omega
 | 0,k,f+1,hk,_=>by
  have h1: ¬((k:Int)<((t.Stops.length+1:Nat):Int)):=by omega
  simp only[iter,We,oun,h1,decide_false,cond_false,Option.bind_some,Qy]
  unfold QaE Qer
  rw[show min (2*k) (2*t.Stops.length+1)=2*t.Stops.length+1 by omega]
 | r+1,k,f+1,hk,hf=>by
  have h1:((k:Int)<((t.Stops.length+1:Nat):Int)):=by omega
  have ih:=Qeq (t:=t) (d:=d) hs r (k+1) f (by omega) (by omega);have e1:w64 ((k:Int)+1)=((k+1:Nat):Int):=by rw[Yb (by omega) (by omega)];omega
  have j1:WV t.Stops (k:Int) [d]=some (Jn t.Stops d (2*k)):=by
   rw[Qj2 (by omega) hs (by simp) (by simp)]
   unfold Jn Qis
   rw[show 2*k/2=k by omega,show decide (2*k%2=1)=false by simp]
   rfl
  simp only[iter,We,oun,h1,decide_true,cond_true,j1,Option.bind_some,e1]
  rw[Yi (by rw[Qga];simp;omega),Option.bind_some,←QeS t d (by omega)]
  by_cases h2:k<t.Stops.length
  ·have h2':(k:Int)<((t.Stops.length:Nat):Int):=by omega
   have j2:WV t.Stops (k:Int) [d,-1]=some (Jn t.Stops d (2*k+1)):=by
    rw[Qj2 (by omega) hs (by simp) (by simp)]
    unfold Jn Qis
    rw[show (2*k+1)/2=k by omega,show decide ((2*k+1)%2=1)=true by simp]
    rfl
   simp only[h2',decide_true,cond_true,j2,Option.bind_some]
   rw[Yi (by rw[Qga];simp;omega),Option.bind_some,←QeS t d (by omega)]
   simp only[Option.bind_some,Qy]
   exact ih
  ·have h2': ¬((k:Int)<((t.Stops.length:Nat):Int)):=by omega
   have e2:QaE t d (2*k+1)=QaE t d (2*(k+1)):=by
    unfold QaE
    rw[show min (2*k+1) (2*t.Stops.length+1)=min (2*(k+1)) (2*t.Stops.length+1) by omega]
   simp only[h2',decide_false,cond_false,Option.bind_some,Qy]
   rw[e2]
   exact ih
theorem Qjw {F:Nat} {t:Qb} {d:Int} (hs:t.Stops.length≤1000) (hF:40000≤F):Vx F t d=some ((Qer t.Stops d).map (toT t.Vehicle)):=by
 have e1:w64 (((t.Stops.length:Nat):Int)+1)=((t.Stops.length+1:Nat):Int):=by rw[Yb (by omega) (by omega)];omega
 have:=Qeq (t:=t) (d:=d) hs (t.Stops.length+1) 0 F (by omega) (by omega);have e2:QaE t d (2*0)=[]:=by simp[QaE]
 rw[e2] at this
 unfold Vx
 rw[e1,show (0:Int)=((0:Nat):Int) from rfl,this]
 rfl
end Go.Proofs.YtoojkdejnbnniaaGreat
namespace Go.Proofs.YtoojkdejnbnniaaGreat
open Go.RowKit
set_option linter.unusedSimpArgs false
set_option linter.unusedVariables false
abbrev Qcb:Op→Int:=Qc.cost
abbrev Jp:Op→Qb:=Qc.tour
theorem QhC {p:Pr} (hp:OkP p) (t:Qb):0≤(Y4 p t).1∧(Y4 p t).1≤262400000:=by
 unfold Y4;cases h:Vd p t with
 | inr q=>simp
 | inl u =>
  have:=V4 hp h;exact ⟨this.1,this.2.1⟩
def QjD (p:Pr) (t:Qb):Option Op:=if (Y4 p t).2=0 then some ⟨t,(Y4 p t).1⟩ else none
def QeD (p:Pr) (ts:List Qb):List Op:=ts.filterMap (QjD p)
theorem Qhf (p:Pr) (ts:List Qb) (t:Qb):QeD p (ts++[t])=QeD p ts++(QjD p t).toList:=by
 unfold QeD
 rw[List.filterMap_append]
 cases h:QjD p t<;>simp[h]
theorem QgI (p:Pr) (ts:List Qb):(QeD p ts).length≤ts.length:=List.length_filterMap_le _ _
theorem QiD {p:Pr} {ts:List Qb} {x:Op} (h:x∈QeD p ts):x.tour∈ts∧(Y4 p x.tour).2=0∧x.cost=(Y4 p x.tour).1:=by
 obtain ⟨t,h1,h2⟩:=List.mem_filterMap.1 h;unfold QjD at h2
 split at h2
 ·injection h2 with h2;subst h2
  exact ⟨h1,by assumption,rfl⟩
 ·cases h2
theorem Qn4 {p:Pr} (hp:OkP p) {ts:List Qb}: ∀x∈QeD p ts,0≤x.cost∧x.cost≤1000000000:=fun x hx=>by
 have h1:=(QiD hx).2.2;have h2:=QhC hp x.tour
 omega
theorem Qok {F:Nat} (hF:40000≤F) {p:Pr} (hp:OkP p) (hc:Qq p=some 0) (hn:p.Road.Edges.length≤600) (L:List Qb) (hl:L.length≤1000) :
  iter (Wl F p L) (((L.length:Nat):Int).toNat+1) ([],0)=some (QeD p L):=by
 have:=YD (body:=Wl F p L) L (fun k=>QeD p (L.take k)) (fun m k=>(m,k)) (fun _ _=>none) (QeD p L) (by omega) (fun k t ht _=> ?_) (fun _=>by simp only[Wl,oun,List.take_length];simp) (((L.length:Nat):Int).toNat+1) (by simp)
 ·rw[QK _ _ (fun _ _ _=>rfl)] at this
  exact this
 ·have hk:=Qp ht;have hk2:((k:Int)<(L.length:Nat)):=by omega
  have h1:=QgI p (L.take k)
  rw[Yf (Nat.le_of_lt hk)] at h1
  simp only[Wl,oun,hk2,decide_true,cond_true,Qm,ht,Option.bind_some,QpY hF hp hc hn,ZL]
  rw[YF ht,Qhf]
  unfold QjD
  by_cases h:(Y4 p t).2=0
  ·rw[if_pos h]
   simp only[h,decide_true,cond_true]
   rw[Yi (by simp;omega)]
   rfl
  ·rw[if_neg h]
   simp only[h,decide_false,cond_false,Option.bind_some,Option.toList_none,List.append_nil]
theorem Qi6 (c:Int): ∀(n:Nat) (Z R:List Op) (f:Nat),Z.length=n→n<f→n≤100000→Srt Qcb Z →
  ∃Z1 Z2,Z=Z1++Z2∧iter (ZG ((Z++R).map Qcb) c) f (n:Int)=some ((Z1.length:Nat):Int)∧(∀z∈Z1,z.cost≤c)∧ ∀z∈Z2,c<z.cost
 | _,_,_,0,_,h,_,_=>by omega
 | 0,Z,R,f+1,hZ,_,_,_=>by
  have:Z=[]:=List.eq_nil_of_length_eq_zero hZ;subst this;exact ⟨[],[],rfl,by simp[iter,ZG,Qy],by simp,by simp⟩
 | n+1,Z,R,f+1,hZ,hf,hb,hs=>by
  obtain ⟨Y,y,rfl⟩: ∃Y y,Z=Y++[y]:=by
   have:Z≠[]:=by intro e;rw[e] at hZ;simp at hZ
   exact ⟨Z.dropLast,Z.getLast this,(List.dropLast_concat_getLast this).symm⟩
  have hY:Y.length=n:=by simpa using hZ
  have h0:(0:Int)<((n+1:Nat):Int):=by omega
  have e1:w64 (((n+1:Nat):Int)-1)=(n:Int):=by rw[Yb (by omega) (by omega)];omega
  have g1:((Y++[y]++R).map Qcb)[n]? =some y.cost:=by
   rw[List.getElem?_map,List.append_assoc,List.getElem?_append_right (by omega),hY]
   simp
  have hp:=List.pairwise_append.1 hs
  by_cases h:c<y.cost
  ·obtain ⟨Z1,Z2,k1,k2,k3,k4⟩:=Qi6 c n Y (y::R) f hY (by omega) (by omega) hp.1;refine ⟨Z1,Z2++[y],by rw[k1];simp,?_,k3,fun z hz=> ?_⟩
   ·have e2:Y++[y]++R=Y++y::R:=by simp
    rw[e2] at g1 ⊢
    simp only[iter,ZG,h0,decide_true,cond_true,e1,Qm,g1,Option.bind_some,h,Qy,k2]
   ·rcases List.mem_append.1 hz with hz | hz
    ·exact k4 z hz
    ·rw[List.mem_singleton.1 hz];exact h
  ·refine ⟨Y++[y],[],by simp,?_,fun z hz=> ?_,by simp⟩
   ·simp only[iter,ZG,h0,decide_true,cond_true,e1,Qm,g1,Option.bind_some,h,decide_false,cond_false,Qy]
    rw[hZ]
   ·rcases List.mem_append.1 hz with hz | hz
    ·have:=hp.2.2 z hz y (by simp)
     simp only[Qcb] at this
     omega
    ·rw[List.mem_singleton.1 hz];omega
theorem Qqd (f:Op→Int) (g:Op→Qb) (Z1 Z2:List Op) (x:Op) (hl:(Z1++Z2).length≤100000):(Option.bind (WL ((Z1++Z2).map g) 0 ((Z1.length:Nat):Int)) fun l1 =>
      Option.bind (ZO [] l1) fun l2 =>
      Option.bind (ZO l2 [g x]) fun l3 =>
      Option.bind (WL ((Z1++Z2).map g) ((Z1.length:Nat):Int) ((((Z1++Z2).map g).length:Nat):Int)) fun l4 =>
      Option.bind (ZO l3 l4) fun l5 =>
      Option.bind (WL ((Z1++Z2).map f) 0 ((Z1.length:Nat):Int)) fun l6 =>
      Option.bind (ZO [] l6) fun l7 =>
      Option.bind (ZO l7 [f x]) fun l8 =>
      Option.bind (WL ((Z1++Z2).map f) ((Z1.length:Nat):Int) ((((Z1++Z2).map f).length:Nat):Int)) fun l9 =>
      Option.bind (ZO l8 l9) fun l10 =>
      some (l5,l10))=some ((Z1++x::Z2).map g,(Z1++x::Z2).map f):=by
 simp only[List.length_append] at hl
 rw[Qan (by simp),QbZ (by simp),Qan (by simp),QbZ (by simp)]
 simp only[Option.bind_some]
 rw[Yi (by simp;omega)]
 simp only[Option.bind_some]
 rw[Yi (by simp;omega)]
 simp only[Option.bind_some]
 rw[Yi (by simp;omega)]
 simp only[Option.bind_some]
 rw[Yi (by simp;omega)]
 simp only[Option.bind_some]
 rw[Yi (by simp;omega)]
 simp only[Option.bind_some]
 rw[Yi (by simp;omega)]
 simp[List.map_append]
theorem Qja {F:Nat} (hF:40000≤F) {p:Pr} (hp:OkP p) (hc:Qq p=some 0) {t:Qb} {d:Int} (hs:t.Stops.length≤1000): ∀(r i:Nat) (L:List Op) (f:Nat),i+r=2*t.Stops.length+1→r<f→Srt Qcb L→YN Qcb (QeD p (QaE t d i)) L →
  ∃L',iter (ZH F p t d) f (L.map Jp,L.map Qcb,(i:Int))=some (L'.map Jp)∧Srt Qcb L'∧YN Qcb (QeD p ((Qer t.Stops d).map (toT t.Vehicle))) L'
 | _,_,_,0,_,h,_,_=>by omega
 | 0,i,L,f+1,hi,_,h1,h2=>by
  have e1:w64 (2*((t.Stops.length:Nat):Int))=((2*t.Stops.length:Nat):Int):=by rw[Yb (by omega) (by omega)];omega
  have: ¬((i:Int)≤((2*t.Stops.length:Nat):Int)):=by omega
  refine ⟨L,?_,h1,?_⟩
  ·simp only[iter,ZH,oun,e1,this,decide_false,cond_false,Option.bind_some,Qy]
  ·have e2:QaE t d i=(Qer t.Stops d).map (toT t.Vehicle):=by
    unfold QaE Qer
    rw[show min i (2*t.Stops.length+1)=2*t.Stops.length+1 by omega]
   rw[←e2];exact h2
 | r+1,i,L,f+1,hi,hf,h1,h2=>by
  have e1:w64 (2*((t.Stops.length:Nat):Int))=((2*t.Stops.length:Nat):Int):=by rw[Yb (by omega) (by omega)];omega
  have hlt:((i:Int)≤((2*t.Stops.length:Nat):Int)):=by omega
  have e2:w64 ((i:Int)+1)=((i+1:Nat):Int):=by rw[Yb (by omega) (by omega)];omega
  have e3:w64 (Int.tdiv (i:Int) 2)=((i/2:Nat):Int):=by
   rw[show Int.tdiv (i:Int) 2=((i/2:Nat):Int) from rfl,Yb (by omega) (by omega)]
  have e4:(decide (Int.tmod (i:Int) 2=1))=decide (i%2=1):=by
   rw[show Int.tmod (i:Int) 2=((i%2:Nat):Int) from rfl]
   congr 1
   exact propext (by omega)
  have hcand:J7 t.Stops d ((i/2:Nat):Int) (decide (i%2=1))=some (Jn t.Stops d i):=Qkv (by omega) hs;have hcost:=QgW hp hc ⟨t.Vehicle,Jn t.Stops d i⟩;have hfs:=QeS t d (j:=i) (by omega);have hlen:L.length≤2001:=by
   rw[←h2.perm.length_eq]
   refine Nat.le_trans (QgI _ _) ?_
   rw[Qga];omega
  by_cases h:(Y4 p ⟨t.Vehicle,Jn t.Stops d i⟩).2=0
  ·have hop:QjD p ⟨t.Vehicle,Jn t.Stops d i⟩=some ⟨⟨t.Vehicle,Jn t.Stops d i⟩,(Y4 p ⟨t.Vehicle,Jn t.Stops d i⟩).1⟩:=by unfold QjD;rw[if_pos h]
   generalize hx:(⟨⟨t.Vehicle,Jn t.Stops d i⟩,(Y4 p ⟨t.Vehicle,Jn t.Stops d i⟩).1⟩:Op)=x at hop
   obtain ⟨Z1,Z2,k1,k2,k3,k4⟩:=Qi6 (Y4 p ⟨t.Vehicle,Jn t.Stops d i⟩).1 L.length L [] F rfl (by omega) (by omega) h1;have hxc:x.cost=(Y4 p ⟨t.Vehicle,Jn t.Stops d i⟩).1:=by rw[←hx]
   rw[List.append_nil] at k2
   obtain ⟨j1,j2⟩:=QgM (k:=Qcb) (x:=x) (by rw[←k1];exact h1) (fun z hz=>by have:=k4 z hz;simp only[Qcb];omega) (fun z hz=>by have:=k3 z hz;simp only[Qcb];omega)
   rw[←k1] at j2
   have h3:YN Qcb (QeD p (QaE t d (i+1))) (Z1++x::Z2):=by
    rw[hfs,Qhf,hop]
    exact YN.trans (h2.append (YN.refl _)) j2
   obtain ⟨L',q1,q2,q3⟩:=Qja hF hp hc hs r (i+1) (Z1++x::Z2) f (by omega) (by omega) j1 h3;refine ⟨L',?_,q2,q3⟩;have hmi:=Qqd Qcb Jp Z1 Z2 x (by rw[←k1];omega)
   rw[←k1] at hmi
   have hx1:Jp x=⟨t.Vehicle,Jn t.Stops d i⟩:=by rw[←hx]
   have hx2:Qcb x=(Y4 p ⟨t.Vehicle,Jn t.Stops d i⟩).1:=hxc
   rw[hx1,hx2] at hmi
   simp only[iter,ZH,oun,e1,hlt,decide_true,cond_true,e3,e4,hcand,Option.bind_some,hcost,h,Bool.not_true,cond_false,List.length_map,k2]
   rw[List.length_map,List.length_map] at hmi
   rw[hmi]
   simp only[Option.bind_some,e2,Qy,q1]
  ·have hop:QjD p ⟨t.Vehicle,Jn t.Stops d i⟩=none:=by unfold QjD;rw[if_neg h]
   obtain ⟨L',q1,q2,q3⟩:=Qja hF hp hc hs r (i+1) L f (by omega) (by omega) h1 (by rw[hfs,Qhf,hop];simpa using h2);refine ⟨L',?_,q2,q3⟩
   simp only[iter,ZH,oun,e1,hlt,decide_true,cond_true,e3,e4,hcand,Option.bind_some,hcost,h,decide_false,Bool.not_false,e2,Qy,q1]
end Go.Proofs.YtoojkdejnbnniaaGreat
namespace Go.Proofs.YtoojkdejnbnniaaGreat
open Go.RowKit
set_option linter.unusedSimpArgs false
set_option linter.unusedVariables false
theorem QoV (l:List Int):l.length≤(QjB l).length:=by unfold QjB;split<;>simp
theorem Qmp {s:List Int} {d:Int} {i:Nat} (h:i<2*s.length+1):s.length+1≤(Jn s d i).length:=by
 unfold Jn Qis;refine Nat.le_trans ?_ (QoV _)
 simp;omega
theorem Qix {p:Pr} {t:Qb} (h:40<t.Stops.length):(Y4 p t).2≠0:=by
 unfold Y4 Vd
 split
 ·rename_i z hz
  split at hz
  ·cases hz
  ·first | rw[if_pos h] at hz | skip
   cases hz
 ·rename_i q hq
  split at hq
  ·injection hq with hq;subst hq;decide
  ·first | rw[if_pos h] at hq | skip
   injection hq with hq;subst hq;decide
theorem Qn5 {p:Pr} {t:Qb} {d:Int} (h:40≤t.Stops.length):QeD p ((Qer t.Stops d).map (toT t.Vehicle))=[]:=by
 unfold QeD
 rw[List.filterMap_eq_nil_iff]
 intro u hu;obtain ⟨s,h1,rfl⟩:=List.mem_map.1 hu;obtain ⟨i,h2,rfl⟩:=List.mem_map.1 h1;have:=Qmp (s:=t.Stops) (d:=d) (List.mem_range.1 h2);unfold QjD
 rw[if_neg]
 exact Qix (by simp only[toT];omega)
structure OkO (p:Pr) (t:Qb) (d:Int) (L:List Op):Prop where
 chk:Qq p=some 0
 ok:OkP p
 v0:0≤t.Vehicle
 v1:t.Vehicle<((p.Vehicles.length:Nat):Int)
 d0:0≤d
 d1:d<((p.Demands.length:Nat):Int)
 new:d∉t.Stops
 srt:Srt Qcb L
 stab:YN Qcb (QeD p ((Qer t.Stops d).map (toT t.Vehicle))) L
theorem Qqk {t:Qb} {d:Int} (hs:t.Stops.length≤1000):iter (ZF t d) (((t.Stops.length:Nat):Int).toNat+1) 0=some (bif decide (d∈t.Stops) then .inr ([],6) else .inl ()):=by
 have:=YL (body:=ZF t d) t.Stops (fun k y=>bif decide (y=d) then some (.inr ([],6)) else none) (.inl ():Unit⊕(List Qb×Int)) (by omega) (fun k y hy=> ?_) (by simp[ZF]) (((t.Stops.length:Nat):Int).toNat+1) (by simp)
 ·rw[this,Qle]
  have:(t.Stops.any fun y=>decide (y=d))=decide (d∈t.Stops):=by
   rw[Bool.eq_iff_iff]
   simp only[List.any_eq_true,decide_eq_true_eq]
   exact ⟨fun ⟨y,h1,h2⟩=>h2▸h1,fun h=>⟨d,h,rfl⟩⟩
  rw[this]
 ·have hk:=Qp hy;have hk2:((k:Int)<(t.Stops.length:Nat)):=by omega
  simp only[ZF,hk2,decide_true,cond_true,Qm,hy,Option.bind_some]
  cases decide (y=d)<;>rfl
def Qli (p:Pr) (t:Qb) (d:Int):Bool:=decide (t.Vehicle<0)||(decide (((p.Vehicles.length:Nat):Int)≤t.Vehicle)||(decide (d<0)||decide (((p.Demands.length:Nat):Int)≤d)))
theorem Qcy {F:Nat} (hF:40000≤F) (p:Pr) (hn:p.Road.Edges.length≤600) (t:Qb) (hs:t.Stops.length≤1000) (d:Int) :
  ∃L e,ZS F p t d=some (L,e)∧Y0 F p t d=some (L.map Jp,e)∧((e≠0∧L=[])∨(e=0∧OkO p t d L))∧(Qq p=some 0→Qli p t d=false→e=bif decide (d∈t.Stops) then 6 else 0):=by
 unfold ZS Y0
 rw[Zy (by omega) p hn]
 rcases Qc9 p hn with ⟨h1,h2⟩ | ⟨e,h1,h2⟩
 ·rw[h1]
  simp only[Option.bind_some,decide_true,Bool.not_true,cond_false,YO]
  have hb:(decide (t.Vehicle<0)||(decide (((p.Vehicles.length:Nat):Int)≤t.Vehicle)||(decide (d<0)||decide (((p.Demands.length:Nat):Int)≤d))))=Qli p t d:=rfl
  rw[hb]
  cases hbi:Qli p t d with
  | true=>exact ⟨[],7,rfl,rfl,.inl ⟨by decide,rfl⟩,fun _ h=>by cases h⟩
  | false =>
   simp only[cond_false,Qdb _ hs,Option.bind_some,Qqk hs]
   unfold Qli at hbi
   simp only[Bool.or_eq_false_iff,decide_eq_false_iff_not] at hbi
   by_cases hd:d∈t.Stops
   ·simp only[hd,decide_true,cond_true,Qy]
    exact ⟨[],6,rfl,rfl,.inl ⟨by decide,rfl⟩,fun _ _=>rfl⟩
   ·simp only[hd,decide_false,cond_false,Qy]
    obtain ⟨L',q1,q2,q3⟩:=Qja hF h2 h1 hs (2*t.Stops.length+1) 0 [] F (t:=t) (d:=d) (by omega) (by omega) List.Pairwise.nil (by simp[QaE,QeD];exact YN.refl _)
    simp only[List.map_nil] at q1
    rw[show ((0:Nat):Int)=0 from rfl] at q1
    rw[q1]
    by_cases hl:40≤t.Stops.length
    ·have hl':(40:Int)≤((t.Stops.length:Nat):Int):=by omega
     have:L'=[]:=by rw[Qn5 hl] at q3;exact (q3.perm.symm.eq_nil)
     subst this;exact ⟨[],0,by simp only[hl',decide_true,cond_true],rfl,.inr ⟨rfl,h1,h2,by omega,by omega,by omega,by omega,hd,q2,q3⟩,fun _ _=>rfl⟩
    ·have hl': ¬(40:Int)≤((t.Stops.length:Nat):Int):=by omega
     have hcl:((Qer t.Stops d).map (toT t.Vehicle)).length≤1000:=by simp[Qer];omega
     obtain ⟨L2,j1,j2,j3⟩:=QmI (F:=F) (L:=QeD p ((Qer t.Stops d).map (toT t.Vehicle))) (Nat.le_trans (QgI _ _) hcl) hF (Qn4 h2);have:L2=L':=j2.unique q2 (j3.symm.trans q3);subst this;refine ⟨L2,0,?_,rfl,.inr ⟨rfl,h1,h2,by omega,by omega,by omega,by omega,hd,q2,q3⟩,fun _ _=>rfl⟩
     simp only[hl',decide_false,cond_false,Qjw hs hF,Option.bind_some,Qok hF h2 h1 hn _ hcl,j1]
 ·rw[h2]
  simp only[Option.bind_some]
  rw[show decide (e=0)=false by simpa using h1]
  exact ⟨[],e,rfl,rfl,.inl ⟨h1,rfl⟩,fun h=>by injection h with h;exact absurd h h1⟩
theorem Qmf (L:List Op) (hl:L.length≤10000):iter (Wj L) (((L.length:Nat):Int).toNat+1) ([],0)=some (L.map Jp):=by
 have:=YD (body:=Wj L) L (fun k=>(L.take k).map Jp) (fun m k=>(m,k)) (fun _ _=>none) (L.map Jp) (by omega) (fun k x hx _=> ?_) (fun _=>by simp only[Wj,oun,List.take_length];simp) (((L.length:Nat):Int).toNat+1) (by simp)
 ·rw[QK _ _ (fun _ _ _=>rfl)] at this
  exact this
 ·have hk:=Qp hx;have hk2:((k:Int)<(L.length:Nat)):=by omega
  simp only[Wj,oun,hk2,decide_true,cond_true,Qm,hx,Option.bind_some,ZL]
  rw[Yi (by simp;omega),YF hx]
  simp
theorem OkO.len {p:Pr} {t:Qb} {d:Int} {L:List Op} (h:OkO p t d L) (hs:t.Stops.length≤1000):L.length≤2001:=by
 rw[←h.stab.perm.length_eq]
 refine Nat.le_trans (QgI _ _) ?_
 simp[Qer];omega
theorem Qil {F:Nat} (hF:40000≤F) (p:Pr) (hn:p.Road.Edges.length≤600) (t:Qb) (hs:t.Stops.length≤1000) (d:Int) :
  VS F p t d=Y0 F p t d∧QaG F p t d=Ze F p t d:=by
 obtain ⟨L,e,h1,h2,h3,_⟩:=Qcy hF p hn t hs d;have hl:L.length≤2001:=by
  rcases h3 with ⟨_,rfl⟩ | ⟨_,h3⟩
  ·simp
  ·exact h3.len hs
 constructor
 ·unfold VS
  rw[h1,h2]
  simp only[Option.bind_some,oun,Qmf L (by omega)]
 ·unfold QaG Ze
  rw[h1,h2]
  simp only[Option.bind_some,oun,List.length_map]
  cases decide (e=0) with
  | false=>rfl
  | true =>
   simp only[Bool.not_true,cond_false]
   by_cases h0:L=[]
   ·subst h0;rfl
   ·obtain ⟨x,M,rfl⟩:=List.exists_cons_of_ne_nil h0;have: ¬((((x::M).length:Nat):Int)=0):=by simp;omega
    simp only[this,decide_false,cond_false,List.map_cons]
    rfl
theorem QjJ (a:List Int) (h:a.length≤1000000):VK a a=some true:=by
 unfold VK;have:=YL (body:=WQ a a) a (fun _ _=>none) (.inl ():Unit⊕Bool) (by omega) (fun k y hy=> ?_) (by simp[WQ]) (((a.length:Nat):Int).toNat+1) (by simp)
 ·rw[this,QK _ _ (fun _ _ _=>rfl)]
  simp[Qy]
 ·have hk:=Qp hy;have hk2:((k:Int)<(a.length:Nat)):=by omega
  simp only[WQ,hk2,decide_true,cond_true,Qm,hy,Option.bind_some,Bool.not_true,cond_false,ZL]
theorem Qmj (a:List Qb) (h:a.length≤1000000) (h2: ∀x∈a,x.Stops.length≤1000000):QaX a a=some true:=by
 unfold QaX;have:=YL (body:=WR a a) a (fun _ _=>none) (.inl ():Unit⊕Bool) (by omega) (fun k y hy=> ?_) (by simp[WR]) (((a.length:Nat):Int).toNat+1) (by simp)
 ·rw[this,QK _ _ (fun _ _ _=>rfl)]
  simp[Qy]
 ·have hk:=Qp hy;have hk2:((k:Int)<(a.length:Nat)):=by omega
  simp only[WR,hk2,decide_true,cond_true,Qm,hy,Option.bind_some,Bool.not_true,cond_false,ZL,QjJ _ (h2 y (List.mem_of_getElem? hy))]
theorem Qmx {p:Pr} {ts:List Qb} {x:Op} (h:x∈QeD p ts):x.tour.Stops.length≤40:=by
 rcases Nat.lt_or_ge 40 x.tour.Stops.length with h1 | h1
 ·exact absurd (QiD h).2.1 (Qix h1)
 ·exact h1
theorem OkO.stops {p:Pr} {t:Qb} {d:Int} {L:List Op} (h:OkO p t d L): ∀x∈L,x.tour.Stops.length≤40:=fun x hx=>Qmx (h.stab.perm.symm.subset hx)
end Go.Proofs.YtoojkdejnbnniaaGreat
namespace Go.Proofs.YtoojkdejnbnniaaGreat
open Go.RowKit
set_option linter.unusedSimpArgs false
set_option linter.unusedVariables false
abbrev Pl:=Qh
theorem Qeb {α ρ:Type} (p:α→Bool) (g:α→ρ) (fin:ρ): ∀l:List α,first (fun x=>bif p x then some (g x) else none) fin l=(match l.find? p with | some x=>g x | none=>fin)
 | []=>rfl
 | x::r=>by
  simp only[first,List.find?]
  cases h:p x with
  | true=>rfl
  | false=>exact Qeb p g fin r
def ofP (x:Pl) (v:Int):Qb:=(x.Tours.find? fun t=>decide (t.Vehicle=v)).getD ⟨v,[]⟩
def wo (d:Int) (l:List Int):List Int:=l.filter fun k=> !decide (k=d)
def Qcs (t:Qb):Bool:=t.Stops.any fun s=>decide (0≤s)
theorem QjK {x:Pl} (v:Int) (hx:x.Tours.length≤1000):Qbm x v=some (ofP x v)∧QbE x v=some (ofP x v):=by
 have key: ∀body:Int→Option (Int⊕(Unit⊕Qb)),(∀k,body k=bif decide (k<((x.Tours.length:Nat):Int)) then Option.bind (getI x.Tours k) fun x2=>bif decide (x2.Vehicle=v) then some (.inr (.inr x2)) else some (.inl (w64 (k+1))) else some (.inr (.inl ()))) →
   (Option.bind (iter body (((x.Tours.length:Nat):Int).toNat+1) 0) fun o_=>Qy o_ (fun _=>some (Qb.mk v [])) (fun r=>some r))=some (ofP x v):=by
  intro body hb
  rw[QcS x.Tours (fun t=>bif decide (t.Vehicle=v) then some (Sum.inr t) else none) (Sum.inl ()) (by omega) (fun k t hk=>by
    have h1:((k:Int)<((x.Tours.length:Nat):Int)):=by have:=Qp hk;omega
    rw[hb]
    simp only[h1,decide_true,cond_true,Qm,hk,Option.bind_some]
    cases decide (t.Vehicle=v)<;>rfl) (by rw[hb];simp) _ (by simp),Option.bind_some,Qeb]
  unfold ofP;cases x.Tours.find? fun t=>decide (t.Vehicle=v)<;>rfl
 exact ⟨key _ fun k=>rfl,key _ fun k=>rfl⟩
theorem Qj0 {p:Int→Bool} {body:Int→Option (Int⊕(Unit⊕Int))} {l:List Int} (hl:l.length≤1000000) (hb: ∀k,body k=bif decide (k<((l.length:Nat):Int)) then Option.bind (getI l k) fun x1=>bif p x1 then some (.inr (.inr k)) else some (.inl (w64 (k+1))) else some (.inr (.inl ()))) :
  (∃k:Nat,k<l.length∧(∀y∈l.take k,p y=false)∧(∀y,l[k]? =some y→p y=true)∧iter body (((l.length:Nat):Int).toNat+1) 0=some (.inr (k:Int))) ∨
  ((∀y∈l,p y=false)∧iter body (((l.length:Nat):Int).toNat+1) 0=some (.inl ())):=by
 rw[YL l (fun k x=>bif p x then some (Sum.inr (k:Int)) else none) (Sum.inl ()) (by omega) (fun k x hk=>by
   have h1:((k:Int)<((l.length:Nat):Int)):=by have:=Qp hk;omega
   rw[hb]
   simp only[h1,decide_true,cond_true,Qm,hk,Option.bind_some]
   cases p x<;>rfl) (by rw[hb];simp) _ (by simp)]
 have key: ∀(m:List Int) (n:Nat),(∃k:Nat,k<m.length∧(∀y∈m.take k,p y=false)∧(∀y,m[k]? =some y→p y=true)∧YI (fun k x=>bif p x then some (Sum.inr (k:Int)) else none) (Sum.inl ():Unit⊕Int) n m= .inr ((n+k:Nat):Int)) ∨
   ((∀y∈m,p y=false)∧YI (fun k x=>bif p x then some (Sum.inr (k:Int)) else none) (Sum.inl ():Unit⊕Int) n m= .inl ()):=by
  intro m
  induction m with
  | nil=>exact fun n=> .inr ⟨by simp,rfl⟩
  | cons x r ih =>
   intro n;cases hp:p x with
   | true=>exact .inl ⟨0,by simp,by simp,fun y hy=>by simp at hy;rw[←hy];exact hp,by simp[YI,hp]⟩
   | false =>
    rcases ih (n+1) with ⟨k,h1,h2,h3,h4⟩ | ⟨h1,h2⟩
    ·refine .inl ⟨k+1,by simp;omega,fun y hy=> ?_,fun y hy=>h3 y (by simpa using hy),?_⟩
     ·simp only[List.take_succ_cons,List.mem_cons] at hy
      rcases hy with rfl | hy
      ·exact hp
      ·exact h2 y hy
     ·simp only[YI,hp,cond_false]
      rw[h4];congr 2;omega
    ·refine .inr ⟨fun y hy=> ?_,?_⟩
     ·rcases List.mem_cons.1 hy with rfl | hy
      ·exact hp
      ·exact h1 y hy
     ·simp only[YI,hp,cond_false];exact h2
 rcases key l 0 with ⟨k,h1,h2,h3,h4⟩ | ⟨h1,h2⟩
 ·exact .inl ⟨k,h1,h2,h3,by rw[h4];simp⟩
 ·exact .inr ⟨h1,by rw[h2]⟩
theorem QnX {p:Int→Bool} {l:List Int} (h: ∀y∈l,p y=false):l.any p=false:=by
 rw[List.any_eq_false]
 exact fun y hy=>by rw[h y hy];simp
theorem Qq4 {p:Int→Bool} {l:List Int} {k:Nat} (hk:k<l.length) (h: ∀y,l[k]? =some y→p y=true):l.any p=true:=by
 rw[List.any_eq_true]
 exact ⟨l[k],List.getElem_mem hk,h _ (List.getElem?_eq_getElem hk)⟩
theorem Qhr {t:Qb} (hl:t.Stops.length≤1000000):Vo t=some (Qcs t)∧Qat t=some (Qcs t):=by
 constructor
 ·unfold Vo Z0 JQ;rcases Qj0 (p:=fun s=>decide (0≤s)) (body:=Wv t.Stops) hl (fun k=>rfl) with ⟨k,h1,h2,h3,h4⟩ | ⟨h1,h2⟩
  ·rw[h4]
   have h5:(0:Int)≤(k:Int):=by omega
   simp only[Option.bind_some,Qy,h5,decide_true,Qcs,Qq4 h1 h3]
  ·rw[h2]
   simp only[Option.bind_some,Qy,Qcs,QnX h1]
   rfl
 ·unfold Qat
  rw[QcS t.Stops (fun s=>bif decide (0≤s) then some (Sum.inr true) else none) (Sum.inl ()) (by omega) (fun k s hk=>by
   have h1:((k:Int)<((t.Stops.length:Nat):Int)):=by have:=Qp hk;omega
   simp only[VG,h1,decide_true,cond_true,Qm,hk,Option.bind_some]
   cases decide (0≤s)<;>rfl) (by simp[VG]) _ (by simp),Option.bind_some,Qeb]
  unfold Qcs;cases h:t.Stops.find? fun s=>decide (0≤s) with
  | none =>
   rw[List.find?_eq_none] at h
   have:t.Stops.any (fun s=>decide (0≤s))=false:=by rw[List.any_eq_false];exact h
   rw[this];rfl
  | some s =>
   have h1:=List.find?_some h;have h2:=List.mem_of_find?_eq_some h;have:t.Stops.any (fun s=>decide (0≤s))=true:=by rw[List.any_eq_true];exact ⟨s,h2,h1⟩
   rw[this];rfl
theorem QlQ {l:List Int} (d:Int) (hl:l.length≤1000000):V9 l d=some (wo d l):=by
 unfold V9;have:=Qj1 l (fun (o:List Int) k=>(o,k)) (body:=JM l d) (fun o x=> .inl (if x=d then o else o++[x])) (fun o=>o) (fun o k=>o=wo d (l.take k)) (by omega) (fun k x o hk ho=>by
  have h0:=Qp hk;have h1:((k:Int)<((l.length:Nat):Int)):=by omega
  have hw:wo d (l.take (k+1))=wo d (l.take k)++if x=d then [] else [x]:=by
   rw[YF hk];unfold wo;rw[List.filter_append]
   by_cases h:x=d<;>simp[h]
  refine ⟨?_,fun o' h=> ?_⟩
  ·simp only[JM,oun,h1,decide_true,cond_true,Qm,hk,Option.bind_some]
   by_cases h:x=d
   ·simp[h]
   ·have hle:o.length≤k:=by rw[ho];exact Nat.le_trans (List.length_filter_le _ _) (by simp;omega)
    simp only[h,decide_false,Bool.not_false,cond_true,if_false]
    rw[Yi (by simp;omega)]
    rfl
  ·injection h with h
   subst h
   rw[hw,ho]
   by_cases h:x=d<;>simp[h]) (fun o ho=>by simp[JM,oun]) (((l.length:Nat):Int).toNat+1) [] rfl (by simp)
 rw[this]
 have key: ∀(m:List Int) (o:List Int),each (fun o x=>(.inl (if x=d then o else o++[x]):List Int⊕List Int)) (fun o=>o) m o=o++wo d m:=by
  intro m
  induction m with
  | nil=>intro o;simp[each,wo]
  | cons x r ih =>
   intro o
   simp only[each]
   rw[ih]
   by_cases h:x=d<;>simp[h,wo]
 rw[key];rfl
theorem Qo3 {l:List Int} (d:Int) (hl:l.length≤1000000):V8 l d=some (decide (d∈l)):=by
 unfold V8
 rw[QcS l (fun s=>bif decide (s=d) then some (Sum.inr true) else none) (Sum.inl ()) (by omega) (fun k s hk=>by
  have h1:((k:Int)<((l.length:Nat):Int)):=by have:=Qp hk;omega
  simp only[Qas,h1,decide_true,cond_true,Qm,hk,Option.bind_some]
  cases decide (s=d)<;>rfl) (by simp[Qas]) _ (by simp),Option.bind_some,Qeb]
 cases h:l.find? fun s=>decide (s=d) with
 | none =>
  rw[List.find?_eq_none] at h
  have: ¬d∈l:=fun hm=>by have:=h d hm;simp at this
  simp[this,Qy]
 | some s =>
  have h1:=List.find?_some h;have h2:=List.mem_of_find?_eq_some h;have h3:s=d:=by simpa using h1
  rw[h3] at h2
  simp[h2,Qy]
theorem Qiy {l:List Int} {d:Int} (hl:l.length≤100000): ∀(r j i f:Nat) (s:List Int),j+r=l.length→r<f→i<j→s.length=l.length→s.take i=wo d (l.take j)→s.drop j=l.drop j →
  ∃s',iter (YB l d) f (s,(i:Int),(j:Int))=some (s',((wo d l).length:Int))∧s'.length=l.length∧s'.take (wo d l).length=wo d l∧(wo d l).length≤l.length
 | 0,j,i,f+1,s,hj,_,hij,hs,ht,hd=>by
  have h1: ¬((j:Int)<((l.length:Nat):Int)):=by omega
  have e:l.take j=l:=List.take_of_length_le (by omega)
  rw[e] at ht
  have hi:(wo d l).length=i:=by rw[←ht];simp;omega
  refine ⟨s,?_,hs,by rw[hi];exact ht,List.length_filter_le _ _⟩
  simp only[iter,YB,oun,h1,decide_false,cond_false,hi]
  rfl
 | r+1,j,i,f+1,s,hj,hf,hij,hs,ht,hd=>by
  have h1:((j:Int)<((l.length:Nat):Int)):=by omega
  obtain ⟨x,hx⟩: ∃x,l[j]? =some x:=⟨_,List.getElem?_eq_getElem (by omega)⟩
  have hsx:s[j]? =some x:=by
   have e1:s[j]? =(s.drop j)[0]? :=by simp
   rw[e1,hd];simpa using hx
  obtain ⟨y,hy⟩: ∃y,s[i]? =some y:=⟨_,List.getElem?_eq_getElem (by omega)⟩
  have hw:wo d (l.take (j+1))=wo d (l.take j)++if x=d then [] else [x]:=by
   rw[YF hx];unfold wo;rw[List.filter_append]
   by_cases h:x=d<;>simp[h]
  have e2:w64 ((i:Int)+1)=((i+1:Nat):Int):=VE (by omega);have e3:w64 ((j:Int)+1)=((j+1:Nat):Int):=VE (by omega)
  by_cases h:x=d
  ·obtain ⟨s',g1,g2⟩:=Qiy hl r (j+1) i f s (by omega) (by omega) (by omega) hs (by rw[hw];simp[h,ht]) (by rw[←List.drop_drop,hd];simp);refine ⟨s',?_,g2⟩
   rw[←g1]
   simp only[iter,YB,J1,oun,h1,decide_true,cond_true,Qm,hsx,Option.bind_some,h,Bool.not_true,cond_false,e3]
   rfl
  ·have hlt:i<s.length:=by omega
   obtain ⟨s',g1,g2⟩:=Qiy hl r (j+1) (i+1) f (s.set i x) (by omega) (by omega) (by omega) (by simpa using hs) (by
     rw[hw,if_neg h,←ht]
     rw[List.take_add_one,List.take_set_of_le (Nat.le_refl _)]
     simp[hlt]) (by
     rw[List.drop_set_of_lt (by omega),←List.drop_drop,hd];simp)
   refine ⟨s',?_,g2⟩
   rw[←g1]
   simp only[iter,YB,J1,oun,h1,decide_true,cond_true,Qm,hsx,hy,Option.bind_some,h,decide_false,Bool.not_false,e2,e3,Yk,Int.toNat_natCast]
   rfl
theorem Qg6 {d:Int} {l:List Int} (h: ∀y∈l,decide (y=d)=false):wo d l=l:=by
 unfold wo
 rw[List.filter_eq_self]
 exact fun y hy=>by rw[h y hy];rfl
theorem Qq9 {F:Nat} (hF:40000≤F) {l:List Int} (d:Int) (hl:l.length≤30000):Zv F l d=some (wo d l):=by
 unfold Zv JP;rcases Qj0 (p:=fun s=>decide (s=d)) (body:=Wu l d) (l:=l) (by omega) (fun k=>rfl) with ⟨k,h1,h2,h3,h4⟩ | ⟨h1,h2⟩
 ·rw[h4]
  have h5: ¬((k:Int)= -1):=by omega
  have hw:wo d (l.take (k+1))=l.take k:=by
   obtain ⟨x,hx⟩: ∃x,l[k]? =some x:=⟨_,List.getElem?_eq_getElem h1⟩
   have hxd:x=d:=by simpa using h3 x hx
   rw[YF hx]
   have:=Qg6 h2;unfold wo at this ⊢
   rw[List.filter_append,this];simp[hxd]
  obtain ⟨s',g1,g2,g3,g4⟩:=Qiy (d:=d) (by omega) (l.length-(k+1)) (k+1) k F l (by omega) (by omega) (by omega) rfl hw.symm rfl
  simp only[Option.bind_some,Qy,h5,decide_false,cond_false,VE (show k<9223372036854775807 by omega)]
  rw[g1]
  simp only[Option.bind_some,oun]
  rw[QbZ (by omega)]
  have e1:(QfZ s' (((wo d l).length:Nat):Int) 0).take (wo d l).length=wo d l:=by
   unfold QfZ
   rw[List.take_append_of_le_length (by simp;omega)]
   simp[g3]
  have e2:WL (QfZ s' (((wo d l).length:Nat):Int) 0) 0 (((wo d l).length:Nat):Int)=some (wo d l):=by
   unfold WL
   rw[if_pos ⟨by omega,by omega,by rw[Qdf];omega⟩]
   simp only[Int.toNat_natCast,Int.toNat_zero,List.drop_zero,e1]
  rw[Option.bind_some,e2];rfl
 ·rw[h2]
  simp only[Option.bind_some,Qy,decide_true,cond_true]
  rw[Qg6 h1]
theorem QoR {α:Type} (l:List α) (hl:l.length≤1000):Qiv l=some l:=by
 unfold Qiv
 simp
 omega
theorem Qgq {F:Nat} (hF:40000≤F) {l:List Int} (d:Int) (hl:l.length≤1000):J0 F l d=some (wo d l):=by
 unfold J0
 rw[QoR l hl,Option.bind_some,Qq9 hF d (by omega)];rfl
theorem Qp4 (a b:Int):Vn a b=some (if a<b then -1 else if b<a then 1 else 0):=by
 unfold Vn Qa3
 simp only[Option.bind_some,decide_true,Bool.not_true,cond_false]
 by_cases h:a<b
 ·simp[h]
 ·by_cases h2:b<a<;>simp[h,h2]
theorem QrY (a b:Int):QcP [a,b]=some (if a=0 then b else a):=by
 unfold QcP
 rw[QcS [a,b] (fun x=>bif !decide (x=0) then some (Sum.inr x) else none) (Sum.inl ()) (by simp) (fun k x hk=>by
  have h1:((k:Int)<(([a,b].length:Nat):Int)):=by have:=Qp hk;omega
  simp only[Qb3,h1,decide_true,cond_true,Qm,hk,Option.bind_some]
  cases decide (x=0)<;>rfl) (by simp[Qb3]) _ (by simp),Option.bind_some]
 by_cases ha:a=0
 ·by_cases hb:b=0
  ·simp[first,ha,hb,Qy]
  ·simp[first,ha,hb,Qy]
 ·simp[first,ha,Qy]
def Jx (x:Qa):Int:=((x.plan.Left.length:Nat):Int)*1000000000000+x.cost
def QbV (x:Qa):Prop:=0≤x.cost∧x.cost<1000000000000
theorem Qiw {a b:Qa} (ha:QbV a) (hb:QbV b): ∃z,QW a b=some z∧(z<0↔Jx a<Jx b):=by
 unfold QW
 simp only[Qp4,Option.bind_some,QrY]
 refine ⟨_,rfl,?_⟩;unfold Jx;obtain ⟨a0,a1⟩:=ha;obtain ⟨b0,b1⟩:=hb
 by_cases h1:((a.plan.Left.length:Nat):Int)<((b.plan.Left.length:Nat):Int)
 ·rw[if_pos h1,if_neg (by decide)];omega
 ·by_cases h2:((b.plan.Left.length:Nat):Int)<((a.plan.Left.length:Nat):Int)
  ·rw[if_neg h1,if_pos h2,if_neg (by decide)];omega
  ·rw[if_neg h1,if_neg h2,if_pos rfl]
   by_cases h3:a.cost<b.cost
   ·rw[if_pos h3];omega
   ·by_cases h4:b.cost<a.cost
    ·rw[if_neg h3,if_pos h4];omega
    ·rw[if_neg h3,if_neg h4];omega
end Go.Proofs.YtoojkdejnbnniaaGreat
