/- TopSalesFees: for every input the given law returns true, and its arguments read as before. No condition. -/
import Derived.Test.Ytfdjjdhnfaklbaac1x6
import Derived.Test.Ytfdjjdhnfaklbaac1x2
namespace Go.Proofs.Ytfdjjdhnfaklbaa
set_option linter.unusedSimpArgs false
set_option linter.unusedVariables false
section
variable {α:Type}
def Qbj (cmp:α→α→Option Int) (a1:Int) (j_:(List α)×Int):Option (((List α)×Int)⊕((List α))) :=
 oun j_ fun data3 j1 =>
 Option.bind (
  bif (decide (a1<j1)) then
   Option.bind (Qp data3 j1) fun x1 =>
   Option.bind (Qp data3 (w64 (j1-1))) fun x2 =>
   Option.bind (cmp x1 x2) fun r1 =>
   some (decide (r1<0))
  else
   some false) (fun v1 =>
  bif v1 then
   Option.bind (Qp data3 (w64 (j1-1))) fun x3 =>
   Option.bind (Qp data3 j1) fun x4 =>
   Option.bind (Qp data3 j1) fun x5 =>
   Option.bind (Qp (YV data3 j1 x3) (w64 (j1-1))) fun x6 =>
   some (.inl ((YV (YV data3 j1 x3) (w64 (j1-1)) x4),w64 (j1-1)))
  else
   some (.inr data3))
def Qbk (cmp:α→α→Option Int) (F:Nat) (a1:Int) (b1:Int) (j_:(List α)×Int):Option (((List α)×Int)⊕((List α))) :=
 oun j_ fun data2 i1 =>
 bif (decide (i1<b1)) then
  Option.bind (
   Option.bind (
    iter (Qbj cmp a1) F (data2,i1)) (fun data5 =>
    some data5)) (fun data6 =>
   some (.inl (data6,w64 (i1+1))))
 else
  some (.inr data2)
def QfP (cmp:α→α→Option Int) (F:Nat) (data1:(List α)) (a1:Int) (b1:Int):Option ((List α)) :=
 Option.bind (
  iter (Qbk cmp F a1 b1) F (data1,w64 (a1+1))) (fun data7 =>
  some data7)
def Qez (a1:Int) (b1:Int) (n2:Int) (j_:(List α)×Int):Option (((List α)×Int)⊕((List α))) :=
 oun j_ fun data2 i1 =>
 bif (decide (i1<n2)) then
  Option.bind (Qp data2 (w64 (b1+i1))) fun x1 =>
  Option.bind (Qp data2 (w64 (a1+i1))) fun x2 =>
  Option.bind (Qp data2 (w64 (a1+i1))) fun x3 =>
  Option.bind (Qp (YV data2 (w64 (a1+i1)) x1) (w64 (b1+i1))) fun x4 =>
  some (.inl ((YV (YV data2 (w64 (a1+i1)) x1) (w64 (b1+i1)) x2),w64 (i1+1)))
 else
  some (.inr data2)
def gSw (data1:(List α)) (a1:Int) (b1:Int) (n2:Int):Option ((List α)) :=
 Option.bind (
  iter (Qez a1 b1 n2) (n2.toNat+1) (data1,0)) (fun data4 =>
  some data4)
def Qbn (m1:Int) (j_:(List α)×Int×Int):Option (((List α)×Int×Int)⊕(((List α)×Int))) :=
 oun j_ fun data2 j_=>oun j_ fun i1 j1 =>
 bif (!(decide (i1=j1))) then
  bif (decide (j1<i1)) then
   Option.bind (gSw data2 (w64 (m1-i1)) m1 j1) fun r1 =>
   some (.inl (r1,w64 (i1-j1),j1))
  else
   Option.bind (gSw data2 (w64 (m1-i1)) (w64 ((w64 (m1+j1))-i1)) i1) fun r2 =>
   some (.inl (r2,i1,w64 (j1-i1)))
 else
  some (.inr (data2,i1))
def QgG (F:Nat) (data1:(List α)) (a1:Int) (m1:Int) (b1:Int):Option ((List α)) :=
 Option.bind (
  iter (Qbn m1) F (data1,w64 (m1-a1),w64 (b1-m1))) (fun j_=>oun j_ fun data3 i2 =>
  Option.bind (gSw data3 (w64 (m1-i2)) m1 i2) fun r3 =>
  some r3)
def Qbo (cmp:α→α→Option Int) (data1:(List α)) (a1:Int) (j_:Int×Int):Option ((Int×Int)⊕(Int)) :=
 oun j_ fun i1 j1 =>
 bif (decide (i1<j1)) then
  Option.bind (QP (0≤1∧1≤64)) fun _ =>
  Option.bind (Qp data1 (w64 ((IntKind.u64.wrap (w64 (i1+j1)))/2^(1:Int).toNat))) fun x1 =>
  Option.bind (Qp data1 a1) fun x2 =>
  Option.bind (cmp x1 x2) fun r1 =>
  bif (decide (r1<0)) then
   some (.inl (w64 ((w64 ((IntKind.u64.wrap (w64 (i1+j1)))/2^(1:Int).toNat))+1),j1))
  else
   some (.inl (i1,w64 ((IntKind.u64.wrap (w64 (i1+j1)))/2^(1:Int).toNat)))
 else
  some (.inr i1)
def QcH (cmp:α→α→Option Int) (i2:Int) (j_:(List α)×Int):Option (((List α)×Int)⊕((List α))) :=
 oun j_ fun data2 k1 =>
 bif (decide (k1<(w64 (i2-1)))) then
  Option.bind (Qp data2 (w64 (k1+1))) fun x3 =>
  Option.bind (Qp data2 k1) fun x4 =>
  Option.bind (Qp data2 k1) fun x5 =>
  Option.bind (Qp (YV data2 k1 x3) (w64 (k1+1))) fun x6 =>
  some (.inl ((YV (YV data2 k1 x3) (w64 (k1+1)) x4),w64 (k1+1)))
 else
  some (.inr data2)
def Qbp (cmp:α→α→Option Int) (data1:(List α)) (m1:Int) (j_:Int×Int):Option ((Int×Int)⊕(Int)) :=
 oun j_ fun i3 j2 =>
 bif (decide (i3<j2)) then
  Option.bind (QP (0≤1∧1≤64)) fun _ =>
  Option.bind (Qp data1 m1) fun x7 =>
  Option.bind (Qp data1 (w64 ((IntKind.u64.wrap (w64 (i3+j2)))/2^(1:Int).toNat))) fun x8 =>
  Option.bind (cmp x7 x8) fun r2 =>
  bif (!(decide (r2<0))) then
   some (.inl (w64 ((w64 ((IntKind.u64.wrap (w64 (i3+j2)))/2^(1:Int).toNat))+1),j2))
  else
   some (.inl (i3,w64 ((IntKind.u64.wrap (w64 (i3+j2)))/2^(1:Int).toNat)))
 else
  some (.inr i3)
def QcI (cmp:α→α→Option Int) (i4:Int) (j_:(List α)×Int):Option (((List α)×Int)⊕((List α))) :=
 oun j_ fun data5 k2 =>
 bif (decide (i4<k2)) then
  Option.bind (Qp data5 (w64 (k2-1))) fun x9 =>
  Option.bind (Qp data5 k2) fun x10 =>
  Option.bind (Qp data5 k2) fun x11 =>
  Option.bind (Qp (YV data5 k2 x9) (w64 (k2-1))) fun x12 =>
  some (.inl ((YV (YV data5 k2 x9) (w64 (k2-1)) x10),w64 (k2-1)))
 else
  some (.inr data5)
def Qan (cmp:α→α→Option Int) (data1:(List α)) (j_:Int×Int×Int):Option ((Int×Int×Int)⊕(Int)) :=
 oun j_ fun start2 j_=>oun j_ fun r4 p1 =>
 bif (decide (start2<r4)) then
  Option.bind (QP (0≤1∧1≤64)) fun _ =>
  Option.bind (Qp data1 (w64 (p1-(w64 ((IntKind.u64.wrap (w64 (start2+r4)))/2^(1:Int).toNat))))) fun x13 =>
  Option.bind (Qp data1 (w64 ((IntKind.u64.wrap (w64 (start2+r4)))/2^(1:Int).toNat))) fun x14 =>
  Option.bind (cmp x13 x14) fun r5 =>
  bif (!(decide (r5<0))) then
   some (.inl (w64 ((w64 ((IntKind.u64.wrap (w64 (start2+r4)))/2^(1:Int).toNat))+1),r4,p1))
  else
   some (.inl (start2,w64 ((IntKind.u64.wrap (w64 (start2+r4)))/2^(1:Int).toNat),p1))
 else
  some (.inr start2)
def QaD (cmp:α→α→Option Int) (rec_:(List α)→Int→Int→Int→Option ((List α))) (F:Nat) (data1:(List α)) (a1:Int) (m1:Int) (b1:Int):Option ((List α)) :=
 bif (decide ((w64 (m1-a1))=1)) then
  Option.bind (
   iter (Qbo cmp data1 a1) F (m1,b1)) (fun i2 =>
   Option.bind (
    iter (QcH cmp i2) F (data1,a1)) (fun data4 =>
    some data4))
 else
  bif (decide ((w64 (b1-m1))=1)) then
   Option.bind (
    iter (Qbp cmp data1 m1) F (a1,m1)) (fun i4 =>
    Option.bind (
     iter (QcI cmp i4) F (data1,m1)) (fun data7 =>
     some data7))
  else
   Option.bind (QP (0≤1∧1≤64)) fun _ =>
   Option.bind (
    bif (decide ((w64 ((IntKind.u64.wrap (w64 (a1+b1)))/2^(1:Int).toNat))<m1)) then
     some (w64 ((IntKind.u64.wrap (w64 (a1+b1)))/2^(1:Int).toNat),w64 ((w64 ((IntKind.u64.wrap (w64 (a1+b1)))/2^(1:Int).toNat))+m1),w64 ((w64 ((w64 ((IntKind.u64.wrap (w64 (a1+b1)))/2^(1:Int).toNat))+m1))-b1),w64 ((IntKind.u64.wrap (w64 (a1+b1)))/2^(1:Int).toNat))
    else
     some (w64 ((IntKind.u64.wrap (w64 (a1+b1)))/2^(1:Int).toNat),w64 ((w64 ((IntKind.u64.wrap (w64 (a1+b1)))/2^(1:Int).toNat))+m1),a1,m1)) (fun j_=>oun j_ fun mid1 j_=>oun j_ fun n2 j_=>oun j_ fun start1 r3 =>
    Option.bind (
     iter (Qan cmp data1) F (start1,r3,w64 (n2-1))) (fun start3 =>
     Option.bind (
      bif (decide (start3<m1)) then
       some (w64 (n2-start3),(decide (m1<(w64 (n2-start3)))))
      else
       some (w64 (n2-start3),false)) (fun j_=>oun j_ fun f_end1 v1 =>
      Option.bind (
       bif v1 then
        Option.bind (QgG F data1 start3 m1 f_end1) fun r6 =>
        some r6
       else
        some data1) (fun data8 =>
       Option.bind (
        bif (decide (a1<start3)) then
         some (decide (start3<mid1))
        else
         some false) (fun v2 =>
        Option.bind (
         bif v2 then
          Option.bind (rec_ data8 a1 start3 mid1) fun r7 =>
          some r7
         else
          some data8) (fun data9 =>
         Option.bind (
          bif (decide (mid1<f_end1)) then
           some (decide (f_end1<b1))
          else
           some false) (fun v3 =>
          Option.bind (
           bif v3 then
            Option.bind (rec_ data9 mid1 f_end1 b1) fun r8 =>
            some r8
           else
            some data9) (fun data10 =>
           some data10))))))))
def Qdl (cmp:α→α→Option Int):Nat→(List α)→Int→Int→Int→Option ((List α))
 | 0,_,_,_,_=>none
 | F+1,data1,a1,m1,b1=>QaD cmp (Qdl cmp F) F data1 a1 m1 b1
def Qey (cmp:α→α→Option Int) (F:Nat) (n2:Int) (j_:(List α)×Int×Int):Option (((List α)×Int×Int)⊕(((List α)×Int))) :=
 oun j_ fun data2 j_=>oun j_ fun a1 b1 =>
 bif (decide (b1≤n2)) then
  Option.bind (QfP cmp F data2 a1 b1) fun r1 =>
  some (.inl (r1,b1,w64 (b1+20)))
 else
  some (.inr (data2,a1))
def Qdj (cmp:α→α→Option Int) (F:Nat) (n2:Int) (blockSize1:Int) (j_:(List α)×Int×Int):Option (((List α)×Int×Int)⊕(((List α)×Int))) :=
 oun j_ fun data5 j_=>oun j_ fun a3 b2 =>
 bif (decide (b2≤n2)) then
  Option.bind (Qdl cmp F data5 a3 (w64 (a3+blockSize1)) b2) fun r3 =>
  some (.inl (r3,b2,w64 (b2+(w64 (2*blockSize1)))))
 else
  some (.inr (data5,a3))
def Qca (cmp:α→α→Option Int) (F:Nat) (n2:Int) (j_:(List α)×Int):Option (((List α)×Int)⊕((List α))) :=
 oun j_ fun data4 blockSize1 =>
 bif (decide (blockSize1<n2)) then
  Option.bind (
   iter (Qdj cmp F n2 blockSize1) F (data4,0,w64 (2*blockSize1))) (fun j_=>oun j_ fun data6 a4 =>
   Option.bind (
    bif (decide ((w64 (a4+blockSize1))<n2)) then
     Option.bind (Qdl cmp F data6 a4 (w64 (a4+blockSize1)) n2) fun r4 =>
     some r4
    else
     some data6) (fun data7 =>
    some (.inl (data7,w64 (blockSize1*2)))))
 else
  some (.inr data4)
def gSt (cmp:α→α→Option Int) (F:Nat) (data1:(List α)) (n2:Int):Option ((List α)) :=
 Option.bind (
  iter (Qey cmp F n2) F (data1,0,20)) (fun j_=>oun j_ fun data3 a2 =>
  Option.bind (QfP cmp F data3 a2 n2) fun r2 =>
  Option.bind (
   iter (Qca cmp F n2) F (r2,20)) (fun data8 =>
   some data8))
def Qex (cmp:α→α→Option Int) (F:Nat) (x1:(List α)):Option ((List α)) :=
 Option.bind (gSt cmp F x1 ((x1.length:Nat):Int)) fun r1 =>
 some r1
theorem QbZ {a b:Nat} (h:a+b≤1000000000000000):w64 ((a:Int)+(b:Int))=((a+b:Nat):Int):=by rw[Q9 (by omega) (by omega)];omega
theorem Vo {a b:Nat} (h:b≤a) (h2:a≤1000000000000000):w64 ((a:Int)-(b:Int))=((a-b:Nat):Int):=by rw[Q9 (by omega) (by omega)];omega
theorem QdP {a:Nat} (h:1≤a) (h2:a≤1000000000000000):w64 ((a:Int)-1)=((a-1:Nat):Int):=Vo (b:=1) h h2
theorem QaM {a:Nat} (h2:a≤1000000000000):w64 ((a:Int)+1)=((a+1:Nat):Int):=QbZ (b:=1) (by omega)
theorem QeQ {i j:Nat} (h:i+j≤1000000000000000):w64 ((IntKind.u64.wrap (w64 ((i:Int)+(j:Int))))/2^(1:Int).toNat)=(((i+j)/2:Nat):Int):=by
 rw[QbZ h]
 have h1:IntKind.u64.wrap ((i+j:Nat):Int)=((i+j:Nat):Int):=by simp[IntKind.wrap,IntKind.bits,IntKind.signed];omega
 rw[h1]
 have h2:(2:Int)^(1:Int).toNat=2:=rfl
 rw[h2,Q9 (by omega) (by omega)]
 omega
theorem JY {L:List α} {i:Nat} (h:i<L.length): ∃x,L[i]? =some x:=⟨L[i],by simp[h]⟩
theorem WD (L:List α) (i:Nat) (x:α):YV L (i:Int) x=L.set i x:=by simp[YV]
theorem Qgp {L:List α} {i j:Nat} {x y:α} (hx:L[i]? =some x) (hy:L[j]? =some y) (t:Nat):((L.set i y).set j x)[t]? =if t=j then L[i]? else if t=i then L[j]? else L[t]? :=by
 have hi:=QF hx;have hj:=QF hy
 by_cases h1:t=j
 ·subst h1;rw[if_pos rfl];simp[hj,hx]
 ·by_cases h2:t=i
  ·subst h2;rw[if_neg h1,if_pos rfl,List.getElem?_set_ne (fun h=>h1 h.symm),hy];simp[hi]
  ·rw[if_neg h1,if_neg h2,List.getElem?_set_ne (fun h=>h1 h.symm),List.getElem?_set_ne (fun h=>h2 h.symm)]
def swF (L:List α) (a b n t:Nat):Option α:=if a≤t∧t<a+n then L[t-a+b]? else if b≤t∧t<b+n then L[t-b+a]? else L[t]?
theorem Qdk {L:List α} {a b n:Nat} (h1:a+n≤b) (h2:b+n≤L.length) (hs:L.length≤1000000000000): ∀(r i:Nat) (M:List α) (f:Nat),i+r=n→r<f→M.length=L.length→(∀t,M[t]? =swF L a b i t) →
  ∃L',iter (Qez (α:=α) a b n) f (M,(i:Int))=some L'∧L'.length=L.length∧ ∀t,L'[t]? =swF L a b n t
 | _,_,_,0,_,h,_,_=>by omega
 | 0,i,M,f+1,hi,_,hl,hM=>by
  have:i=n:=by omega
  subst this;refine ⟨M,?_,hl,hM⟩
  simp only[iter,Qez,oun,Int.lt_irrefl,decide_false,cond_false,Option.bind_some,Yl]
 | r+1,i,M,f+1,hi,hf,hl,hM=>by
  obtain ⟨x,hx⟩:=JY (L:=M) (i:=b+i) (by omega);obtain ⟨y,hy⟩:=JY (L:=M) (i:=a+i) (by omega);have hlt:((i:Nat):Int)<(n:Nat):=by omega
  have e1:w64 ((b:Int)+(i:Int))=((b+i:Nat):Int):=QbZ (by omega);have e2:w64 ((a:Int)+(i:Int))=((a+i:Nat):Int):=QbZ (by omega);have e3:w64 ((i:Int)+1)=((i+1:Nat):Int):=QaM (by omega);have e4:(M.set (a+i) x)[b+i]? =some x:=by rw[List.getElem?_set,if_neg (by omega)];exact hx
  have key:=Qdk h1 h2 hs r (i+1) ((M.set (a+i) x).set (b+i) y) f (by omega) (by omega) (by simpa using hl) (fun t=>by
   rw[Qgp hy hx t,hM t,hM (a+i),hM (b+i)]
   unfold swF
   repeat' split
   all_goals first | omega | rfl | (congr 1;omega))
  obtain ⟨L',k1,k2,k3⟩:=key;refine ⟨L',?_,k2,k3⟩
  rw[←k1]
  simp only[iter,Qez,oun,hlt,decide_true,cond_true,e1,e2,e3,QA,WD,hx,hy,e4,Option.bind_some,Yl]
theorem Qd2 {L:List α} {a b n:Nat} (h1:a+n≤b) (h2:b+n≤L.length) (hs:L.length≤1000000000000): ∃L',gSw L a b n=some L'∧L'.length=L.length∧ ∀t,L'[t]? =swF L a b n t:=by
 obtain ⟨L',k1,k2,k3⟩:=Qdk h1 h2 hs n 0 L ((n:Int).toNat+1) (by omega) (by omega) rfl (fun t=>by unfold swF;rw[if_neg (by omega),if_neg (by omega)]);refine ⟨L',?_,k2,k3⟩;unfold gSw
 rw[show ((0:Nat):Int)=0 from rfl] at k1
 rw[k1];rfl
def Qd6 (L:List α) (m i j t:Nat):Option α:=if m-i≤t∧t<m+j then (if t<m-i+j then L[t+i]? else L[t-j]?) else L[t]?
theorem Qam {m:Nat}: ∀(s i j:Nat) (L:List α) (f:Nat),i+j≤s→s<f→1≤i→1≤j→i≤m→m+j≤L.length→L.length≤1000000000000 →
  ∃(M:List α) (d:Nat),iter (Qbn (α:=α) m) f (L,(i:Int),(j:Int))=some (M,(d:Int))∧M.length=L.length∧1≤d∧d≤i∧d≤j∧ ∀(L':List α),L'.length=L.length→(∀t,L'[t]? =swF M (m-d) m d t)→ ∀t,L'[t]? =Qd6 L m i j t
 | _,_,_,_,0,_,h,_,_,_,_,_=>by omega
 | 0,i,j,_,_,h,_,_,_,_,_,_=>by omega
 | s+1,i,j,L,f+1,hs,hf,hi,hj,him,hjl,hl=>by
  by_cases hij:i=j
  ·subst hij;refine ⟨L,i,?_,rfl,hi,Nat.le_refl _,Nat.le_refl _,fun L' _ h t=> ?_⟩
   ·simp only[iter,Qbn,oun,decide_true,Bool.not_true,cond_false,Option.bind_some,Yl]
   ·rw[h t]
    unfold swF Qd6
    repeat' split
    all_goals first | omega | rfl | (congr 1;omega)
  ·have hne: ¬((i:Int)=(j:Int)):=by omega
   by_cases hlt:j<i
   ·have hlt':((j:Nat):Int)<(i:Nat):=by omega
    obtain ⟨L1,k1,k2,k3⟩:=Qd2 (L:=L) (a:=m-i) (b:=m) (n:=j) (by omega) (by omega) hl;obtain ⟨M,d,q1,q2,q3,q4,q5,q6⟩:=Qam (m:=m) s (i-j) j L1 f (by omega) (by omega) (by omega) hj (by omega) (by omega) (by omega);refine ⟨M,d,?_,by omega,q3,by omega,q5,fun L' hL' h t=> ?_⟩
    ·rw[←q1]
     simp only[iter,Qbn,oun,hne,hlt',decide_false,decide_true,Bool.not_false,cond_true,Vo him (by omega:m≤1000000000000000),k1,Vo (Nat.le_of_lt hlt) (by omega:i≤1000000000000000),Option.bind_some,Yl]
    ·rw[q6 L' (by omega) h t]
     unfold Qd6
     simp only[k3]
     unfold swF
     repeat' split
     all_goals first | omega | rfl | (congr 1;omega)
   ·have hlt': ¬(((j:Nat):Int)<(i:Nat)):=by omega
    obtain ⟨L1,k1,k2,k3⟩:=Qd2 (L:=L) (a:=m-i) (b:=m+j-i) (n:=i) (by omega) (by omega) hl;obtain ⟨M,d,q1,q2,q3,q4,q5,q6⟩:=Qam (m:=m) s i (j-i) L1 f (by omega) (by omega) hi (by omega) him (by omega) (by omega);refine ⟨M,d,?_,by omega,q3,q4,by omega,fun L' hL' h t=> ?_⟩
    ·rw[←q1]
     simp only[iter,Qbn,oun,hne,hlt',decide_false,decide_true,Bool.not_false,cond_true,cond_false,Vo him (by omega:m≤1000000000000000),QbZ (by omega:m+j≤1000000000000000),Vo (by omega:i≤m+j) (by omega:m+j≤1000000000000000),k1,Vo (by omega:i≤j) (by omega:j≤1000000000000000),Option.bind_some,Yl]
    ·rw[q6 L' (by omega) h t]
     unfold Qd6
     simp only[k3]
     unfold swF
     repeat' split
     all_goals first | omega | rfl | (congr 1;omega)
theorem QgH {L:List α} {a m b F:Nat} (h1:a<m) (h2:m<b) (h3:b≤L.length) (hs:L.length≤1000000000000) (hF:b-a<F): ∃L',QgG F L a m b=some L'∧L'.length=L.length∧ ∀t,L'[t]? =Qd6 L m (m-a) (b-m) t:=by
 obtain ⟨M,d,q1,q2,q3,q4,q5,q6⟩:=Qam (m:=m) (b-a) (m-a) (b-m) L F (by omega) hF (by omega) (by omega) (by omega) (by omega) hs;obtain ⟨L',k1,k2,k3⟩:=Qd2 (L:=M) (a:=m-d) (b:=m) (n:=d) (by omega) (by omega) (by omega);refine ⟨L',?_,by omega,q6 L' (by omega) k3⟩;unfold QgG
 simp only[Vo (Nat.le_of_lt h1) (by omega:m≤1000000000000000),Vo (Nat.le_of_lt h2) (by omega:b≤1000000000000000),q1,Option.bind_some,oun,Vo (by omega:d≤m) (by omega:m≤1000000000000000),k1]
variable {k:α→Int}
def Srt (k:α→Int) (l:List α):Prop:=l.Pairwise fun x y=>k x≤k y
structure Yc (k:α→Int) (l l':List α):Prop where
 perm:l.Perm l'
 fil: ∀c,l.filter (fun x=>decide (k x=c))=l'.filter (fun x=>decide (k x=c))
theorem Yc.refl (l:List α):Yc k l l:=⟨List.Perm.refl _,fun _=>rfl⟩
theorem Yc.trans {a b c:List α} (h:Yc k a b) (h2:Yc k b c):Yc k a c:=⟨h.perm.trans h2.perm,fun q=>(h.fil q).trans (h2.fil q)⟩
theorem Yc.symm {a b:List α} (h:Yc k a b):Yc k b a:=⟨h.perm.symm,fun q=>(h.fil q).symm⟩
theorem Yc.append {a b c d:List α} (h:Yc k a b) (h2:Yc k c d):Yc k (a++c) (b++d):=⟨h.perm.append h2.perm,fun q=>by rw[List.filter_append,List.filter_append,h.fil q,h2.fil q]⟩
theorem Yc.swap {u v:List α} (h: ∀x∈u,∀y∈v,k y<k x):Yc k (u++v) (v++u):=by
 refine ⟨List.perm_append_comm,fun c=> ?_⟩
 rw[List.filter_append,List.filter_append]
 by_cases hu:u.filter (fun x=>decide (k x=c))=[]
 ·rw[hu];simp
 ·have hv:v.filter (fun x=>decide (k x=c))=[]:=by
   rw[List.filter_eq_nil_iff]
   intro y hy hyc;obtain ⟨x,hx⟩:=List.exists_mem_of_ne_nil _ hu;have hx':=List.mem_filter.1 hx;have:=h x hx'.1 y hy;have e1:=of_decide_eq_true hx'.2;have e2:=of_decide_eq_true hyc
   omega
  rw[hv];simp
theorem Srt.unique: ∀{l l':List α},Srt k l→Srt k l'→Yc k l l'→l=l'
 | [],l',_,_,h=>(h.perm.symm.eq_nil).symm
 | x::r,[],_,_,h=>by have:=h.perm.eq_nil;cases this
 | x::r,y::r',h1,h2,h=>by
  have hx: ∀z∈x::r,k x≤k z:=fun z hz=>by
   rcases List.mem_cons.1 hz with rfl | hz
   ·exact Int.le_refl _
   ·exact (List.pairwise_cons.1 h1).1 z hz
  have hy: ∀z∈y::r',k y≤k z:=fun z hz=>by
   rcases List.mem_cons.1 hz with rfl | hz
   ·exact Int.le_refl _
   ·exact (List.pairwise_cons.1 h2).1 z hz
  have e1:=hx y (h.perm.mem_iff.2 List.mem_cons_self);have e2:=hy x (h.perm.mem_iff.1 List.mem_cons_self);have e3:k x=k y:=by omega
  have f1:=h.fil (k x)
  rw[List.filter_cons_of_pos (by simp),List.filter_cons_of_pos (by simp[e3])] at f1
  injection f1 with f1 f2
  subst f1;have:Yc k r r':=⟨(List.perm_cons x).1 h.perm,fun c=>by
   by_cases hc:k x=c
   ·subst hc;exact f2
   ·have f3:=h.fil c
    rw[List.filter_cons_of_neg (by simp[hc]),List.filter_cons_of_neg (by simp[hc])] at f3
    exact f3⟩
  rw[Srt.unique (List.pairwise_cons.1 h1).2 (List.pairwise_cons.1 h2).2 this]
theorem QgR {A U V B L':List α} {m:Nat} (hm:A.length+U.length=m) (h: ∀t,L'[t]? =Qd6 (A++(U++(V++B))) m U.length V.length t):L'=A++(V++(U++B)):=by
 refine List.ext_getElem? fun t=> ?_
 rw[h t]
 unfold Qd6
 simp only[List.getElem?_append]
 repeat' split
 all_goals first | omega | rfl | (congr 1;omega)
variable {cmp:α→α→Option Int} {Pv:α→Prop}
theorem Wf {A B:List α} {x:α} {i:Nat} (h:A.length=i):(A++x::B)[i]? =some x:=by subst h;simp
theorem QdL {A B:List α} {x z:α} {i:Nat} (h:A.length=i):((A++z::x::B).set (i+1) z).set i x=A++x::z::B:=by
 subst h
 rw[List.set_append_right _ _ (by omega),List.set_append_right _ _ (by omega)]
 simp
theorem Qbl (hc: ∀x y,Pv x→Pv y→ ∃z,cmp x y=some z∧(z<0↔k x<k y)) {a:Nat} {A:List α} (hA:A.length=a) {x:α} (hx:Pv x): ∀(n:Nat) (Z B:List α) (f:Nat),Z.length=n→n<f→Srt k Z→(∀z∈Z,Pv z)→a+n≤1000000000000 →
  ∃Z1 Z2,Z=Z1++Z2∧iter (Qbj cmp a) f (A++Z++x::B,((a+n:Nat):Int))=some (A++Z1++x::(Z2++B))∧(∀z∈Z2,k x<k z)∧ ∀z∈Z1,k z≤k x
 | _,_,_,0,_,h,_,_,_=>by omega
 | 0,Z,B,f+1,hZ,_,_,_,_=>by
  have:Z=[]:=List.eq_nil_of_length_eq_zero hZ;subst this;refine ⟨[],[],rfl,?_,by simp,by simp⟩;have: ¬((a:Int)<((a+0:Nat):Int)):=by omega
  simp only[iter,Qbj,oun,this,decide_false,cond_false,Option.bind_some,Yl,List.append_nil,List.nil_append]
 | n+1,Z,B,f+1,hZ,hf,hs,hp,hb=>by
  obtain ⟨Z',z,rfl⟩: ∃Z' z,Z=Z'++[z]:=by
   have:Z≠[]:=by intro e;rw[e] at hZ;simp at hZ
   exact ⟨Z.dropLast,Z.getLast this,(List.dropLast_concat_getLast this).symm⟩
  have hl:Z'.length=n:=by simpa using hZ
  have hz:Pv z:=hp z (by simp);have hlt:(a:Int)<((a+(n+1):Nat):Int):=by omega
  have e0:A++(Z'++[z])++x::B=(A++Z')++z::x::B:=by simp
  have g1:(A++(Z'++[z])++x::B)[a+(n+1)]? =some x:=Wf (by simp[hA,hl]);have g2:(A++(Z'++[z])++x::B)[a+(n+1)-1]? =some z:=by rw[e0];exact Wf (by simp[hA,hl])
  have e1:w64 (((a+(n+1):Nat):Int)-1)=((a+(n+1)-1:Nat):Int):=QdP (by omega) (by omega);obtain ⟨q,hq,hqk⟩:=hc x z hx hz
  by_cases hk:k x<k z
  ·have hq0:=hqk.2 hk;obtain ⟨Z1,Z2,k1,k2,k3,k4⟩:=Qbl hc hA hx n Z' (z::B) f hl (by omega) (List.pairwise_append.1 hs).1 (fun y hy=>hp y (by simp[hy])) (by omega);refine ⟨Z1,Z2++[z],by rw[k1];simp,?_,?_,k4⟩
   ·have e2:((A++(Z'++[z])++x::B).set (a+(n+1)) z).set (a+(n+1)-1) x=A++Z'++x::(z::B):=by
     rw[e0]
     have:a+(n+1)-1=a+n:=by omega
     rw[this]
     have e3:a+(n+1)=(a+n)+1:=by omega
     rw[e3]
     exact QdL (by simp[hA,hl])
    have g3:((A++(Z'++[z])++x::B).set (a+(n+1)) z)[a+(n+1)-1]? =some z:=by
     rw[List.getElem?_set_ne (by omega)];exact g2
    have e4:((a+(n+1)-1:Nat):Int)=((a+n:Nat):Int):=by omega
    simp only[iter,Qbj,oun,hlt,decide_true,cond_true,QA,WD,e1,g1,g2,g3,hq,hq0,Option.bind_some,Yl,e2]
    rw[e4,k2]
    simp
   ·intro y hy;rcases List.mem_append.1 hy with hy | hy
    ·exact k3 y hy
    ·simp only[List.mem_singleton] at hy;subst hy;exact hk
  ·have hq0: ¬q<0:=fun h=>hk (hqk.1 h);refine ⟨Z'++[z],[],by simp,?_,by simp,?_⟩
   ·simp only[iter,Qbj,oun,hlt,decide_true,cond_true,QA,e1,g1,g2,hq,hq0,decide_false,cond_false,Option.bind_some,Yl,List.nil_append]
   ·intro y hy;rcases List.mem_append.1 hy with hy | hy
    ·have:=(List.pairwise_append.1 hs).2.2 y hy z (by simp)
     omega
    ·simp only[List.mem_singleton] at hy;subst hy;omega
theorem Qdo {Z1 Z2:List α} {x:α} (hs:Srt k (Z1++Z2)) (h2: ∀z∈Z2,k x<k z) (h1: ∀z∈Z1,k z≤k x):Srt k (Z1++x::Z2)∧Yc k (Z1++Z2++[x]) (Z1++x::Z2):=by
 have hp:=List.pairwise_append.1 hs;refine ⟨List.pairwise_append.2 ⟨hp.1,List.pairwise_cons.2 ⟨fun z hz=>by have:=h2 z hz;omega,hp.2.1⟩,fun y hy z hz=> ?_⟩,?_⟩
 ·rcases List.mem_cons.1 hz with rfl | hz
  ·exact h1 y hy
  ·exact hp.2.2 y hy z hz
 ·rw[List.append_assoc]
  refine (Yc.refl Z1).append (?_:Yc k (Z2++[x]) ([x]++Z2));exact Yc.swap fun z hz y hy=>by simp only[List.mem_singleton] at hy;subst hy;exact h2 z hz
theorem Qbm (hc: ∀x y,Pv x→Pv y→ ∃z,cmp x y=some z∧(z<0↔k x<k y)) {a b F:Nat} {A B:List α} (hA:A.length=a) (hb:b≤1000000000) (hF:b<F): ∀(r:Nat) (Z R:List α) (f:Nat),R.length=r→r<f→a+Z.length+r=b→Srt k Z→(∀z∈Z,Pv z)→(∀z∈R,Pv z) →
  ∃M,iter (Qbk cmp F a b) f (A++Z++(R++B),((a+Z.length:Nat):Int))=some (A++M++B)∧Srt k M∧Yc k (Z++R) M
 | _,_,_,0,_,h,_,_,_,_=>by omega
 | 0,Z,R,f+1,hR,_,hab,hs,_,_=>by
  have:R=[]:=List.eq_nil_of_length_eq_zero hR;subst this;refine ⟨Z,?_,hs,by rw[List.append_nil];exact Yc.refl _⟩;have: ¬(((a+Z.length:Nat):Int)<(b:Int)):=by omega
  simp only[iter,Qbk,oun,this,decide_false,cond_false,Option.bind_some,Yl,List.nil_append]
 | r+1,Z,[],f+1,hR,_,_,_,_,_=>by simp at hR
 | r+1,Z,x::R,f+1,hR,hf,hab,hs,hp,hq=>by
  have hlt:((a+Z.length:Nat):Int)<(b:Int):=by omega
  obtain ⟨Z1,Z2,k1,k2,k3,k4⟩:=Qbl hc hA (hq x (by simp)) Z.length Z (R++B) F rfl (by omega) hs hp (by omega);subst k1;obtain ⟨j1,j2⟩:=Qdo hs k3 k4;have hl:(Z1++x::Z2).length=(Z1++Z2).length+1:=by simp;omega
  obtain ⟨M,m1,m2,m3⟩:=Qbm (B:=B) hc hA hb hF r (Z1++x::Z2) R f (by simpa using hR) (by omega) (by rw[hl];omega) j1 (fun z hz=>by
   rcases List.mem_append.1 hz with hz | hz
   ·exact hp z (by simp[hz])
   ·rcases List.mem_cons.1 hz with rfl | hz
    ·exact hq z (by simp)
    ·exact hp z (by simp[hz])) (fun z hz=>hq z (by simp[hz]))
  refine ⟨M,?_,m2,?_⟩
  ·have e1:w64 (((a+(Z1++Z2).length:Nat):Int)+1)=((a+(Z1++x::Z2).length:Nat):Int):=by rw[QaM (by omega),hl];rfl
   have e2:A++Z1++x::(Z2++(R++B))=A++(Z1++x::Z2)++(R++B):=by simp
   simp only[iter,Qbk,oun,hlt,decide_true,cond_true,List.cons_append,k2,Option.bind_some,Yl,e1,e2,m1]
  ·refine Yc.trans (b:=(Z1++x::Z2)++R) ?_ m3;have:Z1++Z2++x::R=(Z1++Z2++[x])++R:=by simp
   rw[this]
   exact j2.append (Yc.refl R)
theorem V6 (hc: ∀x y,Pv x→Pv y→ ∃z,cmp x y=some z∧(z<0↔k x<k y)) {a b F:Nat} {A M B:List α} (hA:A.length=a) (hM:a+M.length=b) (hb:b≤1000000000) (hF:b+1<F) (hp: ∀z∈M,Pv z) :
  ∃M',QfP cmp F (A++M++B) a b=some (A++M'++B)∧Srt k M'∧Yc k M M':=by
 cases M with
 | nil =>
  refine ⟨[],?_,List.Pairwise.nil,Yc.refl _⟩;cases F with
  | zero=>omega
  | succ F =>
   have e1:w64 ((a:Int)+1)=((a+1:Nat):Int):=QaM (by simp at hM;omega);have: ¬(((a+1:Nat):Int)<(b:Int)):=by simp at hM;omega
   unfold QfP
   simp only[e1,iter,Qbk,oun,this,decide_false,cond_false,Option.bind_some,Yl]
 | cons x R =>
  obtain ⟨M',m1,m2,m3⟩:=Qbm (B:=B) hc hA hb (by omega:b<F) R.length [x] R F rfl (by simp at hM;omega) (by simp at hM ⊢;omega) (List.pairwise_singleton _ _) (fun z hz=>hp z (by simp at hz;simp[hz])) (fun z hz=>hp z (by simp[hz]));refine ⟨M',?_,m2,m3⟩;have e1:w64 ((a:Int)+1)=((a+[x].length:Nat):Int):=by rw[QaM (by simp at hM;omega)];rfl
  have e2:A++x::R++B=A++[x]++(R++B):=by simp
  unfold QfP
  rw[e1,e2,m1];rfl
theorem Qa3 {τ:Type} {body:τ→Option (τ⊕Int)} {mk:Nat→Nat→τ} {test:Nat→Bool} {i0 j0:Nat} (hb: ∀i j,i0≤i→i<j→j≤j0→body (mk i j)=some (.inl (bif test ((i+j)/2) then mk ((i+j)/2+1) j else mk i ((i+j)/2)))) (he: ∀i,i0≤i→i≤j0→body (mk i i)=some (.inr (i:Int)))
  (hm: ∀s t,i0≤s→s≤t→t<j0→test t=true→test s=true): ∀(n i j f:Nat),j-i≤n→n<f→i0≤i→i≤j→j≤j0→(∀t,i0≤t→t<i→test t=true)→(∀t,j≤t→t<j0→test t=false) →
  ∃r:Nat,iter body f (mk i j)=some (r:Int)∧i≤r∧r≤j∧(∀t,i0≤t→t<r→test t=true)∧ ∀t,r≤t→t<j0→test t=false
 | _,_,_,0,_,h,_,_,_,_,_=>by omega
 | n,i,j,f+1,hn,hf,h0,hij,hj,ht,hfa=>by
  by_cases hlt:i<j
  ·cases n with
   | zero=>omega
   | succ n =>
    have h1:=hb i j h0 hlt hj;cases hq:test ((i+j)/2) with
    | true =>
     rw[hq] at h1
     obtain ⟨r,k1,k2,k3,k4,k5⟩:=Qa3 hb he hm n ((i+j)/2+1) j f (by omega) (by omega) (by omega) (by omega) hj (fun t h2 h3=>hm t ((i+j)/2) h2 (by omega) (by omega) hq) hfa;refine ⟨r,?_,by omega,k3,k4,k5⟩
     rw[iter,h1]
     exact k1
    | false =>
     rw[hq] at h1
     obtain ⟨r,k1,k2,k3,k4,k5⟩:=Qa3 hb he hm n i ((i+j)/2) f (by omega) (by omega) h0 (by omega) (by omega) ht (fun t h2 h3=>by
      cases hq2:test t with
      | false=>rfl
      | true=>have:=hm ((i+j)/2) t (by omega) h2 h3 hq2;rw[hq] at this;cases this)
     refine ⟨r,?_,k2,by omega,k4,k5⟩
     rw[iter,h1]
     exact k1
  ·have:i=j:=by omega
   subst this;exact ⟨i,by rw[iter,he i h0 hj];rfl,Nat.le_refl _,Nat.le_refl _,ht,hfa⟩
theorem Qbq {a e:Nat} {A B:List α} {x:α}: ∀(n:Nat) (W V:List α) (f:Nat),V.length=n→n<f→A.length+W.length+n+1=e→e≤1000000000 →
  iter (QcH (α:=α) cmp (e:Int)) f (A++W++x::(V++B),((A.length+W.length:Nat):Int))=some (A++W++V++x::B)
 | _,_,_,0,_,h,_,_=>by omega
 | 0,W,V,f+1,hV,_,he,hb=>by
  have:V=[]:=List.eq_nil_of_length_eq_zero hV;subst this;have e1:w64 ((e:Int)-1)=((e-1:Nat):Int):=QdP (by omega) (by omega);have: ¬(((A.length+W.length:Nat):Int)<((e-1:Nat):Int)):=by omega
  simp only[iter,QcH,oun,e1,this,decide_false,cond_false,Option.bind_some,Yl,List.append_nil,List.nil_append]
 | n+1,W,[],f+1,hV,_,_,_=>by simp at hV
 | n+1,W,v::V,f+1,hV,hf,he,hb=>by
  have e1:w64 ((e:Int)-1)=((e-1:Nat):Int):=QdP (by omega) (by omega);have hlt:((A.length+W.length:Nat):Int)<((e-1:Nat):Int):=by omega
  have e2:w64 (((A.length+W.length:Nat):Int)+1)=((A.length+W.length+1:Nat):Int):=QaM (by omega);have g1:(A++W++x::(v::V++B))[A.length+W.length]? =some x:=Wf (by simp);have g2:(A++W++x::(v::V++B))[A.length+W.length+1]? =some v:=by
   have:A++W++x::(v::V++B)=(A++W++[x])++v::(V++B):=by simp
   rw[this];exact Wf (by simp;omega)
  have e3:((A++W++x::(v::V++B)).set (A.length+W.length) v).set (A.length+W.length+1) x=A++(W++[v])++x::(V++B):=by
   rw[List.set_append_right _ _ (by simp),List.set_append_right _ _ (by simp)]
   simp
  have g3:((A++W++x::(v::V++B)).set (A.length+W.length) v)[A.length+W.length+1]? =some v:=by
   rw[List.getElem?_set_ne (by omega)];exact g2
  have ih:=Qbq (a:=a) (e:=e) (A:=A) (B:=B) (x:=x) n (W++[v]) V f (by simpa using hV) (by omega) (by simp;omega) hb;have e4:((A.length+W.length+1:Nat):Int)=((A.length+(W++[v]).length:Nat):Int):=by simp;omega
  simp only[iter,QcH,oun,e1,hlt,decide_true,cond_true,e2,QA,WD,g1,g2,g3,e3,Option.bind_some,Yl]
  rw[e4,ih]
  simp
theorem Qcb {e:Nat} {A B:List α} {x:α} (hA:A.length=e): ∀(n:Nat) (U W:List α) (f:Nat),U.length=n→n<f→e+n≤1000000000 →
  iter (QcI (α:=α) cmp (e:Int)) f (A++U++x::(W++B),((e+n:Nat):Int))=some (A++x::(U++W++B))
 | _,_,_,0,_,h,_=>by omega
 | 0,U,W,f+1,hU,_,hb=>by
  have:U=[]:=List.eq_nil_of_length_eq_zero hU;subst this;have: ¬((e:Int)<((e+0:Nat):Int)):=by omega
  simp only[iter,QcI,oun,this,decide_false,cond_false,Option.bind_some,Yl,List.append_nil,List.nil_append]
 | n+1,U,W,f+1,hU,hf,hb=>by
  obtain ⟨U',u,rfl⟩: ∃U' u,U=U'++[u]:=by
   have:U≠[]:=by intro e;rw[e] at hU;simp at hU
   exact ⟨U.dropLast,U.getLast this,(List.dropLast_concat_getLast this).symm⟩
  have hl:U'.length=n:=by simpa using hU
  have e1:w64 (((e+(n+1):Nat):Int)-1)=((e+n:Nat):Int):=QdP (by omega) (by omega);have hlt:(e:Int)<((e+(n+1):Nat):Int):=by omega
  have e0:A++(U'++[u])++x::(W++B)=(A++U')++u::x::(W++B):=by simp
  have g1:(A++(U'++[u])++x::(W++B))[e+(n+1)]? =some x:=Wf (by simp[hA,hl]);have g2:(A++(U'++[u])++x::(W++B))[e+n]? =some u:=by rw[e0];exact Wf (by simp[hA,hl])
  have e2:((A++(U'++[u])++x::(W++B)).set (e+(n+1)) u).set (e+n) x=A++U'++x::((u::W)++B):=by
   rw[e0]
   exact QdL (by simp[hA,hl])
  have g3:((A++(U'++[u])++x::(W++B)).set (e+(n+1)) u)[e+n]? =some u:=by
   rw[List.getElem?_set_ne (by omega)];exact g2
  have ih:=Qcb (B:=B) (x:=x) hA n U' (u::W) f hl (by omega) (by omega)
  simp only[iter,QcI,oun,hlt,decide_true,cond_true,e1,QA,WD,g1,g2,g3,e2,Option.bind_some,Yl]
  rw[ih]
  simp
theorem QaT {A U B:List α} {a t:Nat} (hA:A.length=a) (h1:a≤t) (h2:t<a+U.length):(A++(U++B))[t]? =U[t-a]? :=by
 rw[List.getElem?_append_right (by omega),hA,List.getElem?_append_left (by omega)]
theorem JX {l:List α} (h:Srt k l) {i j:Nat} {x y:α} (hij:i≤j) (hx:l[i]? =some x) (hy:l[j]? =some y):k x≤k y:=by
 rcases Nat.lt_or_ge i j with h1 | h1
 ·have hj:=QF hy;have:=List.pairwise_iff_getElem.1 h i j (by omega) hj h1
  rw[List.getElem?_eq_getElem (by omega)] at hx hy
  injection hx with hx;injection hy with hy
  rw[←hx,←hy];exact this
 ·have:i=j:=by omega
  subst this
  rw[hx] at hy;injection hy with hy
  subst hy;exact Int.le_refl _
theorem Ve {l:List α} {n:Nat} {x:α} (h:x∈l.take n): ∃i,i<n∧l[i]? =some x:=by
 obtain ⟨i,hi⟩:=List.getElem?_of_mem h
 rw[List.getElem?_take] at hi
 split at hi
 ·exact ⟨i,by assumption,hi⟩
 ·cases hi
theorem Vd {l:List α} {n:Nat} {x:α} (h:x∈l.drop n): ∃i,n≤i∧l[i]? =some x:=by
 obtain ⟨i,hi⟩:=List.getElem?_of_mem h
 rw[List.getElem?_drop] at hi
 exact ⟨n+i,by omega,hi⟩
theorem QfU (hc: ∀x y,Pv x→Pv y→ ∃z,cmp x y=some z∧(z<0↔k x<k y)) {a b F:Nat} {A V B:List α} {x:α} (hA:A.length=a) (hV:a+1+V.length=b) (hb:b≤1000000000) (hF:b-a<F) (hs:Srt k V) (hx:Pv x) (hp: ∀z∈V,Pv z) (rec_:List α→Int→Int→Int→Option (List α)) :
  ∃M,QaD cmp rec_ F (A++([x]++(V++B))) a ((a+1:Nat):Int) b=some (A++(M++B))∧Srt k M∧Yc k ([x]++V) M:=by
 have hd:w64 (((a+1:Nat):Int)-(a:Int))=1:=by rw[Vo (by omega) (by omega)];omega
 have gx:(A++([x]++(V++B)))[a]? =some x:=Wf hA;have gv: ∀t,a+1≤t→t<b→ ∃v,(A++([x]++(V++B)))[t]? =some v∧V[t-(a+1)]? =some v:=by
  intro t h1 h2;have e:A++([x]++(V++B))=(A++[x])++(V++B):=by simp
  obtain ⟨v,hv⟩:=JY (L:=V) (i:=t-(a+1)) (by omega);exact ⟨v,by rw[e,QaT (a:=a+1) (by simp[hA]) h1 (by omega)];exact hv,hv⟩
 obtain ⟨r,k1,k2,k3,k4,k5⟩:=Qa3 (body:=Qbo cmp (A++([x]++(V++B))) (a:Int)) (mk:=fun i j=>((i:Int),(j:Int))) (test:=fun h=>match (A++([x]++(V++B)))[h]? with | some v=>decide (k v<k x) | none=>false) (i0:=a+1) (j0:=b) (fun i j h0 hij hj=>by
   obtain ⟨v,g1,g2⟩:=gv ((i+j)/2) (by omega) (by omega);obtain ⟨z,hz,hz2⟩:=hc v x (hp v (List.mem_of_getElem? g2)) hx;have hlt:(i:Int)<(j:Int):=by omega
   have hw:=QeQ (i:=i) (j:=j) (by omega);have hw1:w64 (((((i+j)/2:Nat):Int))+1)=(((i+j)/2+1:Nat):Int):=QaM (by omega);have hg:QP (0≤1∧1≤64)=some ():=YG (by decide)
   by_cases hk:k v<k x
   ·have hz0:=hz2.2 hk
    simp only[Qbo,oun,hlt,decide_true,cond_true,hg,Option.bind_some,hw,QA,g1,gx,hz,hz0,hk,hw1]
   ·have hz0: ¬z<0:=fun h=>hk (hz2.1 h)
    simp only[Qbo,oun,hlt,decide_true,cond_true,hg,Option.bind_some,hw,QA,g1,gx,hz,hz0,hk,decide_false,cond_false])
  (fun i h0 hj=>by simp only[Qbo,oun,Int.lt_irrefl,decide_false,cond_false])
  (fun s t h1 h2 h3 ht=>by
   obtain ⟨v,g1,g2⟩:=gv s h1 (by omega);obtain ⟨w,q1,q2⟩:=gv t (by omega) h3
   simp only[q1,g1,decide_eq_true_eq] at ht ⊢
   have:=JX hs (by omega:s-(a+1)≤t-(a+1)) g2 q2
   omega) (b-(a+1)) (a+1) b F (Nat.le_refl _) (by omega) (Nat.le_refl _) (by omega) (Nat.le_refl _) (fun t h1 h2=>by omega) (fun t h1 h2=>by omega)
 have hl:(V.take (r-(a+1))).length=r-(a+1):=by simp;omega
 have h1: ∀z∈V.take (r-(a+1)),k z<k x:=by
  intro z hz;obtain ⟨i,hi,hz⟩:=Ve hz;have h2:=k4 (a+1+i) (by omega) (by omega);obtain ⟨v,g1,g2⟩:=gv (a+1+i) (by omega) (by omega)
  simp only[g1,decide_eq_true_eq] at h2
  rw[show a+1+i-(a+1)=i by omega,hz] at g2
  injection g2 with g2;subst g2;exact h2
 have h2: ∀z∈V.drop (r-(a+1)),k x≤k z:=by
  intro z hz;obtain ⟨i,hi,hz⟩:=Vd hz;have hlt:=QF hz;have h2:=k5 (a+1+i) (by omega) (by omega);obtain ⟨v,g1,g2⟩:=gv (a+1+i) (by omega) (by omega)
  simp only[g1,decide_eq_false_iff_not] at h2
  rw[show a+1+i-(a+1)=i by omega,hz] at g2
  injection g2 with g2;subst g2;omega
 have hvs:V=V.take (r-(a+1))++V.drop (r-(a+1)):=(List.take_append_drop _ _).symm;refine ⟨V.take (r-(a+1))++x::V.drop (r-(a+1)),?_,?_,?_⟩
 ·have key:=Qbq (cmp:=cmp) (a:=a) (e:=r) (A:=A) (B:=V.drop (r-(a+1))++B) (x:=x) (r-(a+1)) [] (V.take (r-(a+1))) F hl (by omega) (by simp;omega) (by omega);have e1:A++([x]++(V++B))=A++[]++x::(V.take (r-(a+1))++(V.drop (r-(a+1))++B)):=by
   rw[←List.append_assoc (V.take _),←hvs];simp
  have e2:((a:Nat):Int)=((A.length+([]:List α).length:Nat):Int):=by simp[hA]
  unfold QaD
  simp only[hd,decide_true,cond_true,k1,Option.bind_some]
  rw[e1]
  conv=>lhs;rw[e2]
  rw[key]
  simp
 ·have:=hs
  rw[hvs] at this
  have hp2:=List.pairwise_append.1 this;refine List.pairwise_append.2 ⟨hp2.1,List.pairwise_cons.2 ⟨h2,hp2.2.1⟩,fun y hy z hz=> ?_⟩;have:=h1 y hy;rcases List.mem_cons.1 hz with rfl | hz
  ·omega
  ·have:=h2 z hz;omega
 ·conv=>lhs;rw[hvs,←List.append_assoc]
  have:V.take (r-(a+1))++x::V.drop (r-(a+1))=(V.take (r-(a+1))++[x])++V.drop (r-(a+1)):=by simp
  rw[this]
  refine Yc.append (Yc.swap fun u hu v hv=> ?_) (Yc.refl _)
  simp only[List.mem_singleton] at hu;subst hu;exact h1 v hv
end
end Go.Proofs.Ytfdjjdhnfaklbaa
namespace Go.Proofs.Ytfdjjdhnfaklbaa
set_option linter.unusedSimpArgs false
set_option linter.unusedVariables false
set_option maxHeartbeats 1000000
section
variable {α:Type} {k:α→Int} {cmp:α→α→Option Int} {Pv:α→Prop}
theorem Qe2 (hc: ∀x y,Pv x→Pv y→ ∃z,cmp x y=some z∧(z<0↔k x<k y)) {a m F:Nat} {A U B:List α} {y:α} (hA:A.length=a) (hU:a+U.length=m) (h2:2≤U.length) (hb:m+1≤1000000000) (hF:m+1-a<F) (hs:Srt k U) (hy:Pv y) (hp: ∀z∈U,Pv z) (rec_:List α→Int→Int→Int→Option (List α)) :
  ∃M,QaD cmp rec_ F (A++(U++([y]++B))) a m ((m+1:Nat):Int)=some (A++(M++B))∧Srt k M∧Yc k (U++[y]) M:=by
 have hd1: ¬w64 ((m:Int)-(a:Int))=1:=by rw[Vo (by omega) (by omega)];omega
 have hd:w64 (((m+1:Nat):Int)-(m:Int))=1:=by rw[Vo (by omega) (by omega)];omega
 have gy:(A++(U++([y]++B)))[m]? =some y:=by
  have:A++(U++([y]++B))=(A++U)++y::B:=by simp
  rw[this];exact Wf (by simp[hA,hU])
 have gu: ∀t,a≤t→t<m→ ∃v,(A++(U++([y]++B)))[t]? =some v∧U[t-a]? =some v:=by
  intro t h1 h2;obtain ⟨v,hv⟩:=JY (L:=U) (i:=t-a) (by omega);exact ⟨v,by rw[QaT hA h1 (by omega)];exact hv,hv⟩
 obtain ⟨r,k1,k2,k3,k4,k5⟩:=Qa3 (body:=Qbp cmp (A++(U++([y]++B))) (m:Int)) (mk:=fun i j=>((i:Int),(j:Int))) (test:=fun h=>match (A++(U++([y]++B)))[h]? with | some v=>decide (¬k y<k v) | none=>false) (i0:=a) (j0:=m) (fun i j h0 hij hj=>by
   obtain ⟨v,g1,g2⟩:=gu ((i+j)/2) (by omega) (by omega);obtain ⟨z,hz,hz2⟩:=hc y v hy (hp v (List.mem_of_getElem? g2));have hlt:(i:Int)<(j:Int):=by omega
   have hw:=QeQ (i:=i) (j:=j) (by omega);have hw1:w64 (((((i+j)/2:Nat):Int))+1)=(((i+j)/2+1:Nat):Int):=QaM (by omega);have hg:QP (0≤1∧1≤64)=some ():=YG (by decide)
   by_cases hk:k y<k v
   ·have hz0:=hz2.2 hk
    simp only[Qbp,oun,hlt,decide_true,cond_true,hg,Option.bind_some,hw,QA,g1,gy,hz,hz0,hk,hw1,Bool.not_true,cond_false,not_true_eq_false,decide_false]
   ·have hz0: ¬z<0:=fun h=>hk (hz2.1 h)
    simp only[Qbp,oun,hlt,decide_true,cond_true,hg,Option.bind_some,hw,QA,g1,gy,hz,hz0,hk,decide_false,cond_false,Bool.not_false,not_false_eq_true,hw1])
  (fun i h0 hj=>by simp only[Qbp,oun,Int.lt_irrefl,decide_false,cond_false])
  (fun s t h1 h2 h3 ht=>by
   obtain ⟨v,g1,g2⟩:=gu s h1 (by omega);obtain ⟨w,q1,q2⟩:=gu t (by omega) h3
   simp only[q1,g1,decide_eq_true_eq] at ht ⊢
   have:=JX hs (by omega:s-a≤t-a) g2 q2
   omega) (m-a) a m F (Nat.le_refl _) (by omega) (Nat.le_refl _) (by omega) (Nat.le_refl _) (fun t h1 h2=>by omega) (fun t h1 h2=>by omega)
 have hl:(U.take (r-a)).length=r-a:=by simp;omega
 have h1: ∀z∈U.take (r-a),k z≤k y:=by
  intro z hz;obtain ⟨i,hi,hz⟩:=Ve hz;have h2:=k4 (a+i) (by omega) (by omega);obtain ⟨v,g1,g2⟩:=gu (a+i) (by omega) (by omega)
  simp only[g1,decide_eq_true_eq] at h2
  rw[show a+i-a=i by omega,hz] at g2
  injection g2 with g2;subst g2;omega
 have h2: ∀z∈U.drop (r-a),k y<k z:=by
  intro z hz;obtain ⟨i,hi,hz⟩:=Vd hz;have hlt:=QF hz;have h2:=k5 (a+i) (by omega) (by omega);obtain ⟨v,g1,g2⟩:=gu (a+i) (by omega) (by omega)
  simp only[g1,decide_eq_false_iff_not,Classical.not_not] at h2
  rw[show a+i-a=i by omega,hz] at g2
  injection g2 with g2;subst g2;exact h2
 have hus:U=U.take (r-a)++U.drop (r-a):=(List.take_append_drop _ _).symm;obtain ⟨j1,j2⟩:=Qdo (x:=y) (by rw[←hus];exact hs) h2 h1;refine ⟨U.take (r-a)++y::U.drop (r-a),?_,j1,by rw[←hus] at j2;exact j2⟩;have key:=Qcb (cmp:=cmp) (e:=r) (A:=A++U.take (r-a)) (B:=B) (x:=y) (by simp[hA];omega) (U.drop (r-a)).length (U.drop (r-a)) [] F rfl (by simp;omega) (by simp;omega);have e1:A++(U++([y]++B))=A++U.take (r-a)++U.drop (r-a)++y::([]++B):=by
  rw[List.append_assoc A,←hus];simp
 have e2:((m:Nat):Int)=((r+(U.drop (r-a)).length:Nat):Int):=by simp;omega
 unfold QaD
 simp only[hd1,hd,decide_false,cond_false,decide_true,cond_true,k1,Option.bind_some]
 rw[e1]
 conv=>lhs;rw[e2]
 rw[key]
 simp
theorem QdM {s a m b:Nat} {rec_:List α→Int→Int→Int→Option (List α)} (hr: ∀(A U V B:List α) (a m b:Nat),A.length=a→a+U.length=m→m+V.length=b→1≤U.length→1≤V.length→b≤1000000000→(A++(U++(V++B))).length≤1000000000000→b-a≤s→Srt k U→Srt k V→(∀z∈U,Pv z)→(∀z∈V,Pv z)→ ∃M,rec_ (A++(U++(V++B))) a m b=some (A++(M++B))∧Srt k M∧Yc k (U++V) M) {A U V B:List α} (hA:A.length=a) (hU:a+U.length=m) (hV:m+V.length=b) (hb:b≤1000000000) (hl:(A++(U++(V++B))).length≤1000000000000) (hs:b-a≤s) (su:Srt k U) (sv:Srt k V) (pu: ∀z∈U,Pv z) (pv: ∀z∈V,Pv z) :
  ∃v M,(bif (decide ((a:Int)<(m:Int))) then some (decide ((m:Int)<(b:Int))) else some false)=some v∧(bif v then Option.bind (rec_ (A++(U++(V++B))) a m b) fun r=>some r else some (A++(U++(V++B))))=some (A++(M++B))∧Srt k M∧Yc k (U++V) M:=by
 by_cases h1:a<m
 ·have h1':(a:Int)<(m:Int):=by omega
  by_cases h2:m<b
  ·have h2':(m:Int)<(b:Int):=by omega
   obtain ⟨M,k1,k2,k3⟩:=hr A U V B a m b hA hU hV (by omega) (by omega) hb hl hs su sv pu pv;refine ⟨true,M,?_,?_,k2,k3⟩
   ·simp only[h1',h2',decide_true,cond_true]
   ·simp only[cond_true,k1,Option.bind_some]
  ·have h2': ¬(m:Int)<(b:Int):=by omega
   have:V=[]:=List.eq_nil_of_length_eq_zero (by omega);subst this;refine ⟨false,U,?_,?_,su,by rw[List.append_nil];exact Yc.refl U⟩
   ·simp only[h1',h2',decide_true,cond_true,decide_false]
   ·simp only[cond_false,List.nil_append]
 ·have h1': ¬(a:Int)<(m:Int):=by omega
  have:U=[]:=List.eq_nil_of_length_eq_zero (by omega);subst this;refine ⟨false,V,?_,?_,sv,Yc.refl V⟩
  ·simp only[h1',decide_false,cond_false]
  ·simp only[cond_false,List.nil_append]
theorem QbJ {l:List α} (h:Srt k l) (n:Nat):Srt k (l.take n):=List.Pairwise.sublist (List.take_sublist n l) h
theorem QbI {l:List α} (h:Srt k l) (n:Nat):Srt k (l.drop n):=List.Pairwise.sublist (List.drop_sublist n l) h
theorem Qgo {l:List α} (h:Srt k l) {n:Nat} {x y:α} (hx:x∈l.take n) (hy:y∈l.drop n):k x≤k y:=by
 obtain ⟨i,hi,hx⟩:=Ve hx;obtain ⟨j,hj,hy⟩:=Vd hy;exact JX h (by omega) hx hy
theorem QgY (hc: ∀x y,Pv x→Pv y→ ∃z,cmp x y=some z∧(z<0↔k x<k y)) {F a m b:Nat}
  {A U V B:List α} (hA:A.length=a) (hU:a+U.length=m) (hV:m+V.length=b) (hu:2≤U.length) (hv:2≤V.length) (hb:b≤1000000000) (hF:b-a<F) (su:Srt k U) (sv:Srt k V) (pu: ∀z∈U,Pv z) (pv: ∀z∈V,Pv z) :
  ∃st r0 r e:Nat,(bif (decide ((((a+b)/2:Nat):Int)<(m:Int))) then some ((((a+b)/2:Nat):Int),(((a+b)/2+m:Nat):Int),w64 ((((a+b)/2+m:Nat):Int)-(b:Int)),(((a+b)/2:Nat):Int)) else some ((((a+b)/2:Nat):Int),(((a+b)/2+m:Nat):Int),(a:Int),(m:Int)))=some ((((a+b)/2:Nat):Int),(((a+b)/2+m:Nat):Int),(st:Int),(r0:Int)) ∧
   iter (Qan cmp (A++(U++(V++B)))) F ((st:Int),(r0:Int),(((a+b)/2+m-1:Nat):Int))=some (r:Int)∧a≤r∧r≤m∧e+r=(a+b)/2+m∧m≤e∧e≤b∧a<(a+b)/2∧(a+b)/2<b∧(∀x∈U.take (r-a),∀y∈V.drop (e-m),k x≤k y)∧(∀x∈U.drop (r-a),∀y∈V.take (e-m),k y<k x):=by
 have hg:QP (0≤1∧1≤64)=some ():=YG (by decide)
 generalize hm:(a+b)/2=mid
 obtain ⟨st,r0,hst,hst1,hst2,hst3⟩: ∃st r0:Nat,(bif (decide ((mid:Int)<(m:Int))) then some ((mid:Int),((mid+m:Nat):Int),w64 (((mid+m:Nat):Int)-(b:Int)),(mid:Int)) else some ((mid:Int),((mid+m:Nat):Int),(a:Int),(m:Int)))=some ((mid:Int),((mid+m:Nat):Int),(st:Int),(r0:Int))∧a≤st∧st≤r0∧((mid<m∧st+b=mid+m∧r0=mid)∨(m≤mid∧st=a∧r0=m)):=by
  by_cases h:mid<m
  ·have h':(mid:Int)<(m:Int):=by omega
   refine ⟨mid+m-b,mid,?_,by omega,by omega,.inl ⟨h,by omega,rfl⟩⟩
   simp only[h',decide_true,cond_true,Vo (by omega:b≤mid+m) (by omega)]
  ·have h': ¬(mid:Int)<(m:Int):=by omega
   refine ⟨a,m,?_,Nat.le_refl _,by omega,.inr ⟨by omega,rfl,rfl⟩⟩
   simp only[h',decide_false,cond_false]
 have gu: ∀t,a≤t→t<m→ ∃v,(A++(U++(V++B)))[t]? =some v∧U[t-a]? =some v:=by
  intro t h1 h2;obtain ⟨v,hv⟩:=JY (L:=U) (i:=t-a) (by omega);exact ⟨v,by rw[QaT hA h1 (by omega)];exact hv,hv⟩
 have gv: ∀t,m≤t→t<b→ ∃v,(A++(U++(V++B)))[t]? =some v∧V[t-m]? =some v:=by
  intro t h1 h2;obtain ⟨v,hv⟩:=JY (L:=V) (i:=t-m) (by omega);have e:A++(U++(V++B))=(A++U)++(V++B):=by simp
  exact ⟨v,by rw[e,QaT (a:=m) (by simp[hA,hU]) h1 (by omega)];exact hv,hv⟩
 obtain ⟨r,k1,k2,k3,k4,k5⟩:=Qa3 (body:=Qan cmp (A++(U++(V++B)))) (mk:=fun i j=>((i:Int),(j:Int),((mid+m-1:Nat):Int))) (test:=fun h=>match (A++(U++(V++B)))[mid+m-1-h]?,(A++(U++(V++B)))[h]? with | some v,some u=>decide (¬k v<k u) | _,_=>false) (i0:=st) (j0:=r0) (fun i j h0 hij hj=>by
   obtain ⟨u,u1,u2⟩:=gu ((i+j)/2) (by omega) (by omega);obtain ⟨v,v1,v2⟩:=gv (mid+m-1-(i+j)/2) (by omega) (by omega);obtain ⟨z,hz,hz2⟩:=hc v u (pv v (List.mem_of_getElem? v2)) (pu u (List.mem_of_getElem? u2));have hlt:(i:Int)<(j:Int):=by omega
   have hw:=QeQ (i:=i) (j:=j) (by omega);have hw1:w64 (((((i+j)/2:Nat):Int))+1)=(((i+j)/2+1:Nat):Int):=QaM (by omega);have hw2:w64 (((mid+m-1:Nat):Int)-(((i+j)/2:Nat):Int))=((mid+m-1-(i+j)/2:Nat):Int):=Vo (by omega) (by omega)
   by_cases hk:k v<k u
   ·have hz0:=hz2.2 hk
    simp only[Qan,oun,hlt,decide_true,cond_true,hg,Option.bind_some,hw,hw2,QA,u1,v1,hz,hz0,hk,hw1,Bool.not_true,cond_false,not_true_eq_false,decide_false]
   ·have hz0: ¬z<0:=fun h=>hk (hz2.1 h)
    simp only[Qan,oun,hlt,decide_true,cond_true,hg,Option.bind_some,hw,hw2,QA,u1,v1,hz,hz0,hk,decide_false,cond_false,Bool.not_false,not_false_eq_true,hw1])
  (fun i h0 hj=>by simp only[Qan,oun,Int.lt_irrefl,decide_false,cond_false])
  (fun s t h1 h2 h3 ht=>by
   obtain ⟨u,u1,u2⟩:=gu s (by omega) (by omega);obtain ⟨v,v1,v2⟩:=gv (mid+m-1-s) (by omega) (by omega);obtain ⟨u',u1',u2'⟩:=gu t (by omega) (by omega);obtain ⟨v',v1',v2'⟩:=gv (mid+m-1-t) (by omega) (by omega)
   simp only[u1,v1,u1',v1',decide_eq_true_eq] at ht ⊢
   have h4:=JX su (by omega:s-a≤t-a) u2 u2';have h5:=JX sv (by omega:mid+m-1-t-m≤mid+m-1-s-m) v2' v2
   omega) (r0-st) st r0 F (Nat.le_refl _) (by omega) (Nat.le_refl _) (by omega) (Nat.le_refl _) (fun t h1 h2=>by omega) (fun t h1 h2=>by omega)
 generalize he:mid+m-r=e
 have hme:m≤e:=by omega
 have heb:e≤b:=by omega
 have hi: ∀x∈U.take (r-a),∀y∈V.drop (e-m),k x≤k y:=by
  intro x hx y hy;obtain ⟨i,hi,hx⟩:=Ve hx;obtain ⟨j,hj,hy⟩:=Vd hy;have hj2:=QF hy
  by_cases hrs:r=st
  ·omega
  ·have ht:=k4 (r-1) (by omega) (by omega);obtain ⟨u,u1,u2⟩:=gu (r-1) (by omega) (by omega);obtain ⟨v,v1,v2⟩:=gv (mid+m-1-(r-1)) (by omega) (by omega)
   simp only[u1,v1,decide_eq_true_eq] at ht
   have h4:=JX su (by omega:i≤r-1-a) hx u2;have h5:=JX sv (by omega:mid+m-1-(r-1)-m≤j) v2 hy
   omega
 have hii: ∀x∈U.drop (r-a),∀y∈V.take (e-m),k y<k x:=by
  intro x hx y hy;obtain ⟨i,hi,hx⟩:=Vd hx;obtain ⟨j,hj,hy⟩:=Ve hy;have hi2:=QF hx
  by_cases hrs:r=r0
  ·omega
  ·have ht:=k5 r (by omega) (by omega);obtain ⟨u,u1,u2⟩:=gu r (by omega) (by omega);obtain ⟨v,v1,v2⟩:=gv (mid+m-1-r) (by omega) (by omega)
   simp only[u1,v1,decide_eq_false_iff_not,Classical.not_not] at ht
   have h4:=JX su (by omega:r-a≤i) u2 hx;have h5:=JX sv (by omega:j≤mid+m-1-r-m) hy v2
   omega
 exact ⟨st,r0,r,e,hst,k1,by omega,by omega,by omega,hme,heb,by omega,by omega,hi,hii⟩
theorem Qe3 (hc: ∀x y,Pv x→Pv y→ ∃z,cmp x y=some z∧(z<0↔k x<k y)) {s F a m b:Nat} {rec_:List α→Int→Int→Int→Option (List α)} (hr: ∀(A U V B:List α) (a m b:Nat),A.length=a→a+U.length=m→m+V.length=b→1≤U.length→1≤V.length→b≤1000000000→(A++(U++(V++B))).length≤1000000000000→b-a≤s→Srt k U→Srt k V→(∀z∈U,Pv z)→(∀z∈V,Pv z)→ ∃M,rec_ (A++(U++(V++B))) a m b=some (A++(M++B))∧Srt k M∧Yc k (U++V) M)
  {A U V B:List α} (hA:A.length=a) (hU:a+U.length=m) (hV:m+V.length=b) (hu:2≤U.length) (hv:2≤V.length) (hb:b≤1000000000) (hl:(A++(U++(V++B))).length≤1000000000000) (hs:b-a≤s+1) (hF:b-a<F) (su:Srt k U) (sv:Srt k V) (pu: ∀z∈U,Pv z) (pv: ∀z∈V,Pv z) :
  ∃M,QaD cmp rec_ F (A++(U++(V++B))) a m b=some (A++(M++B))∧Srt k M∧Yc k (U++V) M:=by
 have hd1: ¬w64 ((m:Int)-(a:Int))=1:=by rw[Vo (by omega) (by omega)];omega
 have hd2: ¬w64 ((b:Int)-(m:Int))=1:=by rw[Vo (by omega) (by omega)];omega
 have hg:QP (0≤1∧1≤64)=some ():=YG (by decide);obtain ⟨st,r0,r,e,hst,k1,r1,r2,he,hme,heb,hm1,hm2,hi,hii⟩:=QgY (B:=B) hc hA hU hV hu hv hb hF su sv pu pv
 generalize hm:(a+b)/2=mid at *
 have hw:w64 ((IntKind.u64.wrap (w64 ((a:Int)+(b:Int))))/2^(1:Int).toNat)=(mid:Int):=by rw[QeQ (by omega),hm]
 have hn:w64 ((mid:Int)+(m:Int))=((mid+m:Nat):Int):=QbZ (by omega);have hp:w64 (((mid+m:Nat):Int)-1)=((mid+m-1:Nat):Int):=QdP (by omega) (by omega);have hend:w64 (((mid+m:Nat):Int)-(r:Int))=(e:Int):=by rw[Vo (by omega) (by omega)];omega
 have l1:(U.take (r-a)).length=r-a:=by simp;omega
 have l2:(U.drop (r-a)).length=m-r:=by simp;omega
 have l3:(V.take (e-m)).length=e-m:=by simp;omega
 have l4:(V.drop (e-m)).length=b-e:=by simp;omega
 have hus:U.take (r-a)++U.drop (r-a)=U:=List.take_append_drop _ _;have hvs:V.take (e-m)++V.drop (e-m)=V:=List.take_append_drop _ _
 generalize hU1:U.take (r-a)=U1 at *
 generalize hU2:U.drop (r-a)=U2 at *
 generalize hV1:V.take (e-m)=V1 at *
 generalize hV2:V.drop (e-m)=V2 at *
 have s1:Srt k U1:=by rw[←hU1];exact QbJ su _
 have s2:Srt k U2:=by rw[←hU2];exact QbI su _
 have s3:Srt k V1:=by rw[←hV1];exact QbJ sv _
 have s4:Srt k V2:=by rw[←hV2];exact QbI sv _
 have c1: ∀x∈U1,∀y∈U2,k x≤k y:=fun x hx y hy=>by rw[←hU1] at hx;rw[←hU2] at hy;exact Qgo su hx hy
 have c2: ∀x∈V1,∀y∈V2,k x≤k y:=fun x hx y hy=>by rw[←hV1] at hx;rw[←hV2] at hy;exact Qgo sv hx hy
 have p1: ∀z∈U1,Pv z:=fun z hz=>pu z (by rw[←hus];simp[hz]);have p2: ∀z∈U2,Pv z:=fun z hz=>pu z (by rw[←hus];simp[hz]);have p3: ∀z∈V1,Pv z:=fun z hz=>pv z (by rw[←hvs];simp[hz]);have p4: ∀z∈V2,Pv z:=fun z hz=>pv z (by rw[←hvs];simp[hz]);have hmid:a+U1.length+V1.length=mid:=by omega
 obtain ⟨w0,hr1,hr2⟩: ∃v,(bif (decide ((r:Int)<(m:Int))) then some ((e:Int),(decide ((m:Int)<(e:Int)))) else some ((e:Int),false))=some ((e:Int),v) ∧
   (bif v then Option.bind (QgG F (A++(U++(V++B))) r m e) fun r6=>some r6 else some (A++(U++(V++B))))=some (A++(U1++(V1++(U2++(V2++B))))):=by
  by_cases h1:r<m
  ·have h1':(r:Int)<(m:Int):=by omega
   by_cases h2:m<e
   ·have h2':(m:Int)<(e:Int):=by omega
    obtain ⟨L',q1,q2,q3⟩:=QgH (L:=A++(U++(V++B))) (a:=r) (m:=m) (b:=e) (F:=F) h1 h2 (by simp;omega) hl (by omega);have e0:A++(U++(V++B))=(A++U1)++(U2++(V1++(V2++B))):=by rw[←hus,←hvs];simp
    have:=QgR (A:=A++U1) (U:=U2) (V:=V1) (B:=V2++B) (L':=L') (m:=m) (by simp;omega) (fun t=>by rw[q3 t,e0,l2,l3]);refine ⟨true,by simp only[h1',h2',decide_true,cond_true],?_⟩
    simp only[cond_true,Option.bind_some,q1,this]
    simp
   ·have h2': ¬(m:Int)<(e:Int):=by omega
    have:V1=[]:=List.eq_nil_of_length_eq_zero (by omega);refine ⟨false,by simp only[h1',h2',decide_true,cond_true,decide_false],?_⟩
    rw[cond_false,←hus,←hvs,this];simp
  ·have h1': ¬(r:Int)<(m:Int):=by omega
   have:U2=[]:=List.eq_nil_of_length_eq_zero (by omega);refine ⟨false,by simp only[h1',decide_false,cond_false],?_⟩
   rw[cond_false,←hus,←hvs,this];simp
 obtain ⟨w1,M1,a1,a2,a3,a4⟩:=QdM hr (A:=A) (U:=U1) (V:=V1) (B:=U2++(V2++B)) (a:=a) (m:=r) (b:=mid) hA (by omega) (by omega) (by omega) (by rw[←hus,←hvs] at hl;simp at hl ⊢;omega) (by omega) s1 s3 p1 p3;have lM:M1.length=U1.length+V1.length:=by rw[←a4.perm.length_eq];simp
 obtain ⟨w2,M2,b1,b2,b3,b4⟩:=QdM hr (A:=A++M1) (U:=U2) (V:=V2) (B:=B) (a:=mid) (m:=e) (b:=b) (by simp;omega) (by omega) (by omega) (by omega) (by rw[←hus,←hvs] at hl;simp at hl ⊢;omega) (by omega) s2 s4 p2 p4;refine ⟨M1++M2,?_,?_,?_⟩
 ·have e1:A++(M1++(U2++(V2++B)))=(A++M1)++(U2++(V2++B)):=by simp
  unfold QaD
  simp only[hd1,hd2,decide_false,cond_false,hg,Option.bind_some,hw,hn,hst,oun,hp,k1,hend,hr1,hr2,a1,a2,b1]
  rw[e1]
  simp only[b2,Option.bind_some]
  simp
 ·refine List.pairwise_append.2 ⟨a3,b3,fun x hx y hy=> ?_⟩;have hx:=a4.perm.symm.subset hx;have hy:=b4.perm.symm.subset hy;rcases List.mem_append.1 hx with hx | hx<;>rcases List.mem_append.1 hy with hy | hy
  ·exact c1 x hx y hy
  ·exact hi x hx y hy
  ·have:=hii y hy x hx;omega
  ·exact c2 x hx y hy
 ·rw[←hus,←hvs]
  have e1:U1++U2++(V1++V2)=U1++(U2++V1)++V2:=by simp
  have e2:U1++(V1++U2)++V2=(U1++V1)++(U2++V2):=by simp
  rw[e1]
  refine Yc.trans (b:=(U1++V1)++(U2++V2)) ?_ (a4.append b4)
  rw[←e2]
  exact ((Yc.refl U1).append (Yc.swap hii)).append (Yc.refl V2)
theorem QcJ (hc: ∀x y,Pv x→Pv y→ ∃z,cmp x y=some z∧(z<0↔k x<k y)): ∀(F:Nat) (A U V B:List α) (a m b:Nat),A.length=a→a+U.length=m→m+V.length=b→1≤U.length→1≤V.length→b≤1000000000→(A++(U++(V++B))).length≤1000000000000→2*(b-a)+4≤F→Srt k U→Srt k V→(∀z∈U,Pv z)→(∀z∈V,Pv z) →
  ∃M,Qdl cmp F (A++(U++(V++B))) a m b=some (A++(M++B))∧Srt k M∧Yc k (U++V) M
 | 0,_,_,_,_,_,_,_,_,_,_,_,_,_,_,h,_,_,_,_=>by omega
 | F+1,A,U,V,B,a,m,b,hA,hU,hV,hu,hv,hb,hl,hF,su,sv,pu,pv=>by
  by_cases h1:U.length=1
  ·obtain ⟨x,rfl⟩:=List.length_eq_one_iff.1 h1;have:m=a+1:=by simp at hU;omega
   subst this;exact QfU hc hA (by omega) hb (by omega) sv (pu x (by simp)) pv _
  ·by_cases h2:V.length=1
   ·obtain ⟨y,rfl⟩:=List.length_eq_one_iff.1 h2;have:b=m+1:=by simp at hV;omega
    subst this;exact Qe2 hc hA hU (by omega) hb (by omega) su (pv y (by simp)) pu _
   ·exact Qe3 (s:=b-a-1) hc (fun A U V B a m b hA hU hV hu hv hb hl hs su sv pu pv=>QcJ hc F A U V B a m b hA hU hV hu hv hb hl (by omega) su sv pu pv) hA hU hV (by omega) (by omega) hb hl (by omega) (by omega) su sv pu pv
end
end Go.Proofs.Ytfdjjdhnfaklbaa
namespace Go.Proofs.Ytfdjjdhnfaklbaa
set_option linter.unusedSimpArgs false
set_option linter.unusedVariables false
set_option maxHeartbeats 1000000
section
variable {α:Type} {k:α→Int} {cmp:α→α→Option Int} {Pv:α→Prop}
def Blk (k:α→Int) (s:Nat) (l:List α):Prop:= ∀i,Srt k ((l.drop (i*s)).take s)
theorem Blk.nil (s:Nat):Blk k s []:=fun i=>by simp[Srt]
theorem Blk.append {s q:Nat} {D M:List α} (h:Blk k s D) (hd:D.length=q*s) (hm:Srt k M) (hl:M.length≤s):Blk k s (D++M):=fun i=>by
 by_cases hi:i<q
 ·have h1:i*s+s≤q*s:=by rw[←Nat.succ_mul];exact Nat.mul_le_mul_right s hi
  rw[List.drop_append_of_le_length (by omega),List.take_append_of_le_length (by simp;omega)]
  exact h i
 ·have h1:q*s≤i*s:=Nat.mul_le_mul_right s (by omega);have:(D++M).drop (i*s)=M.drop (i*s-D.length):=by rw[List.drop_append,List.drop_eq_nil_of_le (by omega),List.nil_append]
  rw[this]
  exact QbJ (QbI hm _) _
theorem Blk.drop {s:Nat} {R:List α} (h:Blk k s R) (j:Nat):Blk k s (R.drop (j*s)):=fun i=>by
 rw[List.drop_drop,←Nat.add_mul]
 exact h _
theorem Blk.all {s:Nat} {R:List α} (h:Blk k s R) (hl:R.length≤s):Srt k R:=by
 have:=h 0
 rwa [Nat.zero_mul,List.drop_zero,List.take_of_length_le hl] at this
theorem Yc.mem {l l':List α} (h:Yc k l l') (hp: ∀z∈l,Pv z): ∀z∈l',Pv z:=fun z hz=>hp z (h.perm.symm.subset hz)
theorem QfR (hc: ∀x y,Pv x→Pv y→ ∃z,cmp x y=some z∧(z<0↔k x<k y)) {n F:Nat} (hn:n≤100000000) (hF:n+1<F): ∀(r q:Nat) (D R:List α) (f:Nat),R.length<r→r<f→D.length=q*20→D.length+R.length=n→Blk k 20 D→(∀z∈R,Pv z) →
  ∃D' R' q',iter (Qey cmp F (n:Int)) f (D++R,(D.length:Int),((D.length+20:Nat):Int))=some (D'++R',(D'.length:Int))∧R'.length<20∧D'.length=q'*20∧D'.length+R'.length=n∧Blk k 20 D'∧(∀z∈R',Pv z)∧Yc k (D++R) (D'++R')
 | _,_,_,_,0,_,h,_,_,_,_=>by omega
 | 0,_,_,_,_,h,_,_,_,_,_=>by omega
 | r+1,q,D,R,f+1,hR,hf,hq,hl,hb,hp=>by
  by_cases h:D.length+20≤n
  ·have h':((D.length+20:Nat):Int)≤(n:Int):=by omega
   have l1:(R.take 20).length=20:=by simp;omega
   obtain ⟨M,m1,m2,m3⟩:=V6 (k:=k) (B:=R.drop 20) hc (a:=D.length) (b:=D.length+20) (F:=F) (A:=D) (M:=R.take 20) rfl (by omega) (by omega) (by omega) (fun z hz=>hp z (List.mem_of_mem_take hz));have lM:M.length=20:=by rw[←m3.perm.length_eq];exact l1
   have e0:D++R=D++R.take 20++R.drop 20:=by simp
   have lD:(D++M).length=D.length+20:=by simp;omega
   obtain ⟨D',R',q',k1,k2,k3,k4,k5,k6,k7⟩:=QfR hc hn hF r (q+1) (D++M) (R.drop 20) f (by simp;omega) (by omega) (by omega) (by simp;omega) (hb.append hq m2 (by omega)) (fun z hz=>hp z (List.mem_of_mem_drop hz));refine ⟨D',R',q',?_,k2,k3,k4,k5,k6,Yc.trans ?_ k7⟩
   ·have e1:w64 (((D.length+20:Nat):Int)+20)=(((D++M).length+20:Nat):Int):=by rw[lD];exact QbZ (b:=20) (by omega)
    rw[lD] at k1 e1
    rw[e0]
    simp only[iter,Qey,oun,h',decide_true,cond_true,m1,Option.bind_some,Yl,e1,k1]
   ·conv=>lhs;rw[e0]
    exact ((Yc.refl D).append m3).append (Yc.refl _)
  ·have h': ¬((D.length+20:Nat):Int)≤(n:Int):=by omega
   refine ⟨D,R,q,?_,by omega,hq,hl,hb,hp,Yc.refl _⟩
   simp only[iter,Qey,oun,h',decide_false,cond_false,Option.bind_some,Yl]
theorem QfS (hc: ∀x y,Pv x→Pv y→ ∃z,cmp x y=some z∧(z<0↔k x<k y)) {n F s:Nat} (hn:n≤100000000) (hF:2*n+4≤F) (hs:1≤s) (hs2:s≤n): ∀(r q:Nat) (D R:List α) (f:Nat),R.length<r→r<f→D.length=q*(2*s)→D.length+R.length=n→Blk k (2*s) D→Blk k s R→(∀z∈R,Pv z) →
  ∃D' R' q',iter (Qdj cmp F (n:Int) (s:Int)) f (D++R,(D.length:Int),((D.length+2*s:Nat):Int))=some (D'++R',(D'.length:Int))∧R'.length<2*s∧D'.length=q'*(2*s)∧D'.length+R'.length=n∧Blk k (2*s) D'∧Blk k s R'∧(∀z∈R',Pv z)∧Yc k (D++R) (D'++R')
 | _,_,_,_,0,_,h,_,_,_,_,_=>by omega
 | 0,_,_,_,_,h,_,_,_,_,_,_=>by omega
 | r+1,q,D,R,f+1,hR,hf,hq,hl,hb,hb2,hp=>by
  have e2:w64 (2*(s:Int))=((2*s:Nat):Int):=by rw[Q9 (by omega) (by omega)];omega
  by_cases h:D.length+2*s≤n
  ·have h':((D.length+2*s:Nat):Int)≤(n:Int):=by omega
   have l1:(R.take s).length=s:=by simp;omega
   have l2:((R.drop s).take s).length=s:=by simp;omega
   have e0:R=R.take s++((R.drop s).take s++R.drop (2*s)):=by
    rw[show 2*s=s+s by omega,←List.drop_drop,List.take_append_drop,List.take_append_drop]
   have s1:Srt k (R.take s):=by have:=hb2 0;rwa [Nat.zero_mul,List.drop_zero] at this
   have s2:Srt k ((R.drop s).take s):=by have:=hb2 1;rwa [Nat.one_mul] at this
   obtain ⟨M,m1,m2,m3⟩:=QcJ (k:=k) hc F D (R.take s) ((R.drop s).take s) (R.drop (2*s)) D.length (D.length+s) (D.length+2*s) rfl (by omega) (by omega) (by omega) (by omega) (by omega) (by simp;omega) (by omega) s1 s2 (fun z hz=>hp z (List.mem_of_mem_take hz)) (fun z hz=>hp z (List.mem_of_mem_drop (List.mem_of_mem_take hz)))
   rw[←e0] at m1
   have lM:M.length=2*s:=by rw[←m3.perm.length_eq];simp;omega
   have lD:(D++M).length=D.length+2*s:=by simp;omega
   obtain ⟨D',R',q',k1,k2,k3,k4,k5,k6,k7,k8⟩:=QfS hc hn hF hs hs2 r (q+1) (D++M) (R.drop (2*s)) f (by simp;omega) (by omega) (by rw[lD,Nat.add_mul q 1 (2*s),Nat.one_mul];omega) (by simp;omega) (hb.append hq m2 (by omega)) (hb2.drop 2) (fun z hz=>hp z (List.mem_of_mem_drop hz));refine ⟨D',R',q',?_,k2,k3,k4,k5,k6,k7,Yc.trans ?_ k8⟩
   ·have e1:w64 (((D.length+2*s:Nat):Int)+((2*s:Nat):Int))=(((D.length+2*s)+2*s:Nat):Int):=QbZ (by omega);have e3:w64 ((D.length:Int)+(s:Int))=((D.length+s:Nat):Int):=QbZ (by omega)
    rw[lD,List.append_assoc] at k1
    simp only[iter,Qdj,oun,h',decide_true,cond_true,e3,m1,Option.bind_some,Yl,e2,e1,k1]
   ·conv=>lhs;rw[e0]
    rw[List.append_assoc,←List.append_assoc (R.take s)]
    exact (Yc.refl D).append (m3.append (Yc.refl _))
  ·have h': ¬((D.length+2*s:Nat):Int)≤(n:Int):=by omega
   refine ⟨D,R,q,?_,by omega,hq,hl,hb,hb2,hp,Yc.refl _⟩
   simp only[iter,Qdj,oun,h',decide_false,cond_false,Option.bind_some,Yl]
theorem QfT (hc: ∀x y,Pv x→Pv y→ ∃z,cmp x y=some z∧(z<0↔k x<k y)) {n F:Nat} (hn:n≤100000000) (hF:2*n+4≤F): ∀(r s:Nat) (L:List α) (f:Nat),n<s+r→r<f→1≤s→s≤2*n+20→L.length=n→Blk k s L→(∀z∈L,Pv z) →
  ∃L',iter (Qca cmp F (n:Int)) f (L,(s:Int))=some L'∧Srt k L'∧Yc k L L'
 | _,_,_,0,_,h,_,_,_,_,_=>by omega
 | r,s,L,f+1,hr,hf,hs,hs2,hl,hb,hp=>by
  by_cases h:s<n
  ·cases r with
   | zero=>omega
   | succ r =>
   have h':(s:Int)<(n:Int):=by omega
   obtain ⟨D,R,q,k1,k2,k3,k4,k5,k6,k7,k8⟩:=QfS (k:=k) hc hn hF hs (by omega) (L.length+1) 0 [] L F (by omega) (by omega) (by simp) (by simpa using hl) (Blk.nil _) hb hp
   simp only[List.nil_append,List.length_nil,Nat.zero_add] at k1 k8
   rw[show ((0:Nat):Int)=0 from rfl] at k1
   have e2:w64 (2*(s:Int))=((2*s:Nat):Int):=by rw[Q9 (by omega) (by omega)];omega
   have e3:w64 ((D.length:Int)+(s:Int))=((D.length+s:Nat):Int):=QbZ (by omega);have e4:w64 ((s:Int)*2)=((2*s:Nat):Int):=by rw[Q9 (by omega) (by omega)];omega
   obtain ⟨M,m1,m2,m3⟩: ∃M,(bif (decide (((D.length+s:Nat):Int)<(n:Int))) then
     Option.bind (Qdl cmp F (D++R) D.length ((D.length+s:Nat):Int) n) fun r4=>some r4 else some (D++R))=some (D++M)∧Srt k M∧Yc k R M:=by
    by_cases h2:D.length+s<n
    ·have h2':((D.length+s:Nat):Int)<(n:Int):=by omega
     have e0:R=R.take s++(R.drop s++[]):=by simp
     have s1:Srt k (R.take s):=by have:=k6 0;rwa [Nat.zero_mul,List.drop_zero] at this
     have s2:Srt k (R.drop s):=Blk.all (s:=s) (by have h:=k6.drop 1;rw[Nat.one_mul] at h;exact h) (by simp;omega);obtain ⟨M,m1,m2,m3⟩:=QcJ (k:=k) hc F D (R.take s) (R.drop s) [] D.length (D.length+s) n rfl (by simp;omega) (by simp;omega) (by simp;omega) (by simp;omega) (by omega) (by simp;omega) (by omega) s1 s2 (fun z hz=>k7 z (List.mem_of_mem_take hz)) (fun z hz=>k7 z (List.mem_of_mem_drop hz))
     rw[←e0,List.append_nil] at m1
     refine ⟨M,?_,m2,by rw[List.take_append_drop] at m3;exact m3⟩
     simp only[h2',decide_true,cond_true,m1,Option.bind_some]
    ·have h2': ¬((D.length+s:Nat):Int)<(n:Int):=by omega
     exact ⟨R,by simp only[h2',decide_false,cond_false],k6.all (by omega),Yc.refl _⟩
   have st:Yc k L (D++M):=k8.trans ((Yc.refl D).append m3);have lM:M.length=R.length:=m3.perm.length_eq.symm;obtain ⟨L',j1,j2,j3⟩:=QfT hc hn hF r (2*s) (D++M) f (by omega) (by omega) (by omega) (by omega) (by simp;omega) (k5.append k3 m2 (by omega)) (st.mem hp);refine ⟨L',?_,j2,st.trans j3⟩
   simp only[iter,Qca,oun,h',decide_true,cond_true,e2,k1,Option.bind_some,e3,m1,Yl,e4,j1]
  ·have h': ¬(s:Int)<(n:Int):=by omega
   refine ⟨L,?_,hb.all (by omega),Yc.refl _⟩
   simp only[iter,Qca,oun,h',decide_false,cond_false,Option.bind_some,Yl]
theorem QfQ (hc: ∀x y,Pv x→Pv y→ ∃z,cmp x y=some z∧(z<0↔k x<k y)) {F:Nat} {L:List α} (hn:L.length≤100000000) (hF:2*L.length+30≤F) (hp: ∀z∈L,Pv z) :
  ∃L',Qex cmp F L=some L'∧Srt k L'∧Yc k L L':=by
 obtain ⟨D,R,q,k1,k2,k3,k4,k5,k6,k7⟩:=QfR (k:=k) hc (n:=L.length) (F:=F) hn (by omega) (L.length+1) 0 [] L F (by omega) (by omega) (by simp) (by simp) (Blk.nil _) hp
 simp only[List.nil_append,List.length_nil,Nat.zero_add] at k1 k7
 obtain ⟨M,m1,m2,m3⟩:=V6 (k:=k) (B:=[]) hc (a:=D.length) (b:=L.length) (F:=F) (A:=D) (M:=R) rfl (by omega) (by omega) (by omega) k6
 rw[List.append_nil,List.append_nil] at m1
 have st:Yc k L (D++M):=k7.trans ((Yc.refl D).append m3);have lM:M.length=R.length:=m3.perm.length_eq.symm;obtain ⟨L',j1,j2,j3⟩:=QfT (k:=k) hc (n:=L.length) (F:=F) hn (by omega) (L.length+1) 20 (D++M) F (by omega) (by omega) (by omega) (by omega) (by simp;omega) (k5.append k3 m2 (by omega)) (st.mem hp);refine ⟨L',?_,j2,st.trans j3⟩;have z1:((0:Nat):Int)=0:=rfl;have z2:((20:Nat):Int)=20:=rfl
 rw[z1,z2] at k1
 rw[z2] at j1
 unfold Qex gSt
 simp only[k1,oun,Option.bind_some,m1,j1]
end
end Go.Proofs.Ytfdjjdhnfaklbaa
namespace Go.Proofs.Ytfdjjdhnfaklbaa
set_option linter.unusedSimpArgs false
set_option linter.unusedVariables false
theorem QeM (b2:List Int): ∀(F:Nat) (d:List Int) (a m b:Int),Qy F d a m b b2=Qdl (fun x y=>Ya x y b2) F d a m b
 | 0,_,_,_,_=>rfl
 | F+1,d,a,m,b=>by
  show YF (Qy F) F d a m b b2=QaD _ (Qdl _ F) F d a m b
  have e:Qdl (fun x y=>Ya x y b2) F=fun d a m b=>Qy F d a m b b2:=by
   funext d a m b
   exact (QeM b2 F d a m b).symm
  rw[e]
  rfl
theorem Qgl (b2:List Int) (F:Nat) (d:List Int):QV F d b2=Qex (fun x y=>Ya x y b2) F d:=by
 unfold QV Qex Yn gSt;have e3:Q7 F ((d.length:Nat):Int) b2=Qca (fun x y=>Ya x y b2) F ((d.length:Nat):Int):=by
  funext s
  unfold Q7 Qca YK Qdj
  simp only[QeM]
 rw[e3]
 rfl
theorem QfO {c W:Int} (hW:0<W): ∀(l:List Int),W*QC (fun w=>c*w/W) l≤c*QC (fun w=>w) l∧c*QC (fun w=>w) l≤W*QC (fun w=>c*w/W) l+(l.length:Int)*(W-1)
 | []=>by simp
 | w::l=>by
  obtain ⟨h1,h2⟩:=QfO (c:=c) hW l;have e1:=Int.mul_ediv_add_emod (c*w) W;have e2:=Int.emod_nonneg (c*w) (Int.ne_of_gt hW);have e3:=Int.emod_lt_of_pos (c*w) hW
  simp only[Yr,List.length_cons]
  rw[Int.mul_add,Int.mul_add,show (((l.length+1:Nat):Int))=(l.length:Int)+1 by omega,Int.add_mul,Int.one_mul]
  omega
theorem QgI {c W:Int} {l:List Int} (hW:0<W) (hs:QC (fun w=>w) l=W) (hn:1≤l.length):0≤c-QC (fun w=>c*w/W) l∧c-QC (fun w=>c*w/W) l<l.length:=by
 obtain ⟨h1,h2⟩:=QfO (c:=c) hW l
 rw[hs] at h1 h2
 refine ⟨?_,?_⟩
 ·have h3:W*QC (fun w=>c*w/W) l≤W*c:=by rw[Int.mul_comm W c];exact h1
  have:=Int.le_of_mul_le_mul_left h3 hW
  omega
 ·have h3:W*(c-QC (fun w=>c*w/W) l)<W*(l.length:Int):=by
   rw[Int.mul_sub,Int.mul_comm W c,Int.mul_comm W (l.length:Int)]
   rw[Int.mul_sub] at h2
   omega
  exact Int.lt_of_mul_lt_mul_left h3 (Int.le_of_lt hW)
end Go.Proofs.Ytfdjjdhnfaklbaa
namespace Go.Proofs.Ytfdjjdhnfaklbaa
set_option linter.unusedSimpArgs false
set_option linter.unusedVariables false
section
variable {c W:Int} {ws:List Int}
def flo (c W w:Int):Int:=c*w/W
def rmd (c W w:Int):Int:=c*w%W
theorem QbG (A:List Int) (m:Nat) (k:Nat) (h:A.length=k):Qp (A++List.replicate (m+1) 0) (k:Int)=some 0:=by
 subst h
 rw[QA,List.getElem?_append_right (Nat.le_refl _)]
 simp
theorem QbH (A:List Int) (m:Nat) (k:Nat) (v:Int) (h:A.length=k):YV (A++List.replicate (m+1) 0) (k:Int) v=(A++[v])++List.replicate m 0:=by
 subst h
 rw[WD,List.set_append_right _ _ (Nat.le_refl _)]
 simp[List.replicate_succ]
def st1 (c W:Int) (ws:List Int) (k:Nat):List Int×List Int×List Int×Int :=
 ((ws.take k).map (flo c W)++List.replicate (ws.length-k) 0,(ws.take k).map (rmd c W)++List.replicate (ws.length-k) 0,(List.range k).map (fun (i:Nat)=>(i:Int))++List.replicate (ws.length-k) 0,c-QC (flo c W) (ws.take k))
theorem QfN (hW:0<W) (h0:0≤c) {w:Int} (w0:0≤w) (w1:w≤W):0≤flo c W w∧flo c W w≤c:=by
 refine ⟨Int.ediv_nonneg (Int.mul_nonneg h0 w0) (Int.le_of_lt hW),?_⟩;have h1:=Int.mul_le_mul_of_nonneg_left w1 h0;have h2:flo c W w≤c*W/W:=Int.ediv_le_ediv hW h1
 rw[Int.mul_ediv_cancel _ (Int.ne_of_gt hW)] at h2
 exact h2
theorem Qfg {F:Nat} (hF:3≤F) (hW:0<W) (hW2:W≤1125899906842624) (h0:0≤c) (h1:c≤1000000000000) {w:Int} (w0:0≤w) (w1:w≤W) :
  ∃a b,JE (IntKind.u64.wrap c) (IntKind.u64.wrap w)=some (a,b)∧JD F a b (IntKind.u64.wrap W)=some (flo c W w,rmd c W w):=by
 rw[ZO h0 (by omega),ZO w0 (by omega),ZO (x:=W) (by omega) (by omega),Qfr h0 (by omega) w0 (by omega)]
 refine ⟨_,_,rfl,?_⟩;have hp:=Int.mul_nonneg h0 w0;have hp2:c*w≤1000000000000*W:=Int.mul_le_mul h1 w1 w0 (by omega)
 rw[Qfo hF (by omega) (by omega) (by omega) (by omega) (by omega)]
 rw[show c*w/18446744073709551616*18446744073709551616+c*w%18446744073709551616=c*w by omega]
 rfl
theorem Qgm {F:Nat} (hF:3≤F) (hW:0<W) (hW2:W≤1125899906842624) (h0:0≤c) (h1:c≤1000000000000) (hn:ws.length≤512) (hw: ∀w∈ws,0≤w∧w≤W) :
  iter (Zx F c ws W) (((ws.length:Nat):Int).toNat+1) (List.replicate ws.length 0,List.replicate ws.length 0,List.replicate ws.length 0,c,0)=some (ws.map (flo c W),ws.map (rmd c W),(List.range ws.length).map (fun (i:Nat)=>(i:Int)),c-QC (flo c W) ws):=by
 obtain ⟨o,e,rfl⟩:=YL ws (fun (s:List Int×List Int×List Int×Int) k=>(s.1,s.2.1,s.2.2.1,s.2.2.2,k)) (body:=Zx F c ws W) (fun s k=>s=st1 c W ws k) (fun o=>o=(ws.map (flo c W),ws.map (rmd c W),(List.range ws.length).map (fun (i:Nat)=>(i:Int)),c-QC (flo c W) ws))
  (by
   rintro k x s hx rfl;have hk:=QF hx;obtain ⟨w0,w1⟩:=hw x (List.mem_of_getElem? hx);obtain ⟨a,b,d1,d2⟩:=Qfg hF hW hW2 h0 h1 w0 w1;obtain ⟨f0,f1⟩:=QfN hW h0 w0 w1;have hs:=JR (f:=flo c W) (B:=1000000000000) (l:=ws.take k) (fun w hh=>by
    obtain ⟨v0,v1⟩:=hw w (List.mem_of_mem_take hh);obtain ⟨g0,g1⟩:=QfN hW h0 v0 v1
    omega)
   have hl:(ws.take k).length=k:=WL (by omega)
   rw[hl] at hs
   have hr0:=Int.emod_nonneg (c*x) (Int.ne_of_gt hW);have hr1:=Int.emod_lt_of_pos (c*x) hW;obtain ⟨m,hm⟩: ∃m,ws.length-k=m+1:=⟨ws.length-k-1,by omega⟩
   refine .inl ⟨st1 c W ws (k+1),?_,rfl⟩;unfold Zx
   simp only[oun,st1]
   rw[decide_eq_true (show (k:Int)<(ws.length:Nat) by omega),cond_true,QA ws,hx,Option.bind_some,hm,QbG _ m k (by simp),Option.bind_some,decide_eq_true hW,cond_true,d1,Option.bind_some]
   simp only[]
   rw[d2,Option.bind_some]
   simp only[]
   rw[QbG _ m k (by simp;omega),Option.bind_some,QbG _ m k (by simp;omega),Option.bind_some,QbH _ m k _ (by simp;omega),QbH _ m k _ (by simp;omega),QbH _ m k _ (by simp),Option.bind_some]
   simp only[]
   have hg:Qp (List.map (flo c W) (List.take k ws)++[w64 (flo c W x)]++List.replicate m 0) (k:Int)=some (flo c W x):=by
    rw[QA,List.append_assoc,List.getElem?_append_right (by simp;omega),Q9 (by omega) (by omega),List.length_map,hl,Nat.sub_self]
    rfl
   rw[hg,Option.bind_some,Q9 (n:=flo c W x) (by omega) (by omega),Q9 (n:=rmd c W x) (by unfold rmd;omega) (by unfold rmd;omega),Yo (by omega),Q9 (by omega) (by omega),VV _ hx,ZI hx,List.map_append,List.map_append,List.range_succ,List.map_append,show ws.length-(k+1)=m by omega,show c-QC (flo c W) (ws.take k)-flo c W x=c-(QC (flo c W) (ws.take k)+flo c W x) by omega]
   rfl)
  (by
   rintro s rfl;refine ⟨_,?_,rfl⟩;unfold Zx
   simp only[oun,st1]
   rw[decide_eq_false (by omega),cond_false]
   simp) (((ws.length:Nat):Int).toNat+1) (st1 c W ws 0) rfl (by omega)
 simpa [st1] using e
end
end Go.Proofs.Ytfdjjdhnfaklbaa
namespace Go.Proofs.Ytfdjjdhnfaklbaa
set_option linter.unusedSimpArgs false
set_option linter.unusedVariables false
theorem QeO (v:Int): ∀(l:List Int) (i:Nat) (p:Int),l[i]? =some p→QC (fun w=>w) (l.set i v)=QC (fun w=>w) l+v-p
 | [],i,p,h=>by simp at h
 | a::l,0,p,h=>by simp at h;subst h;simp;omega
 | a::l,i+1,p,h=>by
  have:=QeO v l i p (by simpa using h)
  simp only[List.set_cons_succ,Yr,this];omega
theorem Qgn {l4 parts:List Int} (hl:l4.length≤512) (h4: ∀i∈l4,0≤i∧i<parts.length) (hp: ∀p∈parts,0≤p∧p≤1000000000000) :
  ∃q,iter (Zy l4) (((l4.length:Nat):Int).toNat+1) (parts,0)=some q∧q.length=parts.length∧(∀p∈q,0≤p)∧QC (fun w=>w) q=QC (fun w=>w) parts+l4.length:=by
 obtain ⟨
     o,e,h⟩:=YL l4 (fun (s:List Int) k=>(s,k)) (body:=Zy l4) (fun s k=>s.length=parts.length∧(∀p∈s,0≤p∧p≤1000000000000+(k:Int))∧QC (fun w=>w) s=QC (fun w=>w) parts+k) (fun q=>q.length=parts.length∧(∀p∈q,0≤p)∧QC (fun w=>w) q=QC (fun w=>w) parts+l4.length)
  (by
   intro k x s hx ⟨i1,i2,i3⟩;have hk:=QF hx;obtain ⟨x0,x1⟩:=h4 x (List.mem_of_getElem? hx);obtain ⟨i,rfl⟩: ∃i:Nat,x=i:=⟨x.toNat,by omega⟩
   obtain ⟨p,hp1⟩: ∃p,s[i]? =some p:=⟨s[i]'(by omega),by simp⟩
   obtain ⟨p0,p1⟩:=i2 p (List.mem_of_getElem? hp1);refine .inl ⟨s.set i (p+1),?_,by simp[i1],?_,?_⟩
   ·unfold Zy
    simp only[oun]
    rw[decide_eq_true (show (k:Int)<(l4.length:Nat) by omega),cond_true,QA,hx,Option.bind_some,QA,hp1,Option.bind_some,Option.bind_some,WD,Yo (by omega),Q9 (by omega) (by omega)]
   ·intro q hq;rcases List.mem_or_eq_of_mem_set hq with hq | rfl
    ·obtain ⟨q0,q1⟩:=i2 q hq
     omega
    ·omega
   ·rw[QeO _ _ _ _ hp1,i3];omega)
  (by
   intro s ⟨i1,i2,i3⟩;refine ⟨s,?_,i1,fun p hp=>(i2 p hp).1,i3⟩;unfold Zy
   simp only[oun]
   rw[decide_eq_false (by omega),cond_false]) (((l4.length:Nat):Int).toNat+1) parts ⟨rfl,fun p hh=>by have:=hp p hh;omega,by simp⟩ (by omega)
 exact ⟨o,e,h⟩
theorem QfC {F:Nat} (hF:2000≤F) {c:Int} {ws:List Int} (h0:0<c) (h1:c≤1000000000000) (hn:1≤ws.length) (hn2:ws.length≤512) (hw: ∀w∈ws,0≤w∧w≤1125899906842624) (hs:QC (fun w=>w) ws≤1125899906842624) (hs0:0<QC (fun w=>w) ws) :
  ∃parts,JQ F c ws=some (parts,0)∧parts.length=ws.length∧(∀p∈parts,0≤p)∧QC (fun w=>w) parts=c:=by
 obtain ⟨W,hW⟩: ∃W,W=QC (fun w=>w) ws:=⟨_,rfl⟩
 have hmem: ∀(l:List Int),(∀w∈l,0≤w)→ ∀w∈l,w≤QC (fun w=>w) l:=by
  intro l
  induction l with
  | nil=>intro _ w hw;cases hw
  | cons a l ih =>
   intro hp w hw;have hl:=ih (fun w h=>hp w (by simp[h]));have h0:0≤QC (fun w=>w) l:=by
    have:=Qag (f:=fun _:Int=>0) (g:=fun w=>w) (l:=l) (fun w h=>hp w (by simp[h]))
    rw[WS] at this;exact this
   rw[Yr]
   rcases List.mem_cons.1 hw with rfl | h
   ·omega
   ·have:=hl w h;have:=hp a (by simp);omega
 have hwW: ∀w∈ws,0≤w∧w≤W:=fun w h=>⟨(hw w h).1,by rw[hW];exact hmem ws (fun w h=>(hw w h).1) w h⟩
 have hWp:0<W:=by omega
 have L1:=Qgm (F:=F) (c:=c) (W:=W) (ws:=ws) (by omega) hWp (by omega) (by omega) h1 hn2 hwW;obtain ⟨g0,g1⟩:=QgI (c:=c) (W:=W) (l:=ws) hWp hW.symm hn;obtain ⟨left,hleft⟩: ∃n:Nat,c-QC (flo c W) ws=n:=⟨(c-QC (flo c W) ws).toNat,by
  have:0≤c-QC (flo c W) ws:=g0
  omega⟩
 have hlt:left<ws.length:=by
  have:c-QC (flo c W) ws<ws.length:=g1
  omega
 have hrm: ∀r∈ws.map (rmd c W),0≤r∧r<W:=by
  intro r hr;obtain ⟨w,_,rfl⟩:=List.mem_map.1 hr;exact ⟨Int.emod_nonneg _ (Int.ne_of_gt hWp),Int.emod_lt_of_pos _ hWp⟩
 obtain ⟨O,o1,o2,o3⟩:=QfQ (α:=Int) (cmp:=fun x y=>Ya x y (ws.map (rmd c W))) (k:=fun i=> -((ws.map (rmd c W))[i.toNat]?.getD 0)) (Pv:=fun i=>0≤i∧i<ws.length) (F:=F) (L:=(List.range ws.length).map (fun (i:Nat)=>(i:Int)))
  (fun x y hx hy=>by
   obtain ⟨i,rfl⟩: ∃i:Nat,x=i:=⟨x.toNat,by omega⟩
   obtain ⟨j,rfl⟩: ∃j:Nat,y=j:=⟨y.toNat,by omega⟩
   obtain ⟨a,ha⟩: ∃a,(ws.map (rmd c W))[i]? =some a:=⟨_,List.getElem?_eq_getElem (by simp;omega)⟩
   obtain ⟨b,hb⟩: ∃b,(ws.map (rmd c W))[j]? =some b:=⟨_,List.getElem?_eq_getElem (by simp;omega)⟩
   obtain ⟨a0,a1⟩:=hrm a (List.mem_of_getElem? ha);obtain ⟨b0,b1⟩:=hrm b (List.mem_of_getElem? hb);refine ⟨b-a,?_,?_⟩
   ·unfold Ya
    rw[QA,QA,hb,ha,Option.bind_some,Option.bind_some,Q9 (by omega) (by omega)]
   ·simp only[Int.toNat_natCast,ha,hb,Option.getD_some];omega) (by simp;omega) (by simp;omega)
  (fun i hi=>by
   obtain ⟨j,hj,rfl⟩:=List.mem_map.1 hi;have:=List.mem_range.1 hj
   omega)
 have hOl:O.length=ws.length:=by rw[←o3.perm.length_eq];simp
 have hOm: ∀i∈O,0≤i∧i<ws.length:=fun i hi=>by
  obtain ⟨j,hj,rfl⟩:=List.mem_map.1 (o3.perm.symm.subset hi);have:=List.mem_range.1 hj
  omega
 have hsub:QaS O 0 (left:Int)=some (O.take left):=by
  unfold QaS
  rw[if_pos ⟨Int.le_refl _,by omega,by omega⟩]
  simp
 obtain ⟨q,q1,q2,q3,q4⟩:=Qgn (l4:=O.take left) (parts:=ws.map (flo c W)) (by simp;omega) (fun i hi=>by rw[List.length_map];exact hOm i (List.mem_of_mem_take hi)) (fun p hp=>by
  obtain ⟨w,hw',rfl⟩:=List.mem_map.1 hp;obtain ⟨v0,v1⟩:=hwW w hw';obtain ⟨f0,f1⟩:=QfN (c:=c) hWp (by omega) v0 v1
  omega)
 refine ⟨q,?_,by rw[q2,List.length_map],q3,?_⟩
 ·unfold JQ
  rw[decide_eq_false (show ¬c<0 by omega),cond_false,decide_eq_false (show ¬70368744177664<c by omega),Option.bind_some,cond_false,Qek hn hn2 hw hs,Option.bind_some]
  simp only[oun]
  rw[show (!decide True)=false from by simp,cond_false,←hW,decide_eq_false (show ¬W=0 by omega),cond_false,Option.bind_some,cond_false]
  have hm:VC (0:Int) ((ws.length:Nat):Int)=some (List.replicate ws.length 0):=by
   unfold VC
   rw[if_pos ⟨by omega,by omega⟩]
   simp
  rw[hm]
  simp only[Option.bind_some,oun]
  rw[L1]
  simp only[Option.bind_some,oun]
  rw[Qgl,o1,Option.bind_some,hleft,hsub,Option.bind_some,q1,Option.bind_some]
 ·rw[q4,List.length_take,hOl]
  have e:QC (fun w=>w) (ws.map (flo c W))=QC (flo c W) ws:=by simp[QC,List.map_map,Function.comp_def]
  rw[e]
  omega
end Go.Proofs.Ytfdjjdhnfaklbaa
namespace Go.Proofs.Ytfdjjdhnfaklbaa
set_option linter.unusedSimpArgs false
set_option linter.unusedVariables false
theorem Qa7 {α:Type} (xs:List α) {body:Int→Option (Int⊕(Unit⊕Int))} (P:α→Prop) (hn:xs.length<9223372036854775807)
  (hb: ∀(k:Nat) (x:α),xs[k]? =some x→(P x∧body (k:Int)=some (.inl (w64 ((k:Int)+1))))∨ ∃e,e≠0∧body (k:Int)=some (.inr (.inr e)))
  (hf:body (xs.length:Int)=some (.inr (.inl ()))): ∃o,iter body (((xs.length:Nat):Int).toNat+1) 0=some o∧((o= .inl ()∧ ∀x∈xs,P x)∨ ∃e,o= .inr e∧e≠0):=by
 obtain ⟨
     o,e,h⟩:=YL xs (fun (_:Unit) k=>k) (body:=body) (fun _ k=> ∀x∈xs.take k,P x) (fun o=>(o= .inl ()∧ ∀x∈xs,P x)∨ ∃e,o= .inr e∧e≠0)
  (by
   intro k x s hx hI;have hk:=QF hx;rcases hb k x hx with ⟨h1,h2⟩ | ⟨e,h1,h2⟩
   ·refine .inl ⟨(),?_,?_⟩
    ·rw[h2,Yo (by omega)]
    ·intro y hy
     rw[ZI hx] at hy
     rcases List.mem_append.1 hy with hy | hy
     ·exact hI y hy
     ·simp at hy;subst hy;exact h1
   ·exact .inr ⟨_,h2,.inr ⟨e,rfl,h1⟩⟩)
  (by
   intro s hI;refine ⟨_,hf,.inl ⟨rfl,?_⟩⟩
   rw[List.take_length] at hI
   exact hI) (((xs.length:Nat):Int).toNat+1) () (by simp) (by omega)
 exact ⟨o,e,h⟩
structure CkP (costs mod:List Int) (x:Qa):Prop where
 p0:0≤x.Producer
 p1:x.Producer<mod.length
 m0:0≤x.Material
 m1:x.Material<costs.length
 g0:0≤x.Grams
 g1:x.Grams≤1073741824
theorem Qif {xs:List Int} (hn:xs.length<9223372036854775807): ∃o,iter (Jt xs) (((xs.length:Nat):Int).toNat+1) 0=some o∧((o= .inl ()∧ ∀x∈xs,0≤x∧x≤1000000000000)∨ ∃e,o= .inr e∧e≠0) :=
 Qa7 xs _ hn (fun k x hx=>by
  have hk:=QF hx;unfold Jt
  rw[decide_eq_true (show (k:Int)<(xs.length:Nat) by omega),cond_true,QA,hx,Option.bind_some]
  by_cases h1:x<0
  ·rw[decide_eq_true h1];exact .inr ⟨1,by decide,rfl⟩
  by_cases h2:1000000000000<x
  ·rw[decide_eq_false h1,decide_eq_true h2];exact .inr ⟨1,by decide,rfl⟩
  rw[decide_eq_false h1,decide_eq_false h2]
  exact .inl ⟨⟨by omega,by omega⟩,rfl⟩) (by unfold Jt;rw[decide_eq_false (by omega),cond_false])
theorem Qig {xs:List Int} (hn:xs.length<9223372036854775807): ∃o,iter (Ju xs) (((xs.length:Nat):Int).toNat+1) 0=some o∧((o= .inl ()∧ ∀x∈xs,1≤x∧x≤10000)∨ ∃e,o= .inr e∧e≠0) :=
 Qa7 xs _ hn (fun k x hx=>by
  have hk:=QF hx;unfold Ju
  rw[decide_eq_true (show (k:Int)<(xs.length:Nat) by omega),cond_true,QA,hx,Option.bind_some]
  by_cases h1:x<1
  ·rw[decide_eq_true h1];exact .inr ⟨1,by decide,rfl⟩
  by_cases h2:10000<x
  ·rw[decide_eq_false h1,decide_eq_true h2];exact .inr ⟨1,by decide,rfl⟩
  rw[decide_eq_false h1,decide_eq_false h2]
  exact .inl ⟨⟨by omega,by omega⟩,rfl⟩) (by unfold Ju;rw[decide_eq_false (by omega),cond_false])
theorem Qih {costs mod:List Int} {xs:List Qa} (hn:xs.length<9223372036854775807): ∃o,iter (Jv costs xs mod) (((xs.length:Nat):Int).toNat+1) 0=some o∧((o= .inl ()∧ ∀x∈xs,CkP costs mod x)∨ ∃e,o= .inr e∧e≠0) :=
 Qa7 xs _ hn (fun k x hx=>by
  have hk:=QF hx;unfold Jv
  rw[decide_eq_true (show (k:Int)<(xs.length:Nat) by omega),cond_true,QA,hx,Option.bind_some]
  by_cases h1:x.Producer<0
  ·rw[decide_eq_true h1];exact .inr ⟨7,by decide,rfl⟩
  by_cases h2:((mod.length:Nat):Int)≤x.Producer
  ·rw[decide_eq_false h1,decide_eq_true h2];exact .inr ⟨7,by decide,rfl⟩
  by_cases h3:x.Material<0
  ·rw[decide_eq_false h1,decide_eq_false h2,decide_eq_true h3];exact .inr ⟨18,by decide,rfl⟩
  by_cases h4:((costs.length:Nat):Int)≤x.Material
  ·rw[decide_eq_false h1,decide_eq_false h2,decide_eq_false h3,decide_eq_true h4];exact .inr ⟨18,by decide,rfl⟩
  by_cases h5:x.Grams<0
  ·rw[decide_eq_false h1,decide_eq_false h2,decide_eq_false h3,decide_eq_false h4,decide_eq_true h5];exact .inr ⟨1,by decide,rfl⟩
  by_cases h6:1073741824<x.Grams
  ·rw[decide_eq_false h1,decide_eq_false h2,decide_eq_false h3,decide_eq_false h4,decide_eq_false h5,decide_eq_true h6];exact .inr ⟨1,by decide,rfl⟩
  rw[decide_eq_false h1,decide_eq_false h2,decide_eq_false h3,decide_eq_false h4,decide_eq_false h5,decide_eq_false h6]
  exact .inl ⟨⟨by omega,by omega,by omega,by omega,by omega,by omega⟩,rfl⟩) (by unfold Jv;rw[decide_eq_false (by omega),cond_false])
theorem Qii {xs:List Qa} (hn:xs.length<9223372036854775807): ∃o,iter (ZX xs) (((xs.length:Nat):Int).toNat+1) ([],0)=some o∧(o= .inl ()∨ ∃e,o= .inr e∧e≠0) :=
 YL xs (fun (s:List (Za×Bool)) k=>(s,k)) (body:=ZX xs) (fun _ _=>True) (fun o=>o= .inl ()∨ ∃e,o= .inr e∧e≠0)
  (by
   intro k x s hx _;have hk:=QF hx;unfold ZX
   simp only[oun]
   rw[decide_eq_true (show (k:Int)<(xs.length:Nat) by omega),cond_true,QA,hx,Option.bind_some]
   cases (ZJ (Za.mk x.Producer x.Material) s).getD false with
   | true=>exact .inr ⟨_,rfl,.inr ⟨6,rfl,by decide⟩⟩
   | false=>exact .inl ⟨_,by rw[cond_false,Yo (by omega)],trivial⟩)
  (by
   intro s _;refine ⟨_,?_,.inl rfl⟩;unfold ZX
   simp only[oun]
   rw[decide_eq_false (by omega),cond_false]) _ [] trivial (by omega)
structure CkF (costs mod:List Int) (l:List Qa):Prop where
 c1:1≤costs.length
 c2:costs.length≤16
 c: ∀x∈costs,0≤x∧x≤1000000000000
 m1:1≤mod.length
 m2:mod.length≤32
 m: ∀x∈mod,1≤x∧x≤10000
 l: ∀x∈l,CkP costs mod x
theorem Qfl {costs mod:List Int} {l:List Qa} (hl:l.length≤512): ∃e,Ws costs l mod=some e∧(e=0→CkF costs mod l):=by
 unfold Ws
 by_cases h1:((costs.length:Nat):Int)<1
 ·rw[decide_eq_true h1];exact ⟨1,rfl,fun h=>by cases h⟩
 by_cases h2:16<((costs.length:Nat):Int)
 ·rw[decide_eq_false h1,decide_eq_true h2];exact ⟨1,rfl,fun h=>by cases h⟩
 rw[decide_eq_false h1,decide_eq_false h2,cond_false,Option.bind_some,cond_false]
 obtain ⟨o1,e1,q1⟩:=Qif (xs:=costs) (by omega)
 rw[e1,Option.bind_some]
 rcases q1 with ⟨rfl,q1⟩ | ⟨e,rfl,he⟩
 case inr=>exact ⟨e,rfl,fun h=>absurd h he⟩
 simp only[Yl]
 by_cases h3:((mod.length:Nat):Int)<1
 ·rw[decide_eq_true h3];exact ⟨1,rfl,fun h=>by cases h⟩
 by_cases h4:32<((mod.length:Nat):Int)
 ·rw[decide_eq_false h3,decide_eq_true h4];exact ⟨1,rfl,fun h=>by cases h⟩
 rw[decide_eq_false h3,decide_eq_false h4,cond_false,Option.bind_some,cond_false]
 obtain ⟨o2,e2,q2⟩:=Qig (xs:=mod) (by omega)
 rw[e2,Option.bind_some]
 rcases q2 with ⟨rfl,q2⟩ | ⟨e,rfl,he⟩
 case inr=>exact ⟨e,rfl,fun h=>absurd h he⟩
 simp only[]
 rw[decide_eq_false (show ¬512<((l.length:Nat):Int) by omega),cond_false]
 obtain ⟨o3,e3,q3⟩:=Qih (costs:=costs) (mod:=mod) (xs:=l) (by omega)
 rw[e3,Option.bind_some]
 rcases q3 with ⟨rfl,q3⟩ | ⟨e,rfl,he⟩
 case inr=>exact ⟨e,rfl,fun h=>absurd h he⟩
 simp only[]
 obtain ⟨o4,e4,q4⟩:=Qii (xs:=l) (by omega)
 rw[e4,Option.bind_some]
 rcases q4 with rfl | ⟨e,rfl,he⟩
 case inr=>exact ⟨e,rfl,fun h=>absurd h he⟩
 exact ⟨0,rfl,fun _=>⟨by omega,by omega,q1,by omega,by omega,q2,q3⟩⟩
end Go.Proofs.Ytfdjjdhnfaklbaa
namespace Go.Proofs.Ytfdjjdhnfaklbaa
set_option linter.unusedSimpArgs false
set_option linter.unusedVariables false
theorem tot {ρ:Type} {n:Nat} {body:Int→Option (Int⊕ρ)} (hn:n<9223372036854775807) (hb: ∀k:Nat,k<n→body (k:Int)=some (.inl (w64 ((k:Int)+1)))∨ ∃o,body (k:Int)=some (.inr o)) (hf: ∃o,body (n:Int)=some (.inr o)): ∃o,iter body (n+1) 0=some o:=by
 obtain ⟨o,h,_⟩:=YL (List.replicate n ()) (fun (_:Unit) k=>k) (body:=body) (fun _ _=>True) (fun _=>True)
  (by
   intro k x s hx _;have hk:=QF hx
   rw[List.length_replicate] at hk
   rcases hb k hk with h | ⟨o,h⟩
   ·exact .inl ⟨(),by rw[h,Yo (by omega)],trivial⟩
   ·exact .inr ⟨o,h,trivial⟩)
  (by
   intro s _;obtain ⟨o,h⟩:=hf;exact ⟨o,by rw[List.length_replicate];exact h,trivial⟩) (n+1) () trivial (by simp)
 exact ⟨o,h⟩
theorem QgN (n:Int) (x:Qz) (p:Int): ∃r,Zd n x p=some r:=by
 unfold Zd
 generalize decide (x.Product<0)=b1
 generalize decide (n≤x.Product)=b2
 generalize decide (x.First<0)=b3
 generalize decide (1073741824<x.First)=b4
 generalize decide (x.Count<1)=b5
 generalize decide (1000<x.Count)=b6
 generalize decide (w64 (1073741824-w64 (x.Count-1))<x.First)=b7
 generalize decide (x.Retailer<0)=b8
 generalize decide (p≤x.Retailer)=b9
 generalize decide (x.At<0)=b10
 generalize decide (3155759999<x.At)=b11
 cases b1<;>cases b2<;>try exact ⟨_,rfl⟩
 cases b3<;>cases b4<;>cases b5<;>cases b6<;>cases b7<;>try exact ⟨_,rfl⟩
 cases b8<;>cases b9<;>cases b10<;>cases b11<;>exact ⟨_,rfl⟩
theorem Qc9 (x:Qz) (p:Int): ∃r,Q6 x p=some r:=by
 unfold Q6;cases decide (x.First≤p)<;>cases decide (0<x.Count)<;>exact ⟨_,rfl⟩
theorem Vq {α:Type} {l:List α} {k:Nat} (h:k<l.length): ∃x,Qp l (k:Int)=some x:=⟨_,Qcc h⟩
theorem Qfa {ps:List Ql} {l:List Qz} (p:Int): ∃r,YP ps l p=some r:=by
 unfold YP
 by_cases h0:512<((l.length:Nat):Int)
 ·rw[decide_eq_true h0];exact ⟨_,rfl⟩
 rw[decide_eq_false h0,cond_false]
 obtain ⟨o1,e1⟩:=tot (n:=l.length) (body:=Yw ps l p) (by omega) (fun k hk=>by
  obtain ⟨x,hx⟩:=Vq hk;obtain ⟨r,hr⟩:=QgN ((ps.length:Nat):Int) x p;unfold Yw
  rw[decide_eq_true (show (k:Int)<(l.length:Nat) by omega),cond_true,hx,Option.bind_some,hr,Option.bind_some]
  cases (!decide (r=0)) with
  | true=>exact .inr ⟨_,rfl⟩
  | false=>exact .inl rfl) (by unfold Yw;rw[decide_eq_false (by omega),cond_false];exact ⟨_,rfl⟩)
 rw[show (((l.length:Nat):Int).toNat+1)=l.length+1 by omega,e1,Option.bind_some]
 cases o1 with
 | inr e=>exact ⟨e,rfl⟩
 | inl u =>
  simp only[Yl]
  obtain ⟨o2,e2⟩:=tot (n:=l.length) (body:=Yy l) (by omega) (fun i hi=>by
   obtain ⟨o3,e3⟩:=tot (n:=i) (body:=Yx l (i:Int)) (by omega) (fun k hk=>by
    obtain ⟨x,hx⟩:=Vq hi;obtain ⟨y,hy⟩:=Vq (show k<l.length by omega);obtain ⟨r,hr⟩:=Qc9 x y.First;obtain ⟨r',hr'⟩:=Qc9 y x.First;unfold Yx
    rw[decide_eq_true (show (k:Int)<(i:Int) by omega),cond_true,hx,Option.bind_some,hy,Option.bind_some,hr,Option.bind_some]
    cases r with
    | true=>exact .inr ⟨_,rfl⟩
    | false =>
     rw[cond_false,Option.bind_some,Option.bind_some,hr',Option.bind_some,Option.bind_some]
     cases r' with
     | true=>exact .inr ⟨_,rfl⟩
     | false=>exact .inl rfl) (by unfold Yx;rw[decide_eq_false (by omega),cond_false];exact ⟨_,rfl⟩)
   unfold Yy
   rw[decide_eq_true (show (i:Int)<(l.length:Nat) by omega),cond_true,Int.toNat_natCast,e3,Option.bind_some]
   cases o3 with
   | inl u=>exact .inl rfl
   | inr e=>exact .inr ⟨_,rfl⟩) (by unfold Yy;rw[decide_eq_false (by omega),cond_false];exact ⟨_,rfl⟩)
  rw[e2,Option.bind_some]
  cases o2 with
  | inl u=>exact ⟨_,rfl⟩
  | inr e=>exact ⟨e,rfl⟩
end Go.Proofs.Ytfdjjdhnfaklbaa
namespace Go.Proofs.Ytfdjjdhnfaklbaa
set_option linter.unusedSimpArgs false
set_option linter.unusedVariables false
theorem Qbr {s:ByteArray} {k:Nat} (h:k<s.size): ∃x,VK s (k:Int)=some x:=by
 unfold VK
 rw[if_pos (by omega),Int.toNat_natCast]
 exact ⟨_,by rw[getElem?_pos s k h];rfl⟩
theorem Qa9 (s:ByteArray) {n:Nat} (hn:n≤1000): ∃b,Yj s (n:Int)=some b∧(b=true→s.size=n):=by
 unfold Yj
 by_cases hs:((s.size:Nat):Int)=(n:Int)
 ·rw[decide_eq_true hs,show (!true)=false from rfl,cond_false]
  obtain ⟨o,e⟩:=tot (n:=n) (body:=Ym s (n:Int)) (by omega) (fun k hk=>by
   obtain ⟨x,hx⟩:=Qbr (s:=s) (k:=k) (by omega);unfold Ym
   rw[decide_eq_true (show (k:Int)<(n:Int) by omega),cond_true,hx,Option.bind_some]
   cases decide (x<48) with
   | true=>exact .inr ⟨_,rfl⟩
   | false =>
    rw[cond_false,Option.bind_some,Option.bind_some]
    cases decide (57<x) with
    | true=>exact .inr ⟨_,rfl⟩
    | false=>exact .inl rfl) (by unfold Ym;rw[decide_eq_false (by omega),cond_false];exact ⟨_,rfl⟩)
  rw[Int.toNat_natCast,e,Option.bind_some]
  cases o with
  | inl u=>exact ⟨true,rfl,fun _=>by omega⟩
  | inr b=>exact ⟨b,rfl,fun _=>by omega⟩
 ·rw[decide_eq_false hs]
  exact ⟨false,rfl,fun h=>by cases h⟩
theorem QeS (s:ByteArray): ∃r,YO s=some r:=by
 unfold YO;obtain ⟨b,hb,hb2⟩:=Qa9 s (n:=12) (by omega)
 rw[show (12:Int)=((12:Nat):Int) from rfl,hb,Option.bind_some]
 cases b with
 | false=>exact ⟨_,rfl⟩
 | true =>
  have hs:=hb2 rfl
  rw[show (!true)=false from rfl,cond_false]
  obtain ⟨o,h,_⟩:=YL (List.replicate 12 ()) (fun (s:Int) k=>(s,k)) (body:=YW s) (fun _ _=>True) (fun _=>True)
   (by
    intro k x t hx _;have hk:=QF hx
    rw[List.length_replicate] at hk
    obtain ⟨y,hy⟩:=Qbr (s:=s) (k:=k) (by omega);unfold YW
    simp only[oun]
    rw[decide_eq_true (show (k:Int)<12 by omega),cond_true,hy,Option.bind_some]
    cases decide (Int.tmod (k:Int) 2=1) with
    | true=>exact .inl ⟨_,by rw[cond_true,Option.bind_some,Yo (by omega)],trivial⟩
    | false=>exact .inl ⟨_,by rw[cond_false,Option.bind_some,Yo (by omega)],trivial⟩)
   (by
    intro t _;exact ⟨t,by rw[List.length_replicate];rfl,trivial⟩) 13 0 trivial (by simp)
  rw[show (((12:Nat):Int)).toNat+1=13 from rfl,h]
  exact ⟨_,rfl⟩
theorem Qfn (s:ByteArray): ∃r,Y6 s=some r:=by
 unfold Y6;obtain ⟨b,hb,hb2⟩:=Qa9 s (n:=13) (by omega)
 rw[show (13:Int)=((13:Nat):Int) from rfl,hb,Option.bind_some]
 cases b with
 | false=>exact ⟨_,rfl⟩
 | true =>
  have hs:=hb2 rfl
  rw[show (!true)=false from rfl,cond_false]
  obtain ⟨z,hz⟩: ∃z,Qfi s 0 12=some z:=by
   unfold Qfi
   rw[if_pos ⟨by omega,by omega,by omega⟩]
   exact ⟨_,rfl⟩
  obtain ⟨⟨d,f⟩,hd⟩:=QeS z;obtain ⟨y,hy⟩:=Qbr (s:=s) (k:=12) (by omega)
  rw[hz,Option.bind_some,hd,Option.bind_some]
  simp only[oun]
  rw[show (12:Int)=((12:Nat):Int) from rfl,hy,Option.bind_some]
  cases (!decide (w64 (IntKind.u8.wrap (y-48))=d))<;>exact ⟨_,rfl⟩
theorem Qe9 {l:List Ql} (p q:Int): ∃r,YN l p q=some r:=by
 unfold YN
 by_cases h0:64<((l.length:Nat):Int)
 ·rw[decide_eq_true h0];exact ⟨_,rfl⟩
 rw[decide_eq_false h0,cond_false]
 obtain ⟨o1,e1⟩:=tot (n:=l.length) (body:=Yt l p q) (by omega) (fun k hk=>by
  obtain ⟨x,hx⟩:=Vq hk;obtain ⟨r,hr⟩:=Qfn x.Code;unfold Yt
  rw[decide_eq_true (show (k:Int)<(l.length:Nat) by omega),cond_true,hx,Option.bind_some,hr,Option.bind_some]
  cases (!decide (r=0)) with
  | true=>exact .inr ⟨_,rfl⟩
  | false =>
   generalize decide (x.Producer<0)=b1
   generalize decide (p≤x.Producer)=b2
   generalize decide (x.Deposit<1)=b3
   generalize decide (1000<x.Deposit)=b4
   generalize decide (x.Material<0)=b5
   generalize decide (q≤x.Material)=b6
   generalize decide (x.Grams<1)=b7
   generalize decide (10000<x.Grams)=b8
   cases b1<;>cases b2<;>try exact .inr ⟨_,rfl⟩
   cases b3<;>cases b4<;>try exact .inr ⟨_,rfl⟩
   cases b5<;>cases b6<;>try exact .inr ⟨_,rfl⟩
   cases b7<;>cases b8<;>first | exact .inl rfl | exact .inr ⟨_,rfl⟩) (by unfold Yt;rw[decide_eq_false (by omega),cond_false];exact ⟨_,rfl⟩)
 rw[show (((l.length:Nat):Int).toNat+1)=l.length+1 by omega,e1,Option.bind_some]
 cases o1 with
 | inr e=>exact ⟨e,rfl⟩
 | inl u =>
  simp only[Yl]
  obtain ⟨o2,e2⟩:=tot (n:=l.length) (body:=Yv l) (by omega) (fun i hi=>by
   obtain ⟨o3,e3⟩:=tot (n:=i) (body:=Yu l (i:Int)) (by omega) (fun k hk=>by
    obtain ⟨x,hx⟩:=Vq hi;obtain ⟨y,hy⟩:=Vq (show k<l.length by omega);unfold Yu
    rw[decide_eq_true (show (k:Int)<(i:Int) by omega),cond_true,hy,Option.bind_some,hx,Option.bind_some]
    cases decide (y.Code=x.Code) with
    | true=>exact .inr ⟨_,rfl⟩
    | false=>exact .inl rfl) (by unfold Yu;rw[decide_eq_false (by omega),cond_false];exact ⟨_,rfl⟩)
   unfold Yv
   rw[decide_eq_true (show (i:Int)<(l.length:Nat) by omega),cond_true,Int.toNat_natCast,e3,Option.bind_some]
   cases o3 with
   | inl u=>exact .inl rfl
   | inr e=>exact .inr ⟨_,rfl⟩) (by unfold Yv;rw[decide_eq_false (by omega),cond_false];exact ⟨_,rfl⟩)
  rw[e2,Option.bind_some]
  cases o2 with
  | inl u=>exact ⟨_,rfl⟩
  | inr e=>exact ⟨e,rfl⟩
end Go.Proofs.Ytfdjjdhnfaklbaa
namespace Go.Proofs.Ytfdjjdhnfaklbaa
set_option linter.unusedSimpArgs false
set_option linter.unusedVariables false
section
variable {κ β:Type} [DecidableEq κ] {k:κ} {v:β}
theorem V9 {p:κ×β}: ∀{m:List (κ×β)},p∈Zp k v m→p=(k,v)∨p∈m
 | [],h=>by simp[Zp] at h;exact .inl h
 | q::m,h=>by
  unfold Zp at h
  split at h
  ·rcases List.mem_cons.1 h with h | h
   ·exact .inl h
   ·exact .inr (List.mem_cons_of_mem _ h)
  ·rcases List.mem_cons.1 h with h | h
   ·exact .inr (by rw[h];exact List.mem_cons_self)
   ·rcases V9 h with h | h
    ·exact .inl h
    ·exact .inr (List.mem_cons_of_mem _ h)
theorem QeY {x:κ}: ∀{m:List (κ×β)},x∈(Zp k v m).map Prod.fst→x=k∨x∈m.map Prod.fst:=fun {m} h=>by
 obtain ⟨p,hp,rfl⟩:=List.mem_map.1 h;rcases V9 hp with rfl | h
 ·exact .inl rfl
 ·exact .inr (List.mem_map_of_mem h)
theorem Qa2: ∀{m:List (κ×β)},(m.map Prod.fst).Nodup→((Zp k v m).map Prod.fst).Nodup
 | [],_=>by simp[Zp]
 | q::m,h=>by
  simp only[List.map_cons,List.nodup_cons] at h
  unfold Zp
  split
  ·rename_i hq
   simp only[List.map_cons,List.nodup_cons]
   exact ⟨by rw[←hq];exact h.1,h.2⟩
  ·rename_i hq
   simp only[List.map_cons,List.nodup_cons]
   exact ⟨fun hx=>(QeY hx).elim hq h.1,Qa2 h.2⟩
theorem Qc1 {x:β}: ∀{m:List (κ×β)},ZJ k m=some x→(k,x)∈m
 | [],h=>by cases h
 | q::m,h=>by
  unfold ZJ at h
  split at h
  ·rename_i hq
   cases h
   rw[←hq];exact List.mem_cons_self
  ·exact List.mem_cons_of_mem _ (Qc1 h)
end
theorem Qfk (p:Ql): ∃b,Jf p=some b∧(b=true→0≤p.Producer∧p.Producer<32∧0≤p.Material∧p.Material<16∧1≤p.Grams∧p.Grams≤10000):=by
 unfold Jf
 by_cases h1:0≤p.Producer
 case neg=>rw[decide_eq_false h1];exact ⟨false,rfl,fun h=>by cases h⟩
 by_cases h2:p.Producer<32
 case neg=>rw[decide_eq_true h1,decide_eq_false h2];exact ⟨false,rfl,fun h=>by cases h⟩
 by_cases h3:0≤p.Material
 case neg=>rw[decide_eq_true h1,decide_eq_true h2,decide_eq_false h3];exact ⟨false,rfl,fun h=>by cases h⟩
 by_cases h4:p.Material<16
 case neg=>rw[decide_eq_true h1,decide_eq_true h2,decide_eq_true h3,decide_eq_false h4];exact ⟨false,rfl,fun h=>by cases h⟩
 by_cases h5:1≤p.Grams
 case neg=>rw[decide_eq_true h1,decide_eq_true h2,decide_eq_true h3,decide_eq_true h4,decide_eq_false h5];exact ⟨false,rfl,fun h=>by cases h⟩
 by_cases h6:p.Grams≤10000
 case neg=>rw[decide_eq_true h1,decide_eq_true h2,decide_eq_true h3,decide_eq_true h4,decide_eq_true h5,decide_eq_false h6];exact ⟨false,rfl,fun h=>by cases h⟩
 rw[decide_eq_true h1,decide_eq_true h2,decide_eq_true h3,decide_eq_true h4,decide_eq_true h5,decide_eq_true h6]
 exact ⟨true,rfl,fun _=>⟨h1,h2,h3,h4,h5,h6⟩⟩
end Go.Proofs.Ytfdjjdhnfaklbaa
namespace Go.Proofs.Ytfdjjdhnfaklbaa
set_option linter.unusedSimpArgs false
set_option linter.unusedVariables false
structure PlK (ps:List Ql) (l:List Qz) (x:Qk):Prop where
 src: ∃s∈l,∃q,Qp ps s.Product=some q∧x=⟨q.Producer,q.Material⟩
 p0:0≤x.producer
 p1:x.producer<32
 m0:0≤x.material
 m1:x.material<16
structure PlI (ps:List Ql) (l:List Qz) (m:List (Qk×Int)) (k:Nat):Prop where
 nd:(m.map Prod.fst).Nodup
 key: ∀p∈m,PlK ps l p.1
 val: ∀p∈m,0≤p.2∧p.2≤k*10000000
 ok: ∀s∈l.take k,∃q,Qp ps s.Product=some q
theorem Qe7 {ps:List Ql} {l:List Qz} {w:ZC} (hn:l.length≤512) :
  ∃o,iter (Zb ps l w) (((l.length:Nat):Int).toNat+1) ([],0)=some o∧((∃m,o= .inl m∧PlI ps l m l.length)∨ ∃e,o= .inr ([],e)∧e≠0) :=
 YL l (fun (m:List (Qk×Int)) k=>(m,k)) (body:=Zb ps l w) (fun m k=>PlI ps l m k) (fun o=>(∃m,o= .inl m∧PlI ps l m l.length)∨ ∃e,o= .inr ([],e)∧e≠0)
  (by
   intro k x m hx hI;have hk:=QF hx;have hmem:=List.mem_of_getElem? hx;unfold Zb
   simp only[oun]
   rw[decide_eq_true (show (k:Int)<(l.length:Nat) by omega),cond_true,QA,hx,Option.bind_some]
   by_cases h1:x.Product<0
   ·rw[decide_eq_true h1];exact .inr ⟨_,rfl,.inr ⟨7,rfl,by decide⟩⟩
   by_cases h2:((ps.length:Nat):Int)≤x.Product
   ·rw[decide_eq_false h1,decide_eq_true h2];exact .inr ⟨_,rfl,.inr ⟨7,rfl,by decide⟩⟩
   rw[decide_eq_false h1,decide_eq_false h2,cond_false,Option.bind_some,cond_false]
   obtain ⟨q,hq⟩:=QeA (l:=ps) (i:=x.Product) (by omega) (by omega);obtain ⟨b,hb,hb2⟩:=Qfk q
   rw[hq,Option.bind_some]
   by_cases h3:x.Count<1
   ·rw[decide_eq_true h3];exact .inr ⟨_,rfl,.inr ⟨1,rfl,by decide⟩⟩
   by_cases h4:1000<x.Count
   ·rw[decide_eq_false h3,decide_eq_true h4];exact .inr ⟨_,rfl,.inr ⟨1,rfl,by decide⟩⟩
   rw[decide_eq_false h3,decide_eq_false h4,cond_false,cond_false,hb,Option.bind_some]
   cases b with
   | false=>exact .inr ⟨_,rfl,.inr ⟨1,rfl,by decide⟩⟩
   | true =>
    obtain ⟨u1,u2,u3,u4,u5,u6⟩:=hb2 rfl
    rw[show (!true)=false from rfl,Option.bind_some,cond_false]
    have hok: ∀s∈l.take (k+1),∃q,Qp ps s.Product=some q:=fun s hs=>by
     rw[ZI hx] at hs
     rcases List.mem_append.1 hs with hs | hs
     ·exact hI.ok s hs
     ·simp at hs;subst hs;exact ⟨q,hq⟩
    have hstay:PlI ps l m (k+1):=⟨hI.nd,hI.key,fun p hp=>by have:=hI.val p hp;omega,hok⟩
    by_cases h5:w.From≤x.At
    case neg =>
     rw[decide_eq_false h5]
     exact .inl ⟨m,by rw[cond_false,Option.bind_some,cond_false,Option.bind_some];simp only[Yl];rw[Yo (by omega)],hstay⟩
    by_cases h6:x.At<w.To
    case neg =>
     rw[decide_eq_true h5,decide_eq_false h6]
     exact .inl ⟨m,by rw[cond_true,Option.bind_some,cond_false,Option.bind_some];simp only[Yl];rw[Yo (by omega)],hstay⟩
    rw[decide_eq_true h5,decide_eq_true h6,cond_true,Option.bind_some,cond_true,Option.bind_some]
    have hg0:0≤x.Count*q.Grams:=Int.mul_nonneg (by omega) (by omega);have hg1:x.Count*q.Grams≤1000*10000:=Int.mul_le_mul (by omega) u6 (by omega) (by omega);have ha:0≤(ZJ (Qk.mk q.Producer q.Material) m).getD 0∧(ZJ (Qk.mk q.Producer q.Material) m).getD 0≤k*10000000:=by
     cases h:ZJ (Qk.mk q.Producer q.Material) m with
     | none=>simp;omega
     | some v=>exact hI.val _ (Qc1 h)
    refine .inl ⟨_,by simp only[Yl];rw[Yo (by omega)],⟨Qa2 hI.nd,fun p hp=> ?_,fun p hp=> ?_,hok⟩⟩
    ·rcases V9 hp with rfl | hp
     ·exact ⟨⟨x,hmem,q,hq,rfl⟩,u1,u2,u3,u4⟩
     ·exact hI.key p hp
    ·rcases V9 hp with rfl | hp
     ·show 0≤w64 _∧w64 _≤_
      rw[Q9 (n:=x.Count*q.Grams) (by omega) (by omega),Q9 (by omega) (by omega)]
      omega
     ·have:=hI.val p hp;omega)
  (by
   intro m hI;refine ⟨.inl m,?_,.inl ⟨m,rfl,hI⟩⟩;unfold Zb
   simp only[oun]
   rw[decide_eq_false (by omega),cond_false]) _ [] ⟨by simp,by simp,by simp,by simp⟩ (by omega)
end Go.Proofs.Ytfdjjdhnfaklbaa
