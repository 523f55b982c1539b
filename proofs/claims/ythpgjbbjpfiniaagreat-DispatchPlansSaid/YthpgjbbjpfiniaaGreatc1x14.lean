/- DispatchPlans: for every input the given law returns true, and its arguments read as before. No condition. -/
import Derived.Test.YthpgjbbjpfiniaaGreatc1x13
namespace Go.Proofs.YthpgjbbjpfiniaaGreat
set_option linter.unusedSimpArgs false
set_option linter.unusedVariables false
set_option maxHeartbeats 1000000
section
variable {α:Type} {k:α→Int} {cmp:α→α→Option Int} {Pv:α→Prop}
theorem Qm0 (hc: ∀x y,Pv x→Pv y→ ∃z,cmp x y=some z∧(z<0↔k x<k y)) {a m F:Nat} {A U B:List α} {y:α} (hA:A.length=a) (hU:a+U.length=m) (h2:2≤U.length) (hb:m+1≤1000000000) (hF:m+1-a<F) (hs:Srt k U) (hy:Pv y) (hp: ∀z∈U,Pv z) (rec_:List α→Int→Int→Int→Option (List α)) :
  ∃M,QeJ cmp rec_ F (A++(U++([y]++B))) a m ((m+1:Nat):Int)=some (A++(M++B))∧Srt k M∧Y0 k (U++[y]) M:=by
 have hd1: ¬w64 ((m:Int)-(a:Int))=1:=by rw[Qej (by omega) (by omega)];omega
 have hd:w64 (((m+1:Nat):Int)-(m:Int))=1:=by rw[Qej (by omega) (by omega)];omega
 have gy:(A++(U++([y]++B)))[m]? =some y:=by
  have:A++(U++([y]++B))=(A++U)++y::B:=by simp
  rw[this];exact QcS (by simp[hA,hU])
 have gu: ∀t,a≤t→t<m→ ∃v,(A++(U++([y]++B)))[t]? =some v∧U[t-a]? =some v:=by
  intro t h1 h2;obtain ⟨v,hv⟩:=Qck (L:=U) (i:=t-a) (by omega);exact ⟨v,by rw[Qhl hA h1 (by omega)];exact hv,hv⟩
 obtain ⟨r,k1,k2,k3,k4,k5⟩:=Qim (body:=Qh0 cmp (A++(U++([y]++B))) (m:Int)) (mk:=fun i j=>((i:Int),(j:Int))) (test:=fun h=>match (A++(U++([y]++B)))[h]? with | some v=>decide (¬k y<k v) | none=>false) (i0:=a) (j0:=m) (fun i j h0 hij hj=>by
   obtain ⟨v,g1,g2⟩:=gu ((i+j)/2) (by omega) (by omega);obtain ⟨z,hz,hz2⟩:=hc y v hy (hp v (List.mem_of_getElem? g2));have hlt:(i:Int)<(j:Int):=by omega
   have hw:=QmG (i:=i) (j:=j) (by omega);have hw1:w64 (((((i+j)/2:Nat):Int))+1)=(((i+j)/2+1:Nat):Int):=QgW (by omega);have hg:WR (0≤1∧1≤64)=some ():=QaS (by decide)
   by_cases hk:k y<k v
   ·have hz0:=hz2.2 hk
    simp only[Qh0,oun,hlt,decide_true,cond_true,hg,Option.bind_some,hw,QD,g1,gy,hz,hz0,hk,hw1,Bool.not_true,cond_false,not_true_eq_false,decide_false]
   ·have hz0: ¬z<0:=fun h=>hk (hz2.1 h)
    simp only[Qh0,oun,hlt,decide_true,cond_true,hg,Option.bind_some,hw,QD,g1,gy,hz,hz0,hk,decide_false,cond_false,Bool.not_false,not_false_eq_true,hw1])
  (fun i h0 hj=>by simp only[Qh0,oun,Int.lt_irrefl,decide_false,cond_false])
  (fun s t h1 h2 h3 ht=>by
   obtain ⟨v,g1,g2⟩:=gu s h1 (by omega);obtain ⟨w,q1,q2⟩:=gu t (by omega) h3
   simp only[q1,g1,decide_eq_true_eq] at ht ⊢
   have:=Qb7 hs (by omega:s-a≤t-a) g2 q2
   omega) (m-a) a m F (Nat.le_refl _) (by omega) (Nat.le_refl _) (by omega) (Nat.le_refl _) (fun t h1 h2=>by omega) (fun t h1 h2=>by omega)
 have hl:(U.take (r-a)).length=r-a:=by simp;omega
 have h1: ∀z∈U.take (r-a),k z≤k y:=by
  intro z hz;obtain ⟨i,hi,hz⟩:=QeE hz;have h2:=k4 (a+i) (by omega) (by omega);obtain ⟨v,g1,g2⟩:=gu (a+i) (by omega) (by omega)
  simp only[g1,decide_eq_true_eq] at h2
  rw[show a+i-a=i by omega,hz] at g2
  injection g2 with g2;subst g2;omega
 have h2: ∀z∈U.drop (r-a),k y<k z:=by
  intro z hz;obtain ⟨i,hi,hz⟩:=Qef hz;have hlt:=QE hz;have h2:=k5 (a+i) (by omega) (by omega);obtain ⟨v,g1,g2⟩:=gu (a+i) (by omega) (by omega)
  simp only[g1,decide_eq_false_iff_not,Classical.not_not] at h2
  rw[show a+i-a=i by omega,hz] at g2
  injection g2 with g2;subst g2;exact h2
 have hus:U=U.take (r-a)++U.drop (r-a):=(List.take_append_drop _ _).symm;obtain ⟨j1,j2⟩:=QfM (x:=y) (by rw[←hus];exact hs) h2 h1;refine ⟨U.take (r-a)++y::U.drop (r-a),?_,j1,by rw[←hus] at j2;exact j2⟩;have key:=Qjp (cmp:=cmp) (e:=r) (A:=A++U.take (r-a)) (B:=B) (x:=y) (by simp[hA];omega) (U.drop (r-a)).length (U.drop (r-a)) [] F rfl (by simp;omega) (by simp;omega);have e1:A++(U++([y]++B))=A++U.take (r-a)++U.drop (r-a)++y::([]++B):=by
  rw[List.append_assoc A,←hus];simp
 have e2:((m:Nat):Int)=((r+(U.drop (r-a)).length:Nat):Int):=by simp;omega
 unfold QeJ
 simp only[hd1,hd,decide_false,cond_false,decide_true,cond_true,k1,Option.bind_some]
 rw[e1]
 conv=>lhs;rw[e2]
 rw[key]
 simp
theorem QkC {s a m b:Nat} {rec_:List α→Int→Int→Int→Option (List α)} (hr: ∀(A U V B:List α) (a m b:Nat),A.length=a→a+U.length=m→m+V.length=b→1≤U.length→1≤V.length→b≤1000000000→(A++(U++(V++B))).length≤1000000000000→b-a≤s→Srt k U→Srt k V→(∀z∈U,Pv z)→(∀z∈V,Pv z)→ ∃M,rec_ (A++(U++(V++B))) a m b=some (A++(M++B))∧Srt k M∧Y0 k (U++V) M) {A U V B:List α} (hA:A.length=a) (hU:a+U.length=m) (hV:m+V.length=b) (hb:b≤1000000000) (hl:(A++(U++(V++B))).length≤1000000000000) (hs:b-a≤s) (su:Srt k U) (sv:Srt k V) (pu: ∀z∈U,Pv z) (pv: ∀z∈V,Pv z) :
  ∃v M,(bif (decide ((a:Int)<(m:Int))) then some (decide ((m:Int)<(b:Int))) else some false)=some v∧(bif v then Option.bind (rec_ (A++(U++(V++B))) a m b) fun r=>some r else some (A++(U++(V++B))))=some (A++(M++B))∧Srt k M∧Y0 k (U++V) M:=by
 by_cases h1:a<m
 ·have h1':(a:Int)<(m:Int):=by omega
  by_cases h2:m<b
  ·have h2':(m:Int)<(b:Int):=by omega
   obtain ⟨M,k1,k2,k3⟩:=hr A U V B a m b hA hU hV (by omega) (by omega) hb hl hs su sv pu pv;refine ⟨true,M,?_,?_,k2,k3⟩
   ·simp only[h1',h2',decide_true,cond_true]
   ·simp only[cond_true,k1,Option.bind_some]
  ·have h2': ¬(m:Int)<(b:Int):=by omega
   have:V=[]:=List.eq_nil_of_length_eq_zero (by omega);subst this;refine ⟨false,U,?_,?_,su,by rw[List.append_nil];exact Y0.refl U⟩
   ·simp only[h1',h2',decide_true,cond_true,decide_false]
   ·simp only[cond_false,List.nil_append]
 ·have h1': ¬(a:Int)<(m:Int):=by omega
  have:U=[]:=List.eq_nil_of_length_eq_zero (by omega);subst this;refine ⟨false,V,?_,?_,sv,Y0.refl V⟩
  ·simp only[h1',decide_false,cond_false]
  ·simp only[cond_false,List.nil_append]
theorem Qh9 {l:List α} (h:Srt k l) (n:Nat):Srt k (l.take n):=List.Pairwise.sublist (List.take_sublist n l) h
theorem Qij {l:List α} (h:Srt k l) (n:Nat):Srt k (l.drop n):=List.Pairwise.sublist (List.drop_sublist n l) h
theorem QoY {l:List α} (h:Srt k l) {n:Nat} {x y:α} (hx:x∈l.take n) (hy:y∈l.drop n):k x≤k y:=by
 obtain ⟨i,hi,hx⟩:=QeE hx;obtain ⟨j,hj,hy⟩:=Qef hy;exact Qb7 h (by omega) hx hy
theorem Qpl (hc: ∀x y,Pv x→Pv y→ ∃z,cmp x y=some z∧(z<0↔k x<k y)) {F a m b:Nat}
  {A U V B:List α} (hA:A.length=a) (hU:a+U.length=m) (hV:m+V.length=b) (hu:2≤U.length) (hv:2≤V.length) (hb:b≤1000000000) (hF:b-a<F) (su:Srt k U) (sv:Srt k V) (pu: ∀z∈U,Pv z) (pv: ∀z∈V,Pv z) :
  ∃st r0 r e:Nat,(bif (decide ((((a+b)/2:Nat):Int)<(m:Int))) then some ((((a+b)/2:Nat):Int),(((a+b)/2+m:Nat):Int),w64 ((((a+b)/2+m:Nat):Int)-(b:Int)),(((a+b)/2:Nat):Int)) else some ((((a+b)/2:Nat):Int),(((a+b)/2+m:Nat):Int),(a:Int),(m:Int)))=some ((((a+b)/2:Nat):Int),(((a+b)/2+m:Nat):Int),(st:Int),(r0:Int)) ∧
   iter (QgC cmp (A++(U++(V++B)))) F ((st:Int),(r0:Int),(((a+b)/2+m-1:Nat):Int))=some (r:Int)∧a≤r∧r≤m∧e+r=(a+b)/2+m∧m≤e∧e≤b∧a<(a+b)/2∧(a+b)/2<b∧(∀x∈U.take (r-a),∀y∈V.drop (e-m),k x≤k y)∧(∀x∈U.drop (r-a),∀y∈V.take (e-m),k y<k x):=by
 have hg:WR (0≤1∧1≤64)=some ():=QaS (by decide)
 generalize hm:(a+b)/2=mid
 obtain ⟨st,r0,hst,hst1,hst2,hst3⟩: ∃st r0:Nat,(bif (decide ((mid:Int)<(m:Int))) then some ((mid:Int),((mid+m:Nat):Int),w64 (((mid+m:Nat):Int)-(b:Int)),(mid:Int)) else some ((mid:Int),((mid+m:Nat):Int),(a:Int),(m:Int)))=some ((mid:Int),((mid+m:Nat):Int),(st:Int),(r0:Int))∧a≤st∧st≤r0∧((mid<m∧st+b=mid+m∧r0=mid)∨(m≤mid∧st=a∧r0=m)):=by
  by_cases h:mid<m
  ·have h':(mid:Int)<(m:Int):=by omega
   refine ⟨mid+m-b,mid,?_,by omega,by omega,.inl ⟨h,by omega,rfl⟩⟩
   simp only[h',decide_true,cond_true,Qej (by omega:b≤mid+m) (by omega)]
  ·have h': ¬(mid:Int)<(m:Int):=by omega
   refine ⟨a,m,?_,Nat.le_refl _,by omega,.inr ⟨by omega,rfl,rfl⟩⟩
   simp only[h',decide_false,cond_false]
 have gu: ∀t,a≤t→t<m→ ∃v,(A++(U++(V++B)))[t]? =some v∧U[t-a]? =some v:=by
  intro t h1 h2;obtain ⟨v,hv⟩:=Qck (L:=U) (i:=t-a) (by omega);exact ⟨v,by rw[Qhl hA h1 (by omega)];exact hv,hv⟩
 have gv: ∀t,m≤t→t<b→ ∃v,(A++(U++(V++B)))[t]? =some v∧V[t-m]? =some v:=by
  intro t h1 h2;obtain ⟨v,hv⟩:=Qck (L:=V) (i:=t-m) (by omega);have e:A++(U++(V++B))=(A++U)++(V++B):=by simp
  exact ⟨v,by rw[e,Qhl (a:=m) (by simp[hA,hU]) h1 (by omega)];exact hv,hv⟩
 obtain ⟨r,k1,k2,k3,k4,k5⟩:=Qim (body:=QgC cmp (A++(U++(V++B)))) (mk:=fun i j=>((i:Int),(j:Int),((mid+m-1:Nat):Int))) (test:=fun h=>match (A++(U++(V++B)))[mid+m-1-h]?,(A++(U++(V++B)))[h]? with | some v,some u=>decide (¬k v<k u) | _,_=>false) (i0:=st) (j0:=r0) (fun i j h0 hij hj=>by
   obtain ⟨u,u1,u2⟩:=gu ((i+j)/2) (by omega) (by omega);obtain ⟨v,v1,v2⟩:=gv (mid+m-1-(i+j)/2) (by omega) (by omega);obtain ⟨z,hz,hz2⟩:=hc v u (pv v (List.mem_of_getElem? v2)) (pu u (List.mem_of_getElem? u2));have hlt:(i:Int)<(j:Int):=by omega
   have hw:=QmG (i:=i) (j:=j) (by omega);have hw1:w64 (((((i+j)/2:Nat):Int))+1)=(((i+j)/2+1:Nat):Int):=QgW (by omega);have hw2:w64 (((mid+m-1:Nat):Int)-(((i+j)/2:Nat):Int))=((mid+m-1-(i+j)/2:Nat):Int):=Qej (by omega) (by omega)
   by_cases hk:k v<k u
   ·have hz0:=hz2.2 hk
    simp only[QgC,oun,hlt,decide_true,cond_true,hg,Option.bind_some,hw,hw2,QD,u1,v1,hz,hz0,hk,hw1,Bool.not_true,cond_false,not_true_eq_false,decide_false]
   ·have hz0: ¬z<0:=fun h=>hk (hz2.1 h)
    simp only[QgC,oun,hlt,decide_true,cond_true,hg,Option.bind_some,hw,hw2,QD,u1,v1,hz,hz0,hk,decide_false,cond_false,Bool.not_false,not_false_eq_true,hw1])
  (fun i h0 hj=>by simp only[QgC,oun,Int.lt_irrefl,decide_false,cond_false])
  (fun s t h1 h2 h3 ht=>by
   obtain ⟨u,u1,u2⟩:=gu s (by omega) (by omega);obtain ⟨v,v1,v2⟩:=gv (mid+m-1-s) (by omega) (by omega);obtain ⟨u',u1',u2'⟩:=gu t (by omega) (by omega);obtain ⟨v',v1',v2'⟩:=gv (mid+m-1-t) (by omega) (by omega)
   simp only[u1,v1,u1',v1',decide_eq_true_eq] at ht ⊢
   have h4:=Qb7 su (by omega:s-a≤t-a) u2 u2';have h5:=Qb7 sv (by omega:mid+m-1-t-m≤mid+m-1-s-m) v2' v2
   omega) (r0-st) st r0 F (Nat.le_refl _) (by omega) (Nat.le_refl _) (by omega) (Nat.le_refl _) (fun t h1 h2=>by omega) (fun t h1 h2=>by omega)
 generalize he:mid+m-r=e
 have hme:m≤e:=by omega
 have heb:e≤b:=by omega
 have hi: ∀x∈U.take (r-a),∀y∈V.drop (e-m),k x≤k y:=by
  intro x hx y hy;obtain ⟨i,hi,hx⟩:=QeE hx;obtain ⟨j,hj,hy⟩:=Qef hy;have hj2:=QE hy
  by_cases hrs:r=st
  ·omega
  ·have ht:=k4 (r-1) (by omega) (by omega);obtain ⟨u,u1,u2⟩:=gu (r-1) (by omega) (by omega);obtain ⟨v,v1,v2⟩:=gv (mid+m-1-(r-1)) (by omega) (by omega)
   simp only[u1,v1,decide_eq_true_eq] at ht
   have h4:=Qb7 su (by omega:i≤r-1-a) hx u2;have h5:=Qb7 sv (by omega:mid+m-1-(r-1)-m≤j) v2 hy
   omega
 have hii: ∀x∈U.drop (r-a),∀y∈V.take (e-m),k y<k x:=by
  intro x hx y hy;obtain ⟨i,hi,hx⟩:=Qef hx;obtain ⟨j,hj,hy⟩:=QeE hy;have hi2:=QE hx
  by_cases hrs:r=r0
  ·omega
  ·have ht:=k5 r (by omega) (by omega);obtain ⟨u,u1,u2⟩:=gu r (by omega) (by omega);obtain ⟨v,v1,v2⟩:=gv (mid+m-1-r) (by omega) (by omega)
   simp only[u1,v1,decide_eq_false_iff_not,Classical.not_not] at ht
   have h4:=Qb7 su (by omega:r-a≤i) u2 hx;have h5:=Qb7 sv (by omega:j≤mid+m-1-r-m) hy v2
   omega
 exact ⟨st,r0,r,e,hst,k1,by omega,by omega,by omega,hme,heb,by omega,by omega,hi,hii⟩
theorem Qnl (hc: ∀x y,Pv x→Pv y→ ∃z,cmp x y=some z∧(z<0↔k x<k y)) {s F a m b:Nat} {rec_:List α→Int→Int→Int→Option (List α)} (hr: ∀(A U V B:List α) (a m b:Nat),A.length=a→a+U.length=m→m+V.length=b→1≤U.length→1≤V.length→b≤1000000000→(A++(U++(V++B))).length≤1000000000000→b-a≤s→Srt k U→Srt k V→(∀z∈U,Pv z)→(∀z∈V,Pv z)→ ∃M,rec_ (A++(U++(V++B))) a m b=some (A++(M++B))∧Srt k M∧Y0 k (U++V) M)
  {A U V B:List α} (hA:A.length=a) (hU:a+U.length=m) (hV:m+V.length=b) (hu:2≤U.length) (hv:2≤V.length) (hb:b≤1000000000) (hl:(A++(U++(V++B))).length≤1000000000000) (hs:b-a≤s+1) (hF:b-a<F) (su:Srt k U) (sv:Srt k V) (pu: ∀z∈U,Pv z) (pv: ∀z∈V,Pv z) :
  ∃M,QeJ cmp rec_ F (A++(U++(V++B))) a m b=some (A++(M++B))∧Srt k M∧Y0 k (U++V) M:=by
 have hd1: ¬w64 ((m:Int)-(a:Int))=1:=by rw[Qej (by omega) (by omega)];omega
 have hd2: ¬w64 ((b:Int)-(m:Int))=1:=by rw[Qej (by omega) (by omega)];omega
 have hg:WR (0≤1∧1≤64)=some ():=QaS (by decide);obtain ⟨st,r0,r,e,hst,k1,r1,r2,he,hme,heb,hm1,hm2,hi,hii⟩:=Qpl (B:=B) hc hA hU hV hu hv hb hF su sv pu pv
 generalize hm:(a+b)/2=mid at *
 have hw:w64 ((IntKind.u64.wrap (w64 ((a:Int)+(b:Int))))/2^(1:Int).toNat)=(mid:Int):=by rw[QmG (by omega),hm]
 have hn:w64 ((mid:Int)+(m:Int))=((mid+m:Nat):Int):=QiQ (by omega);have hp:w64 (((mid+m:Nat):Int)-1)=((mid+m-1:Nat):Int):=QkU (by omega) (by omega);have hend:w64 (((mid+m:Nat):Int)-(r:Int))=(e:Int):=by rw[Qej (by omega) (by omega)];omega
 have l1:(U.take (r-a)).length=r-a:=by simp;omega
 have l2:(U.drop (r-a)).length=m-r:=by simp;omega
 have l3:(V.take (e-m)).length=e-m:=by simp;omega
 have l4:(V.drop (e-m)).length=b-e:=by simp;omega
 have hus:U.take (r-a)++U.drop (r-a)=U:=List.take_append_drop _ _;have hvs:V.take (e-m)++V.drop (e-m)=V:=List.take_append_drop _ _
 generalize hU1:U.take (r-a)=U1 at *
 generalize hU2:U.drop (r-a)=U2 at *
 generalize hV1:V.take (e-m)=V1 at *
 generalize hV2:V.drop (e-m)=V2 at *
 have s1:Srt k U1:=by rw[←hU1];exact Qh9 su _
 have s2:Srt k U2:=by rw[←hU2];exact Qij su _
 have s3:Srt k V1:=by rw[←hV1];exact Qh9 sv _
 have s4:Srt k V2:=by rw[←hV2];exact Qij sv _
 have c1: ∀x∈U1,∀y∈U2,k x≤k y:=fun x hx y hy=>by rw[←hU1] at hx;rw[←hU2] at hy;exact QoY su hx hy
 have c2: ∀x∈V1,∀y∈V2,k x≤k y:=fun x hx y hy=>by rw[←hV1] at hx;rw[←hV2] at hy;exact QoY sv hx hy
 have p1: ∀z∈U1,Pv z:=fun z hz=>pu z (by rw[←hus];simp[hz]);have p2: ∀z∈U2,Pv z:=fun z hz=>pu z (by rw[←hus];simp[hz]);have p3: ∀z∈V1,Pv z:=fun z hz=>pv z (by rw[←hvs];simp[hz]);have p4: ∀z∈V2,Pv z:=fun z hz=>pv z (by rw[←hvs];simp[hz]);have hmid:a+U1.length+V1.length=mid:=by omega
 obtain ⟨w0,hr1,hr2⟩: ∃v,(bif (decide ((r:Int)<(m:Int))) then some ((e:Int),(decide ((m:Int)<(e:Int)))) else some ((e:Int),false))=some ((e:Int),v) ∧
   (bif v then Option.bind (Qpd F (A++(U++(V++B))) r m e) fun r6=>some r6 else some (A++(U++(V++B))))=some (A++(U1++(V1++(U2++(V2++B))))):=by
  by_cases h1:r<m
  ·have h1':(r:Int)<(m:Int):=by omega
   by_cases h2:m<e
   ·have h2':(m:Int)<(e:Int):=by omega
    obtain ⟨L',q1,q2,q3⟩:=Qph (L:=A++(U++(V++B))) (a:=r) (m:=m) (b:=e) (F:=F) h1 h2 (by simp;omega) hl (by omega);have e0:A++(U++(V++B))=(A++U1)++(U2++(V1++(V2++B))):=by rw[←hus,←hvs];simp
    have:=Qpx (A:=A++U1) (U:=U2) (V:=V1) (B:=V2++B) (L':=L') (m:=m) (by simp;omega) (fun t=>by rw[q3 t,e0,l2,l3]);refine ⟨true,by simp only[h1',h2',decide_true,cond_true],?_⟩
    simp only[cond_true,Option.bind_some,q1,this]
    simp
   ·have h2': ¬(m:Int)<(e:Int):=by omega
    have:V1=[]:=List.eq_nil_of_length_eq_zero (by omega);refine ⟨false,by simp only[h1',h2',decide_true,cond_true,decide_false],?_⟩
    rw[cond_false,←hus,←hvs,this];simp
  ·have h1': ¬(r:Int)<(m:Int):=by omega
   have:U2=[]:=List.eq_nil_of_length_eq_zero (by omega);refine ⟨false,by simp only[h1',decide_false,cond_false],?_⟩
   rw[cond_false,←hus,←hvs,this];simp
 obtain ⟨w1,M1,a1,a2,a3,a4⟩:=QkC hr (A:=A) (U:=U1) (V:=V1) (B:=U2++(V2++B)) (a:=a) (m:=r) (b:=mid) hA (by omega) (by omega) (by omega) (by rw[←hus,←hvs] at hl;simp at hl ⊢;omega) (by omega) s1 s3 p1 p3;have lM:M1.length=U1.length+V1.length:=by rw[←a4.perm.length_eq];simp
 obtain ⟨w2,M2,b1,b2,b3,b4⟩:=QkC hr (A:=A++M1) (U:=U2) (V:=V2) (B:=B) (a:=mid) (m:=e) (b:=b) (by simp;omega) (by omega) (by omega) (by omega) (by rw[←hus,←hvs] at hl;simp at hl ⊢;omega) (by omega) s2 s4 p2 p4;refine ⟨M1++M2,?_,?_,?_⟩
 ·have e1:A++(M1++(U2++(V2++B)))=(A++M1)++(U2++(V2++B)):=by simp
  unfold QeJ
  simp only[hd1,hd2,decide_false,cond_false,hg,Option.bind_some,hw,hn,hst,oun,hp,k1,hend,hr1,hr2,a1,a2,b1]
  rw[e1]
  simp only[b2,Option.bind_some]
  simp
 ·refine List.pairwise_append.2 ⟨a3,b3,fun x hx y hy=> ?_⟩;have hx:=a4.perm.symm.subset hx;have hy:=b4.perm.symm.subset hy;rcases List.mem_append.1 hx with hx | hx<;>rcases List.mem_append.1 hy with hy | hy
  ·exact c1 x hx y hy
  ·exact hi x hx y hy
  ·have:=hii y hy x hx;omega
  ·exact c2 x hx y hy
 ·rw[←hus,←hvs]
  have e1:U1++U2++(V1++V2)=U1++(U2++V1)++V2:=by simp
  have e2:U1++(V1++U2)++V2=(U1++V1)++(U2++V2):=by simp
  rw[e1]
  refine Y0.trans (b:=(U1++V1)++(U2++V2)) ?_ (a4.append b4)
  rw[←e2]
  exact ((Y0.refl U1).append (Y0.swap hii)).append (Y0.refl V2)
theorem Qj0 (hc: ∀x y,Pv x→Pv y→ ∃z,cmp x y=some z∧(z<0↔k x<k y)): ∀(F:Nat) (A U V B:List α) (a m b:Nat),A.length=a→a+U.length=m→m+V.length=b→1≤U.length→1≤V.length→b≤1000000000→(A++(U++(V++B))).length≤1000000000000→2*(b-a)+4≤F→Srt k U→Srt k V→(∀z∈U,Pv z)→(∀z∈V,Pv z) →
  ∃M,QjS cmp F (A++(U++(V++B))) a m b=some (A++(M++B))∧Srt k M∧Y0 k (U++V) M
 | 0,_,_,_,_,_,_,_,_,_,_,_,_,_,_,h,_,_,_,_=>by omega
 | F+1,A,U,V,B,a,m,b,hA,hU,hV,hu,hv,hb,hl,hF,su,sv,pu,pv=>by
  by_cases h1:U.length=1
  ·obtain ⟨x,rfl⟩:=List.length_eq_one_iff.1 h1;have:m=a+1:=by simp at hU;omega
   subst this;exact QnA hc hA (by omega) hb (by omega) sv (pu x (by simp)) pv _
  ·by_cases h2:V.length=1
   ·obtain ⟨y,rfl⟩:=List.length_eq_one_iff.1 h2;have:b=m+1:=by simp at hV;omega
    subst this;exact Qm0 hc hA hU (by omega) hb (by omega) su (pv y (by simp)) pu _
   ·exact Qnl (s:=b-a-1) hc (fun A U V B a m b hA hU hV hu hv hb hl hs su sv pu pv=>Qj0 hc F A U V B a m b hA hU hV hu hv hb hl (by omega) su sv pu pv) hA hU hV (by omega) (by omega) hb hl (by omega) (by omega) su sv pu pv
end
end Go.Proofs.YthpgjbbjpfiniaaGreat
namespace Go.Proofs.YthpgjbbjpfiniaaGreat
set_option linter.unusedSimpArgs false
set_option linter.unusedVariables false
set_option maxHeartbeats 1000000
section
variable {α:Type} {k:α→Int} {cmp:α→α→Option Int} {Pv:α→Prop}
def Blk (k:α→Int) (s:Nat) (l:List α):Prop:= ∀i,Srt k ((l.drop (i*s)).take s)
theorem Blk.nil (s:Nat):Blk k s []:=fun i=>by simp[Srt]
theorem Blk.append {s q:Nat} {D M:List α} (h:Blk k s D) (hd:D.length=q*s) (hm:Srt k M) (hl:M.length≤s):Blk k s (D++M):=fun i=>by
 by_cases hi:i<q
 ·have h1:i*s+s≤q*s:=by rw[←Nat.succ_mul];exact Nat.mul_le_mul_right s hi
  rw[List.drop_append_of_le_length (by omega),List.take_append_of_le_length (by simp;omega)]
  exact h i
 ·have h1:q*s≤i*s:=Nat.mul_le_mul_right s (by omega);have:(D++M).drop (i*s)=M.drop (i*s-D.length):=by rw[List.drop_append,List.drop_eq_nil_of_le (by omega),List.nil_append]
  rw[this]
  exact Qh9 (Qij hm _) _
theorem Blk.drop {s:Nat} {R:List α} (h:Blk k s R) (j:Nat):Blk k s (R.drop (j*s)):=fun i=>by
 rw[List.drop_drop,←Nat.add_mul]
 exact h _
theorem Blk.all {s:Nat} {R:List α} (h:Blk k s R) (hl:R.length≤s):Srt k R:=by
 have:=h 0
 rwa [Nat.zero_mul,List.drop_zero,List.take_of_length_le hl] at this
theorem Y0.mem {l l':List α} (h:Y0 k l l') (hp: ∀z∈l,Pv z): ∀z∈l',Pv z:=fun z hz=>hp z (h.perm.symm.subset hz)
theorem QoM (hc: ∀x y,Pv x→Pv y→ ∃z,cmp x y=some z∧(z<0↔k x<k y)) {n F:Nat} (hn:n≤100000000) (hF:n+1<F): ∀(r q:Nat) (D R:List α) (f:Nat),R.length<r→r<f→D.length=q*20→D.length+R.length=n→Blk k 20 D→(∀z∈R,Pv z) →
  ∃D' R' q',iter (QmR cmp F (n:Int)) f (D++R,(D.length:Int),((D.length+20:Nat):Int))=some (D'++R',(D'.length:Int))∧R'.length<20∧D'.length=q'*20∧D'.length+R'.length=n∧Blk k 20 D'∧(∀z∈R',Pv z)∧Y0 k (D++R) (D'++R')
 | _,_,_,_,0,_,h,_,_,_,_=>by omega
 | 0,_,_,_,_,h,_,_,_,_,_=>by omega
 | r+1,q,D,R,f+1,hR,hf,hq,hl,hb,hp=>by
  by_cases h:D.length+20≤n
  ·have h':((D.length+20:Nat):Int)≤(n:Int):=by omega
   have l1:(R.take 20).length=20:=by simp;omega
   obtain ⟨M,m1,m2,m3⟩:=QmK (k:=k) (B:=R.drop 20) hc (a:=D.length) (b:=D.length+20) (F:=F) (A:=D) (M:=R.take 20) rfl (by omega) (by omega) (by omega) (fun z hz=>hp z (List.mem_of_mem_take hz));have lM:M.length=20:=by rw[←m3.perm.length_eq];exact l1
   have e0:D++R=D++R.take 20++R.drop 20:=by simp
   have lD:(D++M).length=D.length+20:=by simp;omega
   obtain ⟨D',R',q',k1,k2,k3,k4,k5,k6,k7⟩:=QoM hc hn hF r (q+1) (D++M) (R.drop 20) f (by simp;omega) (by omega) (by omega) (by simp;omega) (hb.append hq m2 (by omega)) (fun z hz=>hp z (List.mem_of_mem_drop hz));refine ⟨D',R',q',?_,k2,k3,k4,k5,k6,Y0.trans ?_ k7⟩
   ·have e1:w64 (((D.length+20:Nat):Int)+20)=(((D++M).length+20:Nat):Int):=by rw[lD];exact QiQ (b:=20) (by omega)
    rw[lD] at k1 e1
    rw[e0]
    simp only[iter,QmR,oun,h',decide_true,cond_true,m1,Option.bind_some,QR,e1,k1]
   ·conv=>lhs;rw[e0]
    exact ((Y0.refl D).append m3).append (Y0.refl _)
  ·have h': ¬((D.length+20:Nat):Int)≤(n:Int):=by omega
   refine ⟨D,R,q,?_,by omega,hq,hl,hb,hp,Y0.refl _⟩
   simp only[iter,QmR,oun,h',decide_false,cond_false,Option.bind_some,QR]
theorem Qn7 (hc: ∀x y,Pv x→Pv y→ ∃z,cmp x y=some z∧(z<0↔k x<k y)) {n F s:Nat} (hn:n≤100000000) (hF:2*n+4≤F) (hs:1≤s) (hs2:s≤n): ∀(r q:Nat) (D R:List α) (f:Nat),R.length<r→r<f→D.length=q*(2*s)→D.length+R.length=n→Blk k (2*s) D→Blk k s R→(∀z∈R,Pv z) →
  ∃D' R' q',iter (QgX cmp F (n:Int) (s:Int)) f (D++R,(D.length:Int),((D.length+2*s:Nat):Int))=some (D'++R',(D'.length:Int))∧R'.length<2*s∧D'.length=q'*(2*s)∧D'.length+R'.length=n∧Blk k (2*s) D'∧Blk k s R'∧(∀z∈R',Pv z)∧Y0 k (D++R) (D'++R')
 | _,_,_,_,0,_,h,_,_,_,_,_=>by omega
 | 0,_,_,_,_,h,_,_,_,_,_,_=>by omega
 | r+1,q,D,R,f+1,hR,hf,hq,hl,hb,hb2,hp=>by
  have e2:w64 (2*(s:Int))=((2*s:Nat):Int):=by rw[Yr (by omega) (by omega)];omega
  by_cases h:D.length+2*s≤n
  ·have h':((D.length+2*s:Nat):Int)≤(n:Int):=by omega
   have l1:(R.take s).length=s:=by simp;omega
   have l2:((R.drop s).take s).length=s:=by simp;omega
   have e0:R=R.take s++((R.drop s).take s++R.drop (2*s)):=by
    rw[show 2*s=s+s by omega,←List.drop_drop,List.take_append_drop,List.take_append_drop]
   have s1:Srt k (R.take s):=by have:=hb2 0;rwa [Nat.zero_mul,List.drop_zero] at this
   have s2:Srt k ((R.drop s).take s):=by have:=hb2 1;rwa [Nat.one_mul] at this
   obtain ⟨M,m1,m2,m3⟩:=Qj0 (k:=k) hc F D (R.take s) ((R.drop s).take s) (R.drop (2*s)) D.length (D.length+s) (D.length+2*s) rfl (by omega) (by omega) (by omega) (by omega) (by omega) (by simp;omega) (by omega) s1 s2 (fun z hz=>hp z (List.mem_of_mem_take hz)) (fun z hz=>hp z (List.mem_of_mem_drop (List.mem_of_mem_take hz)))
   rw[←e0] at m1
   have lM:M.length=2*s:=by rw[←m3.perm.length_eq];simp;omega
   have lD:(D++M).length=D.length+2*s:=by simp;omega
   obtain ⟨D',R',q',k1,k2,k3,k4,k5,k6,k7,k8⟩:=Qn7 hc hn hF hs hs2 r (q+1) (D++M) (R.drop (2*s)) f (by simp;omega) (by omega) (by rw[lD,Nat.add_mul q 1 (2*s),Nat.one_mul];omega) (by simp;omega) (hb.append hq m2 (by omega)) (hb2.drop 2) (fun z hz=>hp z (List.mem_of_mem_drop hz));refine ⟨D',R',q',?_,k2,k3,k4,k5,k6,k7,Y0.trans ?_ k8⟩
   ·have e1:w64 (((D.length+2*s:Nat):Int)+((2*s:Nat):Int))=(((D.length+2*s)+2*s:Nat):Int):=QiQ (by omega);have e3:w64 ((D.length:Int)+(s:Int))=((D.length+s:Nat):Int):=QiQ (by omega)
    rw[lD,List.append_assoc] at k1
    simp only[iter,QgX,oun,h',decide_true,cond_true,e3,m1,Option.bind_some,QR,e2,e1,k1]
   ·conv=>lhs;rw[e0]
    rw[List.append_assoc,←List.append_assoc (R.take s)]
    exact (Y0.refl D).append (m3.append (Y0.refl _))
  ·have h': ¬((D.length+2*s:Nat):Int)≤(n:Int):=by omega
   refine ⟨D,R,q,?_,by omega,hq,hl,hb,hb2,hp,Y0.refl _⟩
   simp only[iter,QgX,oun,h',decide_false,cond_false,Option.bind_some,QR]
theorem QnQ (hc: ∀x y,Pv x→Pv y→ ∃z,cmp x y=some z∧(z<0↔k x<k y)) {n F:Nat} (hn:n≤100000000) (hF:2*n+4≤F): ∀(r s:Nat) (L:List α) (f:Nat),n<s+r→r<f→1≤s→s≤2*n+20→L.length=n→Blk k s L→(∀z∈L,Pv z) →
  ∃L',iter (QgY cmp F (n:Int)) f (L,(s:Int))=some L'∧Srt k L'∧Y0 k L L'
 | _,_,_,0,_,h,_,_,_,_,_=>by omega
 | r,s,L,f+1,hr,hf,hs,hs2,hl,hb,hp=>by
  by_cases h:s<n
  ·cases r with
   | zero=>omega
   | succ r =>
   have h':(s:Int)<(n:Int):=by omega
   obtain ⟨D,R,q,k1,k2,k3,k4,k5,k6,k7,k8⟩:=Qn7 (k:=k) hc hn hF hs (by omega) (L.length+1) 0 [] L F (by omega) (by omega) (by simp) (by simpa using hl) (Blk.nil _) hb hp
   simp only[List.nil_append,List.length_nil,Nat.zero_add] at k1 k8
   rw[show ((0:Nat):Int)=0 from rfl] at k1
   have e2:w64 (2*(s:Int))=((2*s:Nat):Int):=by rw[Yr (by omega) (by omega)];omega
   have e3:w64 ((D.length:Int)+(s:Int))=((D.length+s:Nat):Int):=QiQ (by omega);have e4:w64 ((s:Int)*2)=((2*s:Nat):Int):=by rw[Yr (by omega) (by omega)];omega
   obtain ⟨M,m1,m2,m3⟩: ∃M,(bif (decide (((D.length+s:Nat):Int)<(n:Int))) then
     Option.bind (QjS cmp F (D++R) D.length ((D.length+s:Nat):Int) n) fun r4=>some r4 else some (D++R))=some (D++M)∧Srt k M∧Y0 k R M:=by
    by_cases h2:D.length+s<n
    ·have h2':((D.length+s:Nat):Int)<(n:Int):=by omega
     have e0:R=R.take s++(R.drop s++[]):=by simp
     have s1:Srt k (R.take s):=by have:=k6 0;rwa [Nat.zero_mul,List.drop_zero] at this
     have s2:Srt k (R.drop s):=Blk.all (s:=s) (by have h:=k6.drop 1;rw[Nat.one_mul] at h;exact h) (by simp;omega);obtain ⟨M,m1,m2,m3⟩:=Qj0 (k:=k) hc F D (R.take s) (R.drop s) [] D.length (D.length+s) n rfl (by simp;omega) (by simp;omega) (by simp;omega) (by simp;omega) (by omega) (by simp;omega) (by omega) s1 s2 (fun z hz=>k7 z (List.mem_of_mem_take hz)) (fun z hz=>k7 z (List.mem_of_mem_drop hz))
     rw[←e0,List.append_nil] at m1
     refine ⟨M,?_,m2,by rw[List.take_append_drop] at m3;exact m3⟩
     simp only[h2',decide_true,cond_true,m1,Option.bind_some]
    ·have h2': ¬((D.length+s:Nat):Int)<(n:Int):=by omega
     exact ⟨R,by simp only[h2',decide_false,cond_false],k6.all (by omega),Y0.refl _⟩
   have st:Y0 k L (D++M):=k8.trans ((Y0.refl D).append m3);have lM:M.length=R.length:=m3.perm.length_eq.symm;obtain ⟨L',j1,j2,j3⟩:=QnQ hc hn hF r (2*s) (D++M) f (by omega) (by omega) (by omega) (by omega) (by simp;omega) (k5.append k3 m2 (by omega)) (st.mem hp);refine ⟨L',?_,j2,st.trans j3⟩
   simp only[iter,QgY,oun,h',decide_true,cond_true,e2,k1,Option.bind_some,e3,m1,QR,e4,j1]
  ·have h': ¬(s:Int)<(n:Int):=by omega
   refine ⟨L,?_,hb.all (by omega),Y0.refl _⟩
   simp only[iter,QgY,oun,h',decide_false,cond_false,Option.bind_some,QR]
theorem Qkf (hc: ∀x y,Pv x→Pv y→ ∃z,cmp x y=some z∧(z<0↔k x<k y)) {F:Nat} {L:List α} (hn:L.length≤100000000) (hF:2*L.length+30≤F) (hp: ∀z∈L,Pv z) :
  ∃L',QiY cmp F L=some L'∧Srt k L'∧Y0 k L L':=by
 obtain ⟨D,R,q,k1,k2,k3,k4,k5,k6,k7⟩:=QoM (k:=k) hc (n:=L.length) (F:=F) hn (by omega) (L.length+1) 0 [] L F (by omega) (by omega) (by simp) (by simp) (Blk.nil _) hp
 simp only[List.nil_append,List.length_nil,Nat.zero_add] at k1 k7
 obtain ⟨M,m1,m2,m3⟩:=QmK (k:=k) (B:=[]) hc (a:=D.length) (b:=L.length) (F:=F) (A:=D) (M:=R) rfl (by omega) (by omega) (by omega) k6
 rw[List.append_nil,List.append_nil] at m1
 have st:Y0 k L (D++M):=k7.trans ((Y0.refl D).append m3);have lM:M.length=R.length:=m3.perm.length_eq.symm;obtain ⟨L',j1,j2,j3⟩:=QnQ (k:=k) hc (n:=L.length) (F:=F) hn (by omega) (L.length+1) 20 (D++M) F (by omega) (by omega) (by omega) (by omega) (by simp;omega) (k5.append k3 m2 (by omega)) (st.mem hp);refine ⟨L',?_,j2,st.trans j3⟩;have z1:((0:Nat):Int)=0:=rfl;have z2:((20:Nat):Int)=20:=rfl
 rw[z1,z2] at k1
 rw[z2] at j1
 unfold QiY gSt
 simp only[k1,oun,Option.bind_some,m1,j1]
end
end Go.Proofs.YthpgjbbjpfiniaaGreat
namespace Go.Proofs.YthpgjbbjpfiniaaGreat
open Go.RowKit
set_option linter.unusedSimpArgs false
set_option linter.unusedVariables false
abbrev Op:=Qc
theorem QoV (rec_:List Op→Int→Int→Int→Option (List Op)) (F:Nat) (d:List Op) (a m b:Int):Y9 rec_ F d a m b=QeJ Yp rec_ F d a m b:=rfl
theorem Qj6: ∀F:Nat,Yk F=QjS Yp F
 | 0=>rfl
 | F+1=>by
  funext d a m b
  show Y9 (Yk F) F d a m b=QeJ Yp (QjS Yp F) F d a m b
  rw[Qj6 F];exact QoV _ _ _ _ _ _
theorem Qqm (F:Nat) (n s:Int):Zj F n s=QgX Yp F n s:=by
 funext j
 unfold Zj QgX
 rw[Qj6]
theorem Qqh (F:Nat) (n:Int):Zh F n=QgY Yp F n:=by
 funext j
 unfold Zh QgY
 simp only[Qj6,Qqm]
theorem QoS (F:Nat) (d:List Op):Yy F d=QiY Yp F d:=by
 unfold Yy QiY ZQ gSt
 simp only[Qqh]
 rfl
theorem Qpy (x y:Op) (hx:0≤x.cost∧x.cost≤1000000000) (hy:0≤y.cost∧y.cost≤1000000000): ∃z,Yp x y=some z∧(z<0↔x.cost<y.cost) :=
 ⟨x.cost-y.cost,by unfold Yp;rw[Yr (by omega) (by omega)],by omega⟩
theorem Ql8 {F:Nat} {L:List Op} (hn:L.length≤1000) (hF:40000≤F) (hb: ∀x∈L,0≤x.cost∧x.cost≤1000000000): ∃L',Yy F L=some L'∧Srt Qc.cost L'∧Y0 Qc.cost L L':=by
 rw[QoS]
 exact Qkf Qpy (by omega) (by omega) hb
def QiU (l:List Int):List Int:=if l.getLast? =some (-1) then l else l++[-1]
def Qh2 (s:List Int) (d:Int) (k:Nat) (u:Bool):List Int:=QiU (s.take k++(d::(bif u then [-1] else []))++s.drop k)
def JM (s:List Int) (d:Int) (i:Nat):List Int:=Qh2 s d (i/2) (decide (i%2=1))
def Qbu (s:List Int) (d:Int):List (List Int):=(List.range (2*s.length+1)).map (JM s d)
theorem Qbz {α:Type} {l:List α} {k:Nat} (h:k≤l.length):WS l (k:Int) ((l.length:Nat):Int)=some (l.drop k):=by
 unfold WS
 rw[if_pos (by omega)]
 simp
theorem Qm2 {α:Type} {l:List α} (h:l≠[]) (hn:l.length≤1000000):getI l (w64 (((l.length:Nat):Int)-1))=l.getLast? :=by
 have:0<l.length:=List.length_pos_iff.2 h;have e:w64 (((l.length:Nat):Int)-1)=((l.length-1:Nat):Int):=by rw[Yr (by omega) (by omega)];omega
 rw[e,QD,List.getLast?_eq_getElem?]
theorem QnM {l:List Int} (h:l≠[]) (hn:l.length≤10000):(Option.bind (getI l (w64 (((l.length:Nat):Int)-1))) fun x1 =>
  Option.bind (bif (!(decide (x1=(-1)))) then Option.bind (Jf l [(-1)]) fun l6=>some l6 else some l) (fun out1=>some out1))=some (QiU l):=by
 rw[Qm2 h (by omega),List.getLast?_eq_some_getLast h]
 unfold QiU
 rw[List.getLast?_eq_some_getLast h]
 by_cases hx:l.getLast h= -1
 ·simp[hx]
 ·rw[if_neg (by simpa using hx)]
  simp only[Option.bind_some,hx,decide_false,Bool.not_false,cond_true]
  rw[Yv (by simp;omega)]
  rfl
theorem Qjk {s m:List Int} {k:Nat} (hk:k≤s.length) (hs:s.length≤1000) (hm:m≠[]) (hm2:m.length≤2):W0 s (k:Int) m=some (QiU (s.take k++m++s.drop k)):=by
 have hm3:0<m.length:=List.length_pos_iff.2 hm;unfold W0
 rw[VZ hk,Qbz hk]
 simp only[Option.bind_some]
 rw[Yv (by simp;omega)]
 simp only[Option.bind_some]
 rw[Yv (by simp;omega)]
 simp only[Option.bind_some]
 rw[Yv (by simp;omega)]
 simp only[Option.bind_some,List.nil_append]
 exact QnM (by intro h;have:=congrArg List.length h;simp only[List.length_append,List.length_nil] at this;omega) (by simp;omega)
theorem QjO {s:List Int} {d:Int} {k:Nat} {u:Bool} (hk:k≤s.length) (hs:s.length≤1000):ZC s d (k:Int) u=some (Qh2 s d k u):=by
 unfold ZC Qh2
 rw[VZ hk,Qbz hk]
 simp only[Option.bind_some]
 rw[Yv (by simp;omega)]
 simp only[Option.bind_some]
 rw[Yv (by simp;omega)]
 simp only[Option.bind_some,List.nil_append]
 have h1:(bif u then Option.bind (Jf (s.take k++[d]) [(-1)]) fun l4=>some l4 else some (s.take k++[d]))=some (s.take k++(d::(bif u then [-1] else []))):=by
  cases u
  ·simp
  ·rw[cond_true,Yv (by simp;omega)];simp
 have hl:(bif u then [(-1:Int)] else []).length≤1:=by cases u<;>simp
 rw[h1]
 simp only[Option.bind_some]
 rw[Yv (by simp;omega)]
 simp only[Option.bind_some]
 exact QnM (by simp) (by simp;omega)
def toT (v:Int) (s:List Int):Qa:=⟨v,s⟩
def Qag (t:Qa) (d:Int) (j:Nat):List Qa:=((List.range (min j (2*t.Stops.length+1))).map (JM t.Stops d)).map (toT t.Vehicle)
theorem Qfq (t:Qa) (d:Int) (j:Nat):(Qag t d j).length=min j (2*t.Stops.length+1):=by simp[Qag]
theorem Qem (t:Qa) (d:Int) {j:Nat} (h:j<2*t.Stops.length+1):Qag t d (j+1)=Qag t d j++[⟨t.Vehicle,JM t.Stops d j⟩]:=by
 unfold Qag
 rw[show min (j+1) (2*t.Stops.length+1)=j+1 by omega,show min j (2*t.Stops.length+1)=j by omega,List.range_succ,List.map_append,List.map_append]
 rfl
theorem Qd3 {t:Qa} {d:Int} (hs:t.Stops.length≤1000): ∀(r k f:Nat),k+r=t.Stops.length+1→r<f →
  iter (Wl t d) f (Qag t d (2*k),((t.Stops.length+1:Nat):Int),(k:Int))=some ((Qbu t.Stops d).map (toT t.Vehicle))
 | _,_,0,_,h=>by omega
 | 0,k,f+1,hk,_=>by
  have h1: ¬((k:Int)<((t.Stops.length+1:Nat):Int)):=by omega
  simp only[iter,Wl,oun,h1,decide_false,cond_false,Option.bind_some,QR]
  unfold Qag Qbu
  rw[show min (2*k) (2*t.Stops.length+1)=2*t.Stops.length+1 by omega]
 | r+1,k,f+1,hk,hf=>by
  have h1:((k:Int)<((t.Stops.length+1:Nat):Int)):=by omega
  have ih:=Qd3 (t:=t) (d:=d) hs r (k+1) f (by omega) (by omega);have e1:w64 ((k:Int)+1)=((k+1:Nat):Int):=by rw[Yr (by omega) (by omega)];omega
  have j1:W0 t.Stops (k:Int) [d]=some (JM t.Stops d (2*k)):=by
   rw[Qjk (by omega) hs (by simp) (by simp)]
   unfold JM Qh2
   rw[show 2*k/2=k by omega,show decide (2*k%2=1)=false by simp]
   rfl
  simp only[iter,Wl,oun,h1,decide_true,cond_true,j1,Option.bind_some,e1]
  rw[Yv (by rw[Qfq];simp;omega),Option.bind_some,←Qem t d (by omega)]
  by_cases h2:k<t.Stops.length
  ·have h2':(k:Int)<((t.Stops.length:Nat):Int):=by omega
   have j2:W0 t.Stops (k:Int) [d,-1]=some (JM t.Stops d (2*k+1)):=by
    rw[Qjk (by omega) hs (by simp) (by simp)]
    unfold JM Qh2
    rw[show (2*k+1)/2=k by omega,show decide ((2*k+1)%2=1)=true by simp]
    rfl
   simp only[h2',decide_true,cond_true,j2,Option.bind_some]
   rw[Yv (by rw[Qfq];simp;omega),Option.bind_some,←Qem t d (by omega)]
   simp only[Option.bind_some,QR]
   exact ih
  ·have h2': ¬((k:Int)<((t.Stops.length:Nat):Int)):=by omega
   have e2:Qag t d (2*k+1)=Qag t d (2*(k+1)):=by
    unfold Qag
    rw[show min (2*k+1) (2*t.Stops.length+1)=min (2*(k+1)) (2*t.Stops.length+1) by omega]
   simp only[h2',decide_false,cond_false,Option.bind_some,QR]
   rw[e2]
   exact ih
theorem QiO {F:Nat} {t:Qa} {d:Int} (hs:t.Stops.length≤1000) (hF:40000≤F):Vy F t d=some ((Qbu t.Stops d).map (toT t.Vehicle)):=by
 have e1:w64 (((t.Stops.length:Nat):Int)+1)=((t.Stops.length+1:Nat):Int):=by rw[Yr (by omega) (by omega)];omega
 have:=Qd3 (t:=t) (d:=d) hs (t.Stops.length+1) 0 F (by omega) (by omega);have e2:Qag t d (2*0)=[]:=by simp[Qag]
 rw[e2] at this
 unfold Vy
 rw[e1,show (0:Int)=((0:Nat):Int) from rfl,this]
 rfl
end Go.Proofs.YthpgjbbjpfiniaaGreat
namespace Go.Proofs.YthpgjbbjpfiniaaGreat
open Go.RowKit
set_option linter.unusedSimpArgs false
set_option linter.unusedVariables false
abbrev QbT:Op→Int:=Qc.cost
abbrev JF:Op→Qa:=Qc.tour
theorem QgT {p:Pr} (hp:OkP p) (t:Qa):0≤(YR p t).1∧(YR p t).1≤262400000:=by
 unfold YR;cases h:W6 p t with
 | inr q=>simp
 | inl u =>
  have:=VN hp h;exact ⟨this.1,this.2.1⟩
def Qgj (p:Pr) (t:Qa):Option Op:=if (YR p t).2=0 then some ⟨t,(YR p t).1⟩ else none
def Qb4 (p:Pr) (ts:List Qa):List Op:=ts.filterMap (Qgj p)
theorem Qgp (p:Pr) (ts:List Qa) (t:Qa):Qb4 p (ts++[t])=Qb4 p ts++(Qgj p t).toList:=by
 unfold Qb4
 rw[List.filterMap_append]
 cases h:Qgj p t<;>simp[h]
theorem QfI (p:Pr) (ts:List Qa):(Qb4 p ts).length≤ts.length:=List.length_filterMap_le _ _
theorem QhA {p:Pr} {ts:List Qa} {x:Op} (h:x∈Qb4 p ts):x.tour∈ts∧(YR p x.tour).2=0∧x.cost=(YR p x.tour).1:=by
 obtain ⟨t,h1,h2⟩:=List.mem_filterMap.1 h;unfold Qgj at h2
 split at h2
 ·injection h2 with h2;subst h2
  exact ⟨h1,by assumption,rfl⟩
 ·cases h2
theorem Qny {p:Pr} (hp:OkP p) {ts:List Qa}: ∀x∈Qb4 p ts,0≤x.cost∧x.cost≤1000000000:=fun x hx=>by
 have h1:=(QhA hx).2.2;have h2:=QgT hp x.tour
 omega
theorem Qnf {F:Nat} (hF:40000≤F) {p:Pr} (hp:OkP p) (hc:Qv p=some 0) (hn:p.Road.Edges.length≤600) (L:List Qa) (hl:L.length≤1000) :
  iter (Wx F p L) (((L.length:Nat):Int).toNat+1) ([],0)=some (Qb4 p L):=by
 have:=Zb (body:=Wx F p L) L (fun k=>Qb4 p (L.take k)) (fun m k=>(m,k)) (fun _ _=>none) (Qb4 p L) (by omega) (fun k t ht _=> ?_) (fun _=>by simp only[Wx,oun,List.take_length];simp) (((L.length:Nat):Int).toNat+1) (by simp)
 ·rw[Ya _ _ (fun _ _ _=>rfl)] at this
  exact this
 ·have hk:=QE ht;have hk2:((k:Int)<(L.length:Nat)):=by omega
  have h1:=QfI p (L.take k)
  rw[Yx (Nat.le_of_lt hk)] at h1
  simp only[Wx,oun,hk2,decide_true,cond_true,QD,ht,Option.bind_some,Qpm hF hp hc hn,Jp]
  rw[YU ht,Qgp]
  unfold Qgj
  by_cases h:(YR p t).2=0
  ·rw[if_pos h]
   simp only[h,decide_true,cond_true]
   rw[Yv (by simp;omega)]
   rfl
  ·rw[if_neg h]
   simp only[h,decide_false,cond_false,Option.bind_some,Option.toList_none,List.append_nil]
theorem Qhq (c:Int): ∀(n:Nat) (Z R:List Op) (f:Nat),Z.length=n→n<f→n≤100000→Srt QbT Z →
  ∃Z1 Z2,Z=Z1++Z2∧iter (Zc ((Z++R).map QbT) c) f (n:Int)=some ((Z1.length:Nat):Int)∧(∀z∈Z1,z.cost≤c)∧ ∀z∈Z2,c<z.cost
 | _,_,_,0,_,h,_,_=>by omega
 | 0,Z,R,f+1,hZ,_,_,_=>by
  have:Z=[]:=List.eq_nil_of_length_eq_zero hZ;subst this;exact ⟨[],[],rfl,by simp[iter,Zc,QR],by simp,by simp⟩
 | n+1,Z,R,f+1,hZ,hf,hb,hs=>by
  obtain ⟨Y,y,rfl⟩: ∃Y y,Z=Y++[y]:=by
   have:Z≠[]:=by intro e;rw[e] at hZ;simp at hZ
   exact ⟨Z.dropLast,Z.getLast this,(List.dropLast_concat_getLast this).symm⟩
  have hY:Y.length=n:=by simpa using hZ
  have h0:(0:Int)<((n+1:Nat):Int):=by omega
  have e1:w64 (((n+1:Nat):Int)-1)=(n:Int):=by rw[Yr (by omega) (by omega)];omega
  have g1:((Y++[y]++R).map QbT)[n]? =some y.cost:=by
   rw[List.getElem?_map,List.append_assoc,List.getElem?_append_right (by omega),hY]
   simp
  have hp:=List.pairwise_append.1 hs
  by_cases h:c<y.cost
  ·obtain ⟨Z1,Z2,k1,k2,k3,k4⟩:=Qhq c n Y (y::R) f hY (by omega) (by omega) hp.1;refine ⟨Z1,Z2++[y],by rw[k1];simp,?_,k3,fun z hz=> ?_⟩
   ·have e2:Y++[y]++R=Y++y::R:=by simp
    rw[e2] at g1 ⊢
    simp only[iter,Zc,h0,decide_true,cond_true,e1,QD,g1,Option.bind_some,h,QR,k2]
   ·rcases List.mem_append.1 hz with hz | hz
    ·exact k4 z hz
    ·rw[List.mem_singleton.1 hz];exact h
  ·refine ⟨Y++[y],[],by simp,?_,fun z hz=> ?_,by simp⟩
   ·simp only[iter,Zc,h0,decide_true,cond_true,e1,QD,g1,Option.bind_some,h,decide_false,cond_false,QR]
    rw[hZ]
   ·rcases List.mem_append.1 hz with hz | hz
    ·have:=hp.2.2 z hz y (by simp)
     simp only[QbT] at this
     omega
    ·rw[List.mem_singleton.1 hz];omega
theorem Qpa (f:Op→Int) (g:Op→Qa) (Z1 Z2:List Op) (x:Op) (hl:(Z1++Z2).length≤100000):(Option.bind (WS ((Z1++Z2).map g) 0 ((Z1.length:Nat):Int)) fun l1 =>
      Option.bind (Jf [] l1) fun l2 =>
      Option.bind (Jf l2 [g x]) fun l3 =>
      Option.bind (WS ((Z1++Z2).map g) ((Z1.length:Nat):Int) ((((Z1++Z2).map g).length:Nat):Int)) fun l4 =>
      Option.bind (Jf l3 l4) fun l5 =>
      Option.bind (WS ((Z1++Z2).map f) 0 ((Z1.length:Nat):Int)) fun l6 =>
      Option.bind (Jf [] l6) fun l7 =>
      Option.bind (Jf l7 [f x]) fun l8 =>
      Option.bind (WS ((Z1++Z2).map f) ((Z1.length:Nat):Int) ((((Z1++Z2).map f).length:Nat):Int)) fun l9 =>
      Option.bind (Jf l8 l9) fun l10 =>
      some (l5,l10))=some ((Z1++x::Z2).map g,(Z1++x::Z2).map f):=by
 simp only[List.length_append] at hl
 rw[VZ (by simp),Qbz (by simp),VZ (by simp),Qbz (by simp)]
 simp only[Option.bind_some]
 rw[Yv (by simp;omega)]
 simp only[Option.bind_some]
 rw[Yv (by simp;omega)]
 simp only[Option.bind_some]
 rw[Yv (by simp;omega)]
 simp only[Option.bind_some]
 rw[Yv (by simp;omega)]
 simp only[Option.bind_some]
 rw[Yv (by simp;omega)]
 simp only[Option.bind_some]
 rw[Yv (by simp;omega)]
 simp[List.map_append]
theorem QiA {F:Nat} (hF:40000≤F) {p:Pr} (hp:OkP p) (hc:Qv p=some 0) {t:Qa} {d:Int} (hs:t.Stops.length≤1000): ∀(r i:Nat) (L:List Op) (f:Nat),i+r=2*t.Stops.length+1→r<f→Srt QbT L→Y0 QbT (Qb4 p (Qag t d i)) L →
  ∃L',iter (Zg F p t d) f (L.map JF,L.map QbT,(i:Int))=some (L'.map JF)∧Srt QbT L'∧Y0 QbT (Qb4 p ((Qbu t.Stops d).map (toT t.Vehicle))) L'
 | _,_,_,0,_,h,_,_=>by omega
 | 0,i,L,f+1,hi,_,h1,h2=>by
  have e1:w64 (2*((t.Stops.length:Nat):Int))=((2*t.Stops.length:Nat):Int):=by rw[Yr (by omega) (by omega)];omega
  have: ¬((i:Int)≤((2*t.Stops.length:Nat):Int)):=by omega
  refine ⟨L,?_,h1,?_⟩
  ·simp only[iter,Zg,oun,e1,this,decide_false,cond_false,Option.bind_some,QR]
  ·have e2:Qag t d i=(Qbu t.Stops d).map (toT t.Vehicle):=by
    unfold Qag Qbu
    rw[show min i (2*t.Stops.length+1)=2*t.Stops.length+1 by omega]
   rw[←e2];exact h2
 | r+1,i,L,f+1,hi,hf,h1,h2=>by
  have e1:w64 (2*((t.Stops.length:Nat):Int))=((2*t.Stops.length:Nat):Int):=by rw[Yr (by omega) (by omega)];omega
  have hlt:((i:Int)≤((2*t.Stops.length:Nat):Int)):=by omega
  have e2:w64 ((i:Int)+1)=((i+1:Nat):Int):=by rw[Yr (by omega) (by omega)];omega
  have e3:w64 (Int.tdiv (i:Int) 2)=((i/2:Nat):Int):=by
   rw[show Int.tdiv (i:Int) 2=((i/2:Nat):Int) from rfl,Yr (by omega) (by omega)]
  have e4:(decide (Int.tmod (i:Int) 2=1))=decide (i%2=1):=by
   rw[show Int.tmod (i:Int) 2=((i%2:Nat):Int) from rfl]
   congr 1
   exact propext (by omega)
  have hcand:ZC t.Stops d ((i/2:Nat):Int) (decide (i%2=1))=some (JM t.Stops d i):=QjO (by omega) hs;have hcost:=Qey hp hc ⟨t.Vehicle,JM t.Stops d i⟩;have hfs:=Qem t d (j:=i) (by omega);have hlen:L.length≤2001:=by
   rw[←h2.perm.length_eq]
   refine Nat.le_trans (QfI _ _) ?_
   rw[Qfq];omega
  by_cases h:(YR p ⟨t.Vehicle,JM t.Stops d i⟩).2=0
  ·have hop:Qgj p ⟨t.Vehicle,JM t.Stops d i⟩=some ⟨⟨t.Vehicle,JM t.Stops d i⟩,(YR p ⟨t.Vehicle,JM t.Stops d i⟩).1⟩:=by unfold Qgj;rw[if_pos h]
   generalize hx:(⟨⟨t.Vehicle,JM t.Stops d i⟩,(YR p ⟨t.Vehicle,JM t.Stops d i⟩).1⟩:Op)=x at hop
   obtain ⟨Z1,Z2,k1,k2,k3,k4⟩:=Qhq (YR p ⟨t.Vehicle,JM t.Stops d i⟩).1 L.length L [] F rfl (by omega) (by omega) h1;have hxc:x.cost=(YR p ⟨t.Vehicle,JM t.Stops d i⟩).1:=by rw[←hx]
   rw[List.append_nil] at k2
   obtain ⟨j1,j2⟩:=QfM (k:=QbT) (x:=x) (by rw[←k1];exact h1) (fun z hz=>by have:=k4 z hz;simp only[QbT];omega) (fun z hz=>by have:=k3 z hz;simp only[QbT];omega)
   rw[←k1] at j2
   have h3:Y0 QbT (Qb4 p (Qag t d (i+1))) (Z1++x::Z2):=by
    rw[hfs,Qgp,hop]
    exact Y0.trans (h2.append (Y0.refl _)) j2
   obtain ⟨L',q1,q2,q3⟩:=QiA hF hp hc hs r (i+1) (Z1++x::Z2) f (by omega) (by omega) j1 h3;refine ⟨L',?_,q2,q3⟩;have hmi:=Qpa QbT JF Z1 Z2 x (by rw[←k1];omega)
   rw[←k1] at hmi
   have hx1:JF x=⟨t.Vehicle,JM t.Stops d i⟩:=by rw[←hx]
   have hx2:QbT x=(YR p ⟨t.Vehicle,JM t.Stops d i⟩).1:=hxc
   rw[hx1,hx2] at hmi
   simp only[iter,Zg,oun,e1,hlt,decide_true,cond_true,e3,e4,hcand,Option.bind_some,hcost,h,Bool.not_true,cond_false,List.length_map,k2]
   rw[List.length_map,List.length_map] at hmi
   rw[hmi]
   simp only[Option.bind_some,e2,QR,q1]
  ·have hop:Qgj p ⟨t.Vehicle,JM t.Stops d i⟩=none:=by unfold Qgj;rw[if_neg h]
   obtain ⟨L',q1,q2,q3⟩:=QiA hF hp hc hs r (i+1) L f (by omega) (by omega) h1 (by rw[hfs,Qgp,hop];simpa using h2);refine ⟨L',?_,q2,q3⟩
   simp only[iter,Zg,oun,e1,hlt,decide_true,cond_true,e3,e4,hcand,Option.bind_some,hcost,h,decide_false,Bool.not_false,e2,QR,q1]
end Go.Proofs.YthpgjbbjpfiniaaGreat
namespace Go.Proofs.YthpgjbbjpfiniaaGreat
open Go.RowKit
set_option linter.unusedSimpArgs false
set_option linter.unusedVariables false
theorem QnV (l:List Int):l.length≤(QiU l).length:=by unfold QiU;split<;>simp
theorem QlV {s:List Int} {d:Int} {i:Nat} (h:i<2*s.length+1):s.length+1≤(JM s d i).length:=by
 unfold JM Qh2;refine Nat.le_trans ?_ (QnV _)
 simp;omega
theorem Qit {p:Pr} {t:Qa} (h:40<t.Stops.length):(YR p t).2≠0:=by
 unfold YR W6
 split
 ·rename_i z hz
  split at hz
  ·cases hz
  ·first | rw[if_pos h] at hz | skip
   cases hz
 ·rename_i q hq
  split at hq
  ·injection hq with hq;subst hq;decide
  ·first | rw[if_pos h] at hq | skip
   injection hq with hq;subst hq;decide
theorem Qm3 {p:Pr} {t:Qa} {d:Int} (h:40≤t.Stops.length):Qb4 p ((Qbu t.Stops d).map (toT t.Vehicle))=[]:=by
 unfold Qb4
 rw[List.filterMap_eq_nil_iff]
 intro u hu;obtain ⟨s,h1,rfl⟩:=List.mem_map.1 hu;obtain ⟨i,h2,rfl⟩:=List.mem_map.1 h1;have:=QlV (s:=t.Stops) (d:=d) (List.mem_range.1 h2);unfold Qgj
 rw[if_neg]
 exact Qit (by simp only[toT];omega)
structure OkO (p:Pr) (t:Qa) (d:Int) (L:List Op):Prop where
 chk:Qv p=some 0
 ok:OkP p
 v0:0≤t.Vehicle
 v1:t.Vehicle<((p.Vehicles.length:Nat):Int)
 d0:0≤d
 d1:d<((p.Demands.length:Nat):Int)
 new:d∉t.Stops
 srt:Srt QbT L
 stab:Y0 QbT (Qb4 p ((Qbu t.Stops d).map (toT t.Vehicle))) L
theorem Qo6 {t:Qa} {d:Int} (hs:t.Stops.length≤1000):iter (Zf t d) (((t.Stops.length:Nat):Int).toNat+1) 0=some (bif decide (d∈t.Stops) then .inr ([],6) else .inl ()):=by
 have:=YY (body:=Zf t d) t.Stops (fun k y=>bif decide (y=d) then some (.inr ([],6)) else none) (.inl ():Unit⊕(List Qa×Int)) (by omega) (fun k y hy=> ?_) (by simp[Zf]) (((t.Stops.length:Nat):Int).toNat+1) (by simp)
 ·rw[this,Qkb]
  have:(t.Stops.any fun y=>decide (y=d))=decide (d∈t.Stops):=by
   rw[Bool.eq_iff_iff]
   simp only[List.any_eq_true,decide_eq_true_eq]
   exact ⟨fun ⟨y,h1,h2⟩=>h2▸h1,fun h=>⟨d,h,rfl⟩⟩
  rw[this]
 ·have hk:=QE hy;have hk2:((k:Int)<(t.Stops.length:Nat)):=by omega
  simp only[Zf,hk2,decide_true,cond_true,QD,hy,Option.bind_some]
  cases decide (y=d)<;>rfl
def QjJ (p:Pr) (t:Qa) (d:Int):Bool:=decide (t.Vehicle<0)||(decide (((p.Vehicles.length:Nat):Int)≤t.Vehicle)||(decide (d<0)||decide (((p.Demands.length:Nat):Int)≤d)))
theorem Qbf {F:Nat} (hF:40000≤F) (p:Pr) (hn:p.Road.Edges.length≤600) (t:Qa) (hs:t.Stops.length≤1000) (d:Int) :
  ∃L e,Q8 F p t d=some (L,e)∧YE F p t d=some (L.map JF,e)∧((e≠0∧L=[])∨(e=0∧OkO p t d L))∧(Qv p=some 0→QjJ p t d=false→e=bif decide (d∈t.Stops) then 6 else 0):=by
 unfold Q8 YE
 rw[ZU (by omega) p hn]
 rcases QcL p hn with ⟨h1,h2⟩ | ⟨e,h1,h2⟩
 ·rw[h1]
  simp only[Option.bind_some,decide_true,Bool.not_true,cond_false,Zt]
  have hb:(decide (t.Vehicle<0)||(decide (((p.Vehicles.length:Nat):Int)≤t.Vehicle)||(decide (d<0)||decide (((p.Demands.length:Nat):Int)≤d))))=QjJ p t d:=rfl
  rw[hb]
  cases hbi:QjJ p t d with
  | true=>exact ⟨[],7,rfl,rfl,.inl ⟨by decide,rfl⟩,fun _ h=>by cases h⟩
  | false =>
   simp only[cond_false,QcO _ hs,Option.bind_some,Qo6 hs]
   unfold QjJ at hbi
   simp only[Bool.or_eq_false_iff,decide_eq_false_iff_not] at hbi
   by_cases hd:d∈t.Stops
   ·simp only[hd,decide_true,cond_true,QR]
    exact ⟨[],6,rfl,rfl,.inl ⟨by decide,rfl⟩,fun _ _=>rfl⟩
   ·simp only[hd,decide_false,cond_false,QR]
    obtain ⟨L',q1,q2,q3⟩:=QiA hF h2 h1 hs (2*t.Stops.length+1) 0 [] F (t:=t) (d:=d) (by omega) (by omega) List.Pairwise.nil (by simp[Qag,Qb4];exact Y0.refl _)
    simp only[List.map_nil] at q1
    rw[show ((0:Nat):Int)=0 from rfl] at q1
    rw[q1]
    by_cases hl:40≤t.Stops.length
    ·have hl':(40:Int)≤((t.Stops.length:Nat):Int):=by omega
     have:L'=[]:=by rw[Qm3 hl] at q3;exact (q3.perm.symm.eq_nil)
     subst this;exact ⟨[],0,by simp only[hl',decide_true,cond_true],rfl,.inr ⟨rfl,h1,h2,by omega,by omega,by omega,by omega,hd,q2,q3⟩,fun _ _=>rfl⟩
    ·have hl': ¬(40:Int)≤((t.Stops.length:Nat):Int):=by omega
     have hcl:((Qbu t.Stops d).map (toT t.Vehicle)).length≤1000:=by simp[Qbu];omega
     obtain ⟨L2,j1,j2,j3⟩:=Ql8 (F:=F) (L:=Qb4 p ((Qbu t.Stops d).map (toT t.Vehicle))) (Nat.le_trans (QfI _ _) hcl) hF (Qny h2);have:L2=L':=j2.unique q2 (j3.symm.trans q3);subst this;refine ⟨L2,0,?_,rfl,.inr ⟨rfl,h1,h2,by omega,by omega,by omega,by omega,hd,q2,q3⟩,fun _ _=>rfl⟩
     simp only[hl',decide_false,cond_false,QiO hs hF,Option.bind_some,Qnf hF h2 h1 hn _ hcl,j1]
 ·rw[h2]
  simp only[Option.bind_some]
  rw[show decide (e=0)=false by simpa using h1]
  exact ⟨[],e,rfl,rfl,.inl ⟨h1,rfl⟩,fun h=>by injection h with h;exact absurd h h1⟩
theorem Qht (L:List Op) (hl:L.length≤10000):iter (Wv L) (((L.length:Nat):Int).toNat+1) ([],0)=some (L.map JF):=by
 have:=Zb (body:=Wv L) L (fun k=>(L.take k).map JF) (fun m k=>(m,k)) (fun _ _=>none) (L.map JF) (by omega) (fun k x hx _=> ?_) (fun _=>by simp only[Wv,oun,List.take_length];simp) (((L.length:Nat):Int).toNat+1) (by simp)
 ·rw[Ya _ _ (fun _ _ _=>rfl)] at this
  exact this
 ·have hk:=QE hx;have hk2:((k:Int)<(L.length:Nat)):=by omega
  simp only[Wv,oun,hk2,decide_true,cond_true,QD,hx,Option.bind_some,Jp]
  rw[Yv (by simp;omega),YU hx]
  simp
theorem OkO.len {p:Pr} {t:Qa} {d:Int} {L:List Op} (h:OkO p t d L) (hs:t.Stops.length≤1000):L.length≤2001:=by
 rw[←h.stab.perm.length_eq]
 refine Nat.le_trans (QfI _ _) ?_
 simp[Qbu];omega
theorem Qig {F:Nat} (hF:40000≤F) (p:Pr) (hn:p.Road.Edges.length≤600) (t:Qa) (hs:t.Stops.length≤1000) (d:Int) :
  JO F p t d=YE F p t d∧Qaf F p t d=YP F p t d:=by
 obtain ⟨L,e,h1,h2,h3,_⟩:=Qbf hF p hn t hs d;have hl:L.length≤2001:=by
  rcases h3 with ⟨_,rfl⟩ | ⟨_,h3⟩
  ·simp
  ·exact h3.len hs
 constructor
 ·unfold JO
  rw[h1,h2]
  simp only[Option.bind_some,oun,Qht L (by omega)]
 ·unfold Qaf YP
  rw[h1,h2]
  simp only[Option.bind_some,oun,List.length_map]
  cases decide (e=0) with
  | false=>rfl
  | true =>
   simp only[Bool.not_true,cond_false]
   by_cases h0:L=[]
   ·subst h0;rfl
   ·obtain ⟨x,M,rfl⟩:=List.exists_cons_of_ne_nil h0;have: ¬((((x::M).length:Nat):Int)=0):=by simp;omega
    simp only[this,decide_false,cond_false,List.map_cons]
    rfl
theorem Qer {F:Nat} (hF:40000≤F) {p:Pr} (hn:p.Road.Edges.length≤600) {t:Qa} (hs:t.Stops.length≤1000) {d:Int} (hc:Qv p=some 0) (hb:QjJ p t d=false) (hd:d∉t.Stops) :
  ∃L,Q8 F p t d=some (L,0)∧OkO p t d L:=by
 obtain ⟨L,e,h1,h2,h3,h4⟩:=Qbf hF p hn t hs d;have:=h4 hc hb
 rw[show decide (d∈t.Stops)=false by simpa using hd] at this
 have he:e=0:=this;subst he;rcases h3 with ⟨h,_⟩ | ⟨_,h3⟩
 ·exact absurd rfl h
 ·exact ⟨L,h1,h3⟩
theorem Qlr {F:Nat} {p:Pr} {t:Qa} {d e:Int} {L:List Op} (h:Q8 F p t d=some (L,e)) (hl:L.length≤10000):JO F p t d=some (L.map JF,e):=by
 unfold JO
 rw[h]
 simp only[Option.bind_some,oun,Qht L hl]
theorem Qi7 (a:List Int) (h:a.length≤1000000):JW a a=some true:=by
 unfold JW;have:=YY (body:=JR a a) a (fun _ _=>none) (.inl ():Unit⊕Bool) (by omega) (fun k y hy=> ?_) (by simp[JR]) (((a.length:Nat):Int).toNat+1) (by simp)
 ·rw[this,Ya _ _ (fun _ _ _=>rfl)]
  simp[QR]
 ·have hk:=QE hy;have hk2:((k:Int)<(a.length:Nat)):=by omega
  simp only[JR,hk2,decide_true,cond_true,QD,hy,Option.bind_some,Bool.not_true,cond_false,Jp]
theorem Ql0 (a:List Qa) (h:a.length≤1000000) (h2: ∀x∈a,x.Stops.length≤1000000):WE a a=some true:=by
 unfold WE;have:=YY (body:=JG a a) a (fun _ _=>none) (.inl ():Unit⊕Bool) (by omega) (fun k y hy=> ?_) (by simp[JG]) (((a.length:Nat):Int).toNat+1) (by simp)
 ·rw[this,Ya _ _ (fun _ _ _=>rfl)]
  simp[QR]
 ·have hk:=QE hy;have hk2:((k:Int)<(a.length:Nat)):=by omega
  simp only[JG,hk2,decide_true,cond_true,QD,hy,Option.bind_some,Bool.not_true,cond_false,Jp,Qi7 _ (h2 y (List.mem_of_getElem? hy))]
theorem Qlt {p:Pr} {ts:List Qa} {x:Op} (h:x∈Qb4 p ts):x.tour.Stops.length≤40:=by
 rcases Nat.lt_or_ge 40 x.tour.Stops.length with h1 | h1
 ·exact absurd (QhA h).2.1 (Qit h1)
 ·exact h1
theorem OkO.stops {p:Pr} {t:Qa} {d:Int} {L:List Op} (h:OkO p t d L): ∀x∈L,x.tour.Stops.length≤40:=fun x hx=>Qlt (h.stab.perm.symm.subset hx)
end Go.Proofs.YthpgjbbjpfiniaaGreat
namespace Go.Proofs.YthpgjbbjpfiniaaGreat
open Go.RowKit
set_option linter.unusedSimpArgs false
set_option linter.unusedVariables false
abbrev Pl:=Qk
theorem QdG {α ρ:Type} (p:α→Bool) (g:α→ρ) (fin:ρ): ∀l:List α,first (fun x=>bif p x then some (g x) else none) fin l=(match l.find? p with | some x=>g x | none=>fin)
 | []=>rfl
 | x::r=>by
  simp only[first,List.find?]
  cases h:p x with
  | true=>rfl
  | false=>exact QdG p g fin r
def ofP (x:Pl) (v:Int):Qa:=(x.Tours.find? fun t=>decide (t.Vehicle=v)).getD ⟨v,[]⟩
def wo (d:Int) (l:List Int):List Int:=l.filter fun k=> !decide (k=d)
def Qbw (t:Qa):Bool:=t.Stops.any fun s=>decide (0≤s)
theorem Qiw {x:Pl} (v:Int) (hx:x.Tours.length≤1000):QaU x v=some (ofP x v)∧Vt x v=some (ofP x v):=by
 have key: ∀body:Int→Option (Int⊕(Unit⊕Qa)),(∀k,body k=bif decide (k<((x.Tours.length:Nat):Int)) then Option.bind (getI x.Tours k) fun x2=>bif decide (x2.Vehicle=v) then some (.inr (.inr x2)) else some (.inl (w64 (k+1))) else some (.inr (.inl ()))) →
   (Option.bind (iter body (((x.Tours.length:Nat):Int).toNat+1) 0) fun o_=>QR o_ (fun _=>some (Qa.mk v [])) (fun r=>some r))=some (ofP x v):=by
  intro body hb
  rw[QdQ x.Tours (fun t=>bif decide (t.Vehicle=v) then some (Sum.inr t) else none) (Sum.inl ()) (by omega) (fun k t hk=>by
    have h1:((k:Int)<((x.Tours.length:Nat):Int)):=by have:=QE hk;omega
    rw[hb]
    simp only[h1,decide_true,cond_true,QD,hk,Option.bind_some]
    cases decide (t.Vehicle=v)<;>rfl) (by rw[hb];simp) _ (by simp),Option.bind_some,QdG]
  unfold ofP;cases x.Tours.find? fun t=>decide (t.Vehicle=v)<;>rfl
 exact ⟨key _ fun k=>rfl,key _ fun k=>rfl⟩
theorem Qjj {p:Int→Bool} {body:Int→Option (Int⊕(Unit⊕Int))} {l:List Int} (hl:l.length≤1000000) (hb: ∀k,body k=bif decide (k<((l.length:Nat):Int)) then Option.bind (getI l k) fun x1=>bif p x1 then some (.inr (.inr k)) else some (.inl (w64 (k+1))) else some (.inr (.inl ()))) :
  (∃k:Nat,k<l.length∧(∀y∈l.take k,p y=false)∧(∀y,l[k]? =some y→p y=true)∧iter body (((l.length:Nat):Int).toNat+1) 0=some (.inr (k:Int))) ∨
  ((∀y∈l,p y=false)∧iter body (((l.length:Nat):Int).toNat+1) 0=some (.inl ())):=by
 rw[YY l (fun k x=>bif p x then some (Sum.inr (k:Int)) else none) (Sum.inl ()) (by omega) (fun k x hk=>by
   have h1:((k:Int)<((l.length:Nat):Int)):=by have:=QE hk;omega
   rw[hb]
   simp only[h1,decide_true,cond_true,QD,hk,Option.bind_some]
   cases p x<;>rfl) (by rw[hb];simp) _ (by simp)]
 have key: ∀(m:List Int) (n:Nat),(∃k:Nat,k<m.length∧(∀y∈m.take k,p y=false)∧(∀y,m[k]? =some y→p y=true)∧YT (fun k x=>bif p x then some (Sum.inr (k:Int)) else none) (Sum.inl ():Unit⊕Int) n m= .inr ((n+k:Nat):Int)) ∨
   ((∀y∈m,p y=false)∧YT (fun k x=>bif p x then some (Sum.inr (k:Int)) else none) (Sum.inl ():Unit⊕Int) n m= .inl ()):=by
  intro m
  induction m with
  | nil=>exact fun n=> .inr ⟨by simp,rfl⟩
  | cons x r ih =>
   intro n;cases hp:p x with
   | true=>exact .inl ⟨0,by simp,by simp,fun y hy=>by simp at hy;rw[←hy];exact hp,by simp[YT,hp]⟩
   | false =>
    rcases ih (n+1) with ⟨k,h1,h2,h3,h4⟩ | ⟨h1,h2⟩
    ·refine .inl ⟨k+1,by simp;omega,fun y hy=> ?_,fun y hy=>h3 y (by simpa using hy),?_⟩
     ·simp only[List.take_succ_cons,List.mem_cons] at hy
      rcases hy with rfl | hy
      ·exact hp
      ·exact h2 y hy
     ·simp only[YT,hp,cond_false]
      rw[h4];congr 2;omega
    ·refine .inr ⟨fun y hy=> ?_,?_⟩
     ·rcases List.mem_cons.1 hy with rfl | hy
      ·exact hp
      ·exact h1 y hy
     ·simp only[YT,hp,cond_false];exact h2
 rcases key l 0 with ⟨k,h1,h2,h3,h4⟩ | ⟨h1,h2⟩
 ·exact .inl ⟨k,h1,h2,h3,by rw[h4];simp⟩
 ·exact .inr ⟨h1,by rw[h2]⟩
theorem Qna {p:Int→Bool} {l:List Int} (h: ∀y∈l,p y=false):l.any p=false:=by
 rw[List.any_eq_false]
 exact fun y hy=>by rw[h y hy];simp
theorem QpU {p:Int→Bool} {l:List Int} {k:Nat} (hk:k<l.length) (h: ∀y,l[k]? =some y→p y=true):l.any p=true:=by
 rw[List.any_eq_true]
 exact ⟨l[k],List.getElem_mem hk,h _ (List.getElem?_eq_getElem hk)⟩
theorem Qgr {t:Qa} (hl:t.Stops.length≤1000000):Vs t=some (Qbw t)∧J9 t=some (Qbw t):=by
 constructor
 ·unfold Vs Jm J5;rcases Qjj (p:=fun s=>decide (0≤s)) (body:=WA t.Stops) hl (fun k=>rfl) with ⟨k,h1,h2,h3,h4⟩ | ⟨h1,h2⟩
  ·rw[h4]
   have h5:(0:Int)≤(k:Int):=by omega
   simp only[Option.bind_some,QR,h5,decide_true,Qbw,QpU h1 h3]
  ·rw[h2]
   simp only[Option.bind_some,QR,Qbw,Qna h1]
   rfl
 ·unfold J9
  rw[QdQ t.Stops (fun s=>bif decide (0≤s) then some (Sum.inr true) else none) (Sum.inl ()) (by omega) (fun k s hk=>by
   have h1:((k:Int)<((t.Stops.length:Nat):Int)):=by have:=QE hk;omega
   simp only[Wj,h1,decide_true,cond_true,QD,hk,Option.bind_some]
   cases decide (0≤s)<;>rfl) (by simp[Wj]) _ (by simp),Option.bind_some,QdG]
  unfold Qbw;cases h:t.Stops.find? fun s=>decide (0≤s) with
  | none =>
   rw[List.find?_eq_none] at h
   have:t.Stops.any (fun s=>decide (0≤s))=false:=by rw[List.any_eq_false];exact h
   rw[this];rfl
  | some s =>
   have h1:=List.find?_some h;have h2:=List.mem_of_find?_eq_some h;have:t.Stops.any (fun s=>decide (0≤s))=true:=by rw[List.any_eq_true];exact ⟨s,h2,h1⟩
   rw[this];rfl
theorem Qkj {l:List Int} (d:Int) (hl:l.length≤1000000):JN l d=some (wo d l):=by
 unfold JN;have:=Qi0 l (fun (o:List Int) k=>(o,k)) (body:=Z5 l d) (fun o x=> .inl (if x=d then o else o++[x])) (fun o=>o) (fun o k=>o=wo d (l.take k)) (by omega) (fun k x o hk ho=>by
  have h0:=QE hk;have h1:((k:Int)<((l.length:Nat):Int)):=by omega
  have hw:wo d (l.take (k+1))=wo d (l.take k)++if x=d then [] else [x]:=by
   rw[YU hk];unfold wo;rw[List.filter_append]
   by_cases h:x=d<;>simp[h]
  refine ⟨?_,fun o' h=> ?_⟩
  ·simp only[Z5,oun,h1,decide_true,cond_true,QD,hk,Option.bind_some]
   by_cases h:x=d
   ·simp[h]
   ·have hle:o.length≤k:=by rw[ho];exact Nat.le_trans (List.length_filter_le _ _) (by simp;omega)
    simp only[h,decide_false,Bool.not_false,cond_true,if_false]
    rw[Yv (by simp;omega)]
    rfl
  ·injection h with h
   subst h
   rw[hw,ho]
   by_cases h:x=d<;>simp[h]) (fun o ho=>by simp[Z5,oun]) (((l.length:Nat):Int).toNat+1) [] rfl (by simp)
 rw[this]
 have key: ∀(m:List Int) (o:List Int),each (fun o x=>(.inl (if x=d then o else o++[x]):List Int⊕List Int)) (fun o=>o) m o=o++wo d m:=by
  intro m
  induction m with
  | nil=>intro o;simp[each,wo]
  | cons x r ih =>
   intro o
   simp only[each]
   rw[ih]
   by_cases h:x=d<;>simp[h,wo]
 rw[key];rfl
theorem QnU {l:List Int} (d:Int) (hl:l.length≤1000000):Wd l d=some (decide (d∈l)):=by
 unfold Wd
 rw[QdQ l (fun s=>bif decide (s=d) then some (Sum.inr true) else none) (Sum.inl ()) (by omega) (fun k s hk=>by
  have h1:((k:Int)<((l.length:Nat):Int)):=by have:=QE hk;omega
  simp only[Vj,h1,decide_true,cond_true,QD,hk,Option.bind_some]
  cases decide (s=d)<;>rfl) (by simp[Vj]) _ (by simp),Option.bind_some,QdG]
 cases h:l.find? fun s=>decide (s=d) with
 | none =>
  rw[List.find?_eq_none] at h
  have: ¬d∈l:=fun hm=>by have:=h d hm;simp at this
  simp[this,QR]
 | some s =>
  have h1:=List.find?_some h;have h2:=List.mem_of_find?_eq_some h;have h3:s=d:=by simpa using h1
  rw[h3] at h2
  simp[h2,QR]
theorem Qik {l:List Int} {d:Int} (hl:l.length≤100000): ∀(r j i f:Nat) (s:List Int),j+r=l.length→r<f→i<j→s.length=l.length→s.take i=wo d (l.take j)→s.drop j=l.drop j →
  ∃s',iter (YM l d) f (s,(i:Int),(j:Int))=some (s',((wo d l).length:Int))∧s'.length=l.length∧s'.take (wo d l).length=wo d l∧(wo d l).length≤l.length
 | 0,j,i,f+1,s,hj,_,hij,hs,ht,hd=>by
  have h1: ¬((j:Int)<((l.length:Nat):Int)):=by omega
  have e:l.take j=l:=List.take_of_length_le (by omega)
  rw[e] at ht
  have hi:(wo d l).length=i:=by rw[←ht];simp;omega
  refine ⟨s,?_,hs,by rw[hi];exact ht,List.length_filter_le _ _⟩
  simp only[iter,YM,oun,h1,decide_false,cond_false,hi]
  rfl
 | r+1,j,i,f+1,s,hj,hf,hij,hs,ht,hd=>by
  have h1:((j:Int)<((l.length:Nat):Int)):=by omega
  obtain ⟨x,hx⟩: ∃x,l[j]? =some x:=⟨_,List.getElem?_eq_getElem (by omega)⟩
  have hsx:s[j]? =some x:=by
   have e1:s[j]? =(s.drop j)[0]? :=by simp
   rw[e1,hd];simpa using hx
  obtain ⟨y,hy⟩: ∃y,s[i]? =some y:=⟨_,List.getElem?_eq_getElem (by omega)⟩
  have hw:wo d (l.take (j+1))=wo d (l.take j)++if x=d then [] else [x]:=by
   rw[YU hx];unfold wo;rw[List.filter_append]
   by_cases h:x=d<;>simp[h]
  have e2:w64 ((i:Int)+1)=((i+1:Nat):Int):=Wz (by omega);have e3:w64 ((j:Int)+1)=((j+1:Nat):Int):=Wz (by omega)
  by_cases h:x=d
  ·obtain ⟨s',g1,g2⟩:=Qik hl r (j+1) i f s (by omega) (by omega) (by omega) hs (by rw[hw];simp[h,ht]) (by rw[←List.drop_drop,hd];simp);refine ⟨s',?_,g2⟩
   rw[←g1]
   simp only[iter,YM,Wf,oun,h1,decide_true,cond_true,QD,hsx,Option.bind_some,h,Bool.not_true,cond_false,e3]
   rfl
  ·have hlt:i<s.length:=by omega
   obtain ⟨s',g1,g2⟩:=Qik hl r (j+1) (i+1) f (s.set i x) (by omega) (by omega) (by omega) (by simpa using hs) (by
     rw[hw,if_neg h,←ht]
     rw[List.take_add_one,List.take_set_of_le (Nat.le_refl _)]
     simp[hlt]) (by
     rw[List.drop_set_of_lt (by omega),←List.drop_drop,hd];simp)
   refine ⟨s',?_,g2⟩
   rw[←g1]
   simp only[iter,YM,Wf,oun,h1,decide_true,cond_true,QD,hsx,hy,Option.bind_some,h,decide_false,Bool.not_false,e2,e3,Q9,Int.toNat_natCast]
   rfl
theorem QfL {d:Int} {l:List Int} (h: ∀y∈l,decide (y=d)=false):wo d l=l:=by
 unfold wo
 rw[List.filter_eq_self]
 exact fun y hy=>by rw[h y hy];rfl
theorem Qqo {F:Nat} (hF:40000≤F) {l:List Int} (d:Int) (hl:l.length≤30000):ZR F l d=some (wo d l):=by
 unfold ZR J4;rcases Qjj (p:=fun s=>decide (s=d)) (body:=WD l d) (l:=l) (by omega) (fun k=>rfl) with ⟨k,h1,h2,h3,h4⟩ | ⟨h1,h2⟩
 ·rw[h4]
  have h5: ¬((k:Int)= -1):=by omega
  have hw:wo d (l.take (k+1))=l.take k:=by
   obtain ⟨x,hx⟩: ∃x,l[k]? =some x:=⟨_,List.getElem?_eq_getElem h1⟩
   have hxd:x=d:=by simpa using h3 x hx
   rw[YU hx]
   have:=QfL h2;unfold wo at this ⊢
   rw[List.filter_append,this];simp[hxd]
  obtain ⟨s',g1,g2,g3,g4⟩:=Qik (d:=d) (by omega) (l.length-(k+1)) (k+1) k F l (by omega) (by omega) (by omega) rfl hw.symm rfl
  simp only[Option.bind_some,QR,h5,decide_false,cond_false,Wz (show k<9223372036854775807 by omega)]
  rw[g1]
  simp only[Option.bind_some,oun]
  rw[Qbz (by omega)]
  have e1:(Qfy s' (((wo d l).length:Nat):Int) 0).take (wo d l).length=wo d l:=by
   unfold Qfy
   rw[List.take_append_of_le_length (by simp;omega)]
   simp[g3]
  have e2:WS (Qfy s' (((wo d l).length:Nat):Int) 0) 0 (((wo d l).length:Nat):Int)=some (wo d l):=by
   unfold WS
   rw[if_pos ⟨by omega,by omega,by rw[QcI];omega⟩]
   simp only[Int.toNat_natCast,Int.toNat_zero,List.drop_zero,e1]
  rw[Option.bind_some,e2];rfl
 ·rw[h2]
  simp only[Option.bind_some,QR,decide_true,cond_true]
  rw[QfL h1]
theorem QnK {α:Type} (l:List α) (hl:l.length≤1000):Qio l=some l:=by
 unfold Qio
 simp
 omega
theorem Qfn {F:Nat} (hF:40000≤F) {l:List Int} (d:Int) (hl:l.length≤1000):We F l d=some (wo d l):=by
 unfold We
 rw[QnK l hl,Option.bind_some,Qqo hF d (by omega)];rfl
theorem Qpb (a b:Int):Vr a b=some (if a<b then -1 else if b<a then 1 else 0):=by
 unfold Vr Qax
 simp only[Option.bind_some,decide_true,Bool.not_true,cond_false]
 by_cases h:a<b
 ·simp[h]
 ·by_cases h2:b<a<;>simp[h,h2]
theorem Qq5 (a b:Int):Qcw [a,b]=some (if a=0 then b else a):=by
 unfold Qcw
 rw[QdQ [a,b] (fun x=>bif !decide (x=0) then some (Sum.inr x) else none) (Sum.inl ()) (by simp) (fun k x hk=>by
  have h1:((k:Int)<(([a,b].length:Nat):Int)):=by have:=QE hk;omega
  simp only[QbI,h1,decide_true,cond_true,QD,hk,Option.bind_some]
  cases decide (x=0)<;>rfl) (by simp[QbI]) _ (by simp),Option.bind_some]
 by_cases ha:a=0
 ·by_cases hb:b=0
  ·simp[first,ha,hb,QR]
  ·simp[first,ha,hb,QR]
 ·simp[first,ha,QR]
def JE (x:Qb):Int:=((x.plan.Left.length:Nat):Int)*1000000000000+x.cost
def QbA (x:Qb):Prop:=0≤x.cost∧x.cost<1000000000000
theorem Qhp {a b:Qb} (ha:QbA a) (hb:QbA b): ∃z,Yg a b=some z∧(z<0↔JE a<JE b):=by
 unfold Yg
 simp only[Qpb,Option.bind_some,Qq5]
 refine ⟨_,rfl,?_⟩;unfold JE;obtain ⟨a0,a1⟩:=ha;obtain ⟨b0,b1⟩:=hb
 by_cases h1:((a.plan.Left.length:Nat):Int)<((b.plan.Left.length:Nat):Int)
 ·rw[if_pos h1,if_neg (by decide)];omega
 ·by_cases h2:((b.plan.Left.length:Nat):Int)<((a.plan.Left.length:Nat):Int)
  ·rw[if_neg h1,if_pos h2,if_neg (by decide)];omega
  ·rw[if_neg h1,if_neg h2,if_pos rfl]
   by_cases h3:a.cost<b.cost
   ·rw[if_pos h3];omega
   ·by_cases h4:b.cost<a.cost
    ·rw[if_neg h3,if_pos h4];omega
    ·rw[if_neg h3,if_neg h4];omega
end Go.Proofs.YthpgjbbjpfiniaaGreat
namespace Go.Proofs.YthpgjbbjpfiniaaGreat
open Go.RowKit
set_option linter.unusedSimpArgs false
set_option linter.unusedVariables false
theorem QmV {p:Pr} (hp:OkP p) {a:Int} (ha:0≤a∧a<p.Road.Nodes):ZG p a a=⟨0,0⟩:=by
 obtain ⟨h1,_⟩:=QeS hp ha;have h2:=h1.best 0 a ⟨0,0⟩ .nil;have h3:=Wh hp ha ha;unfold ZG at h3 ⊢
 generalize lab (QeG p a) a=l at *
 have h4:=h2.2;unfold Lg.le at h4;cases l
 simp only at h2 h3 h4 ⊢
 congr 1<;>omega
theorem Qkt {p:Pr} (hp:OkP p) (v:Int):(YR p ⟨v,[]⟩).1=0:=by
 unfold YR;cases h:W6 p ⟨v,[]⟩ with
 | inr q=>rfl
 | inl u =>
  obtain ⟨z,y,hf,_,e2⟩:=Qf2 h;have hv:=hp.ve u.2.2 (by
   have:=hf.hv;unfold getI at this
   rw[if_pos hf.t0] at this
   exact List.mem_of_getElem? this)
  have h1:z=(x0 u.2.2,[]):=by
   have:=hf.fol;injection this with this
   exact this.symm
  have h6:y.Node=u.2.2.Depot:=by
   have hom:=hf.hom;unfold QaV at hom
   repeat' split at hom
   all_goals first | (cases hom;done) | (injection hom with hom;subst hom;rfl)
  simp only[e2,h1,List.nil_append,Qa3,h6,QmV hp ⟨hv.d0,hv.d1⟩]
  rfl
def VW (h:Op→Option Op):List Op→Nat→Option (Nat×Op×Int)→Option (Nat×Op×Int)
 | [],_,s=>s
 | x::r,k,s=>VW h r (k+1) (match h x with
  | none=>s
  | some y=>match s with
   | none=>some (k,y,w64 (y.cost-x.cost))
   | some z=>if w64 (y.cost-x.cost)<z.2.2 then some (k,y,w64 (y.cost-x.cost)) else s)
def QhM (s:Option (Nat×Op×Int)):Int×List Int×Int×Int:=match s with
 | none=>(0,[],0,-1)
 | some z=>(z.2.1.tour.Vehicle,z.2.1.tour.Stops,z.2.1.cost,((z.1:Nat):Int))
def Qfi (s:Option (Nat×Op×Int)):Int×Int×Int×List Int:=match s with
 | none=>(-1,0,0,[])
 | some z=>(((z.1:Nat):Int),z.2.2,z.2.1.tour.Vehicle,z.2.1.tour.Stops)
def V9 (F:Nat) (p:Pr) (d:Int) (x:Op):Option Op:=match Q8 F p x.tour d with
 | some (y::_,_)=>some y
 | _=>none
def Qqb (F:Nat) (p:Pr) (d:Int) (T:List Op):Prop:= ∀x∈T,x.cost=(YR p x.tour).1∧ ∃L e,Q8 F p x.tour d=some (L,e)∧YE F p x.tour d=some (L.map JF,e)∧((e≠0∧L=[])∨(e=0∧OkO p x.tour d L))
theorem QeA {F:Nat} {p:Pr} {T:List Op} {d:Int} (hT:T.length≤1000) (ha:Qqb F p d T): ∀(rest:List Op) (k:Nat) (s:Option (Nat×Op×Int)) (f:Nat),T.drop k=rest→k≤T.length→rest.length<f→(∀z,s=some z→ ∃x,T[z.1]? =some x∧z.2.2=w64 (z.2.1.cost-x.cost)) →
  iter (Ji F p T d) f ((QhM s).1,(QhM s).2.1,(QhM s).2.2.1,(QhM s).2.2.2,(k:Int))=some (QhM (VW (V9 F p d) rest k s))
 | [],k,s,0,_,_,h,_=>by simp at h
 | _::_,k,s,0,_,_,h,_=>by simp at h
 | [],k,s,f+1,hd,hk,_,_=>by
  have:k=T.length:=by have:=congrArg List.length hd;simp at this;omega
  have h1: ¬((k:Int)<((T.length:Nat):Int)):=by omega
  simp only[iter,Ji,oun,h1,decide_false,cond_false,Option.bind_some,QR,VW]
 | x::rest,k,s,f+1,hd,hk,hf,hs=>by
  have hx:T[k]? =some x:=by
   have:=congrArg List.head? hd
   rwa [List.head?_drop] at this
  have hlt:=QE hx;have h1:((k:Int)<((T.length:Nat):Int)):=by omega
  have hd2:T.drop (k+1)=rest:=by rw[←List.drop_drop,hd];rfl
  have e1:w64 ((k:Int)+1)=((k+1:Nat):Int):=by rw[Yr (by omega) (by omega)];omega
  obtain ⟨_,L,e,ho,_⟩:=ha x (List.mem_of_getElem? hx);have hh:V9 F p d x=L.head? :=by unfold V9;rw[ho];cases L<;>rfl
  rw[VW,hh]
  cases L with
  | nil =>
   have ih:=QeA hT ha rest (k+1) s f hd2 (by omega) (by simp at hf;omega) hs
   simp only[iter,Ji,oun,h1,decide_true,cond_true,QD,hx,Option.bind_some,ho,List.length_nil,e1,QR,List.head?_nil]
   exact ih
  | cons y M =>
   have hl:(0:Int)<(((y::M).length:Nat):Int):=by simp only[List.length_cons];omega
   have g0:getI (y::M) 0=some y:=rfl;cases s with
   | none =>
    have ih:=QeA hT ha rest (k+1) (some (k,y,w64 (y.cost-x.cost))) f hd2 (by omega) (by simp at hf;omega) (fun z hz=>by injection hz with hz;subst hz;exact ⟨x,hx,rfl⟩)
    simp only[iter,Ji,oun,h1,decide_true,cond_true,QD,hx,Option.bind_some,ho,hl,QhM,g0,show decide ((-1:Int)<0)=true from rfl,e1,QR,List.head?_cons]
    exact ih
   | some z =>
    obtain ⟨u,hu,hz⟩:=hs z rfl;have hz0: ¬(((z.1:Nat):Int)<0):=by omega
    by_cases hc:w64 (y.cost-x.cost)<z.2.2
    ·have ih:=QeA hT ha rest (k+1) (some (k,y,w64 (y.cost-x.cost))) f hd2 (by omega) (by simp at hf;omega) (fun z hz=>by injection hz with hz;subst hz;exact ⟨x,hx,rfl⟩);have hc2:=hc
     rw[hz] at hc2
     simp only[iter,Ji,oun,h1,decide_true,cond_true,QD,hx,Option.bind_some,ho,hl,QhM,g0,hz0,decide_false,cond_false,hu,hc2,e1,QR,List.head?_cons]
     rw[if_pos hc]
     exact ih
    ·have ih:=QeA hT ha rest (k+1) (some z) f hd2 (by omega) (by simp at hf;omega) hs;have hc2:=hc
     rw[hz] at hc2
     simp only[iter,Ji,oun,h1,decide_true,cond_true,QD,hx,Option.bind_some,ho,hl,QhM,g0,hz0,decide_false,cond_false,hu,hc2,e1,QR,List.head?_cons]
     rw[if_neg hc]
     exact ih
end Go.Proofs.YthpgjbbjpfiniaaGreat
namespace Go.Proofs.YthpgjbbjpfiniaaGreat
open Go.RowKit
set_option linter.unusedSimpArgs false
set_option linter.unusedVariables false
theorem Qnq (l:List Int):(QiU l).getLast? =some (-1):=by
 unfold QiU;split
 ·assumption
 ·simp
theorem Qli (l:List Int) {e:Int} (he:0≤e):(QiU l).count e=l.count e:=by
 unfold QiU;split
 ·rfl
 ·rw[List.count_append,List.count_singleton,if_neg (by simp;omega)];rfl
theorem QgK (s:List Int) (d:Int) (i:Nat):(JM s d i).getLast? =some (-1):=Qnq _
theorem Qb6 (s:List Int) (d:Int) (i:Nat) {e:Int} (he:0≤e):(JM s d i).count e=s.count e+if e=d then 1 else 0:=by
 unfold JM Qh2
 rw[Qli _ he,List.count_append,List.count_append,List.count_cons]
 have h1:(bif decide (i%2=1) then [(-1:Int)] else []).count e=0:=by
  cases decide (i%2=1)
  ·rfl
  ·rw[cond_true,List.count_singleton,if_neg (by simp;omega)]
 have h2:s.count e=(s.take (i/2)).count e+(s.drop (i/2)).count e:=by rw[←List.count_append,List.take_append_drop]
 rw[h1,h2]
 by_cases h:e=d
 ·subst h;simp;omega
 ·have: ¬(d==e)=true:=by simp;exact fun h'=>h h'.symm
  simp[h,this]
theorem Qme (s:List Int) {d:Int} (hd:0≤d) (i:Nat):2≤(JM s d i).length:=by
 have h1:=QgK s d i;have h2:=Qb6 s d i hd
 rw[if_pos rfl] at h2
 generalize JM s d i=l at *
 match l,h1,h2 with
 | [],_,h2=>simp at h2
 | [a],h1,h2 =>
  simp at h1;subst h1
  rw[List.count_singleton,if_neg (by simp;omega)] at h2
  omega
 | _::_::_,_,_=>simp
structure IsO (p:Pr) (t:Qa) (d:Int) (y:Op):Prop where
 cand: ∃i,i<2*t.Stops.length+1∧y.tour=⟨t.Vehicle,JM t.Stops d i⟩
 ok:(YR p y.tour).2=0
 cost:y.cost=(YR p y.tour).1
theorem OkO.isO {p:Pr} {t:Qa} {d:Int} {L:List Op} (h:OkO p t d L) {y:Op} (hy:y∈L):IsO p t d y:=by
 obtain ⟨h1,h2,h3⟩:=QhA (h.stab.perm.symm.subset hy);obtain ⟨s,g1,g2⟩:=List.mem_map.1 h1;obtain ⟨i,g3,g4⟩:=List.mem_map.1 g1;exact ⟨⟨i,List.mem_range.1 g3,by rw[←g2,←g4];rfl⟩,h2,h3⟩
def hdT:List Op→Qa
 | []=>⟨0,[]⟩
 | y::_=>y.tour
theorem Qjy {F:Nat} {p:Pr} {t:Qa} {d e:Int} {L:List Op} (h:YE F p t d=some (L.map JF,e)) (he:(e≠0∧L=[])∨(e=0∧OkO p t d L)) :
  ∃e',YP F p t d=some (hdT L,e')∧(e'=0↔L≠[])∧(e≠0→e'=e)∧(e=0→L=[]→e'=40):=by
 unfold YP
 rw[h]
 simp only[Option.bind_some,oun]
 rcases he with ⟨h1,rfl⟩ | ⟨rfl,h2⟩
 ·rw[show decide (e=0)=false by simpa using h1]
  exact ⟨e,rfl,by simpa using h1,fun _=>rfl,fun h=>absurd h h1⟩
 ·cases L with
  | nil=>exact ⟨40,rfl,by decide,fun h=>absurd rfl h,fun _ _=>rfl⟩
  | cons y M =>
   have: ¬(((((y::M).map JF).length:Nat):Int)=0):=by simp;omega
   simp only[decide_true,Bool.not_true,cond_false,this,decide_false,List.map_cons]
   exact ⟨0,rfl,by simp,fun h=>absurd rfl h,fun _ h=>by cases h⟩
theorem Qec {F:Nat} {p:Pr} {T:List Op} {d:Int} (hp:OkP p) (hc:Qv p=some 0) (hT:T.length≤1000) (ha:Qqb F p d T): ∀(rest:List Op) (k:Nat) (s:Option (Nat×Op×Int)) (f:Nat),T.drop k=rest→k≤T.length→rest.length<f →
  iter (Yu F p (T.map JF) d) f ((Qfi s).1,(Qfi s).2.1,(Qfi s).2.2.1,(Qfi s).2.2.2,(k:Int))=some ((Qfi (VW (V9 F p d) rest k s)).1,(Qfi (VW (V9 F p d) rest k s)).2.2.1,(Qfi (VW (V9 F p d) rest k s)).2.2.2)
 | [],k,s,0,_,_,h=>by simp at h
 | _::_,k,s,0,_,_,h=>by simp at h
 | [],k,s,f+1,hd,hk,_=>by
  have:k=T.length:=by have:=congrArg List.length hd;simp at this;omega
  have h1: ¬((k:Int)<(((T.map JF).length:Nat):Int)):=by simp;omega
  simp only[iter,Yu,oun,h1,decide_false,cond_false,Option.bind_some,QR,VW]
 | x::rest,k,s,f+1,hd,hk,hf=>by
  have hx:T[k]? =some x:=by
   have:=congrArg List.head? hd
   rwa [List.head?_drop] at this
  have hlt:=QE hx;have h1:((k:Int)<(((T.map JF).length:Nat):Int)):=by simp;omega
  have hd2:T.drop (k+1)=rest:=by rw[←List.drop_drop,hd];rfl
  have e1:w64 ((k:Int)+1)=((k+1:Nat):Int):=by rw[Yr (by omega) (by omega)];omega
  have hx2:(T.map JF)[k]? =some x.tour:=by rw[List.getElem?_map,hx];rfl
  obtain ⟨hcx,L,e,ho,hr,hL⟩:=ha x (List.mem_of_getElem? hx);have hh:V9 F p d x=L.head? :=by unfold V9;rw[ho];cases L<;>rfl
  obtain ⟨e',hb,he',_⟩:=Qjy hr hL
  rw[VW,hh]
  cases L with
  | nil =>
   have ih:=Qec hp hc hT ha rest (k+1) s f hd2 (by omega) (by simp at hf;omega);have: ¬e'=0:=by simpa using he'
   simp only[iter,Yu,oun,h1,decide_true,cond_true,QD,hx2,Option.bind_some,hb,hdT,this,decide_false,Bool.not_false,e1,QR,List.head?_nil]
   exact ih
  | cons y M =>
   have:e'=0:=by simpa using he'
   subst this;have hy:y.cost=(YR p y.tour).1:=by
    rcases hL with ⟨_,h⟩ | ⟨_,h⟩
    ·cases h
    ·exact (h.isO (y:=y) (by simp)).cost
   have c1:YC p ⟨y.tour.Vehicle,y.tour.Stops⟩=some (YR p y.tour):=Qey hp hc _;have c2:YC p x.tour=some (YR p x.tour):=Qey hp hc _;cases s with
   | none =>
    have ih:=Qec hp hc hT ha rest (k+1) (some (k,y,w64 (y.cost-x.cost))) f hd2 (by omega) (by simp at hf;omega)
    simp only[iter,Yu,oun,h1,decide_true,cond_true,QD,hx2,Option.bind_some,hb,hdT,decide_true,Bool.not_true,cond_false,c1,c2,Qfi,show decide ((-1:Int)<0)=true from rfl,←hy,←hcx,e1,QR,List.head?_cons]
    exact ih
   | some z =>
    have hz0: ¬(((z.1:Nat):Int)<0):=by omega
    by_cases hcc:w64 (y.cost-x.cost)<z.2.2
    ·have ih:=Qec hp hc hT ha rest (k+1) (some (k,y,w64 (y.cost-x.cost))) f hd2 (by omega) (by simp at hf;omega)
     simp only[iter,Yu,oun,h1,decide_true,cond_true,QD,hx2,Option.bind_some,hb,hdT,decide_true,Bool.not_true,cond_false,c1,c2,Qfi,hz0,decide_false,hcc,←hy,←hcx,e1,QR,List.head?_cons]
     exact ih
    ·have ih:=Qec hp hc hT ha rest (k+1) (some z) f hd2 (by omega) (by simp at hf;omega)
     simp only[iter,Yu,oun,h1,decide_true,cond_true,QD,hx2,Option.bind_some,hb,hdT,decide_true,Bool.not_true,cond_false,c1,c2,Qfi,hz0,decide_false,hcc,←hy,←hcx,e1,QR,List.head?_cons]
     exact ih
theorem Qhv (h:Op→Option Op): ∀(rest:List Op) (k:Nat) (s:Option (Nat×Op×Int)) (z:Nat×Op×Int),VW h rest k s=some z→s=some z∨ ∃i x,rest[i]? =some x∧z.1=k+i∧h x=some z.2.1
 | [],_,_,_,hz=> .inl hz
 | x::r,k,s,z,hz=>by
  rw[VW] at hz
  rcases Qhv h r (k+1) _ z hz with h1 | ⟨i,y,g1,g2,g3⟩
  ·cases hx:h x with
   | none=>rw[hx] at h1;exact .inl h1
   | some y =>
    rw[hx] at h1
    have hn: ∀w:Int,some (k,y,w)=some z→ ∃i x',(x::r)[i]? =some x'∧z.1=k+i∧h x'=some z.2.1:=fun w hw=>by
     injection hw with hw;subst hw
     exact ⟨0,x,rfl,rfl,hx⟩
    cases s with
    | none=>exact .inr (hn _ h1)
    | some u =>
     simp only at h1
     split at h1
     ·exact .inr (hn _ h1)
     ·exact .inl h1
  ·exact .inr ⟨i+1,y,by simpa using g1,by omega,g3⟩
theorem QdV (h:Op→Option Op): ∀(rest:List Op) (k:Nat) (z:Nat×Op×Int),VW h rest k (some z)≠none
 | [],_,_=>by simp[VW]
 | x::r,k,z=>by
  rw[VW]
  cases h x with
  | none=>exact QdV h r (k+1) z
  | some y =>
   simp only
   split
   ·exact QdV h r (k+1) _
   ·exact QdV h r (k+1) _
theorem QhH (h:Op→Option Op): ∀(rest:List Op) (k:Nat),VW h rest k none=none→ ∀x∈rest,h x=none
 | [],_,_=>by simp
 | x::r,k,hn=>by
  rw[VW] at hn
  cases hx:h x with
  | none =>
   rw[hx] at hn
   intro y hy;rcases List.mem_cons.1 hy with rfl | hy
   ·exact hx
   ·exact QhH h r (k+1) hn y hy
  | some y =>
   rw[hx] at hn
   exact absurd hn (QdV h r (k+1) _)
def Qd1 (h:Op→Option Op) (d:Int) (s:List Op×List Int):List Op×List Int:=match VW h s.1 0 none with
 | none=>(s.1,s.2++[d])
 | some z=>(s.1.set z.1 z.2.1,s.2)
def Wn (n:Nat):List Op:=(List.range n).map fun (i:Nat)=>⟨⟨(i:Int),[]⟩,0⟩
def QcC (F:Nat) (p:Pr):Nat→List Op×List Int
 | 0=>(Wn p.Vehicles.length,[])
 | k+1=>Qd1 (V9 F p k) k (QcC F p k)
structure Qq9 (p:Pr) (i:Nat) (x:Op):Prop where
 veh:x.tour.Vehicle=(i:Int)
 cost:x.cost=(YR p x.tour).1
 len:x.tour.Stops.length≤40
 full:x.tour.Stops≠[]→(YR p x.tour).2=0∧2≤x.tour.Stops.length∧x.tour.Stops.getLast? =some (-1)
def cnB (T:List Op) (e:Int):Nat:=(T.map fun x=>x.tour.Stops.count e).sum
structure Ql5 (F:Nat) (p:Pr) (k:Nat) (s:List Op×List Int):Prop where
 len:s.1.length=p.Vehicles.length
 tour: ∀(i:Nat) (x:Op),s.1[i]? =some x→Qq9 p i x
 once: ∀e:Nat,cnB s.1 (e:Int)+s.2.count (e:Int)=if e<k then 1 else 0
 lo: ∀e∈s.2,0≤e∧e<(k:Int)
 asc:s.2.Pairwise (· < ·)
 ll:s.2.length≤k
 left: ∀e∈s.2,∀(i:Nat) (x:Op),s.1[i]? =some x→x.tour.Stops=[]→V9 F p e x=none
theorem QmO: ∀(T:List Op) (i:Nat) (x y:Op) (e:Int),T[i]? =some x→cnB (T.set i y) e+x.tour.Stops.count e=cnB T e+y.tour.Stops.count e
 | [],i,_,_,_,h=>by simp at h
 | z::T,0,x,y,e,h=>by
  simp at h;subst h
  simp[cnB];omega
 | z::T,i+1,x,y,e,h=>by
  have:=QmO T i x y e (by simpa using h)
  simp[cnB] at this ⊢;omega
theorem QlP {n i:Nat} {x:Op} (h:(Wn n)[i]? =some x):x=⟨⟨(i:Int),[]⟩,0⟩:=by
 unfold Wn at h
 rw[List.getElem?_map] at h
 cases hr:(List.range n)[i]? with
 | none=>rw[hr] at h;cases h
 | some j =>
  rw[hr] at h
  have:=List.getElem?_eq_some_iff.1 hr;obtain ⟨h1,h2⟩:=this
  simp at h2;subst h2
  simp at h
  exact h.symm
theorem Qno (n:Nat) (e:Int):cnB (Wn n) e=0:=by
 unfold cnB Wn
 rw[List.map_map]
 induction n with
 | zero=>rfl
 | succ n ih=>rw[List.range_succ,List.map_append,List.sum_append,ih];rfl
theorem Qnr {F:Nat} {p:Pr} (hp:OkP p):Ql5 F p 0 (Wn p.Vehicles.length,[]) where
 len:=by simp[Wn]
 tour:=fun i x hx=>by
  rw[QlP hx]
  exact ⟨rfl,(Qkt hp _).symm,by simp,fun h=>absurd rfl h⟩
 once:=fun e=>by simp[Qno]
 lo:=by simp
 asc:=List.Pairwise.nil
 ll:=by simp
 left:=by simp
theorem Qou {F:Nat} {p:Pr} {d:Int} {x y:Op} (h:V9 F p d x=some y) (ha: ∃L e,Q8 F p x.tour d=some (L,e)∧((e≠0∧L=[])∨(e=0∧OkO p x.tour d L))):IsO p x.tour d y∧y.tour.Stops.length≤40:=by
 obtain ⟨L,e,h1,h2⟩:=ha;unfold V9 at h
 rw[h1] at h
 cases L with
 | nil=>cases h
 | cons z M =>
  injection h with h;subst h
  rcases h2 with ⟨_,h2⟩ | ⟨_,h2⟩
  ·cases h2
  ·exact ⟨h2.isO (by simp),h2.stops _ (by simp)⟩
theorem QqH {F:Nat} (hF:40000≤F) {p:Pr} (hn:p.Road.Edges.length≤600) {k:Nat} {s:List Op×List Int} (h:Ql5 F p k s) (d:Int):Qqb F p d s.1:=fun x hx=>by
 obtain ⟨i,hi⟩:=List.getElem?_of_mem hx;have h1:=h.tour i x hi;obtain ⟨L,e,g1,g2,g3,_⟩:=Qbf hF p hn x.tour (by have:=h1.len;omega) d;exact ⟨h1.cost,L,e,g1,g2,g3⟩
theorem Qob {F:Nat} (hF:40000≤F) {p:Pr} (hn:p.Road.Edges.length≤600) {k:Nat} {s:List Op×List Int} (h:Ql5 F p k s):Ql5 F p (k+1) (Qd1 (V9 F p k) k s):=by
 have ha:=QqH hF hn h k;unfold Qd1;cases hz:VW (V9 F p k) s.1 0 none with
 | none =>
  have hno:=QhH _ _ _ hz;refine ⟨h.len,h.tour,fun e=> ?_,fun e he=> ?_,?_,?_,fun e he i x hi hx=> ?_⟩
  ·have:=h.once e
   show cnB s.1 (e:Int)+(s.2++[(k:Int)]).count (e:Int)=_
   rw[List.count_append,List.count_singleton]
   by_cases hek:e=k
   ·subst hek;simp at this ⊢;omega
   ·have h1: ¬(((k:Int)==(e:Int))=true):=by simp;omega
    rw[if_neg h1]
    by_cases h2:e<k
    ·rw[if_pos (by omega)];rw[if_pos h2] at this;omega
    ·rw[if_neg (by omega)];rw[if_neg h2] at this;omega
  ·rcases List.mem_append.1 he with h1 | h1
   ·have:=h.lo e h1;omega
   ·rw[List.mem_singleton.1 h1];omega
  ·refine List.pairwise_append.2 ⟨h.asc,by simp,fun a ha b hb=> ?_⟩
   rw[List.mem_singleton.1 hb];exact (h.lo a ha).2
  ·have:=h.ll;simp;omega
  ·rcases List.mem_append.1 he with h1 | h1
   ·exact h.left e h1 i x hi hx
   ·rw[List.mem_singleton.1 h1];exact hno x (List.mem_of_getElem? hi)
 | some z =>
  obtain ⟨i,x,hi,hzi,hy⟩: ∃i x,s.1[i]? =some x∧z.1=i∧V9 F p k x=some z.2.1:=by
   rcases Qhv _ _ _ _ _ hz with h1 | ⟨i,x,h1,h2,h3⟩
   ·cases h1
   ·exact ⟨i,x,h1,by omega,h3⟩
  obtain ⟨hcx,L,e,g1,_,g3⟩:=ha x (List.mem_of_getElem? hi);obtain ⟨hO,hl⟩:=Qou hy ⟨L,e,g1,g3⟩;obtain ⟨j,_,hj⟩:=hO.cand;have hx:=h.tour i x hi;have hcount: ∀e:Nat,z.2.1.tour.Stops.count (e:Int)=x.tour.Stops.count (e:Int)+if e=k then 1 else 0:=fun e=>by
   rw[hj]
   show (JM x.tour.Stops k j).count (e:Int)=_
   rw[Qb6 _ _ _ (by omega)]
   by_cases h1:e=k
   ·subst h1;simp
   ·rw[if_neg (by omega),if_neg h1]
  have htwo:2≤z.2.1.tour.Stops.length:=by rw[hj];exact Qme _ (by omega) _
  have hlast:z.2.1.tour.Stops.getLast? =some (-1):=by rw[hj];exact QgK _ _ _
  have hg: ∀(j:Nat) (w:Op),(s.1.set z.1 z.2.1)[j]? =some w→(j=i∧w=z.2.1)∨s.1[j]? =some w:=fun j w hw=>by
   rw[List.getElem?_set,hzi] at hw
   split at hw
   ·rename_i h1
    split at hw
    ·injection hw with hw;exact .inl ⟨h1.symm,hw.symm⟩
    ·cases hw
   ·exact .inr hw
  refine ⟨by show (s.1.set _ _).length=_;rw[List.length_set];exact h.len,fun j w hw=> ?_,fun e=> ?_,fun e he=> ?_,h.asc,by have:=h.ll;show s.2.length≤_;omega,fun e he j w hw hws=> ?_⟩
  ·rcases hg j w hw with ⟨rfl,rfl⟩ | h1
   ·exact ⟨by rw[hj];exact hx.veh,hO.cost,hl,fun _=>⟨hO.ok,htwo,hlast⟩⟩
   ·exact h.tour j w h1
  ·have h1:=QmO s.1 i x z.2.1 (e:Int) hi;have h2:=h.once e
   rw[hcount e] at h1
   show cnB (s.1.set z.1 z.2.1) (e:Int)+s.2.count (e:Int)=_
   rw[hzi]
   by_cases hek:e=k
   ·subst hek;rw[if_neg (by omega)] at h2;rw[if_pos (by omega)];rw[if_pos rfl] at h1;omega
   ·rw[if_neg hek] at h1
    by_cases h3:e<k
    ·rw[if_pos h3] at h2;rw[if_pos (by omega)];omega
    ·rw[if_neg h3] at h2;rw[if_neg (by omega)];omega
  ·have:=h.lo e he;omega
  ·rcases hg j w hw with ⟨_,rfl⟩ | h1
   ·rw[hws] at htwo;simp at htwo
   ·exact h.left e he j w h1 hws
theorem QeZ {F:Nat} (hF:40000≤F) {p:Pr} (hp:OkP p) (hn:p.Road.Edges.length≤600): ∀k,Ql5 F p k (QcC F p k)
 | 0=>Qnr hp
 | k+1=>Qob hF hn (QeZ hF hp hn k)
end Go.Proofs.YthpgjbbjpfiniaaGreat
namespace Go.Proofs.YthpgjbbjpfiniaaGreat
open Go.RowKit
set_option linter.unusedSimpArgs false
set_option linter.unusedVariables false
theorem QpV (y:Op):Qc.mk (Qa.mk y.tour.Vehicle y.tour.Stops) y.cost=y:=rfl
theorem QlR {F:Nat} (hF:40000≤F) {p:Pr} (hp:OkP p) (hc:Qv p=some 0) (hn:p.Road.Edges.length≤600) (hv:p.Vehicles.length≤1000) (hd:p.Demands.length≤1000) {k:Nat} (hk:k<p.Demands.length) {s:List Op×List Int} (h:Ql5 F p k s) :
  WC F p (s.1,s.2,(k:Int))=some (.inl ((Qd1 (V9 F p k) k s).1,(Qd1 (V9 F p k) k s).2,((k+1:Nat):Int))) ∧
  Y6 F p (s.1.map JF,s.2,(k:Int))=some (.inl ((Qd1 (V9 F p k) k s).1.map JF,(Qd1 (V9 F p k) k s).2,((k+1:Nat):Int))):=by
 have ha:=QqH hF hn h k;have hlen:=h.len;have hll:=h.ll;have h1:((k:Int)<((p.Demands.length:Nat):Int)):=by omega
 have e1:w64 ((k:Int)+1)=((k+1:Nat):Int):=by rw[Yr (by omega) (by omega)];omega
 have q1:=QeA (F:=F) (p:=p) (T:=s.1) (d:=k) (by omega) ha s.1 0 none (((s.1.length:Nat):Int).toNat+1) (by simp) (by omega) (by simp) (fun z hz=>by cases hz);have q2:=Qec (F:=F) (p:=p) (T:=s.1) (d:=k) hp hc (by omega) ha s.1 0 none (((s.1.length:Nat):Int).toNat+1) (by simp) (by omega) (by simp);have hml:(s.1.map JF).length=s.1.length:=by simp
 have q1':iter (Ji F p s.1 (k:Int)) (((s.1.length:Nat):Int).toNat+1) (0,[],0,-1,0)=some (QhM (VW (V9 F p k) s.1 0 none)):=q1;have q2':iter (Yu F p (s.1.map JF) (k:Int)) (((s.1.length:Nat):Int).toNat+1) (-1,0,0,[],0)=some ((Qfi (VW (V9 F p k) s.1 0 none)).1,(Qfi (VW (V9 F p k) s.1 0 none)).2.2.1,(Qfi (VW (V9 F p k) s.1 0 none)).2.2.2):=q2;unfold WC Y6 Qd1
 simp only[oun,h1,decide_true,cond_true,hml,q1',q2',Option.bind_some]
 cases hz:VW (V9 F p k) s.1 0 none with
 | none =>
  simp only[QhM,Qfi,show decide ((-1:Int)<0)=true from rfl,cond_true,e1,Option.bind_some]
  rw[Yv (by simp;omega)]
  exact ⟨rfl,rfl⟩
 | some z =>
  obtain ⟨i,x,hi,hzi⟩: ∃i x,s.1[i]? =some x∧z.1=i:=by
   rcases Qhv _ _ _ _ _ hz with h1 | ⟨i,x,h1,h2,h3⟩
   ·cases h1
   ·exact ⟨i,x,h1,by omega⟩
  have hz0: ¬(((z.1:Nat):Int)<0):=by omega
  have g1:s.1[z.1]? =some x:=by rw[hzi];exact hi
  have g2:(s.1.map JF)[z.1]? =some x.tour:=by rw[List.getElem?_map,g1];rfl
  simp only[QhM,Qfi,hz0,decide_false,cond_false,QD,g1,g2,Option.bind_some,e1,Q9,Int.toNat_natCast,QpV]
  first | exact ⟨rfl,by rw[List.map_set]⟩ | simp[List.map_set]
theorem QhQ {F:Nat} (hF:40000≤F) {p:Pr} (hp:OkP p) (hc:Qv p=some 0) (hn:p.Road.Edges.length≤600) (hv:p.Vehicles.length≤1000) (hd:p.Demands.length≤1000): ∀(r k f:Nat),k+r=p.Demands.length→r<f →
  iter (WC F p) f ((QcC F p k).1,(QcC F p k).2,(k:Int))=some (QcC F p p.Demands.length) ∧
  iter (Y6 F p) f ((QcC F p k).1.map JF,(QcC F p k).2,(k:Int))=some ((QcC F p p.Demands.length).1.map JF,(QcC F p p.Demands.length).2)
 | _,_,0,_,h=>by omega
 | 0,k,f+1,hk,_=>by
  have:k=p.Demands.length:=by omega
  subst this
  simp only[iter,WC,Y6,oun,Int.lt_irrefl,decide_false,cond_false,Option.bind_some,QR]
  first | exact ⟨rfl,rfl⟩ | exact ⟨trivial,trivial⟩ | simp
 | r+1,k,f+1,hk,hf=>by
  obtain ⟨h1,h2⟩:=QlR hF hp hc hn hv hd (by omega) (QeZ hF hp hn k);obtain ⟨i1,i2⟩:=QhQ hF hp hc hn hv hd r (k+1) f (by omega) (by omega)
  simp only[iter,h1,h2,Option.bind_some,QR]
  exact ⟨i1,i2⟩
def Qbb (T:List Op):List Qa:=(T.map JF).filter fun t=>decide (0<t.Stops.length)
theorem Qh6 (T:List Op) (x:Op):Qbb (T++[x])=Qbb T++if 0<x.tour.Stops.length then [x.tour] else []:=by
 unfold Qbb
 rw[List.map_append,List.filter_append]
 by_cases h:0<x.tour.Stops.length
 ·simp[h]
 ·simp[h]
theorem QeW (T:List Op):(Qbb T).length≤T.length:=by
 unfold Qbb;refine Nat.le_trans (List.length_filter_le _ _) (by simp)
theorem Qnb (T:List Op) (hT:T.length≤1000) :
  iter (Vo T) (((T.length:Nat):Int).toNat+1) ([],0)=some (Qbb T) ∧
  iter (ZN (T.map JF)) ((((T.map JF).length:Nat):Int).toNat+1) ([],0)=some (Qbb T):=by
 have hml:(T.map JF).length=T.length:=by simp
 constructor
 ·have:=Zb (body:=Vo T) T (fun k=>Qbb (T.take k)) (fun m k=>(m,k)) (fun _ _=>none) (Qbb T) (by omega) (fun k x hx _=> ?_) (fun _=>by simp only[Vo,oun,List.take_length];simp) (((T.length:Nat):Int).toNat+1) (by simp)
  ·rw[Ya _ _ (fun _ _ _=>rfl)] at this
   exact this
  ·have hk:=QE hx;have hk2:((k:Int)<(T.length:Nat)):=by omega
   have hul:=QeW (T.take k)
   rw[Yx (Nat.le_of_lt hk)] at hul
   simp only[Vo,oun,hk2,decide_true,cond_true,QD,hx,Option.bind_some,Jp]
   rw[YU hx,Qh6]
   by_cases h:0<x.tour.Stops.length
   ·have h':(0:Int)<((x.tour.Stops.length:Nat):Int):=by omega
    simp only[h,h',decide_true,cond_true,if_true]
    rw[Yv (by simp;omega)]
    rfl
   ·have h': ¬(0:Int)<((x.tour.Stops.length:Nat):Int):=by omega
    simp only[h,h',decide_false,cond_false,if_false,List.append_nil,Option.bind_some]
 ·have:=Zb (body:=ZN (T.map JF)) T (fun k=>Qbb (T.take k)) (fun m k=>(m,k)) (fun _ _=>none) (Qbb T) (by omega) (fun k x hx _=> ?_) (fun _=>by simp only[ZN,oun,List.take_length,hml];simp) (((T.length:Nat):Int).toNat+1) (by simp)
  ·rw[Ya _ _ (fun _ _ _=>rfl)] at this
   rw[hml]
   exact this
  ·have hk:=QE hx;have hk2:((k:Int)<(T.length:Nat)):=by omega
   have hul:=QeW (T.take k)
   rw[Yx (Nat.le_of_lt hk)] at hul
   have hx2:(T.map JF)[k]? =some x.tour:=by rw[List.getElem?_map,hx];rfl
   simp only[ZN,oun,hml,hk2,decide_true,cond_true,QD,hx2,Option.bind_some,Jp]
   rw[YU hx,Qh6]
   by_cases h:0<x.tour.Stops.length
   ·have h':(0:Int)<((x.tour.Stops.length:Nat):Int):=by omega
    simp only[h,h',decide_true,cond_true,if_true]
    rw[Yv (by simp;omega)]
    rfl
   ·have h': ¬(0:Int)<((x.tour.Stops.length:Nat):Int):=by omega
    simp only[h,h',decide_false,cond_false,if_false,List.append_nil,Option.bind_some]
theorem Ql7 (n:Nat) (hn:n≤1000): ∃l,Qb1 (Qc.mk (Qa.mk 0 []) 0) ((n:Nat):Int)=some l∧l.length=n∧iter (Vq l) (((l.length:Nat):Int).toNat+1) (l,0)=some (Wn n):=by
 have hm:Qb1 (Qc.mk (Qa.mk 0 []) 0) ((n:Nat):Int)=some (List.replicate n (Qc.mk (Qa.mk 0 []) 0)):=by
  unfold Qb1
  rw[if_pos (by omega),Int.toNat_natCast]
 refine ⟨_,hm,by simp,?_⟩
 generalize hl:List.replicate n (Qc.mk (Qa.mk 0 []) 0)=l
 have hln:l.length=n:=by rw[←hl];simp
 have:=Zb (body:=Vq l) l (fun k=>Wn k++l.drop k) (fun m k=>(m,k)) (fun _ _=>none) (Wn n) (by omega) (fun k x hx _=> ?_) (fun _=>by simp only[Vq,oun,hln];simp[List.drop_of_length_le (Nat.le_of_eq hln)]) (((l.length:Nat):Int).toNat+1) (by simp)
 ·rw[Ya _ _ (fun _ _ _=>rfl)] at this
  simpa [Wn] using this
 ·have hk:=QE hx;have hk2:((k:Int)<(l.length:Nat)):=by omega
  have hx0:x=⟨⟨0,[]⟩,0⟩:=by
   rw[←hl,List.getElem?_replicate] at hx
   split at hx
   ·injection hx with hx;exact hx.symm
   ·cases hx
  have hsl:(Wn k).length=k:=by simp[Wn]
  have hdr:l.drop k=x::l.drop (k+1):=by
   rw[List.drop_eq_getElem_cons hk]
   congr 1
   rw[List.getElem?_eq_getElem hk] at hx
   injection hx
  have hg:(Wn k++l.drop k)[k]? =some x:=by
   rw[List.getElem?_append_right (by omega),hsl,Nat.sub_self,hdr];rfl
  simp only[Vq,oun,hk2,decide_true,cond_true,QD,hg,Option.bind_some,Jp,Q9,Int.toNat_natCast]
  rw[List.set_append_right _ _ (by omega),hsl,Nat.sub_self,hdr,List.set_cons_zero]
  have:Wn (k+1)=Wn k++[⟨⟨(k:Int),[]⟩,0⟩]:=by simp[Wn,List.range_succ]
  rw[this,hx0]
  simp
theorem Qmc {p:Pr} (hv:p.Vehicles.length≤1000):iter (ZO p) (((p.Vehicles.length:Nat):Int).toNat+1) ([],0)=some ((Wn p.Vehicles.length).map JF):=by
 have:=Zb (body:=ZO p) p.Vehicles (fun k=>(Wn k).map JF) (fun m k=>(m,k)) (fun _ _=>none) ((Wn p.Vehicles.length).map JF) (by omega) (fun k x hx _=> ?_) (fun _=>by simp only[ZO,oun];simp) (((p.Vehicles.length:Nat):Int).toNat+1) (by simp)
 ·rw[Ya _ _ (fun _ _ _=>rfl)] at this
  exact this
 ·have hk:=QE hx;have hk2:((k:Int)<(p.Vehicles.length:Nat)):=by omega
  simp only[ZO,oun,hk2,decide_true,cond_true,Jp]
  have:Wn (k+1)=Wn k++[⟨⟨(k:Int),[]⟩,0⟩]:=by simp[Wn,List.range_succ]
  rw[Yv (by simp[Wn];omega),this,List.map_append]
  rfl
def QaW (F:Nat) (p:Pr):Qk:=⟨Qbb (QcC F p p.Demands.length).1,(QcC F p p.Demands.length).2⟩
theorem Qh7 {F:Nat} (hF:40000≤F) (p:Pr) (hn:p.Road.Edges.length≤600) (hv:p.Vehicles.length≤1000) (hd:p.Demands.length≤1000) :
  ∃e,Qv p=some e∧((e≠0∧Vw F p=some (⟨[],[]⟩,e)∧Js F p=some (⟨[],[]⟩,e))∨(e=0∧OkP p∧Vw F p=some (QaW F p,0)∧Js F p=some (QaW F p,0))):=by
 unfold Vw Js
 rw[ZU (by omega) p hn]
 rcases QcL p hn with ⟨h1,h2⟩ | ⟨e,h1,h2⟩
 ·refine ⟨0,h1,.inr ⟨rfl,h2,?_⟩⟩;obtain ⟨l,q1,q2,q3⟩:=Ql7 p.Vehicles.length hv;obtain ⟨b1,b2⟩:=QhQ hF h2 h1 hn hv hd p.Demands.length 0 (((p.Demands.length:Nat):Int).toNat+1) (by omega) (by simp);have hr:=(QeZ hF h2 hn p.Demands.length).len;obtain ⟨u1,u2⟩:=Qnb (QcC F p p.Demands.length).1 (by omega);have b1':iter (WC F p) (((p.Demands.length:Nat):Int).toNat+1) (Wn p.Vehicles.length,[],0)=some (QcC F p p.Demands.length):=b1;have b2':iter (Y6 F p) (((p.Demands.length:Nat):Int).toNat+1) ((Wn p.Vehicles.length).map JF,[],0)=some ((QcC F p p.Demands.length).1.map JF,(QcC F p p.Demands.length).2):=b2
  rw[h1]
  simp only[Option.bind_some,decide_true,Bool.not_true,cond_false,q1,q3,Qmc hv,b1',b2',oun,u1,u2]
  exact ⟨rfl,rfl⟩
 ·refine ⟨e,h2,.inl ⟨h1,?_⟩⟩
  rw[h2]
  simp only[Option.bind_some]
  rw[show decide (e=0)=false by simpa using h1]
  exact ⟨rfl,rfl⟩
theorem Qk6 {T:List Op} {t:Qa} (h:t∈Qbb T): ∃(i:Nat) (x:Op),T[i]? =some x∧x.tour=t∧t.Stops≠[]:=by
 obtain ⟨h1,h2⟩:=List.mem_filter.1 h;obtain ⟨x,h3,rfl⟩:=List.mem_map.1 h1;obtain ⟨i,hi⟩:=List.getElem?_of_mem h3;refine ⟨i,x,hi,rfl,fun h=> ?_⟩;have:=of_decide_eq_true h2
 rw[h] at this
 simp at this
theorem Qlk {F:Nat} (hF:40000≤F) {p:Pr} (hp:OkP p) (hn:p.Road.Edges.length≤600):(QaW F p).Tours.length≤p.Vehicles.length∧(QaW F p).Left.length≤p.Demands.length∧ ∀t∈(QaW F p).Tours,t.Stops.length≤40:=by
 have h:=QeZ hF hp hn p.Demands.length;refine ⟨by rw[←h.len];exact QeW _,h.ll,fun t ht=> ?_⟩;obtain ⟨i,x,h1,rfl,_⟩:=Qk6 ht;exact (h.tour i x h1).len
end Go.Proofs.YthpgjbbjpfiniaaGreat
namespace Go.Proofs.YthpgjbbjpfiniaaGreat
open Go.RowKit
set_option linter.unusedSimpArgs false
set_option linter.unusedVariables false
theorem QmF (d:Nat): ∀(T:List Op),tn (Qbb T) d=cnB T (d:Int)
 | []=>rfl
 | x::T=>by
  have ih:=QmF d T;unfold Qbb tn at ih ⊢;unfold cnB at ih ⊢
  rw[List.map_cons,List.filter_cons,List.map_cons,List.sum_cons,←ih]
  by_cases h:0<x.tour.Stops.length
  ·simp[JF,h,cn]
  ·have:x.tour.Stops=[]:=List.eq_nil_of_length_eq_zero (by omega)
   simp[JF,this]
theorem QnF {F:Nat} {p:Pr} {k:Nat} {s:List Op×List Int} (h:Ql5 F p k s):(Qbb s.1).Pairwise fun a b=>a.Vehicle<b.Vehicle:=by
 unfold Qbb;refine List.Pairwise.sublist List.filter_sublist ?_
 rw[List.pairwise_map,List.pairwise_iff_getElem]
 intro i j hi hj hij;have h1:=(h.tour i _ (List.getElem?_eq_getElem hi)).veh;have h2:=(h.tour j _ (List.getElem?_eq_getElem hj)).veh
 show s.1[i].tour.Vehicle<s.1[j].tour.Vehicle
 rw[h1,h2];omega
theorem Qdf {p:Pr} {t:Qa} (h:(YR p t).2=0): ∃u,W6 p t= .inl u:=by
 unfold YR at h;cases hr:W6 p t with
 | inl u=>exact ⟨u,rfl⟩
 | inr q=>rw[hr] at h;exact absurd h (Qam hr)
theorem QmA {F:Nat} (hF:40000≤F) {p:Pr} (hn:p.Road.Edges.length≤600) (hp:OkP p) (hc:Qv p=some 0) (x:Qk) (hx:x.Tours.length≤30) (hl:x.Left.length≤100)
  (ha:x.Tours.Pairwise fun a b=>a.Vehicle<b.Vehicle) (ht: ∀t∈x.Tours,(YR p t).2=0) (hb: ∀e∈x.Left,0≤e∧e<((p.Demands.length:Nat):Int)) (h1: ∀d,d<p.Demands.length→tn x.Tours d+cn x.Left d=1) :
  Zw F p x=some (ZE p x.Tours,0):=by
 have hdl:=hp.dl;have hbad: ∀(k:Nat) (t:To),x.Tours[k]? =some t→Qdj p x.Tours k t=none:=fun k t hk=>by
  obtain ⟨u,hu⟩:=Qdf (ht t (List.mem_of_getElem? hk));have hany:(x.Tours.take k).any (fun u=>decide (u.Vehicle=t.Vehicle))=false:=by
   rw[List.any_eq_false]
   intro y hy he;obtain ⟨j,hj⟩:=List.getElem?_of_mem hy;have hjk:=QE hj;have hkl:=QE hk
   rw[Yx (Nat.le_of_lt hkl)] at hjk
   rw[List.getElem?_take,if_pos hjk] at hj
   have:=List.pairwise_iff_getElem.1 ha j k (by omega) hkl hjk
   rw[List.getElem?_eq_getElem (by omega)] at hj hk
   injection hj with hj
   injection hk with hk
   rw[hj,hk,of_decide_eq_true he] at this
   omega
  unfold Qdj
  rw[hany,hu]
  rfl
 have hall: ∀t∈x.Tours,(∀s∈t.Stops,okS p.Demands.length s)∧t.Stops.length≤40:=fun t htm=>by
  obtain ⟨u,hu⟩:=Qdf (ht t htm);exact (VN hp hu).2.2
 have q1:=QeU hF hp x hx
 rw[Ya _ _ (fun i t hi=>by rw[Nat.zero_add,hbad i t hi];rfl)] at q1
 have q3:=(Qc8 (n:=p.Demands.length) x (fun _=>0) (by omega) (fun _=>Nat.zero_le _)).1;have q4:=(Qcq (n:=p.Demands.length) x (fun d=>0+cn x.Left d) (by omega) (fun d=>by have:=Qi1 x.Left d;omega) (fun t htm=>by have:=(hall t htm).2;omega) (fun t htm=>(hall t htm).1)).1;have hbl:QfC p.Demands.length x.Left=false:=by
  unfold QfC
  rw[List.any_eq_false]
  intro e he;have:=hb e he
  simp;omega
 have hv:(vec p.Demands.length fun d=>0+cn x.Left d+tn x.Tours d)=vec p.Demands.length fun _=>1:=Qcd fun d hd=>by have:=h1 d hd;omega
 rw[hv] at q4
 rw[hbl] at q3
 have hmem: ∀c∈vec p.Demands.length (fun _=>1),c=(1:Int):=fun c hc=>by
  unfold vec at hc;obtain ⟨j,_,rfl⟩:=List.mem_map.1 hc
  rfl
 have a1:(vec p.Demands.length (fun _=>1)).any (fun c=>decide (1<c))=false:=by
  rw[List.any_eq_false];intro c hc;rw[hmem c hc];decide
 have a2:(vec p.Demands.length (fun _=>1)).any (fun c=>decide (c=0))=false:=by
  rw[List.any_eq_false];intro c hc;rw[hmem c hc];decide
 unfold Zw
 rw[ZU (by omega) _ hn,hc]
 simp only[Option.bind_some,decide_true,Bool.not_true,cond_false]
 rw[q1]
 simp only[Option.bind_some,QR]
 rw[QeD _ (by omega)]
 simp only[Option.bind_some]
 rw[q3]
 simp only[cond_false,Option.bind_some,QR]
 rw[q4]
 simp only[Option.bind_some]
 rw[Qhi _ (by rw[VR];omega),Qhk _ (by rw[VR];omega),a1,a2]
 rfl
theorem QoT {F:Nat} (hF:40000≤F) {p:Pr} (hn:p.Road.Edges.length≤600) (hv:p.Vehicles.length≤30) (hp:OkP p) (hc:Qv p=some 0):Zw F p (QaW F p)=some (ZE p (QaW F p).Tours,0):=by
 have h:=QeZ hF hp hn p.Demands.length;obtain ⟨l1,l2,l3⟩:=Qlk hF hp hn;have hdl:=hp.dl;refine QmA hF hn hp hc _ (by omega) (by omega) (QnF h) (fun t ht=> ?_) h.lo (fun d hd=> ?_)
 ·obtain ⟨i,x,g1,rfl,g2⟩:=Qk6 ht;exact ((h.tour i x g1).full g2).1
 ·have:=h.once d
  rw[if_pos hd] at this
  show tn (Qbb _) d+cn _ d=1
  rw[QmF]
  exact this
end Go.Proofs.YthpgjbbjpfiniaaGreat
namespace Go.Proofs.YthpgjbbjpfiniaaGreat
open Go.RowKit
set_option linter.unusedSimpArgs false
set_option linter.unusedVariables false
theorem Qez {p:Pr} {v:Ve} (b:List Int): ∀(a pre:List Int) (x:Vi),VL p v pre (a++b) x=match VL p v pre a x with
  | .inr q=> .inr q
  | .inl z=>match VL p v (pre++a) b z.1 with
   | .inr q=> .inr q
   | .inl z2=> .inl (z2.1,z.2++z2.2)
 | [],pre,x=>by
  simp only[List.nil_append,VL,List.append_nil]
  cases VL p v pre b x<;>rfl
 | s::a,pre,x=>by
  simp only[List.cons_append,VL]
  cases QaG p v pre x s with
  | inr e=>rfl
  | inl y =>
   simp only[]
   rw[Qez b a (pre++[s]) y]
   cases VL p v (pre++[s]) a y with
   | inr q=>rfl
   | inl z =>
    simp only[List.append_assoc,List.singleton_append]
    cases VL p v (pre++s::a) b z.1<;>rfl
theorem QoX {p:Pr} {t:Qa} {v:Ve} (h0:0≤t.Vehicle) (h1:t.Vehicle<((p.Vehicles.length:Nat):Int)) (hv:getI p.Vehicles t.Vehicle=some v) (hs:t.Stops.length≤40) :
  W6 p t=match VL p v [] t.Stops (x0 v) with
   | .inr q=> .inr (q.1,((q.2:Nat):Int))
   | .inl z=>match QaV p v z.1 with
    | .inr e=> .inr (e,((t.Stops.length:Nat):Int))
    | .inl y=> .inl (z.1,z.2++[y],v):=by
 unfold W6
 rw[if_neg (by omega),if_neg (by omega)]
 unfold getI at hv
 rw[if_pos h0] at hv
 rw[hv]
 rfl
end Go.Proofs.YthpgjbbjpfiniaaGreat
