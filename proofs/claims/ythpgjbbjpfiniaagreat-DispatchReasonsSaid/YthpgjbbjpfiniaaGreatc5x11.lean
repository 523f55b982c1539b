/- DispatchReasons: for every input the given law returns true, and its arguments read as before. No condition. -/
import Derived.Test.YthpgjbbjpfiniaaGreatc5x10
namespace Go.Proofs.YthpgjbbjpfiniaaGreat
set_option linter.unusedSimpArgs false
set_option linter.unusedVariables false
set_option maxHeartbeats 1000000
section
variable {α:Type} {k:α→Int} {cmp:α→α→Option Int} {Pv:α→Prop}
theorem QmM (hc: ∀x y,Pv x→Pv y→ ∃z,cmp x y=some z∧(z<0↔k x<k y)) {a m F:Nat} {A U B:List α} {y:α} (hA:A.length=a) (hU:a+U.length=m) (h2:2≤U.length) (hb:m+1≤1000000000) (hF:m+1-a<F) (hs:Srt k U) (hy:Pv y) (hp: ∀z∈U,Pv z) (rec_:List α→Int→Int→Int→Option (List α)) :
  ∃M,QdQ cmp rec_ F (A++(U++([y]++B))) a m ((m+1:Nat):Int)=some (A++(M++B))∧Srt k M∧YC k (U++[y]) M:=by
 have hd1: ¬w64 ((m:Int)-(a:Int))=1:=by rw[Qel (by omega) (by omega)];omega
 have hd:w64 (((m+1:Nat):Int)-(m:Int))=1:=by rw[Qel (by omega) (by omega)];omega
 have gy:(A++(U++([y]++B)))[m]? =some y:=by
  have:A++(U++([y]++B))=(A++U)++y::B:=by simp
  rw[this];exact Qcq (by simp[hA,hU])
 have gu: ∀t,a≤t→t<m→ ∃v,(A++(U++([y]++B)))[t]? =some v∧U[t-a]? =some v:=by
  intro t h1 h2;obtain ⟨v,hv⟩:=QbY (L:=U) (i:=t-a) (by omega);exact ⟨v,by rw[QgR hA h1 (by omega)];exact hv,hv⟩
 obtain ⟨r,k1,k2,k3,k4,k5⟩:=Qg4 (body:=Qhz cmp (A++(U++([y]++B))) (m:Int)) (mk:=fun i j=>((i:Int),(j:Int))) (test:=fun h=>match (A++(U++([y]++B)))[h]? with | some v=>decide (¬k y<k v) | none=>false) (i0:=a) (j0:=m) (fun i j h0 hij hj=>by
   obtain ⟨v,g1,g2⟩:=gu ((i+j)/2) (by omega) (by omega);obtain ⟨z,hz,hz2⟩:=hc y v hy (hp v (List.mem_of_getElem? g2));have hlt:(i:Int)<(j:Int):=by omega
   have hw:=Qmv (i:=i) (j:=j) (by omega);have hw1:w64 (((((i+j)/2:Nat):Int))+1)=(((i+j)/2+1:Nat):Int):=Qgy (by omega);have hg:Wu (0≤1∧1≤64)=some ():=QaA (by decide)
   by_cases hk:k y<k v
   ·have hz0:=hz2.2 hk
    simp only[Qhz,oun,hlt,decide_true,cond_true,hg,Option.bind_some,hw,Qq,g1,gy,hz,hz0,hk,hw1,Bool.not_true,cond_false,not_true_eq_false,decide_false]
   ·have hz0: ¬z<0:=fun h=>hk (hz2.1 h)
    simp only[Qhz,oun,hlt,decide_true,cond_true,hg,Option.bind_some,hw,Qq,g1,gy,hz,hz0,hk,decide_false,cond_false,Bool.not_false,not_false_eq_true,hw1])
  (fun i h0 hj=>by simp only[Qhz,oun,Int.lt_irrefl,decide_false,cond_false])
  (fun s t h1 h2 h3 ht=>by
   obtain ⟨v,g1,g2⟩:=gu s h1 (by omega);obtain ⟨w,q1,q2⟩:=gu t (by omega) h3
   simp only[q1,g1,decide_eq_true_eq] at ht ⊢
   have:=QbU hs (by omega:s-a≤t-a) g2 q2
   omega) (m-a) a m F (Nat.le_refl _) (by omega) (Nat.le_refl _) (by omega) (Nat.le_refl _) (fun t h1 h2=>by omega) (fun t h1 h2=>by omega)
 have hl:(U.take (r-a)).length=r-a:=by simp;omega
 have h1: ∀z∈U.take (r-a),k z≤k y:=by
  intro z hz;obtain ⟨i,hi,hz⟩:=QdZ hz;have h2:=k4 (a+i) (by omega) (by omega);obtain ⟨v,g1,g2⟩:=gu (a+i) (by omega) (by omega)
  simp only[g1,decide_eq_true_eq] at h2
  rw[show a+i-a=i by omega,hz] at g2
  injection g2 with g2;subst g2;omega
 have h2: ∀z∈U.drop (r-a),k y<k z:=by
  intro z hz;obtain ⟨i,hi,hz⟩:=QdY hz;have hlt:=Qr hz;have h2:=k5 (a+i) (by omega) (by omega);obtain ⟨v,g1,g2⟩:=gu (a+i) (by omega) (by omega)
  simp only[g1,decide_eq_false_iff_not,Classical.not_not] at h2
  rw[show a+i-a=i by omega,hz] at g2
  injection g2 with g2;subst g2;exact h2
 have hus:U=U.take (r-a)++U.drop (r-a):=(List.take_append_drop _ _).symm;obtain ⟨j1,j2⟩:=Qfv (x:=y) (by rw[←hus];exact hs) h2 h1;refine ⟨U.take (r-a)++y::U.drop (r-a),?_,j1,by rw[←hus] at j2;exact j2⟩;have key:=QiF (cmp:=cmp) (e:=r) (A:=A++U.take (r-a)) (B:=B) (x:=y) (by simp[hA];omega) (U.drop (r-a)).length (U.drop (r-a)) [] F rfl (by simp;omega) (by simp;omega);have e1:A++(U++([y]++B))=A++U.take (r-a)++U.drop (r-a)++y::([]++B):=by
  rw[List.append_assoc A,←hus];simp
 have e2:((m:Nat):Int)=((r+(U.drop (r-a)).length:Nat):Int):=by simp;omega
 unfold QdQ
 simp only[hd1,hd,decide_false,cond_false,decide_true,cond_true,k1,Option.bind_some]
 rw[e1]
 conv=>lhs;rw[e2]
 rw[key]
 simp
theorem QkM {s a m b:Nat} {rec_:List α→Int→Int→Int→Option (List α)} (hr: ∀(A U V B:List α) (a m b:Nat),A.length=a→a+U.length=m→m+V.length=b→1≤U.length→1≤V.length→b≤1000000000→(A++(U++(V++B))).length≤1000000000000→b-a≤s→Srt k U→Srt k V→(∀z∈U,Pv z)→(∀z∈V,Pv z)→ ∃M,rec_ (A++(U++(V++B))) a m b=some (A++(M++B))∧Srt k M∧YC k (U++V) M) {A U V B:List α} (hA:A.length=a) (hU:a+U.length=m) (hV:m+V.length=b) (hb:b≤1000000000) (hl:(A++(U++(V++B))).length≤1000000000000) (hs:b-a≤s) (su:Srt k U) (sv:Srt k V) (pu: ∀z∈U,Pv z) (pv: ∀z∈V,Pv z) :
  ∃v M,(bif (decide ((a:Int)<(m:Int))) then some (decide ((m:Int)<(b:Int))) else some false)=some v∧(bif v then Option.bind (rec_ (A++(U++(V++B))) a m b) fun r=>some r else some (A++(U++(V++B))))=some (A++(M++B))∧Srt k M∧YC k (U++V) M:=by
 by_cases h1:a<m
 ·have h1':(a:Int)<(m:Int):=by omega
  by_cases h2:m<b
  ·have h2':(m:Int)<(b:Int):=by omega
   obtain ⟨M,k1,k2,k3⟩:=hr A U V B a m b hA hU hV (by omega) (by omega) hb hl hs su sv pu pv;refine ⟨true,M,?_,?_,k2,k3⟩
   ·simp only[h1',h2',decide_true,cond_true]
   ·simp only[cond_true,k1,Option.bind_some]
  ·have h2': ¬(m:Int)<(b:Int):=by omega
   have:V=[]:=List.eq_nil_of_length_eq_zero (by omega);subst this;refine ⟨false,U,?_,?_,su,by rw[List.append_nil];exact YC.refl U⟩
   ·simp only[h1',h2',decide_true,cond_true,decide_false]
   ·simp only[cond_false,List.nil_append]
 ·have h1': ¬(a:Int)<(m:Int):=by omega
  have:U=[]:=List.eq_nil_of_length_eq_zero (by omega);subst this;refine ⟨false,V,?_,?_,sv,YC.refl V⟩
  ·simp only[h1',decide_false,cond_false]
  ·simp only[cond_false,List.nil_append]
theorem Qh0 {l:List α} (h:Srt k l) (n:Nat):Srt k (l.take n):=List.Pairwise.sublist (List.take_sublist n l) h
theorem QhZ {l:List α} (h:Srt k l) (n:Nat):Srt k (l.drop n):=List.Pairwise.sublist (List.drop_sublist n l) h
theorem QoA {l:List α} (h:Srt k l) {n:Nat} {x y:α} (hx:x∈l.take n) (hy:y∈l.drop n):k x≤k y:=by
 obtain ⟨i,hi,hx⟩:=QdZ hx;obtain ⟨j,hj,hy⟩:=QdY hy;exact QbU h (by omega) hx hy
theorem Qpf (hc: ∀x y,Pv x→Pv y→ ∃z,cmp x y=some z∧(z<0↔k x<k y)) {F a m b:Nat}
  {A U V B:List α} (hA:A.length=a) (hU:a+U.length=m) (hV:m+V.length=b) (hu:2≤U.length) (hv:2≤V.length) (hb:b≤1000000000) (hF:b-a<F) (su:Srt k U) (sv:Srt k V) (pu: ∀z∈U,Pv z) (pv: ∀z∈V,Pv z) :
  ∃st r0 r e:Nat,(bif (decide ((((a+b)/2:Nat):Int)<(m:Int))) then some ((((a+b)/2:Nat):Int),(((a+b)/2+m:Nat):Int),w64 ((((a+b)/2+m:Nat):Int)-(b:Int)),(((a+b)/2:Nat):Int)) else some ((((a+b)/2:Nat):Int),(((a+b)/2+m:Nat):Int),(a:Int),(m:Int)))=some ((((a+b)/2:Nat):Int),(((a+b)/2+m:Nat):Int),(st:Int),(r0:Int)) ∧
   iter (Qf0 cmp (A++(U++(V++B)))) F ((st:Int),(r0:Int),(((a+b)/2+m-1:Nat):Int))=some (r:Int)∧a≤r∧r≤m∧e+r=(a+b)/2+m∧m≤e∧e≤b∧a<(a+b)/2∧(a+b)/2<b∧(∀x∈U.take (r-a),∀y∈V.drop (e-m),k x≤k y)∧(∀x∈U.drop (r-a),∀y∈V.take (e-m),k y<k x):=by
 have hg:Wu (0≤1∧1≤64)=some ():=QaA (by decide)
 generalize hm:(a+b)/2=mid
 obtain ⟨st,r0,hst,hst1,hst2,hst3⟩: ∃st r0:Nat,(bif (decide ((mid:Int)<(m:Int))) then some ((mid:Int),((mid+m:Nat):Int),w64 (((mid+m:Nat):Int)-(b:Int)),(mid:Int)) else some ((mid:Int),((mid+m:Nat):Int),(a:Int),(m:Int)))=some ((mid:Int),((mid+m:Nat):Int),(st:Int),(r0:Int))∧a≤st∧st≤r0∧((mid<m∧st+b=mid+m∧r0=mid)∨(m≤mid∧st=a∧r0=m)):=by
  by_cases h:mid<m
  ·have h':(mid:Int)<(m:Int):=by omega
   refine ⟨mid+m-b,mid,?_,by omega,by omega,.inl ⟨h,by omega,rfl⟩⟩
   simp only[h',decide_true,cond_true,Qel (by omega:b≤mid+m) (by omega)]
  ·have h': ¬(mid:Int)<(m:Int):=by omega
   refine ⟨a,m,?_,Nat.le_refl _,by omega,.inr ⟨by omega,rfl,rfl⟩⟩
   simp only[h',decide_false,cond_false]
 have gu: ∀t,a≤t→t<m→ ∃v,(A++(U++(V++B)))[t]? =some v∧U[t-a]? =some v:=by
  intro t h1 h2;obtain ⟨v,hv⟩:=QbY (L:=U) (i:=t-a) (by omega);exact ⟨v,by rw[QgR hA h1 (by omega)];exact hv,hv⟩
 have gv: ∀t,m≤t→t<b→ ∃v,(A++(U++(V++B)))[t]? =some v∧V[t-m]? =some v:=by
  intro t h1 h2;obtain ⟨v,hv⟩:=QbY (L:=V) (i:=t-m) (by omega);have e:A++(U++(V++B))=(A++U)++(V++B):=by simp
  exact ⟨v,by rw[e,QgR (a:=m) (by simp[hA,hU]) h1 (by omega)];exact hv,hv⟩
 obtain ⟨r,k1,k2,k3,k4,k5⟩:=Qg4 (body:=Qf0 cmp (A++(U++(V++B)))) (mk:=fun i j=>((i:Int),(j:Int),((mid+m-1:Nat):Int))) (test:=fun h=>match (A++(U++(V++B)))[mid+m-1-h]?,(A++(U++(V++B)))[h]? with | some v,some u=>decide (¬k v<k u) | _,_=>false) (i0:=st) (j0:=r0) (fun i j h0 hij hj=>by
   obtain ⟨u,u1,u2⟩:=gu ((i+j)/2) (by omega) (by omega);obtain ⟨v,v1,v2⟩:=gv (mid+m-1-(i+j)/2) (by omega) (by omega);obtain ⟨z,hz,hz2⟩:=hc v u (pv v (List.mem_of_getElem? v2)) (pu u (List.mem_of_getElem? u2));have hlt:(i:Int)<(j:Int):=by omega
   have hw:=Qmv (i:=i) (j:=j) (by omega);have hw1:w64 (((((i+j)/2:Nat):Int))+1)=(((i+j)/2+1:Nat):Int):=Qgy (by omega);have hw2:w64 (((mid+m-1:Nat):Int)-(((i+j)/2:Nat):Int))=((mid+m-1-(i+j)/2:Nat):Int):=Qel (by omega) (by omega)
   by_cases hk:k v<k u
   ·have hz0:=hz2.2 hk
    simp only[Qf0,oun,hlt,decide_true,cond_true,hg,Option.bind_some,hw,hw2,Qq,u1,v1,hz,hz0,hk,hw1,Bool.not_true,cond_false,not_true_eq_false,decide_false]
   ·have hz0: ¬z<0:=fun h=>hk (hz2.1 h)
    simp only[Qf0,oun,hlt,decide_true,cond_true,hg,Option.bind_some,hw,hw2,Qq,u1,v1,hz,hz0,hk,decide_false,cond_false,Bool.not_false,not_false_eq_true,hw1])
  (fun i h0 hj=>by simp only[Qf0,oun,Int.lt_irrefl,decide_false,cond_false])
  (fun s t h1 h2 h3 ht=>by
   obtain ⟨u,u1,u2⟩:=gu s (by omega) (by omega);obtain ⟨v,v1,v2⟩:=gv (mid+m-1-s) (by omega) (by omega);obtain ⟨u',u1',u2'⟩:=gu t (by omega) (by omega);obtain ⟨v',v1',v2'⟩:=gv (mid+m-1-t) (by omega) (by omega)
   simp only[u1,v1,u1',v1',decide_eq_true_eq] at ht ⊢
   have h4:=QbU su (by omega:s-a≤t-a) u2 u2';have h5:=QbU sv (by omega:mid+m-1-t-m≤mid+m-1-s-m) v2' v2
   omega) (r0-st) st r0 F (Nat.le_refl _) (by omega) (Nat.le_refl _) (by omega) (Nat.le_refl _) (fun t h1 h2=>by omega) (fun t h1 h2=>by omega)
 generalize he:mid+m-r=e
 have hme:m≤e:=by omega
 have heb:e≤b:=by omega
 have hi: ∀x∈U.take (r-a),∀y∈V.drop (e-m),k x≤k y:=by
  intro x hx y hy;obtain ⟨i,hi,hx⟩:=QdZ hx;obtain ⟨j,hj,hy⟩:=QdY hy;have hj2:=Qr hy
  by_cases hrs:r=st
  ·omega
  ·have ht:=k4 (r-1) (by omega) (by omega);obtain ⟨u,u1,u2⟩:=gu (r-1) (by omega) (by omega);obtain ⟨v,v1,v2⟩:=gv (mid+m-1-(r-1)) (by omega) (by omega)
   simp only[u1,v1,decide_eq_true_eq] at ht
   have h4:=QbU su (by omega:i≤r-1-a) hx u2;have h5:=QbU sv (by omega:mid+m-1-(r-1)-m≤j) v2 hy
   omega
 have hii: ∀x∈U.drop (r-a),∀y∈V.take (e-m),k y<k x:=by
  intro x hx y hy;obtain ⟨i,hi,hx⟩:=QdY hx;obtain ⟨j,hj,hy⟩:=QdZ hy;have hi2:=Qr hx
  by_cases hrs:r=r0
  ·omega
  ·have ht:=k5 r (by omega) (by omega);obtain ⟨u,u1,u2⟩:=gu r (by omega) (by omega);obtain ⟨v,v1,v2⟩:=gv (mid+m-1-r) (by omega) (by omega)
   simp only[u1,v1,decide_eq_false_iff_not,Classical.not_not] at ht
   have h4:=QbU su (by omega:r-a≤i) u2 hx;have h5:=QbU sv (by omega:j≤mid+m-1-r-m) hy v2
   omega
 exact ⟨st,r0,r,e,hst,k1,by omega,by omega,by omega,hme,heb,by omega,by omega,hi,hii⟩
theorem QmN (hc: ∀x y,Pv x→Pv y→ ∃z,cmp x y=some z∧(z<0↔k x<k y)) {s F a m b:Nat} {rec_:List α→Int→Int→Int→Option (List α)} (hr: ∀(A U V B:List α) (a m b:Nat),A.length=a→a+U.length=m→m+V.length=b→1≤U.length→1≤V.length→b≤1000000000→(A++(U++(V++B))).length≤1000000000000→b-a≤s→Srt k U→Srt k V→(∀z∈U,Pv z)→(∀z∈V,Pv z)→ ∃M,rec_ (A++(U++(V++B))) a m b=some (A++(M++B))∧Srt k M∧YC k (U++V) M)
  {A U V B:List α} (hA:A.length=a) (hU:a+U.length=m) (hV:m+V.length=b) (hu:2≤U.length) (hv:2≤V.length) (hb:b≤1000000000) (hl:(A++(U++(V++B))).length≤1000000000000) (hs:b-a≤s+1) (hF:b-a<F) (su:Srt k U) (sv:Srt k V) (pu: ∀z∈U,Pv z) (pv: ∀z∈V,Pv z) :
  ∃M,QdQ cmp rec_ F (A++(U++(V++B))) a m b=some (A++(M++B))∧Srt k M∧YC k (U++V) M:=by
 have hd1: ¬w64 ((m:Int)-(a:Int))=1:=by rw[Qel (by omega) (by omega)];omega
 have hd2: ¬w64 ((b:Int)-(m:Int))=1:=by rw[Qel (by omega) (by omega)];omega
 have hg:Wu (0≤1∧1≤64)=some ():=QaA (by decide);obtain ⟨st,r0,r,e,hst,k1,r1,r2,he,hme,heb,hm1,hm2,hi,hii⟩:=Qpf (B:=B) hc hA hU hV hu hv hb hF su sv pu pv
 generalize hm:(a+b)/2=mid at *
 have hw:w64 ((IntKind.u64.wrap (w64 ((a:Int)+(b:Int))))/2^(1:Int).toNat)=(mid:Int):=by rw[Qmv (by omega),hm]
 have hn:w64 ((mid:Int)+(m:Int))=((mid+m:Nat):Int):=Qiq (by omega);have hp:w64 (((mid+m:Nat):Int)-1)=((mid+m-1:Nat):Int):=QkS (by omega) (by omega);have hend:w64 (((mid+m:Nat):Int)-(r:Int))=(e:Int):=by rw[Qel (by omega) (by omega)];omega
 have l1:(U.take (r-a)).length=r-a:=by simp;omega
 have l2:(U.drop (r-a)).length=m-r:=by simp;omega
 have l3:(V.take (e-m)).length=e-m:=by simp;omega
 have l4:(V.drop (e-m)).length=b-e:=by simp;omega
 have hus:U.take (r-a)++U.drop (r-a)=U:=List.take_append_drop _ _;have hvs:V.take (e-m)++V.drop (e-m)=V:=List.take_append_drop _ _
 generalize hU1:U.take (r-a)=U1 at *
 generalize hU2:U.drop (r-a)=U2 at *
 generalize hV1:V.take (e-m)=V1 at *
 generalize hV2:V.drop (e-m)=V2 at *
 have s1:Srt k U1:=by rw[←hU1];exact Qh0 su _
 have s2:Srt k U2:=by rw[←hU2];exact QhZ su _
 have s3:Srt k V1:=by rw[←hV1];exact Qh0 sv _
 have s4:Srt k V2:=by rw[←hV2];exact QhZ sv _
 have c1: ∀x∈U1,∀y∈U2,k x≤k y:=fun x hx y hy=>by rw[←hU1] at hx;rw[←hU2] at hy;exact QoA su hx hy
 have c2: ∀x∈V1,∀y∈V2,k x≤k y:=fun x hx y hy=>by rw[←hV1] at hx;rw[←hV2] at hy;exact QoA sv hx hy
 have p1: ∀z∈U1,Pv z:=fun z hz=>pu z (by rw[←hus];simp[hz]);have p2: ∀z∈U2,Pv z:=fun z hz=>pu z (by rw[←hus];simp[hz]);have p3: ∀z∈V1,Pv z:=fun z hz=>pv z (by rw[←hvs];simp[hz]);have p4: ∀z∈V2,Pv z:=fun z hz=>pv z (by rw[←hvs];simp[hz]);have hmid:a+U1.length+V1.length=mid:=by omega
 obtain ⟨w0,hr1,hr2⟩: ∃v,(bif (decide ((r:Int)<(m:Int))) then some ((e:Int),(decide ((m:Int)<(e:Int)))) else some ((e:Int),false))=some ((e:Int),v) ∧
   (bif v then Option.bind (QoS F (A++(U++(V++B))) r m e) fun r6=>some r6 else some (A++(U++(V++B))))=some (A++(U1++(V1++(U2++(V2++B))))):=by
  by_cases h1:r<m
  ·have h1':(r:Int)<(m:Int):=by omega
   by_cases h2:m<e
   ·have h2':(m:Int)<(e:Int):=by omega
    obtain ⟨L',q1,q2,q3⟩:=QoT (L:=A++(U++(V++B))) (a:=r) (m:=m) (b:=e) (F:=F) h1 h2 (by simp;omega) hl (by omega);have e0:A++(U++(V++B))=(A++U1)++(U2++(V1++(V2++B))):=by rw[←hus,←hvs];simp
    have:=Qo8 (A:=A++U1) (U:=U2) (V:=V1) (B:=V2++B) (L':=L') (m:=m) (by simp;omega) (fun t=>by rw[q3 t,e0,l2,l3]);refine ⟨true,by simp only[h1',h2',decide_true,cond_true],?_⟩
    simp only[cond_true,Option.bind_some,q1,this]
    simp
   ·have h2': ¬(m:Int)<(e:Int):=by omega
    have:V1=[]:=List.eq_nil_of_length_eq_zero (by omega);refine ⟨false,by simp only[h1',h2',decide_true,cond_true,decide_false],?_⟩
    rw[cond_false,←hus,←hvs,this];simp
  ·have h1': ¬(r:Int)<(m:Int):=by omega
   have:U2=[]:=List.eq_nil_of_length_eq_zero (by omega);refine ⟨false,by simp only[h1',decide_false,cond_false],?_⟩
   rw[cond_false,←hus,←hvs,this];simp
 obtain ⟨w1,M1,a1,a2,a3,a4⟩:=QkM hr (A:=A) (U:=U1) (V:=V1) (B:=U2++(V2++B)) (a:=a) (m:=r) (b:=mid) hA (by omega) (by omega) (by omega) (by rw[←hus,←hvs] at hl;simp at hl ⊢;omega) (by omega) s1 s3 p1 p3;have lM:M1.length=U1.length+V1.length:=by rw[←a4.perm.length_eq];simp
 obtain ⟨w2,M2,b1,b2,b3,b4⟩:=QkM hr (A:=A++M1) (U:=U2) (V:=V2) (B:=B) (a:=mid) (m:=e) (b:=b) (by simp;omega) (by omega) (by omega) (by omega) (by rw[←hus,←hvs] at hl;simp at hl ⊢;omega) (by omega) s2 s4 p2 p4;refine ⟨M1++M2,?_,?_,?_⟩
 ·have e1:A++(M1++(U2++(V2++B)))=(A++M1)++(U2++(V2++B)):=by simp
  unfold QdQ
  simp only[hd1,hd2,decide_false,cond_false,hg,Option.bind_some,hw,hn,hst,oun,hp,k1,hend,hr1,hr2,a1,a2,b1]
  rw[e1]
  simp only[b2,Option.bind_some]
  simp
 ·refine List.pairwise_append.2 ⟨a3,b3,fun x hx y hy=> ?_⟩;have hx:=a4.perm.symm.subset hx;have hy:=b4.perm.symm.subset hy;rcases List.mem_append.1 hx with hx | hx<;>rcases List.mem_append.1 hy with hy | hy
  ·exact c1 x hx y hy
  ·exact hi x hx y hy
  ·have:=hii y hy x hx;omega
  ·exact c2 x hx y hy
 ·rw[←hus,←hvs]
  have e1:U1++U2++(V1++V2)=U1++(U2++V1)++V2:=by simp
  have e2:U1++(V1++U2)++V2=(U1++V1)++(U2++V2):=by simp
  rw[e1]
  refine YC.trans (b:=(U1++V1)++(U2++V2)) ?_ (a4.append b4)
  rw[←e2]
  exact ((YC.refl U1).append (YC.swap hii)).append (YC.refl V2)
theorem Qjk (hc: ∀x y,Pv x→Pv y→ ∃z,cmp x y=some z∧(z<0↔k x<k y)): ∀(F:Nat) (A U V B:List α) (a m b:Nat),A.length=a→a+U.length=m→m+V.length=b→1≤U.length→1≤V.length→b≤1000000000→(A++(U++(V++B))).length≤1000000000000→2*(b-a)+4≤F→Srt k U→Srt k V→(∀z∈U,Pv z)→(∀z∈V,Pv z) →
  ∃M,Qjh cmp F (A++(U++(V++B))) a m b=some (A++(M++B))∧Srt k M∧YC k (U++V) M
 | 0,_,_,_,_,_,_,_,_,_,_,_,_,_,_,h,_,_,_,_=>by omega
 | F+1,A,U,V,B,a,m,b,hA,hU,hV,hu,hv,hb,hl,hF,su,sv,pu,pv=>by
  by_cases h1:U.length=1
  ·obtain ⟨x,rfl⟩:=List.length_eq_one_iff.1 h1;have:m=a+1:=by simp at hU;omega
   subst this;exact QnJ hc hA (by omega) hb (by omega) sv (pu x (by simp)) pv _
  ·by_cases h2:V.length=1
   ·obtain ⟨y,rfl⟩:=List.length_eq_one_iff.1 h2;have:b=m+1:=by simp at hV;omega
    subst this;exact QmM hc hA hU (by omega) hb (by omega) su (pv y (by simp)) pu _
   ·exact QmN (s:=b-a-1) hc (fun A U V B a m b hA hU hV hu hv hb hl hs su sv pu pv=>Qjk hc F A U V B a m b hA hU hV hu hv hb hl (by omega) su sv pu pv) hA hU hV (by omega) (by omega) hb hl (by omega) (by omega) su sv pu pv
end
end Go.Proofs.YthpgjbbjpfiniaaGreat
namespace Go.Proofs.YthpgjbbjpfiniaaGreat
set_option linter.unusedSimpArgs false
set_option linter.unusedVariables false
set_option maxHeartbeats 1000000
section
variable {α:Type} {k:α→Int} {cmp:α→α→Option Int} {Pv:α→Prop}
def Blk (k:α→Int) (s:Nat) (l:List α):Prop:= ∀i,Srt k ((l.drop (i*s)).take s)
theorem Blk.nil (s:Nat):Blk k s []:=fun i=>by simp[Srt]
theorem Blk.append {s q:Nat} {D M:List α} (h:Blk k s D) (hd:D.length=q*s) (hm:Srt k M) (hl:M.length≤s):Blk k s (D++M):=fun i=>by
 by_cases hi:i<q
 ·have h1:i*s+s≤q*s:=by rw[←Nat.succ_mul];exact Nat.mul_le_mul_right s hi
  rw[List.drop_append_of_le_length (by omega),List.take_append_of_le_length (by simp;omega)]
  exact h i
 ·have h1:q*s≤i*s:=Nat.mul_le_mul_right s (by omega);have:(D++M).drop (i*s)=M.drop (i*s-D.length):=by rw[List.drop_append,List.drop_eq_nil_of_le (by omega),List.nil_append]
  rw[this]
  exact Qh0 (QhZ hm _) _
theorem Blk.drop {s:Nat} {R:List α} (h:Blk k s R) (j:Nat):Blk k s (R.drop (j*s)):=fun i=>by
 rw[List.drop_drop,←Nat.add_mul]
 exact h _
theorem Blk.all {s:Nat} {R:List α} (h:Blk k s R) (hl:R.length≤s):Srt k R:=by
 have:=h 0
 rwa [Nat.zero_mul,List.drop_zero,List.take_of_length_le hl] at this
theorem YC.mem {l l':List α} (h:YC k l l') (hp: ∀z∈l,Pv z): ∀z∈l',Pv z:=fun z hz=>hp z (h.perm.symm.subset hz)
theorem QnG (hc: ∀x y,Pv x→Pv y→ ∃z,cmp x y=some z∧(z<0↔k x<k y)) {n F:Nat} (hn:n≤100000000) (hF:n+1<F): ∀(r q:Nat) (D R:List α) (f:Nat),R.length<r→r<f→D.length=q*20→D.length+R.length=n→Blk k 20 D→(∀z∈R,Pv z) →
  ∃D' R' q',iter (Qma cmp F (n:Int)) f (D++R,(D.length:Int),((D.length+20:Nat):Int))=some (D'++R',(D'.length:Int))∧R'.length<20∧D'.length=q'*20∧D'.length+R'.length=n∧Blk k 20 D'∧(∀z∈R',Pv z)∧YC k (D++R) (D'++R')
 | _,_,_,_,0,_,h,_,_,_,_=>by omega
 | 0,_,_,_,_,h,_,_,_,_,_=>by omega
 | r+1,q,D,R,f+1,hR,hf,hq,hl,hb,hp=>by
  by_cases h:D.length+20≤n
  ·have h':((D.length+20:Nat):Int)≤(n:Int):=by omega
   have l1:(R.take 20).length=20:=by simp;omega
   obtain ⟨M,m1,m2,m3⟩:=Ql9 (k:=k) (B:=R.drop 20) hc (a:=D.length) (b:=D.length+20) (F:=F) (A:=D) (M:=R.take 20) rfl (by omega) (by omega) (by omega) (fun z hz=>hp z (List.mem_of_mem_take hz));have lM:M.length=20:=by rw[←m3.perm.length_eq];exact l1
   have e0:D++R=D++R.take 20++R.drop 20:=by simp
   have lD:(D++M).length=D.length+20:=by simp;omega
   obtain ⟨D',R',q',k1,k2,k3,k4,k5,k6,k7⟩:=QnG hc hn hF r (q+1) (D++M) (R.drop 20) f (by simp;omega) (by omega) (by omega) (by simp;omega) (hb.append hq m2 (by omega)) (fun z hz=>hp z (List.mem_of_mem_drop hz));refine ⟨D',R',q',?_,k2,k3,k4,k5,k6,YC.trans ?_ k7⟩
   ·have e1:w64 (((D.length+20:Nat):Int)+20)=(((D++M).length+20:Nat):Int):=by rw[lD];exact Qiq (b:=20) (by omega)
    rw[lD] at k1 e1
    rw[e0]
    simp only[iter,Qma,oun,h',decide_true,cond_true,m1,Option.bind_some,QD,e1,k1]
   ·conv=>lhs;rw[e0]
    exact ((YC.refl D).append m3).append (YC.refl _)
  ·have h': ¬((D.length+20:Nat):Int)≤(n:Int):=by omega
   refine ⟨D,R,q,?_,by omega,hq,hl,hb,hp,YC.refl _⟩
   simp only[iter,Qma,oun,h',decide_false,cond_false,Option.bind_some,QD]
theorem QnH (hc: ∀x y,Pv x→Pv y→ ∃z,cmp x y=some z∧(z<0↔k x<k y)) {n F s:Nat} (hn:n≤100000000) (hF:2*n+4≤F) (hs:1≤s) (hs2:s≤n): ∀(r q:Nat) (D R:List α) (f:Nat),R.length<r→r<f→D.length=q*(2*s)→D.length+R.length=n→Blk k (2*s) D→Blk k s R→(∀z∈R,Pv z) →
  ∃D' R' q',iter (Qgp cmp F (n:Int) (s:Int)) f (D++R,(D.length:Int),((D.length+2*s:Nat):Int))=some (D'++R',(D'.length:Int))∧R'.length<2*s∧D'.length=q'*(2*s)∧D'.length+R'.length=n∧Blk k (2*s) D'∧Blk k s R'∧(∀z∈R',Pv z)∧YC k (D++R) (D'++R')
 | _,_,_,_,0,_,h,_,_,_,_,_=>by omega
 | 0,_,_,_,_,h,_,_,_,_,_,_=>by omega
 | r+1,q,D,R,f+1,hR,hf,hq,hl,hb,hb2,hp=>by
  have e2:w64 (2*(s:Int))=((2*s:Nat):Int):=by rw[Ye (by omega) (by omega)];omega
  by_cases h:D.length+2*s≤n
  ·have h':((D.length+2*s:Nat):Int)≤(n:Int):=by omega
   have l1:(R.take s).length=s:=by simp;omega
   have l2:((R.drop s).take s).length=s:=by simp;omega
   have e0:R=R.take s++((R.drop s).take s++R.drop (2*s)):=by
    rw[show 2*s=s+s by omega,←List.drop_drop,List.take_append_drop,List.take_append_drop]
   have s1:Srt k (R.take s):=by have:=hb2 0;rwa [Nat.zero_mul,List.drop_zero] at this
   have s2:Srt k ((R.drop s).take s):=by have:=hb2 1;rwa [Nat.one_mul] at this
   obtain ⟨M,m1,m2,m3⟩:=Qjk (k:=k) hc F D (R.take s) ((R.drop s).take s) (R.drop (2*s)) D.length (D.length+s) (D.length+2*s) rfl (by omega) (by omega) (by omega) (by omega) (by omega) (by simp;omega) (by omega) s1 s2 (fun z hz=>hp z (List.mem_of_mem_take hz)) (fun z hz=>hp z (List.mem_of_mem_drop (List.mem_of_mem_take hz)))
   rw[←e0] at m1
   have lM:M.length=2*s:=by rw[←m3.perm.length_eq];simp;omega
   have lD:(D++M).length=D.length+2*s:=by simp;omega
   obtain ⟨D',R',q',k1,k2,k3,k4,k5,k6,k7,k8⟩:=QnH hc hn hF hs hs2 r (q+1) (D++M) (R.drop (2*s)) f (by simp;omega) (by omega) (by rw[lD,Nat.add_mul q 1 (2*s),Nat.one_mul];omega) (by simp;omega) (hb.append hq m2 (by omega)) (hb2.drop 2) (fun z hz=>hp z (List.mem_of_mem_drop hz));refine ⟨D',R',q',?_,k2,k3,k4,k5,k6,k7,YC.trans ?_ k8⟩
   ·have e1:w64 (((D.length+2*s:Nat):Int)+((2*s:Nat):Int))=(((D.length+2*s)+2*s:Nat):Int):=Qiq (by omega);have e3:w64 ((D.length:Int)+(s:Int))=((D.length+s:Nat):Int):=Qiq (by omega)
    rw[lD,List.append_assoc] at k1
    simp only[iter,Qgp,oun,h',decide_true,cond_true,e3,m1,Option.bind_some,QD,e2,e1,k1]
   ·conv=>lhs;rw[e0]
    rw[List.append_assoc,←List.append_assoc (R.take s)]
    exact (YC.refl D).append (m3.append (YC.refl _))
  ·have h': ¬((D.length+2*s:Nat):Int)≤(n:Int):=by omega
   refine ⟨D,R,q,?_,by omega,hq,hl,hb,hb2,hp,YC.refl _⟩
   simp only[iter,Qgp,oun,h',decide_false,cond_false,Option.bind_some,QD]
theorem QnI (hc: ∀x y,Pv x→Pv y→ ∃z,cmp x y=some z∧(z<0↔k x<k y)) {n F:Nat} (hn:n≤100000000) (hF:2*n+4≤F): ∀(r s:Nat) (L:List α) (f:Nat),n<s+r→r<f→1≤s→s≤2*n+20→L.length=n→Blk k s L→(∀z∈L,Pv z) →
  ∃L',iter (Qgq cmp F (n:Int)) f (L,(s:Int))=some L'∧Srt k L'∧YC k L L'
 | _,_,_,0,_,h,_,_,_,_,_=>by omega
 | r,s,L,f+1,hr,hf,hs,hs2,hl,hb,hp=>by
  by_cases h:s<n
  ·cases r with
   | zero=>omega
   | succ r =>
   have h':(s:Int)<(n:Int):=by omega
   obtain ⟨D,R,q,k1,k2,k3,k4,k5,k6,k7,k8⟩:=QnH (k:=k) hc hn hF hs (by omega) (L.length+1) 0 [] L F (by omega) (by omega) (by simp) (by simpa using hl) (Blk.nil _) hb hp
   simp only[List.nil_append,List.length_nil,Nat.zero_add] at k1 k8
   rw[show ((0:Nat):Int)=0 from rfl] at k1
   have e2:w64 (2*(s:Int))=((2*s:Nat):Int):=by rw[Ye (by omega) (by omega)];omega
   have e3:w64 ((D.length:Int)+(s:Int))=((D.length+s:Nat):Int):=Qiq (by omega);have e4:w64 ((s:Int)*2)=((2*s:Nat):Int):=by rw[Ye (by omega) (by omega)];omega
   obtain ⟨M,m1,m2,m3⟩: ∃M,(bif (decide (((D.length+s:Nat):Int)<(n:Int))) then
     Option.bind (Qjh cmp F (D++R) D.length ((D.length+s:Nat):Int) n) fun r4=>some r4 else some (D++R))=some (D++M)∧Srt k M∧YC k R M:=by
    by_cases h2:D.length+s<n
    ·have h2':((D.length+s:Nat):Int)<(n:Int):=by omega
     have e0:R=R.take s++(R.drop s++[]):=by simp
     have s1:Srt k (R.take s):=by have:=k6 0;rwa [Nat.zero_mul,List.drop_zero] at this
     have s2:Srt k (R.drop s):=Blk.all (s:=s) (by have h:=k6.drop 1;rw[Nat.one_mul] at h;exact h) (by simp;omega);obtain ⟨M,m1,m2,m3⟩:=Qjk (k:=k) hc F D (R.take s) (R.drop s) [] D.length (D.length+s) n rfl (by simp;omega) (by simp;omega) (by simp;omega) (by simp;omega) (by omega) (by simp;omega) (by omega) s1 s2 (fun z hz=>k7 z (List.mem_of_mem_take hz)) (fun z hz=>k7 z (List.mem_of_mem_drop hz))
     rw[←e0,List.append_nil] at m1
     refine ⟨M,?_,m2,by rw[List.take_append_drop] at m3;exact m3⟩
     simp only[h2',decide_true,cond_true,m1,Option.bind_some]
    ·have h2': ¬((D.length+s:Nat):Int)<(n:Int):=by omega
     exact ⟨R,by simp only[h2',decide_false,cond_false],k6.all (by omega),YC.refl _⟩
   have st:YC k L (D++M):=k8.trans ((YC.refl D).append m3);have lM:M.length=R.length:=m3.perm.length_eq.symm;obtain ⟨L',j1,j2,j3⟩:=QnI hc hn hF r (2*s) (D++M) f (by omega) (by omega) (by omega) (by omega) (by simp;omega) (k5.append k3 m2 (by omega)) (st.mem hp);refine ⟨L',?_,j2,st.trans j3⟩
   simp only[iter,Qgq,oun,h',decide_true,cond_true,e2,k1,Option.bind_some,e3,m1,QD,e4,j1]
  ·have h': ¬(s:Int)<(n:Int):=by omega
   refine ⟨L,?_,hb.all (by omega),YC.refl _⟩
   simp only[iter,Qgq,oun,h',decide_false,cond_false,Option.bind_some,QD]
theorem Qkd (hc: ∀x y,Pv x→Pv y→ ∃z,cmp x y=some z∧(z<0↔k x<k y)) {F:Nat} {L:List α} (hn:L.length≤100000000) (hF:2*L.length+30≤F) (hp: ∀z∈L,Pv z) :
  ∃L',QiE cmp F L=some L'∧Srt k L'∧YC k L L':=by
 obtain ⟨D,R,q,k1,k2,k3,k4,k5,k6,k7⟩:=QnG (k:=k) hc (n:=L.length) (F:=F) hn (by omega) (L.length+1) 0 [] L F (by omega) (by omega) (by simp) (by simp) (Blk.nil _) hp
 simp only[List.nil_append,List.length_nil,Nat.zero_add] at k1 k7
 obtain ⟨M,m1,m2,m3⟩:=Ql9 (k:=k) (B:=[]) hc (a:=D.length) (b:=L.length) (F:=F) (A:=D) (M:=R) rfl (by omega) (by omega) (by omega) k6
 rw[List.append_nil,List.append_nil] at m1
 have st:YC k L (D++M):=k7.trans ((YC.refl D).append m3);have lM:M.length=R.length:=m3.perm.length_eq.symm;obtain ⟨L',j1,j2,j3⟩:=QnI (k:=k) hc (n:=L.length) (F:=F) hn (by omega) (L.length+1) 20 (D++M) F (by omega) (by omega) (by omega) (by omega) (by simp;omega) (k5.append k3 m2 (by omega)) (st.mem hp);refine ⟨L',?_,j2,st.trans j3⟩;have z1:((0:Nat):Int)=0:=rfl;have z2:((20:Nat):Int)=20:=rfl
 rw[z1,z2] at k1
 rw[z2] at j1
 unfold QiE gSt
 simp only[k1,oun,Option.bind_some,m1,j1]
end
end Go.Proofs.YthpgjbbjpfiniaaGreat
namespace Go.Proofs.YthpgjbbjpfiniaaGreat
open Go.RowKit
set_option linter.unusedSimpArgs false
set_option linter.unusedVariables false
abbrev Op:=Qc
theorem Qn3 (rec_:List Op→Int→Int→Int→Option (List Op)) (F:Nat) (d:List Op) (a m b:Int):YL rec_ F d a m b=QdQ Ya rec_ F d a m b:=rfl
theorem Qjz: ∀F:Nat,QZ F=Qjh Ya F
 | 0=>rfl
 | F+1=>by
  funext d a m b
  show YL (QZ F) F d a m b=QdQ Ya (Qjh Ya F) F d a m b
  rw[Qjz F];exact Qn3 _ _ _ _ _ _
theorem Qp7 (F:Nat) (n s:Int):YU F n s=Qgp Ya F n s:=by
 funext j
 unfold YU Qgp
 rw[Qjz]
theorem Qp8 (F:Nat) (n:Int):YV F n=Qgq Ya F n:=by
 funext j
 unfold YV Qgq
 simp only[Qjz,Qp7]
theorem Qn2 (F:Nat) (d:List Op):Yj F d=QiE Ya F d:=by
 unfold Yj QiE Zi gSt
 simp only[Qp8]
 rfl
theorem Qo2 (x y:Op) (hx:0≤x.cost∧x.cost≤1000000000) (hy:0≤y.cost∧y.cost≤1000000000): ∃z,Ya x y=some z∧(z<0↔x.cost<y.cost) :=
 ⟨x.cost-y.cost,by unfold Ya;rw[Ye (by omega) (by omega)],by omega⟩
theorem Qlp {F:Nat} {L:List Op} (hn:L.length≤1000) (hF:40000≤F) (hb: ∀x∈L,0≤x.cost∧x.cost≤1000000000): ∃L',Yj F L=some L'∧Srt Qc.cost L'∧YC Qc.cost L L':=by
 rw[Qn2]
 exact Qkd Qo2 (by omega) (by omega) hb
def Qii (l:List Int):List Int:=if l.getLast? =some (-1) then l else l++[-1]
def Qg8 (s:List Int) (d:Int) (k:Nat) (u:Bool):List Int:=Qii (s.take k++(d::(bif u then [-1] else []))++s.drop k)
def Jc (s:List Int) (d:Int) (i:Nat):List Int:=Qg8 s d (i/2) (decide (i%2=1))
def Qa2 (s:List Int) (d:Int):List (List Int):=(List.range (2*s.length+1)).map (Jc s d)
theorem Qbf {α:Type} {l:List α} {k:Nat} (h:k≤l.length):Wz l (k:Int) ((l.length:Nat):Int)=some (l.drop k):=by
 unfold Wz
 rw[if_pos (by omega)]
 simp
theorem QmO {α:Type} {l:List α} (h:l≠[]) (hn:l.length≤1000000):getI l (w64 (((l.length:Nat):Int)-1))=l.getLast? :=by
 have:0<l.length:=List.length_pos_iff.2 h;have e:w64 (((l.length:Nat):Int)-1)=((l.length-1:Nat):Int):=by rw[Ye (by omega) (by omega)];omega
 rw[e,Qq,List.getLast?_eq_getElem?]
theorem QnE {l:List Int} (h:l≠[]) (hn:l.length≤10000):(Option.bind (getI l (w64 (((l.length:Nat):Int)-1))) fun x1 =>
  Option.bind (bif (!(decide (x1=(-1)))) then Option.bind (ZI l [(-1)]) fun l6=>some l6 else some l) (fun out1=>some out1))=some (Qii l):=by
 rw[QmO h (by omega),List.getLast?_eq_some_getLast h]
 unfold Qii
 rw[List.getLast?_eq_some_getLast h]
 by_cases hx:l.getLast h= -1
 ·simp[hx]
 ·rw[if_neg (by simpa using hx)]
  simp only[Option.bind_some,hx,decide_false,Bool.not_false,cond_true]
  rw[Yh (by simp;omega)]
  rfl
theorem QiI {s m:List Int} {k:Nat} (hk:k≤s.length) (hs:s.length≤1000) (hm:m≠[]) (hm2:m.length≤2):WD s (k:Int) m=some (Qii (s.take k++m++s.drop k)):=by
 have hm3:0<m.length:=List.length_pos_iff.2 hm;unfold WD
 rw[VJ hk,Qbf hk]
 simp only[Option.bind_some]
 rw[Yh (by simp;omega)]
 simp only[Option.bind_some]
 rw[Yh (by simp;omega)]
 simp only[Option.bind_some]
 rw[Yh (by simp;omega)]
 simp only[Option.bind_some,List.nil_append]
 exact QnE (by intro h;have:=congrArg List.length h;simp only[List.length_append,List.length_nil] at this;omega) (by simp;omega)
theorem Qjb {s:List Int} {d:Int} {k:Nat} {u:Bool} (hk:k≤s.length) (hs:s.length≤1000):JR s d (k:Int) u=some (Qg8 s d k u):=by
 unfold JR Qg8
 rw[VJ hk,Qbf hk]
 simp only[Option.bind_some]
 rw[Yh (by simp;omega)]
 simp only[Option.bind_some]
 rw[Yh (by simp;omega)]
 simp only[Option.bind_some,List.nil_append]
 have h1:(bif u then Option.bind (ZI (s.take k++[d]) [(-1)]) fun l4=>some l4 else some (s.take k++[d]))=some (s.take k++(d::(bif u then [-1] else []))):=by
  cases u
  ·simp
  ·rw[cond_true,Yh (by simp;omega)];simp
 have hl:(bif u then [(-1:Int)] else []).length≤1:=by cases u<;>simp
 rw[h1]
 simp only[Option.bind_some]
 rw[Yh (by simp;omega)]
 simp only[Option.bind_some]
 exact QnE (by simp) (by simp;omega)
def toT (v:Int) (s:List Int):Qa:=⟨v,s⟩
def VV (t:Qa) (d:Int) (j:Nat):List Qa:=((List.range (min j (2*t.Stops.length+1))).map (Jc t.Stops d)).map (toT t.Vehicle)
theorem QeY (t:Qa) (d:Int) (j:Nat):(VV t d j).length=min j (2*t.Stops.length+1):=by simp[VV]
theorem QdO (t:Qa) (d:Int) {j:Nat} (h:j<2*t.Stops.length+1):VV t d (j+1)=VV t d j++[⟨t.Vehicle,Jc t.Stops d j⟩]:=by
 unfold VV
 rw[show min (j+1) (2*t.Stops.length+1)=j+1 by omega,show min j (2*t.Stops.length+1)=j by omega,List.range_succ,List.map_append,List.map_append]
 rfl
theorem Qdw {t:Qa} {d:Int} (hs:t.Stops.length≤1000): ∀(r k f:Nat),k+r=t.Stops.length+1→r<f →
  iter (JU t d) f (VV t d (2*k),((t.Stops.length+1:Nat):Int),(k:Int))=some ((Qa2 t.Stops d).map (toT t.Vehicle))
 | _,_,0,_,h=>by omega
 | 0,k,f+1,hk,_=>by
  have h1: ¬((k:Int)<((t.Stops.length+1:Nat):Int)):=by omega
  simp only[iter,JU,oun,h1,decide_false,cond_false,Option.bind_some,QD]
  unfold VV Qa2
  rw[show min (2*k) (2*t.Stops.length+1)=2*t.Stops.length+1 by omega]
 | r+1,k,f+1,hk,hf=>by
  have h1:((k:Int)<((t.Stops.length+1:Nat):Int)):=by omega
  have ih:=Qdw (t:=t) (d:=d) hs r (k+1) f (by omega) (by omega);have e1:w64 ((k:Int)+1)=((k+1:Nat):Int):=by rw[Ye (by omega) (by omega)];omega
  have j1:WD t.Stops (k:Int) [d]=some (Jc t.Stops d (2*k)):=by
   rw[QiI (by omega) hs (by simp) (by simp)]
   unfold Jc Qg8
   rw[show 2*k/2=k by omega,show decide (2*k%2=1)=false by simp]
   rfl
  simp only[iter,JU,oun,h1,decide_true,cond_true,j1,Option.bind_some,e1]
  rw[Yh (by rw[QeY];simp;omega),Option.bind_some,←QdO t d (by omega)]
  by_cases h2:k<t.Stops.length
  ·have h2':(k:Int)<((t.Stops.length:Nat):Int):=by omega
   have j2:WD t.Stops (k:Int) [d,-1]=some (Jc t.Stops d (2*k+1)):=by
    rw[QiI (by omega) hs (by simp) (by simp)]
    unfold Jc Qg8
    rw[show (2*k+1)/2=k by omega,show decide ((2*k+1)%2=1)=true by simp]
    rfl
   simp only[h2',decide_true,cond_true,j2,Option.bind_some]
   rw[Yh (by rw[QeY];simp;omega),Option.bind_some,←QdO t d (by omega)]
   simp only[Option.bind_some,QD]
   exact ih
  ·have h2': ¬((k:Int)<((t.Stops.length:Nat):Int)):=by omega
   have e2:VV t d (2*k+1)=VV t d (2*(k+1)):=by
    unfold VV
    rw[show min (2*k+1) (2*t.Stops.length+1)=min (2*(k+1)) (2*t.Stops.length+1) by omega]
   simp only[h2',decide_false,cond_false,Option.bind_some,QD]
   rw[e2]
   exact ih
theorem Qic {F:Nat} {t:Qa} {d:Int} (hs:t.Stops.length≤1000) (hF:40000≤F):W5 F t d=some ((Qa2 t.Stops d).map (toT t.Vehicle)):=by
 have e1:w64 (((t.Stops.length:Nat):Int)+1)=((t.Stops.length+1:Nat):Int):=by rw[Ye (by omega) (by omega)];omega
 have:=Qdw (t:=t) (d:=d) hs (t.Stops.length+1) 0 F (by omega) (by omega);have e2:VV t d (2*0)=[]:=by simp[VV]
 rw[e2] at this
 unfold W5
 rw[e1,show (0:Int)=((0:Nat):Int) from rfl,this]
 rfl
end Go.Proofs.YthpgjbbjpfiniaaGreat
namespace Go.Proofs.YthpgjbbjpfiniaaGreat
open Go.RowKit
set_option linter.unusedSimpArgs false
set_option linter.unusedVariables false
abbrev Qbr:Op→Int:=Qc.cost
abbrev ZR:Op→Qa:=Qc.tour
theorem Qgl {p:Pr} (hp:OkP p) (t:Qa):0≤(Yv p t).1∧(Yv p t).1≤262400000:=by
 unfold Yv;cases h:J8 p t with
 | inr q=>simp
 | inl u =>
  have:=Vt hp h;exact ⟨this.1,this.2.1⟩
def Qf8 (p:Pr) (t:Qa):Option Op:=if (Yv p t).2=0 then some ⟨t,(Yv p t).1⟩ else none
def QbN (p:Pr) (ts:List Qa):List Op:=ts.filterMap (Qf8 p)
theorem QfY (p:Pr) (ts:List Qa) (t:Qa):QbN p (ts++[t])=QbN p ts++(Qf8 p t).toList:=by
 unfold QbN
 rw[List.filterMap_append]
 cases h:Qf8 p t<;>simp[h]
theorem Qfr (p:Pr) (ts:List Qa):(QbN p ts).length≤ts.length:=List.length_filterMap_le _ _
theorem Qhk {p:Pr} {ts:List Qa} {x:Op} (h:x∈QbN p ts):x.tour∈ts∧(Yv p x.tour).2=0∧x.cost=(Yv p x.tour).1:=by
 obtain ⟨t,h1,h2⟩:=List.mem_filterMap.1 h;unfold Qf8 at h2
 split at h2
 ·injection h2 with h2;subst h2
  exact ⟨h1,by assumption,rfl⟩
 ·cases h2
theorem QmJ {p:Pr} (hp:OkP p) {ts:List Qa}: ∀x∈QbN p ts,0≤x.cost∧x.cost≤1000000000:=fun x hx=>by
 have h1:=(Qhk hx).2.2;have h2:=Qgl hp x.tour
 omega
theorem QmZ {F:Nat} (hF:40000≤F) {p:Pr} (hp:OkP p) (hc:Ql p=some 0) (hn:p.Road.Edges.length≤600) (L:List Qa) (hl:L.length≤1000) :
  iter (J1 F p L) (((L.length:Nat):Int).toNat+1) ([],0)=some (QbN p L):=by
 have:=YE (body:=J1 F p L) L (fun k=>QbN p (L.take k)) (fun m k=>(m,k)) (fun _ _=>none) (QbN p L) (by omega) (fun k t ht _=> ?_) (fun _=>by simp only[J1,oun,List.take_length];simp) (((L.length:Nat):Int).toNat+1) (by simp)
 ·rw[QO _ _ (fun _ _ _=>rfl)] at this
  exact this
 ·have hk:=Qr ht;have hk2:((k:Int)<(L.length:Nat)):=by omega
  have h1:=Qfr p (L.take k)
  rw[Yi (Nat.le_of_lt hk)] at h1
  simp only[J1,oun,hk2,decide_true,cond_true,Qq,ht,Option.bind_some,QoH hF hp hc hn,Zj]
  rw[Yz ht,QfY]
  unfold Qf8
  by_cases h:(Yv p t).2=0
  ·rw[if_pos h]
   simp only[h,decide_true,cond_true]
   rw[Yh (by simp;omega)]
   rfl
  ·rw[if_neg h]
   simp only[h,decide_false,cond_false,Option.bind_some,Option.toList_none,List.append_nil]
theorem QhO (c:Int): ∀(n:Nat) (Z R:List Op) (f:Nat),Z.length=n→n<f→n≤100000→Srt Qbr Z →
  ∃Z1 Z2,Z=Z1++Z2∧iter (Zz ((Z++R).map Qbr) c) f (n:Int)=some ((Z1.length:Nat):Int)∧(∀z∈Z1,z.cost≤c)∧ ∀z∈Z2,c<z.cost
 | _,_,_,0,_,h,_,_=>by omega
 | 0,Z,R,f+1,hZ,_,_,_=>by
  have:Z=[]:=List.eq_nil_of_length_eq_zero hZ;subst this;exact ⟨[],[],rfl,by simp[iter,Zz,QD],by simp,by simp⟩
 | n+1,Z,R,f+1,hZ,hf,hb,hs=>by
  obtain ⟨Y,y,rfl⟩: ∃Y y,Z=Y++[y]:=by
   have:Z≠[]:=by intro e;rw[e] at hZ;simp at hZ
   exact ⟨Z.dropLast,Z.getLast this,(List.dropLast_concat_getLast this).symm⟩
  have hY:Y.length=n:=by simpa using hZ
  have h0:(0:Int)<((n+1:Nat):Int):=by omega
  have e1:w64 (((n+1:Nat):Int)-1)=(n:Int):=by rw[Ye (by omega) (by omega)];omega
  have g1:((Y++[y]++R).map Qbr)[n]? =some y.cost:=by
   rw[List.getElem?_map,List.append_assoc,List.getElem?_append_right (by omega),hY]
   simp
  have hp:=List.pairwise_append.1 hs
  by_cases h:c<y.cost
  ·obtain ⟨Z1,Z2,k1,k2,k3,k4⟩:=QhO c n Y (y::R) f hY (by omega) (by omega) hp.1;refine ⟨Z1,Z2++[y],by rw[k1];simp,?_,k3,fun z hz=> ?_⟩
   ·have e2:Y++[y]++R=Y++y::R:=by simp
    rw[e2] at g1 ⊢
    simp only[iter,Zz,h0,decide_true,cond_true,e1,Qq,g1,Option.bind_some,h,QD,k2]
   ·rcases List.mem_append.1 hz with hz | hz
    ·exact k4 z hz
    ·rw[List.mem_singleton.1 hz];exact h
  ·refine ⟨Y++[y],[],by simp,?_,fun z hz=> ?_,by simp⟩
   ·simp only[iter,Zz,h0,decide_true,cond_true,e1,Qq,g1,Option.bind_some,h,decide_false,cond_false,QD]
    rw[hZ]
   ·rcases List.mem_append.1 hz with hz | hz
    ·have:=hp.2.2 z hz y (by simp)
     simp only[Qbr] at this
     omega
    ·rw[List.mem_singleton.1 hz];omega
theorem QoW (f:Op→Int) (g:Op→Qa) (Z1 Z2:List Op) (x:Op) (hl:(Z1++Z2).length≤100000):(Option.bind (Wz ((Z1++Z2).map g) 0 ((Z1.length:Nat):Int)) fun l1 =>
      Option.bind (ZI [] l1) fun l2 =>
      Option.bind (ZI l2 [g x]) fun l3 =>
      Option.bind (Wz ((Z1++Z2).map g) ((Z1.length:Nat):Int) ((((Z1++Z2).map g).length:Nat):Int)) fun l4 =>
      Option.bind (ZI l3 l4) fun l5 =>
      Option.bind (Wz ((Z1++Z2).map f) 0 ((Z1.length:Nat):Int)) fun l6 =>
      Option.bind (ZI [] l6) fun l7 =>
      Option.bind (ZI l7 [f x]) fun l8 =>
      Option.bind (Wz ((Z1++Z2).map f) ((Z1.length:Nat):Int) ((((Z1++Z2).map f).length:Nat):Int)) fun l9 =>
      Option.bind (ZI l8 l9) fun l10 =>
      some (l5,l10))=some ((Z1++x::Z2).map g,(Z1++x::Z2).map f):=by
 simp only[List.length_append] at hl
 rw[VJ (by simp),Qbf (by simp),VJ (by simp),Qbf (by simp)]
 simp only[Option.bind_some]
 rw[Yh (by simp;omega)]
 simp only[Option.bind_some]
 rw[Yh (by simp;omega)]
 simp only[Option.bind_some]
 rw[Yh (by simp;omega)]
 simp only[Option.bind_some]
 rw[Yh (by simp;omega)]
 simp only[Option.bind_some]
 rw[Yh (by simp;omega)]
 simp only[Option.bind_some]
 rw[Yh (by simp;omega)]
 simp[List.map_append]
theorem QhS {F:Nat} (hF:40000≤F) {p:Pr} (hp:OkP p) (hc:Ql p=some 0) {t:Qa} {d:Int} (hs:t.Stops.length≤1000): ∀(r i:Nat) (L:List Op) (f:Nat),i+r=2*t.Stops.length+1→r<f→Srt Qbr L→YC Qbr (QbN p (VV t d i)) L →
  ∃L',iter (ZA F p t d) f (L.map ZR,L.map Qbr,(i:Int))=some (L'.map ZR)∧Srt Qbr L'∧YC Qbr (QbN p ((Qa2 t.Stops d).map (toT t.Vehicle))) L'
 | _,_,_,0,_,h,_,_=>by omega
 | 0,i,L,f+1,hi,_,h1,h2=>by
  have e1:w64 (2*((t.Stops.length:Nat):Int))=((2*t.Stops.length:Nat):Int):=by rw[Ye (by omega) (by omega)];omega
  have: ¬((i:Int)≤((2*t.Stops.length:Nat):Int)):=by omega
  refine ⟨L,?_,h1,?_⟩
  ·simp only[iter,ZA,oun,e1,this,decide_false,cond_false,Option.bind_some,QD]
  ·have e2:VV t d i=(Qa2 t.Stops d).map (toT t.Vehicle):=by
    unfold VV Qa2
    rw[show min i (2*t.Stops.length+1)=2*t.Stops.length+1 by omega]
   rw[←e2];exact h2
 | r+1,i,L,f+1,hi,hf,h1,h2=>by
  have e1:w64 (2*((t.Stops.length:Nat):Int))=((2*t.Stops.length:Nat):Int):=by rw[Ye (by omega) (by omega)];omega
  have hlt:((i:Int)≤((2*t.Stops.length:Nat):Int)):=by omega
  have e2:w64 ((i:Int)+1)=((i+1:Nat):Int):=by rw[Ye (by omega) (by omega)];omega
  have e3:w64 (Int.tdiv (i:Int) 2)=((i/2:Nat):Int):=by
   rw[show Int.tdiv (i:Int) 2=((i/2:Nat):Int) from rfl,Ye (by omega) (by omega)]
  have e4:(decide (Int.tmod (i:Int) 2=1))=decide (i%2=1):=by
   rw[show Int.tmod (i:Int) 2=((i%2:Nat):Int) from rfl]
   congr 1
   exact propext (by omega)
  have hcand:JR t.Stops d ((i/2:Nat):Int) (decide (i%2=1))=some (Jc t.Stops d i):=Qjb (by omega) hs;have hcost:=Qeb hp hc ⟨t.Vehicle,Jc t.Stops d i⟩;have hfs:=QdO t d (j:=i) (by omega);have hlen:L.length≤2001:=by
   rw[←h2.perm.length_eq]
   refine Nat.le_trans (Qfr _ _) ?_
   rw[QeY];omega
  by_cases h:(Yv p ⟨t.Vehicle,Jc t.Stops d i⟩).2=0
  ·have hop:Qf8 p ⟨t.Vehicle,Jc t.Stops d i⟩=some ⟨⟨t.Vehicle,Jc t.Stops d i⟩,(Yv p ⟨t.Vehicle,Jc t.Stops d i⟩).1⟩:=by unfold Qf8;rw[if_pos h]
   generalize hx:(⟨⟨t.Vehicle,Jc t.Stops d i⟩,(Yv p ⟨t.Vehicle,Jc t.Stops d i⟩).1⟩:Op)=x at hop
   obtain ⟨Z1,Z2,k1,k2,k3,k4⟩:=QhO (Yv p ⟨t.Vehicle,Jc t.Stops d i⟩).1 L.length L [] F rfl (by omega) (by omega) h1;have hxc:x.cost=(Yv p ⟨t.Vehicle,Jc t.Stops d i⟩).1:=by rw[←hx]
   rw[List.append_nil] at k2
   obtain ⟨j1,j2⟩:=Qfv (k:=Qbr) (x:=x) (by rw[←k1];exact h1) (fun z hz=>by have:=k4 z hz;simp only[Qbr];omega) (fun z hz=>by have:=k3 z hz;simp only[Qbr];omega)
   rw[←k1] at j2
   have h3:YC Qbr (QbN p (VV t d (i+1))) (Z1++x::Z2):=by
    rw[hfs,QfY,hop]
    exact YC.trans (h2.append (YC.refl _)) j2
   obtain ⟨L',q1,q2,q3⟩:=QhS hF hp hc hs r (i+1) (Z1++x::Z2) f (by omega) (by omega) j1 h3;refine ⟨L',?_,q2,q3⟩;have hmi:=QoW Qbr ZR Z1 Z2 x (by rw[←k1];omega)
   rw[←k1] at hmi
   have hx1:ZR x=⟨t.Vehicle,Jc t.Stops d i⟩:=by rw[←hx]
   have hx2:Qbr x=(Yv p ⟨t.Vehicle,Jc t.Stops d i⟩).1:=hxc
   rw[hx1,hx2] at hmi
   simp only[iter,ZA,oun,e1,hlt,decide_true,cond_true,e3,e4,hcand,Option.bind_some,hcost,h,Bool.not_true,cond_false,List.length_map,k2]
   rw[List.length_map,List.length_map] at hmi
   rw[hmi]
   simp only[Option.bind_some,e2,QD,q1]
  ·have hop:Qf8 p ⟨t.Vehicle,Jc t.Stops d i⟩=none:=by unfold Qf8;rw[if_neg h]
   obtain ⟨L',q1,q2,q3⟩:=QhS hF hp hc hs r (i+1) L f (by omega) (by omega) h1 (by rw[hfs,QfY,hop];simpa using h2);refine ⟨L',?_,q2,q3⟩
   simp only[iter,ZA,oun,e1,hlt,decide_true,cond_true,e3,e4,hcand,Option.bind_some,hcost,h,decide_false,Bool.not_false,e2,QD,q1]
end Go.Proofs.YthpgjbbjpfiniaaGreat
namespace Go.Proofs.YthpgjbbjpfiniaaGreat
open Go.RowKit
set_option linter.unusedSimpArgs false
set_option linter.unusedVariables false
theorem QnD (l:List Int):l.length≤(Qii l).length:=by unfold Qii;split<;>simp
theorem Qk6 {s:List Int} {d:Int} {i:Nat} (h:i<2*s.length+1):s.length+1≤(Jc s d i).length:=by
 unfold Jc Qg8;refine Nat.le_trans ?_ (QnD _)
 simp;omega
theorem Qhd {p:Pr} {t:Qa} (h:40<t.Stops.length):(Yv p t).2≠0:=by
 unfold Yv J8
 split
 ·rename_i z hz
  split at hz
  ·cases hz
  ·first | rw[if_pos h] at hz | skip
   cases hz
 ·rename_i q hq
  split at hq
  ·injection hq with hq;subst hq;decide
  ·first | rw[if_pos h] at hq | skip
   injection hq with hq;subst hq;decide
theorem QmK {p:Pr} {t:Qa} {d:Int} (h:40≤t.Stops.length):QbN p ((Qa2 t.Stops d).map (toT t.Vehicle))=[]:=by
 unfold QbN
 rw[List.filterMap_eq_nil_iff]
 intro u hu;obtain ⟨s,h1,rfl⟩:=List.mem_map.1 hu;obtain ⟨i,h2,rfl⟩:=List.mem_map.1 h1;have:=Qk6 (s:=t.Stops) (d:=d) (List.mem_range.1 h2);unfold Qf8
 rw[if_neg]
 exact Qhd (by simp only[toT];omega)
structure OkO (p:Pr) (t:Qa) (d:Int) (L:List Op):Prop where
 chk:Ql p=some 0
 ok:OkP p
 v0:0≤t.Vehicle
 v1:t.Vehicle<((p.Vehicles.length:Nat):Int)
 d0:0≤d
 d1:d<((p.Demands.length:Nat):Int)
 new:d∉t.Stops
 srt:Srt Qbr L
 stab:YC Qbr (QbN p ((Qa2 t.Stops d).map (toT t.Vehicle))) L
theorem Qo7 {t:Qa} {d:Int} (hs:t.Stops.length≤1000):iter (Zy t d) (((t.Stops.length:Nat):Int).toNat+1) 0=some (bif decide (d∈t.Stops) then .inr ([],6) else .inl ()):=by
 have:=YB (body:=Zy t d) t.Stops (fun k y=>bif decide (y=d) then some (.inr ([],6)) else none) (.inl ():Unit⊕(List Qa×Int)) (by omega) (fun k y hy=> ?_) (by simp[Zy]) (((t.Stops.length:Nat):Int).toNat+1) (by simp)
 ·rw[this,QjS]
  have:(t.Stops.any fun y=>decide (y=d))=decide (d∈t.Stops):=by
   rw[Bool.eq_iff_iff]
   simp only[List.any_eq_true,decide_eq_true_eq]
   exact ⟨fun ⟨y,h1,h2⟩=>h2▸h1,fun h=>⟨d,h,rfl⟩⟩
  rw[this]
 ·have hk:=Qr hy;have hk2:((k:Int)<(t.Stops.length:Nat)):=by omega
  simp only[Zy,hk2,decide_true,cond_true,Qq,hy,Option.bind_some]
  cases decide (y=d)<;>rfl
def Qi9 (p:Pr) (t:Qa) (d:Int):Bool:=decide (t.Vehicle<0)||(decide (((p.Vehicles.length:Nat):Int)≤t.Vehicle)||(decide (d<0)||decide (((p.Demands.length:Nat):Int)≤d)))
theorem QaT {F:Nat} (hF:40000≤F) (p:Pr) (hn:p.Road.Edges.length≤600) (t:Qa) (hs:t.Stops.length≤1000) (d:Int) :
  ∃L e,QN F p t d=some (L,e)∧YT F p t d=some (L.map ZR,e)∧((e≠0∧L=[])∨(e=0∧OkO p t d L))∧(Ql p=some 0→Qi9 p t d=false→e=bif decide (d∈t.Stops) then 6 else 0):=by
 unfold QN YT
 rw[Zo (by omega) p hn]
 rcases Qcm p hn with ⟨h1,h2⟩ | ⟨e,h1,h2⟩
 ·rw[h1]
  simp only[Option.bind_some,decide_true,Bool.not_true,cond_false,YZ]
  have hb:(decide (t.Vehicle<0)||(decide (((p.Vehicles.length:Nat):Int)≤t.Vehicle)||(decide (d<0)||decide (((p.Demands.length:Nat):Int)≤d))))=Qi9 p t d:=rfl
  rw[hb]
  cases hbi:Qi9 p t d with
  | true=>exact ⟨[],7,rfl,rfl,.inl ⟨by decide,rfl⟩,fun _ h=>by cases h⟩
  | false =>
   simp only[cond_false,Qco _ hs,Option.bind_some,Qo7 hs]
   unfold Qi9 at hbi
   simp only[Bool.or_eq_false_iff,decide_eq_false_iff_not] at hbi
   by_cases hd:d∈t.Stops
   ·simp only[hd,decide_true,cond_true,QD]
    exact ⟨[],6,rfl,rfl,.inl ⟨by decide,rfl⟩,fun _ _=>rfl⟩
   ·simp only[hd,decide_false,cond_false,QD]
    obtain ⟨L',q1,q2,q3⟩:=QhS hF h2 h1 hs (2*t.Stops.length+1) 0 [] F (t:=t) (d:=d) (by omega) (by omega) List.Pairwise.nil (by simp[VV,QbN];exact YC.refl _)
    simp only[List.map_nil] at q1
    rw[show ((0:Nat):Int)=0 from rfl] at q1
    rw[q1]
    by_cases hl:40≤t.Stops.length
    ·have hl':(40:Int)≤((t.Stops.length:Nat):Int):=by omega
     have:L'=[]:=by rw[QmK hl] at q3;exact (q3.perm.symm.eq_nil)
     subst this;exact ⟨[],0,by simp only[hl',decide_true,cond_true],rfl,.inr ⟨rfl,h1,h2,by omega,by omega,by omega,by omega,hd,q2,q3⟩,fun _ _=>rfl⟩
    ·have hl': ¬(40:Int)≤((t.Stops.length:Nat):Int):=by omega
     have hcl:((Qa2 t.Stops d).map (toT t.Vehicle)).length≤1000:=by simp[Qa2];omega
     obtain ⟨L2,j1,j2,j3⟩:=Qlp (F:=F) (L:=QbN p ((Qa2 t.Stops d).map (toT t.Vehicle))) (Nat.le_trans (Qfr _ _) hcl) hF (QmJ h2);have:L2=L':=j2.unique q2 (j3.symm.trans q3);subst this;refine ⟨L2,0,?_,rfl,.inr ⟨rfl,h1,h2,by omega,by omega,by omega,by omega,hd,q2,q3⟩,fun _ _=>rfl⟩
     simp only[hl',decide_false,cond_false,Qic hs hF,Option.bind_some,QmZ hF h2 h1 hn _ hcl,j1]
 ·rw[h2]
  simp only[Option.bind_some]
  rw[show decide (e=0)=false by simpa using h1]
  exact ⟨[],e,rfl,rfl,.inl ⟨h1,rfl⟩,fun h=>by injection h with h;exact absurd h h1⟩
theorem Qg1 (L:List Op) (hl:L.length≤10000):iter (J0 L) (((L.length:Nat):Int).toNat+1) ([],0)=some (L.map ZR):=by
 have:=YE (body:=J0 L) L (fun k=>(L.take k).map ZR) (fun m k=>(m,k)) (fun _ _=>none) (L.map ZR) (by omega) (fun k x hx _=> ?_) (fun _=>by simp only[J0,oun,List.take_length];simp) (((L.length:Nat):Int).toNat+1) (by simp)
 ·rw[QO _ _ (fun _ _ _=>rfl)] at this
  exact this
 ·have hk:=Qr hx;have hk2:((k:Int)<(L.length:Nat)):=by omega
  simp only[J0,oun,hk2,decide_true,cond_true,Qq,hx,Option.bind_some,Zj]
  rw[Yh (by simp;omega),Yz hx]
  simp
theorem OkO.len {p:Pr} {t:Qa} {d:Int} {L:List Op} (h:OkO p t d L) (hs:t.Stops.length≤1000):L.length≤2001:=by
 rw[←h.stab.perm.length_eq]
 refine Nat.le_trans (Qfr _ _) ?_
 simp[Qa2];omega
theorem Qg0 {F:Nat} (hF:40000≤F) (p:Pr) (hn:p.Road.Edges.length≤600) (t:Qa) (hs:t.Stops.length≤1000) (d:Int) :
  ZJ F p t d=YT F p t d∧VY F p t d=Y6 F p t d:=by
 obtain ⟨L,e,h1,h2,h3,_⟩:=QaT hF p hn t hs d;have hl:L.length≤2001:=by
  rcases h3 with ⟨_,rfl⟩ | ⟨_,h3⟩
  ·simp
  ·exact h3.len hs
 constructor
 ·unfold ZJ
  rw[h1,h2]
  simp only[Option.bind_some,oun,Qg1 L (by omega)]
 ·unfold VY Y6
  rw[h1,h2]
  simp only[Option.bind_some,oun,List.length_map]
  cases decide (e=0) with
  | false=>rfl
  | true =>
   simp only[Bool.not_true,cond_false]
   by_cases h0:L=[]
   ·subst h0;rfl
   ·obtain ⟨x,M,rfl⟩:=List.exists_cons_of_ne_nil h0;have: ¬((((x::M).length:Nat):Int)=0):=by simp;omega
    simp only[this,decide_false,cond_false,List.map_cons]
    rfl
theorem Qd4 {F:Nat} (hF:40000≤F) {p:Pr} (hn:p.Road.Edges.length≤600) {t:Qa} (hs:t.Stops.length≤1000) {d:Int} (hc:Ql p=some 0) (hb:Qi9 p t d=false) (hd:d∉t.Stops) :
  ∃L,QN F p t d=some (L,0)∧OkO p t d L:=by
 obtain ⟨L,e,h1,h2,h3,h4⟩:=QaT hF p hn t hs d;have:=h4 hc hb
 rw[show decide (d∈t.Stops)=false by simpa using hd] at this
 have he:e=0:=this;subst he;rcases h3 with ⟨h,_⟩ | ⟨_,h3⟩
 ·exact absurd rfl h
 ·exact ⟨L,h1,h3⟩
theorem QkX {F:Nat} {p:Pr} {t:Qa} {d e:Int} {L:List Op} (h:QN F p t d=some (L,e)) (hl:L.length≤10000):ZJ F p t d=some (L.map ZR,e):=by
 unfold ZJ
 rw[h]
 simp only[Option.bind_some,oun,Qg1 L hl]
theorem Qir (a:List Int) (h:a.length≤1000000):Jr a a=some true:=by
 unfold Jr;have:=YB (body:=Jk a a) a (fun _ _=>none) (.inl ():Unit⊕Bool) (by omega) (fun k y hy=> ?_) (by simp[Jk]) (((a.length:Nat):Int).toNat+1) (by simp)
 ·rw[this,QO _ _ (fun _ _ _=>rfl)]
  simp[QD]
 ·have hk:=Qr hy;have hk2:((k:Int)<(a.length:Nat)):=by omega
  simp only[Jk,hk2,decide_true,cond_true,Qq,hy,Option.bind_some,Bool.not_true,cond_false,Zj]
theorem Qk0 (a:List Qa) (h:a.length≤1000000) (h2: ∀x∈a,x.Stops.length≤1000000):Wj a a=some true:=by
 unfold Wj;have:=YB (body:=Jl a a) a (fun _ _=>none) (.inl ():Unit⊕Bool) (by omega) (fun k y hy=> ?_) (by simp[Jl]) (((a.length:Nat):Int).toNat+1) (by simp)
 ·rw[this,QO _ _ (fun _ _ _=>rfl)]
  simp[QD]
 ·have hk:=Qr hy;have hk2:((k:Int)<(a.length:Nat)):=by omega
  simp only[Jl,hk2,decide_true,cond_true,Qq,hy,Option.bind_some,Bool.not_true,cond_false,Zj,Qir _ (h2 y (List.mem_of_getElem? hy))]
theorem Qle {p:Pr} {ts:List Qa} {x:Op} (h:x∈QbN p ts):x.tour.Stops.length≤40:=by
 rcases Nat.lt_or_ge 40 x.tour.Stops.length with h1 | h1
 ·exact absurd (Qhk h).2.1 (Qhd h1)
 ·exact h1
theorem OkO.stops {p:Pr} {t:Qa} {d:Int} {L:List Op} (h:OkO p t d L): ∀x∈L,x.tour.Stops.length≤40:=fun x hx=>Qle (h.stab.perm.symm.subset hx)
end Go.Proofs.YthpgjbbjpfiniaaGreat
namespace Go.Proofs.YthpgjbbjpfiniaaGreat
open Go.RowKit
set_option linter.unusedSimpArgs false
set_option linter.unusedVariables false
abbrev Pl:=Qg
theorem Qdf {α ρ:Type} (p:α→Bool) (g:α→ρ) (fin:ρ): ∀l:List α,first (fun x=>bif p x then some (g x) else none) fin l=(match l.find? p with | some x=>g x | none=>fin)
 | []=>rfl
 | x::r=>by
  simp only[first,List.find?]
  cases h:p x with
  | true=>rfl
  | false=>exact Qdf p g fin r
def ofP (x:Pl) (v:Int):Qa:=(x.Tours.find? fun t=>decide (t.Vehicle=v)).getD ⟨v,[]⟩
def wo (d:Int) (l:List Int):List Int:=l.filter fun k=> !decide (k=d)
def Qa8 (t:Qa):Bool:=t.Stops.any fun s=>decide (0≤s)
theorem Qgi {x:Pl} (v:Int) (hx:x.Tours.length≤1000):Qaz x v=some (ofP x v)∧J6 x v=some (ofP x v):=by
 have key: ∀body:Int→Option (Int⊕(Unit⊕Qa)),(∀k,body k=bif decide (k<((x.Tours.length:Nat):Int)) then Option.bind (getI x.Tours k) fun x2=>bif decide (x2.Vehicle=v) then some (.inr (.inr x2)) else some (.inl (w64 (k+1))) else some (.inr (.inl ()))) →
   (Option.bind (iter body (((x.Tours.length:Nat):Int).toNat+1) 0) fun o_=>QD o_ (fun _=>some (Qa.mk v [])) (fun r=>some r))=some (ofP x v):=by
  intro body hb
  rw[Qdk x.Tours (fun t=>bif decide (t.Vehicle=v) then some (Sum.inr t) else none) (Sum.inl ()) (by omega) (fun k t hk=>by
    have h1:((k:Int)<((x.Tours.length:Nat):Int)):=by have:=Qr hk;omega
    rw[hb]
    simp only[h1,decide_true,cond_true,Qq,hk,Option.bind_some]
    cases decide (t.Vehicle=v)<;>rfl) (by rw[hb];simp) _ (by simp),Option.bind_some,Qdf]
  unfold ofP;cases x.Tours.find? fun t=>decide (t.Vehicle=v)<;>rfl
 exact ⟨key _ fun k=>rfl,key _ fun k=>rfl⟩
theorem QiG {p:Int→Bool} {body:Int→Option (Int⊕(Unit⊕Int))} {l:List Int} (hl:l.length≤1000000) (hb: ∀k,body k=bif decide (k<((l.length:Nat):Int)) then Option.bind (getI l k) fun x1=>bif p x1 then some (.inr (.inr k)) else some (.inl (w64 (k+1))) else some (.inr (.inl ()))) :
  (∃k:Nat,k<l.length∧(∀y∈l.take k,p y=false)∧(∀y,l[k]? =some y→p y=true)∧iter body (((l.length:Nat):Int).toNat+1) 0=some (.inr (k:Int))) ∨
  ((∀y∈l,p y=false)∧iter body (((l.length:Nat):Int).toNat+1) 0=some (.inl ())):=by
 rw[YB l (fun k x=>bif p x then some (Sum.inr (k:Int)) else none) (Sum.inl ()) (by omega) (fun k x hk=>by
   have h1:((k:Int)<((l.length:Nat):Int)):=by have:=Qr hk;omega
   rw[hb]
   simp only[h1,decide_true,cond_true,Qq,hk,Option.bind_some]
   cases p x<;>rfl) (by rw[hb];simp) _ (by simp)]
 have key: ∀(m:List Int) (n:Nat),(∃k:Nat,k<m.length∧(∀y∈m.take k,p y=false)∧(∀y,m[k]? =some y→p y=true)∧Yx (fun k x=>bif p x then some (Sum.inr (k:Int)) else none) (Sum.inl ():Unit⊕Int) n m= .inr ((n+k:Nat):Int)) ∨
   ((∀y∈m,p y=false)∧Yx (fun k x=>bif p x then some (Sum.inr (k:Int)) else none) (Sum.inl ():Unit⊕Int) n m= .inl ()):=by
  intro m
  induction m with
  | nil=>exact fun n=> .inr ⟨by simp,rfl⟩
  | cons x r ih =>
   intro n;cases hp:p x with
   | true=>exact .inl ⟨0,by simp,by simp,fun y hy=>by simp at hy;rw[←hy];exact hp,by simp[Yx,hp]⟩
   | false =>
    rcases ih (n+1) with ⟨k,h1,h2,h3,h4⟩ | ⟨h1,h2⟩
    ·refine .inl ⟨k+1,by simp;omega,fun y hy=> ?_,fun y hy=>h3 y (by simpa using hy),?_⟩
     ·simp only[List.take_succ_cons,List.mem_cons] at hy
      rcases hy with rfl | hy
      ·exact hp
      ·exact h2 y hy
     ·simp only[Yx,hp,cond_false]
      rw[h4];congr 2;omega
    ·refine .inr ⟨fun y hy=> ?_,?_⟩
     ·rcases List.mem_cons.1 hy with rfl | hy
      ·exact hp
      ·exact h1 y hy
     ·simp only[Yx,hp,cond_false];exact h2
 rcases key l 0 with ⟨k,h1,h2,h3,h4⟩ | ⟨h1,h2⟩
 ·exact .inl ⟨k,h1,h2,h3,by rw[h4];simp⟩
 ·exact .inr ⟨h1,by rw[h2]⟩
theorem QmD {p:Int→Bool} {l:List Int} (h: ∀y∈l,p y=false):l.any p=false:=by
 rw[List.any_eq_false]
 exact fun y hy=>by rw[h y hy];simp
theorem QpS {p:Int→Bool} {l:List Int} {k:Nat} (hk:k<l.length) (h: ∀y,l[k]? =some y→p y=true):l.any p=true:=by
 rw[List.any_eq_true]
 exact ⟨l[k],List.getElem_mem hk,h _ (List.getElem?_eq_getElem hk)⟩
theorem Qga {t:Qa} (hl:t.Stops.length≤1000000):W0 t=some (Qa8 t)∧VO t=some (Qa8 t):=by
 constructor
 ·unfold W0 ZQ JE;rcases QiG (p:=fun s=>decide (0≤s)) (body:=We t.Stops) hl (fun k=>rfl) with ⟨k,h1,h2,h3,h4⟩ | ⟨h1,h2⟩
  ·rw[h4]
   have h5:(0:Int)≤(k:Int):=by omega
   simp only[Option.bind_some,QD,h5,decide_true,Qa8,QpS h1 h3]
  ·rw[h2]
   simp only[Option.bind_some,QD,Qa8,QmD h1]
   rfl
 ·unfold VO
  rw[Qdk t.Stops (fun s=>bif decide (0≤s) then some (Sum.inr true) else none) (Sum.inl ()) (by omega) (fun k s hk=>by
   have h1:((k:Int)<((t.Stops.length:Nat):Int)):=by have:=Qr hk;omega
   simp only[Va,h1,decide_true,cond_true,Qq,hk,Option.bind_some]
   cases decide (0≤s)<;>rfl) (by simp[Va]) _ (by simp),Option.bind_some,Qdf]
  unfold Qa8;cases h:t.Stops.find? fun s=>decide (0≤s) with
  | none =>
   rw[List.find?_eq_none] at h
   have:t.Stops.any (fun s=>decide (0≤s))=false:=by rw[List.any_eq_false];exact h
   rw[this];rfl
  | some s =>
   have h1:=List.find?_some h;have h2:=List.mem_of_find?_eq_some h;have:t.Stops.any (fun s=>decide (0≤s))=true:=by rw[List.any_eq_true];exact ⟨s,h2,h1⟩
   rw[this];rfl
theorem Qkw {l:List Int} (d:Int) (hl:l.length≤1000000):Vx l d=some (wo d l):=by
 unfold Vx;have:=QiH l (fun (o:List Int) k=>(o,k)) (body:=JB l d) (fun o x=> .inl (if x=d then o else o++[x])) (fun o=>o) (fun o k=>o=wo d (l.take k)) (by omega) (fun k x o hk ho=>by
  have h0:=Qr hk;have h1:((k:Int)<((l.length:Nat):Int)):=by omega
  have hw:wo d (l.take (k+1))=wo d (l.take k)++if x=d then [] else [x]:=by
   rw[Yz hk];unfold wo;rw[List.filter_append]
   by_cases h:x=d<;>simp[h]
  refine ⟨?_,fun o' h=> ?_⟩
  ·simp only[JB,oun,h1,decide_true,cond_true,Qq,hk,Option.bind_some]
   by_cases h:x=d
   ·simp[h]
   ·have hle:o.length≤k:=by rw[ho];exact Nat.le_trans (List.length_filter_le _ _) (by simp;omega)
    simp only[h,decide_false,Bool.not_false,cond_true,if_false]
    rw[Yh (by simp;omega)]
    rfl
  ·injection h with h
   subst h
   rw[hw,ho]
   by_cases h:x=d<;>simp[h]) (fun o ho=>by simp[JB,oun]) (((l.length:Nat):Int).toNat+1) [] rfl (by simp)
 rw[this]
 have key: ∀(m:List Int) (o:List Int),each (fun o x=>(.inl (if x=d then o else o++[x]):List Int⊕List Int)) (fun o=>o) m o=o++wo d m:=by
  intro m
  induction m with
  | nil=>intro o;simp[each,wo]
  | cons x r ih =>
   intro o
   simp only[each]
   rw[ih]
   by_cases h:x=d<;>simp[h,wo]
 rw[key];rfl
theorem QnL {l:List Int} (d:Int) (hl:l.length≤1000000):Vw l d=some (decide (d∈l)):=by
 unfold Vw
 rw[Qdk l (fun s=>bif decide (s=d) then some (Sum.inr true) else none) (Sum.inl ()) (by omega) (fun k s hk=>by
  have h1:((k:Int)<((l.length:Nat):Int)):=by have:=Qr hk;omega
  simp only[VN,h1,decide_true,cond_true,Qq,hk,Option.bind_some]
  cases decide (s=d)<;>rfl) (by simp[VN]) _ (by simp),Option.bind_some,Qdf]
 cases h:l.find? fun s=>decide (s=d) with
 | none =>
  rw[List.find?_eq_none] at h
  have: ¬d∈l:=fun hm=>by have:=h d hm;simp at this
  simp[this,QD]
 | some s =>
  have h1:=List.find?_some h;have h2:=List.mem_of_find?_eq_some h;have h3:s=d:=by simpa using h1
  rw[h3] at h2
  simp[h2,QD]
theorem Qhe {l:List Int} {d:Int} (hl:l.length≤100000): ∀(r j i f:Nat) (s:List Int),j+r=l.length→r<f→i<j→s.length=l.length→s.take i=wo d (l.take j)→s.drop j=l.drop j →
  ∃s',iter (Yr l d) f (s,(i:Int),(j:Int))=some (s',((wo d l).length:Int))∧s'.length=l.length∧s'.take (wo d l).length=wo d l∧(wo d l).length≤l.length
 | 0,j,i,f+1,s,hj,_,hij,hs,ht,hd=>by
  have h1: ¬((j:Int)<((l.length:Nat):Int)):=by omega
  have e:l.take j=l:=List.take_of_length_le (by omega)
  rw[e] at ht
  have hi:(wo d l).length=i:=by rw[←ht];simp;omega
  refine ⟨s,?_,hs,by rw[hi];exact ht,List.length_filter_le _ _⟩
  simp only[iter,Yr,oun,h1,decide_false,cond_false,hi]
  rfl
 | r+1,j,i,f+1,s,hj,hf,hij,hs,ht,hd=>by
  have h1:((j:Int)<((l.length:Nat):Int)):=by omega
  obtain ⟨x,hx⟩: ∃x,l[j]? =some x:=⟨_,List.getElem?_eq_getElem (by omega)⟩
  have hsx:s[j]? =some x:=by
   have e1:s[j]? =(s.drop j)[0]? :=by simp
   rw[e1,hd];simpa using hx
  obtain ⟨y,hy⟩: ∃y,s[i]? =some y:=⟨_,List.getElem?_eq_getElem (by omega)⟩
  have hw:wo d (l.take (j+1))=wo d (l.take j)++if x=d then [] else [x]:=by
   rw[Yz hx];unfold wo;rw[List.filter_append]
   by_cases h:x=d<;>simp[h]
  have e2:w64 ((i:Int)+1)=((i+1:Nat):Int):=J9 (by omega);have e3:w64 ((j:Int)+1)=((j+1:Nat):Int):=J9 (by omega)
  by_cases h:x=d
  ·obtain ⟨s',g1,g2⟩:=Qhe hl r (j+1) i f s (by omega) (by omega) (by omega) hs (by rw[hw];simp[h,ht]) (by rw[←List.drop_drop,hd];simp);refine ⟨s',?_,g2⟩
   rw[←g1]
   simp only[iter,Yr,JL,oun,h1,decide_true,cond_true,Qq,hsx,Option.bind_some,h,Bool.not_true,cond_false,e3]
   rfl
  ·have hlt:i<s.length:=by omega
   obtain ⟨s',g1,g2⟩:=Qhe hl r (j+1) (i+1) f (s.set i x) (by omega) (by omega) (by omega) (by simpa using hs) (by
     rw[hw,if_neg h,←ht]
     rw[List.take_add_one,List.take_set_of_le (Nat.le_refl _)]
     simp[hlt]) (by
     rw[List.drop_set_of_lt (by omega),←List.drop_drop,hd];simp)
   refine ⟨s',?_,g2⟩
   rw[←g1]
   simp only[iter,Yr,JL,oun,h1,decide_true,cond_true,Qq,hsx,hy,Option.bind_some,h,decide_false,Bool.not_false,e2,e3,Yg,Int.toNat_natCast]
   rfl
theorem QfP {d:Int} {l:List Int} (h: ∀y∈l,decide (y=d)=false):wo d l=l:=by
 unfold wo
 rw[List.filter_eq_self]
 exact fun y hy=>by rw[h y hy];rfl
theorem QpW {F:Nat} (hF:40000≤F) {l:List Int} (d:Int) (hl:l.length≤30000):Zn F l d=some (wo d l):=by
 unfold Zn JD;rcases QiG (p:=fun s=>decide (s=d)) (body:=Wd l d) (l:=l) (by omega) (fun k=>rfl) with ⟨k,h1,h2,h3,h4⟩ | ⟨h1,h2⟩
 ·rw[h4]
  have h5: ¬((k:Int)= -1):=by omega
  have hw:wo d (l.take (k+1))=l.take k:=by
   obtain ⟨x,hx⟩: ∃x,l[k]? =some x:=⟨_,List.getElem?_eq_getElem h1⟩
   have hxd:x=d:=by simpa using h3 x hx
   rw[Yz hx]
   have:=QfP h2;unfold wo at this ⊢
   rw[List.filter_append,this];simp[hxd]
  obtain ⟨s',g1,g2,g3,g4⟩:=Qhe (d:=d) (by omega) (l.length-(k+1)) (k+1) k F l (by omega) (by omega) (by omega) rfl hw.symm rfl
  simp only[Option.bind_some,QD,h5,decide_false,cond_false,J9 (show k<9223372036854775807 by omega)]
  rw[g1]
  simp only[Option.bind_some,oun]
  rw[Qbf (by omega)]
  have e1:(QeQ s' (((wo d l).length:Nat):Int) 0).take (wo d l).length=wo d l:=by
   unfold QeQ
   rw[List.take_append_of_le_length (by simp;omega)]
   simp[g3]
  have e2:Wz (QeQ s' (((wo d l).length:Nat):Int) 0) 0 (((wo d l).length:Nat):Int)=some (wo d l):=by
   unfold Wz
   rw[if_pos ⟨by omega,by omega,by rw[Qct];omega⟩]
   simp only[Int.toNat_natCast,Int.toNat_zero,List.drop_zero,e1]
  rw[Option.bind_some,e2];rfl
 ·rw[h2]
  simp only[Option.bind_some,QD,decide_true,cond_true]
  rw[QfP h1]
theorem Qnx {α:Type} (l:List α) (hl:l.length≤1000):Qhb l=some l:=by
 unfold Qhb
 simp
 omega
theorem Qfc {F:Nat} (hF:40000≤F) {l:List Int} (d:Int) (hl:l.length≤1000):JK F l d=some (wo d l):=by
 unfold JK
 rw[Qnx l hl,Option.bind_some,QpW hF d (by omega)];rfl
theorem QoP (a b:Int):WZ a b=some (if a<b then -1 else if b<a then 1 else 0):=by
 unfold WZ Qaj
 simp only[Option.bind_some,decide_true,Bool.not_true,cond_false]
 by_cases h:a<b
 ·simp[h]
 ·by_cases h2:b<a<;>simp[h,h2]
theorem QqR (a b:Int):Qb7 [a,b]=some (if a=0 then b else a):=by
 unfold Qb7
 rw[Qdk [a,b] (fun x=>bif !decide (x=0) then some (Sum.inr x) else none) (Sum.inl ()) (by simp) (fun k x hk=>by
  have h1:((k:Int)<(([a,b].length:Nat):Int)):=by have:=Qr hk;omega
  simp only[Qbk,h1,decide_true,cond_true,Qq,hk,Option.bind_some]
  cases decide (x=0)<;>rfl) (by simp[Qbk]) _ (by simp),Option.bind_some]
 by_cases ha:a=0
 ·by_cases hb:b=0
  ·simp[first,ha,hb,QD]
  ·simp[first,ha,hb,QD]
 ·simp[first,ha,QD]
def JO (x:Qb):Int:=((x.plan.Left.length:Nat):Int)*1000000000000+x.cost
def Qbz (x:Qb):Prop:=0≤x.cost∧x.cost<1000000000000
theorem Qhc {a b:Qb} (ha:Qbz a) (hb:Qbz b): ∃z,QV a b=some z∧(z<0↔JO a<JO b):=by
 unfold QV
 simp only[QoP,Option.bind_some,QqR]
 refine ⟨_,rfl,?_⟩;unfold JO;obtain ⟨a0,a1⟩:=ha;obtain ⟨b0,b1⟩:=hb
 by_cases h1:((a.plan.Left.length:Nat):Int)<((b.plan.Left.length:Nat):Int)
 ·rw[if_pos h1,if_neg (by decide)];omega
 ·by_cases h2:((b.plan.Left.length:Nat):Int)<((a.plan.Left.length:Nat):Int)
  ·rw[if_neg h1,if_pos h2,if_neg (by decide)];omega
  ·rw[if_neg h1,if_neg h2,if_pos rfl]
   by_cases h3:a.cost<b.cost
   ·rw[if_pos h3];omega
   ·by_cases h4:b.cost<a.cost
    ·rw[if_neg h3,if_pos h4];omega
    ·rw[if_neg h3,if_neg h4];omega
end Go.Proofs.YthpgjbbjpfiniaaGreat
namespace Go.Proofs.YthpgjbbjpfiniaaGreat
open Go.RowKit
set_option linter.unusedSimpArgs false
set_option linter.unusedVariables false
theorem QmT {p:Pr} (hp:OkP p) {a:Int} (ha:0≤a∧a<p.Road.Nodes):Y7 p a a=⟨0,0⟩:=by
 obtain ⟨h1,_⟩:=Qeq hp ha;have h2:=h1.best 0 a ⟨0,0⟩ .nil;have h3:=JM hp ha ha;unfold Y7 at h3 ⊢
 generalize lab (QdT p a) a=l at *
 have h4:=h2.2;unfold Lg.le at h4;cases l
 simp only at h2 h3 h4 ⊢
 congr 1<;>omega
theorem Qj1 {p:Pr} (hp:OkP p) (v:Int):(Yv p ⟨v,[]⟩).1=0:=by
 unfold Yv;cases h:J8 p ⟨v,[]⟩ with
 | inr q=>rfl
 | inl u =>
  obtain ⟨z,y,hf,_,e2⟩:=QfJ h;have hv:=hp.ve u.2.2 (by
   have:=hf.hv;unfold getI at this
   rw[if_pos hf.t0] at this
   exact List.mem_of_getElem? this)
  have h1:z=(x0 u.2.2,[]):=by
   have:=hf.fol;injection this with this
   exact this.symm
  have h6:y.Node=u.2.2.Depot:=by
   have hom:=hf.hom;unfold VX at hom
   repeat' split at hom
   all_goals first | (cases hom;done) | (injection hom with hom;subst hom;rfl)
  simp only[e2,h1,List.nil_append,QaE,h6,QmT hp ⟨hv.d0,hv.d1⟩]
  rfl
def VD (h:Op→Option Op):List Op→Nat→Option (Nat×Op×Int)→Option (Nat×Op×Int)
 | [],_,s=>s
 | x::r,k,s=>VD h r (k+1) (match h x with
  | none=>s
  | some y=>match s with
   | none=>some (k,y,w64 (y.cost-x.cost))
   | some z=>if w64 (y.cost-x.cost)<z.2.2 then some (k,y,w64 (y.cost-x.cost)) else s)
def Qhh (s:Option (Nat×Op×Int)):Int×List Int×Int×Int:=match s with
 | none=>(0,[],0,-1)
 | some z=>(z.2.1.tour.Vehicle,z.2.1.tour.Stops,z.2.1.cost,((z.1:Nat):Int))
def QeV (s:Option (Nat×Op×Int)):Int×Int×Int×List Int:=match s with
 | none=>(-1,0,0,[])
 | some z=>(((z.1:Nat):Int),z.2.2,z.2.1.tour.Vehicle,z.2.1.tour.Stops)
def VR (F:Nat) (p:Pr) (d:Int) (x:Op):Option Op:=match QN F p x.tour d with
 | some (y::_,_)=>some y
 | _=>none
def Qpr (F:Nat) (p:Pr) (d:Int) (T:List Op):Prop:= ∀x∈T,x.cost=(Yv p x.tour).1∧ ∃L e,QN F p x.tour d=some (L,e)∧YT F p x.tour d=some (L.map ZR,e)∧((e≠0∧L=[])∨(e=0∧OkO p x.tour d L))
theorem Qd5 {F:Nat} {p:Pr} {T:List Op} {d:Int} (hT:T.length≤1000) (ha:Qpr F p d T): ∀(rest:List Op) (k:Nat) (s:Option (Nat×Op×Int)) (f:Nat),T.drop k=rest→k≤T.length→rest.length<f→(∀z,s=some z→ ∃x,T[z.1]? =some x∧z.2.2=w64 (z.2.1.cost-x.cost)) →
  iter (ZP F p T d) f ((Qhh s).1,(Qhh s).2.1,(Qhh s).2.2.1,(Qhh s).2.2.2,(k:Int))=some (Qhh (VD (VR F p d) rest k s))
 | [],k,s,0,_,_,h,_=>by simp at h
 | _::_,k,s,0,_,_,h,_=>by simp at h
 | [],k,s,f+1,hd,hk,_,_=>by
  have:k=T.length:=by have:=congrArg List.length hd;simp at this;omega
  have h1: ¬((k:Int)<((T.length:Nat):Int)):=by omega
  simp only[iter,ZP,oun,h1,decide_false,cond_false,Option.bind_some,QD,VD]
 | x::rest,k,s,f+1,hd,hk,hf,hs=>by
  have hx:T[k]? =some x:=by
   have:=congrArg List.head? hd
   rwa [List.head?_drop] at this
  have hlt:=Qr hx;have h1:((k:Int)<((T.length:Nat):Int)):=by omega
  have hd2:T.drop (k+1)=rest:=by rw[←List.drop_drop,hd];rfl
  have e1:w64 ((k:Int)+1)=((k+1:Nat):Int):=by rw[Ye (by omega) (by omega)];omega
  obtain ⟨_,L,e,ho,_⟩:=ha x (List.mem_of_getElem? hx);have hh:VR F p d x=L.head? :=by unfold VR;rw[ho];cases L<;>rfl
  rw[VD,hh]
  cases L with
  | nil =>
   have ih:=Qd5 hT ha rest (k+1) s f hd2 (by omega) (by simp at hf;omega) hs
   simp only[iter,ZP,oun,h1,decide_true,cond_true,Qq,hx,Option.bind_some,ho,List.length_nil,e1,QD,List.head?_nil]
   exact ih
  | cons y M =>
   have hl:(0:Int)<(((y::M).length:Nat):Int):=by simp only[List.length_cons];omega
   have g0:getI (y::M) 0=some y:=rfl;cases s with
   | none =>
    have ih:=Qd5 hT ha rest (k+1) (some (k,y,w64 (y.cost-x.cost))) f hd2 (by omega) (by simp at hf;omega) (fun z hz=>by injection hz with hz;subst hz;exact ⟨x,hx,rfl⟩)
    simp only[iter,ZP,oun,h1,decide_true,cond_true,Qq,hx,Option.bind_some,ho,hl,Qhh,g0,show decide ((-1:Int)<0)=true from rfl,e1,QD,List.head?_cons]
    exact ih
   | some z =>
    obtain ⟨u,hu,hz⟩:=hs z rfl;have hz0: ¬(((z.1:Nat):Int)<0):=by omega
    by_cases hc:w64 (y.cost-x.cost)<z.2.2
    ·have ih:=Qd5 hT ha rest (k+1) (some (k,y,w64 (y.cost-x.cost))) f hd2 (by omega) (by simp at hf;omega) (fun z hz=>by injection hz with hz;subst hz;exact ⟨x,hx,rfl⟩);have hc2:=hc
     rw[hz] at hc2
     simp only[iter,ZP,oun,h1,decide_true,cond_true,Qq,hx,Option.bind_some,ho,hl,Qhh,g0,hz0,decide_false,cond_false,hu,hc2,e1,QD,List.head?_cons]
     rw[if_pos hc]
     exact ih
    ·have ih:=Qd5 hT ha rest (k+1) (some z) f hd2 (by omega) (by simp at hf;omega) hs;have hc2:=hc
     rw[hz] at hc2
     simp only[iter,ZP,oun,h1,decide_true,cond_true,Qq,hx,Option.bind_some,ho,hl,Qhh,g0,hz0,decide_false,cond_false,hu,hc2,e1,QD,List.head?_cons]
     rw[if_neg hc]
     exact ih
end Go.Proofs.YthpgjbbjpfiniaaGreat
namespace Go.Proofs.YthpgjbbjpfiniaaGreat
open Go.RowKit
set_option linter.unusedSimpArgs false
set_option linter.unusedVariables false
theorem QmL (l:List Int):(Qii l).getLast? =some (-1):=by
 unfold Qii;split
 ·assumption
 ·simp
theorem Qlg (l:List Int) {e:Int} (he:0≤e):(Qii l).count e=l.count e:=by
 unfold Qii;split
 ·rfl
 ·rw[List.count_append,List.count_singleton,if_neg (by simp;omega)];rfl
theorem Qgj (s:List Int) (d:Int) (i:Nat):(Jc s d i).getLast? =some (-1):=QmL _
theorem QbL (s:List Int) (d:Int) (i:Nat) {e:Int} (he:0≤e):(Jc s d i).count e=s.count e+if e=d then 1 else 0:=by
 unfold Jc Qg8
 rw[Qlg _ he,List.count_append,List.count_append,List.count_cons]
 have h1:(bif decide (i%2=1) then [(-1:Int)] else []).count e=0:=by
  cases decide (i%2=1)
  ·rfl
  ·rw[cond_true,List.count_singleton,if_neg (by simp;omega)]
 have h2:s.count e=(s.take (i/2)).count e+(s.drop (i/2)).count e:=by rw[←List.count_append,List.take_append_drop]
 rw[h1,h2]
 by_cases h:e=d
 ·subst h;simp;omega
 ·have: ¬(d==e)=true:=by simp;exact fun h'=>h h'.symm
  simp[h,this]
theorem Qk7 (s:List Int) {d:Int} (hd:0≤d) (i:Nat):2≤(Jc s d i).length:=by
 have h1:=Qgj s d i;have h2:=QbL s d i hd
 rw[if_pos rfl] at h2
 generalize Jc s d i=l at *
 match l,h1,h2 with
 | [],_,h2=>simp at h2
 | [a],h1,h2 =>
  simp at h1;subst h1
  rw[List.count_singleton,if_neg (by simp;omega)] at h2
  omega
 | _::_::_,_,_=>simp
structure IsO (p:Pr) (t:Qa) (d:Int) (y:Op):Prop where
 cand: ∃i,i<2*t.Stops.length+1∧y.tour=⟨t.Vehicle,Jc t.Stops d i⟩
 ok:(Yv p y.tour).2=0
 cost:y.cost=(Yv p y.tour).1
theorem OkO.isO {p:Pr} {t:Qa} {d:Int} {L:List Op} (h:OkO p t d L) {y:Op} (hy:y∈L):IsO p t d y:=by
 obtain ⟨h1,h2,h3⟩:=Qhk (h.stab.perm.symm.subset hy);obtain ⟨s,g1,g2⟩:=List.mem_map.1 h1;obtain ⟨i,g3,g4⟩:=List.mem_map.1 g1;exact ⟨⟨i,List.mem_range.1 g3,by rw[←g2,←g4];rfl⟩,h2,h3⟩
def hdT:List Op→Qa
 | []=>⟨0,[]⟩
 | y::_=>y.tour
theorem Qi3 {F:Nat} {p:Pr} {t:Qa} {d e:Int} {L:List Op} (h:YT F p t d=some (L.map ZR,e)) (he:(e≠0∧L=[])∨(e=0∧OkO p t d L)) :
  ∃e',Y6 F p t d=some (hdT L,e')∧(e'=0↔L≠[])∧(e≠0→e'=e)∧(e=0→L=[]→e'=40):=by
 unfold Y6
 rw[h]
 simp only[Option.bind_some,oun]
 rcases he with ⟨h1,rfl⟩ | ⟨rfl,h2⟩
 ·rw[show decide (e=0)=false by simpa using h1]
  exact ⟨e,rfl,by simpa using h1,fun _=>rfl,fun h=>absurd h h1⟩
 ·cases L with
  | nil=>exact ⟨40,rfl,by decide,fun h=>absurd rfl h,fun _ _=>rfl⟩
  | cons y M =>
   have: ¬(((((y::M).map ZR).length:Nat):Int)=0):=by simp;omega
   simp only[decide_true,Bool.not_true,cond_false,this,decide_false,List.map_cons]
   exact ⟨0,rfl,by simp,fun h=>absurd rfl h,fun _ h=>by cases h⟩
theorem Qd6 {F:Nat} {p:Pr} {T:List Op} {d:Int} (hp:OkP p) (hc:Ql p=some 0) (hT:T.length≤1000) (ha:Qpr F p d T): ∀(rest:List Op) (k:Nat) (s:Option (Nat×Op×Int)) (f:Nat),T.drop k=rest→k≤T.length→rest.length<f →
  iter (Yq F p (T.map ZR) d) f ((QeV s).1,(QeV s).2.1,(QeV s).2.2.1,(QeV s).2.2.2,(k:Int))=some ((QeV (VD (VR F p d) rest k s)).1,(QeV (VD (VR F p d) rest k s)).2.2.1,(QeV (VD (VR F p d) rest k s)).2.2.2)
 | [],k,s,0,_,_,h=>by simp at h
 | _::_,k,s,0,_,_,h=>by simp at h
 | [],k,s,f+1,hd,hk,_=>by
  have:k=T.length:=by have:=congrArg List.length hd;simp at this;omega
  have h1: ¬((k:Int)<(((T.map ZR).length:Nat):Int)):=by simp;omega
  simp only[iter,Yq,oun,h1,decide_false,cond_false,Option.bind_some,QD,VD]
 | x::rest,k,s,f+1,hd,hk,hf=>by
  have hx:T[k]? =some x:=by
   have:=congrArg List.head? hd
   rwa [List.head?_drop] at this
  have hlt:=Qr hx;have h1:((k:Int)<(((T.map ZR).length:Nat):Int)):=by simp;omega
  have hd2:T.drop (k+1)=rest:=by rw[←List.drop_drop,hd];rfl
  have e1:w64 ((k:Int)+1)=((k+1:Nat):Int):=by rw[Ye (by omega) (by omega)];omega
  have hx2:(T.map ZR)[k]? =some x.tour:=by rw[List.getElem?_map,hx];rfl
  obtain ⟨hcx,L,e,ho,hr,hL⟩:=ha x (List.mem_of_getElem? hx);have hh:VR F p d x=L.head? :=by unfold VR;rw[ho];cases L<;>rfl
  obtain ⟨e',hb,he',_⟩:=Qi3 hr hL
  rw[VD,hh]
  cases L with
  | nil =>
   have ih:=Qd6 hp hc hT ha rest (k+1) s f hd2 (by omega) (by simp at hf;omega);have: ¬e'=0:=by simpa using he'
   simp only[iter,Yq,oun,h1,decide_true,cond_true,Qq,hx2,Option.bind_some,hb,hdT,this,decide_false,Bool.not_false,e1,QD,List.head?_nil]
   exact ih
  | cons y M =>
   have:e'=0:=by simpa using he'
   subst this;have hy:y.cost=(Yv p y.tour).1:=by
    rcases hL with ⟨_,h⟩ | ⟨_,h⟩
    ·cases h
    ·exact (h.isO (y:=y) (by simp)).cost
   have c1:YD p ⟨y.tour.Vehicle,y.tour.Stops⟩=some (Yv p y.tour):=Qeb hp hc _;have c2:YD p x.tour=some (Yv p x.tour):=Qeb hp hc _;cases s with
   | none =>
    have ih:=Qd6 hp hc hT ha rest (k+1) (some (k,y,w64 (y.cost-x.cost))) f hd2 (by omega) (by simp at hf;omega)
    simp only[iter,Yq,oun,h1,decide_true,cond_true,Qq,hx2,Option.bind_some,hb,hdT,decide_true,Bool.not_true,cond_false,c1,c2,QeV,show decide ((-1:Int)<0)=true from rfl,←hy,←hcx,e1,QD,List.head?_cons]
    exact ih
   | some z =>
    have hz0: ¬(((z.1:Nat):Int)<0):=by omega
    by_cases hcc:w64 (y.cost-x.cost)<z.2.2
    ·have ih:=Qd6 hp hc hT ha rest (k+1) (some (k,y,w64 (y.cost-x.cost))) f hd2 (by omega) (by simp at hf;omega)
     simp only[iter,Yq,oun,h1,decide_true,cond_true,Qq,hx2,Option.bind_some,hb,hdT,decide_true,Bool.not_true,cond_false,c1,c2,QeV,hz0,decide_false,hcc,←hy,←hcx,e1,QD,List.head?_cons]
     exact ih
    ·have ih:=Qd6 hp hc hT ha rest (k+1) (some z) f hd2 (by omega) (by simp at hf;omega)
     simp only[iter,Yq,oun,h1,decide_true,cond_true,Qq,hx2,Option.bind_some,hb,hdT,decide_true,Bool.not_true,cond_false,c1,c2,QeV,hz0,decide_false,hcc,←hy,←hcx,e1,QD,List.head?_cons]
     exact ih
theorem QhN (h:Op→Option Op): ∀(rest:List Op) (k:Nat) (s:Option (Nat×Op×Int)) (z:Nat×Op×Int),VD h rest k s=some z→s=some z∨ ∃i x,rest[i]? =some x∧z.1=k+i∧h x=some z.2.1
 | [],_,_,_,hz=> .inl hz
 | x::r,k,s,z,hz=>by
  rw[VD] at hz
  rcases QhN h r (k+1) _ z hz with h1 | ⟨i,y,g1,g2,g3⟩
  ·cases hx:h x with
   | none=>rw[hx] at h1;exact .inl h1
   | some y =>
    rw[hx] at h1
    have hn: ∀w:Int,some (k,y,w)=some z→ ∃i x',(x::r)[i]? =some x'∧z.1=k+i∧h x'=some z.2.1:=fun w hw=>by
     injection hw with hw;subst hw
     exact ⟨0,x,rfl,rfl,hx⟩
    cases s with
    | none=>exact .inr (hn _ h1)
    | some u =>
     simp only at h1
     split at h1
     ·exact .inr (hn _ h1)
     ·exact .inl h1
  ·exact .inr ⟨i+1,y,by simpa using g1,by omega,g3⟩
theorem Qdm (h:Op→Option Op): ∀(rest:List Op) (k:Nat) (z:Nat×Op×Int),VD h rest k (some z)≠none
 | [],_,_=>by simp[VD]
 | x::r,k,z=>by
  rw[VD]
  cases h x with
  | none=>exact Qdm h r (k+1) z
  | some y =>
   simp only
   split
   ·exact Qdm h r (k+1) _
   ·exact Qdm h r (k+1) _
theorem QhM (h:Op→Option Op): ∀(rest:List Op) (k:Nat),VD h rest k none=none→ ∀x∈rest,h x=none
 | [],_,_=>by simp
 | x::r,k,hn=>by
  rw[VD] at hn
  cases hx:h x with
  | none =>
   rw[hx] at hn
   intro y hy;rcases List.mem_cons.1 hy with rfl | hy
   ·exact hx
   ·exact QhM h r (k+1) hn y hy
  | some y =>
   rw[hx] at hn
   exact absurd hn (Qdm h r (k+1) _)
def QdD (h:Op→Option Op) (d:Int) (s:List Op×List Int):List Op×List Int:=match VD h s.1 0 none with
 | none=>(s.1,s.2++[d])
 | some z=>(s.1.set z.1 z.2.1,s.2)
def JY (n:Nat):List Op:=(List.range n).map fun (i:Nat)=>⟨⟨(i:Int),[]⟩,0⟩
def Qcl (F:Nat) (p:Pr):Nat→List Op×List Int
 | 0=>(JY p.Vehicles.length,[])
 | k+1=>QdD (VR F p k) k (Qcl F p k)
structure QqD (p:Pr) (i:Nat) (x:Op):Prop where
 veh:x.tour.Vehicle=(i:Int)
 cost:x.cost=(Yv p x.tour).1
 len:x.tour.Stops.length≤40
 full:x.tour.Stops≠[]→(Yv p x.tour).2=0∧2≤x.tour.Stops.length∧x.tour.Stops.getLast? =some (-1)
def cnB (T:List Op) (e:Int):Nat:=(T.map fun x=>x.tour.Stops.count e).sum
structure QkT (F:Nat) (p:Pr) (k:Nat) (s:List Op×List Int):Prop where
 len:s.1.length=p.Vehicles.length
 tour: ∀(i:Nat) (x:Op),s.1[i]? =some x→QqD p i x
 once: ∀e:Nat,cnB s.1 (e:Int)+s.2.count (e:Int)=if e<k then 1 else 0
 lo: ∀e∈s.2,0≤e∧e<(k:Int)
 asc:s.2.Pairwise (· < ·)
 ll:s.2.length≤k
 left: ∀e∈s.2,∀(i:Nat) (x:Op),s.1[i]? =some x→x.tour.Stops=[]→VR F p e x=none
theorem Ql2: ∀(T:List Op) (i:Nat) (x y:Op) (e:Int),T[i]? =some x→cnB (T.set i y) e+x.tour.Stops.count e=cnB T e+y.tour.Stops.count e
 | [],i,_,_,_,h=>by simp at h
 | z::T,0,x,y,e,h=>by
  simp at h;subst h
  simp[cnB];omega
 | z::T,i+1,x,y,e,h=>by
  have:=Ql2 T i x y e (by simpa using h)
  simp[cnB] at this ⊢;omega
theorem QlM {n i:Nat} {x:Op} (h:(JY n)[i]? =some x):x=⟨⟨(i:Int),[]⟩,0⟩:=by
 unfold JY at h
 rw[List.getElem?_map] at h
 cases hr:(List.range n)[i]? with
 | none=>rw[hr] at h;cases h
 | some j =>
  rw[hr] at h
  have:=List.getElem?_eq_some_iff.1 hr;obtain ⟨h1,h2⟩:=this
  simp at h2;subst h2
  simp at h
  exact h.symm
theorem Qna (n:Nat) (e:Int):cnB (JY n) e=0:=by
 unfold cnB JY
 rw[List.map_map]
 induction n with
 | zero=>rfl
 | succ n ih=>rw[List.range_succ,List.map_append,List.sum_append,ih];rfl
theorem Qnb {F:Nat} {p:Pr} (hp:OkP p):QkT F p 0 (JY p.Vehicles.length,[]) where
 len:=by simp[JY]
 tour:=fun i x hx=>by
  rw[QlM hx]
  exact ⟨rfl,(Qj1 hp _).symm,by simp,fun h=>absurd rfl h⟩
 once:=fun e=>by simp[Qna]
 lo:=by simp
 asc:=List.Pairwise.nil
 ll:=by simp
 left:=by simp
theorem QnM {F:Nat} {p:Pr} {d:Int} {x y:Op} (h:VR F p d x=some y) (ha: ∃L e,QN F p x.tour d=some (L,e)∧((e≠0∧L=[])∨(e=0∧OkO p x.tour d L))):IsO p x.tour d y∧y.tour.Stops.length≤40:=by
 obtain ⟨L,e,h1,h2⟩:=ha;unfold VR at h
 rw[h1] at h
 cases L with
 | nil=>cases h
 | cons z M =>
  injection h with h;subst h
  rcases h2 with ⟨_,h2⟩ | ⟨_,h2⟩
  ·cases h2
  ·exact ⟨h2.isO (by simp),h2.stops _ (by simp)⟩
theorem QqE {F:Nat} (hF:40000≤F) {p:Pr} (hn:p.Road.Edges.length≤600) {k:Nat} {s:List Op×List Int} (h:QkT F p k s) (d:Int):Qpr F p d s.1:=fun x hx=>by
 obtain ⟨i,hi⟩:=List.getElem?_of_mem hx;have h1:=h.tour i x hi;obtain ⟨L,e,g1,g2,g3,_⟩:=QaT hF p hn x.tour (by have:=h1.len;omega) d;exact ⟨h1.cost,L,e,g1,g2,g3⟩
theorem QoB {F:Nat} (hF:40000≤F) {p:Pr} (hn:p.Road.Edges.length≤600) {k:Nat} {s:List Op×List Int} (h:QkT F p k s):QkT F p (k+1) (QdD (VR F p k) k s):=by
 have ha:=QqE hF hn h k;unfold QdD;cases hz:VD (VR F p k) s.1 0 none with
 | none =>
  have hno:=QhM _ _ _ hz;refine ⟨h.len,h.tour,fun e=> ?_,fun e he=> ?_,?_,?_,fun e he i x hi hx=> ?_⟩
  ·have:=h.once e
   show cnB s.1 (e:Int)+(s.2++[(k:Int)]).count (e:Int)=_
   rw[List.count_append,List.count_singleton]
   by_cases hek:e=k
   ·subst hek;simp at this ⊢;omega
   ·have h1: ¬(((k:Int)==(e:Int))=true):=by simp;omega
    rw[if_neg h1]
    by_cases h2:e<k
    ·rw[if_pos (by omega)];rw[if_pos h2] at this;omega
    ·rw[if_neg (by omega)];rw[if_neg h2] at this;omega
  ·rcases List.mem_append.1 he with h1 | h1
   ·have:=h.lo e h1;omega
   ·rw[List.mem_singleton.1 h1];omega
  ·refine List.pairwise_append.2 ⟨h.asc,by simp,fun a ha b hb=> ?_⟩
   rw[List.mem_singleton.1 hb];exact (h.lo a ha).2
  ·have:=h.ll;simp;omega
  ·rcases List.mem_append.1 he with h1 | h1
   ·exact h.left e h1 i x hi hx
   ·rw[List.mem_singleton.1 h1];exact hno x (List.mem_of_getElem? hi)
 | some z =>
  obtain ⟨i,x,hi,hzi,hy⟩: ∃i x,s.1[i]? =some x∧z.1=i∧VR F p k x=some z.2.1:=by
   rcases QhN _ _ _ _ _ hz with h1 | ⟨i,x,h1,h2,h3⟩
   ·cases h1
   ·exact ⟨i,x,h1,by omega,h3⟩
  obtain ⟨hcx,L,e,g1,_,g3⟩:=ha x (List.mem_of_getElem? hi);obtain ⟨hO,hl⟩:=QnM hy ⟨L,e,g1,g3⟩;obtain ⟨j,_,hj⟩:=hO.cand;have hx:=h.tour i x hi;have hcount: ∀e:Nat,z.2.1.tour.Stops.count (e:Int)=x.tour.Stops.count (e:Int)+if e=k then 1 else 0:=fun e=>by
   rw[hj]
   show (Jc x.tour.Stops k j).count (e:Int)=_
   rw[QbL _ _ _ (by omega)]
   by_cases h1:e=k
   ·subst h1;simp
   ·rw[if_neg (by omega),if_neg h1]
  have htwo:2≤z.2.1.tour.Stops.length:=by rw[hj];exact Qk7 _ (by omega) _
  have hlast:z.2.1.tour.Stops.getLast? =some (-1):=by rw[hj];exact Qgj _ _ _
  have hg: ∀(j:Nat) (w:Op),(s.1.set z.1 z.2.1)[j]? =some w→(j=i∧w=z.2.1)∨s.1[j]? =some w:=fun j w hw=>by
   rw[List.getElem?_set,hzi] at hw
   split at hw
   ·rename_i h1
    split at hw
    ·injection hw with hw;exact .inl ⟨h1.symm,hw.symm⟩
    ·cases hw
   ·exact .inr hw
  refine ⟨by show (s.1.set _ _).length=_;rw[List.length_set];exact h.len,fun j w hw=> ?_,fun e=> ?_,fun e he=> ?_,h.asc,by have:=h.ll;show s.2.length≤_;omega,fun e he j w hw hws=> ?_⟩
  ·rcases hg j w hw with ⟨rfl,rfl⟩ | h1
   ·exact ⟨by rw[hj];exact hx.veh,hO.cost,hl,fun _=>⟨hO.ok,htwo,hlast⟩⟩
   ·exact h.tour j w h1
  ·have h1:=Ql2 s.1 i x z.2.1 (e:Int) hi;have h2:=h.once e
   rw[hcount e] at h1
   show cnB (s.1.set z.1 z.2.1) (e:Int)+s.2.count (e:Int)=_
   rw[hzi]
   by_cases hek:e=k
   ·subst hek;rw[if_neg (by omega)] at h2;rw[if_pos (by omega)];rw[if_pos rfl] at h1;omega
   ·rw[if_neg hek] at h1
    by_cases h3:e<k
    ·rw[if_pos h3] at h2;rw[if_pos (by omega)];omega
    ·rw[if_neg h3] at h2;rw[if_neg (by omega)];omega
  ·have:=h.lo e he;omega
  ·rcases hg j w hw with ⟨_,rfl⟩ | h1
   ·rw[hws] at htwo;simp at htwo
   ·exact h.left e he j w h1 hws
theorem Qeu {F:Nat} (hF:40000≤F) {p:Pr} (hp:OkP p) (hn:p.Road.Edges.length≤600): ∀k,QkT F p k (Qcl F p k)
 | 0=>Qnb hp
 | k+1=>QoB hF hn (Qeu hF hp hn k)
end Go.Proofs.YthpgjbbjpfiniaaGreat
namespace Go.Proofs.YthpgjbbjpfiniaaGreat
open Go.RowKit
set_option linter.unusedSimpArgs false
set_option linter.unusedVariables false
theorem Qp6 (y:Op):Qc.mk (Qa.mk y.tour.Vehicle y.tour.Stops) y.cost=y:=rfl
theorem Qk5 {F:Nat} (hF:40000≤F) {p:Pr} (hp:OkP p) (hc:Ql p=some 0) (hn:p.Road.Edges.length≤600) (hv:p.Vehicles.length≤1000) (hd:p.Demands.length≤1000) {k:Nat} (hk:k<p.Demands.length) {s:List Op×List Int} (h:QkT F p k s) :
  Wc F p (s.1,s.2,(k:Int))=some (.inl ((QdD (VR F p k) k s).1,(QdD (VR F p k) k s).2,((k+1:Nat):Int))) ∧
  Zf F p (s.1.map ZR,s.2,(k:Int))=some (.inl ((QdD (VR F p k) k s).1.map ZR,(QdD (VR F p k) k s).2,((k+1:Nat):Int))):=by
 have ha:=QqE hF hn h k;have hlen:=h.len;have hll:=h.ll;have h1:((k:Int)<((p.Demands.length:Nat):Int)):=by omega
 have e1:w64 ((k:Int)+1)=((k+1:Nat):Int):=by rw[Ye (by omega) (by omega)];omega
 have q1:=Qd5 (F:=F) (p:=p) (T:=s.1) (d:=k) (by omega) ha s.1 0 none (((s.1.length:Nat):Int).toNat+1) (by simp) (by omega) (by simp) (fun z hz=>by cases hz);have q2:=Qd6 (F:=F) (p:=p) (T:=s.1) (d:=k) hp hc (by omega) ha s.1 0 none (((s.1.length:Nat):Int).toNat+1) (by simp) (by omega) (by simp);have hml:(s.1.map ZR).length=s.1.length:=by simp
 have q1':iter (ZP F p s.1 (k:Int)) (((s.1.length:Nat):Int).toNat+1) (0,[],0,-1,0)=some (Qhh (VD (VR F p k) s.1 0 none)):=q1;have q2':iter (Yq F p (s.1.map ZR) (k:Int)) (((s.1.length:Nat):Int).toNat+1) (-1,0,0,[],0)=some ((QeV (VD (VR F p k) s.1 0 none)).1,(QeV (VD (VR F p k) s.1 0 none)).2.2.1,(QeV (VD (VR F p k) s.1 0 none)).2.2.2):=q2;unfold Wc Zf QdD
 simp only[oun,h1,decide_true,cond_true,hml,q1',q2',Option.bind_some]
 cases hz:VD (VR F p k) s.1 0 none with
 | none =>
  simp only[Qhh,QeV,show decide ((-1:Int)<0)=true from rfl,cond_true,e1,Option.bind_some]
  rw[Yh (by simp;omega)]
  exact ⟨rfl,rfl⟩
 | some z =>
  obtain ⟨i,x,hi,hzi⟩: ∃i x,s.1[i]? =some x∧z.1=i:=by
   rcases QhN _ _ _ _ _ hz with h1 | ⟨i,x,h1,h2,h3⟩
   ·cases h1
   ·exact ⟨i,x,h1,by omega⟩
  have hz0: ¬(((z.1:Nat):Int)<0):=by omega
  have g1:s.1[z.1]? =some x:=by rw[hzi];exact hi
  have g2:(s.1.map ZR)[z.1]? =some x.tour:=by rw[List.getElem?_map,g1];rfl
  simp only[Qhh,QeV,hz0,decide_false,cond_false,Qq,g1,g2,Option.bind_some,e1,Yg,Int.toNat_natCast,Qp6]
  first | exact ⟨rfl,by rw[List.map_set]⟩ | simp[List.map_set]
theorem Qg7 {F:Nat} (hF:40000≤F) {p:Pr} (hp:OkP p) (hc:Ql p=some 0) (hn:p.Road.Edges.length≤600) (hv:p.Vehicles.length≤1000) (hd:p.Demands.length≤1000): ∀(r k f:Nat),k+r=p.Demands.length→r<f →
  iter (Wc F p) f ((Qcl F p k).1,(Qcl F p k).2,(k:Int))=some (Qcl F p p.Demands.length) ∧
  iter (Zf F p) f ((Qcl F p k).1.map ZR,(Qcl F p k).2,(k:Int))=some ((Qcl F p p.Demands.length).1.map ZR,(Qcl F p p.Demands.length).2)
 | _,_,0,_,h=>by omega
 | 0,k,f+1,hk,_=>by
  have:k=p.Demands.length:=by omega
  subst this
  simp only[iter,Wc,Zf,oun,Int.lt_irrefl,decide_false,cond_false,Option.bind_some,QD]
  first | exact ⟨rfl,rfl⟩ | exact ⟨trivial,trivial⟩ | simp
 | r+1,k,f+1,hk,hf=>by
  obtain ⟨h1,h2⟩:=Qk5 hF hp hc hn hv hd (by omega) (Qeu hF hp hn k);obtain ⟨i1,i2⟩:=Qg7 hF hp hc hn hv hd r (k+1) f (by omega) (by omega)
  simp only[iter,h1,h2,Option.bind_some,QD]
  exact ⟨i1,i2⟩
def QaY (T:List Op):List Qa:=(T.map ZR).filter fun t=>decide (0<t.Stops.length)
theorem Qh7 (T:List Op) (x:Op):QaY (T++[x])=QaY T++if 0<x.tour.Stops.length then [x.tour] else []:=by
 unfold QaY
 rw[List.map_append,List.filter_append]
 by_cases h:0<x.tour.Stops.length
 ·simp[h]
 ·simp[h]
theorem Qex (T:List Op):(QaY T).length≤T.length:=by
 unfold QaY;refine Nat.le_trans (List.length_filter_le _ _) (by simp)
theorem Qnc (T:List Op) (hT:T.length≤1000) :
  iter (W2 T) (((T.length:Nat):Int).toNat+1) ([],0)=some (QaY T) ∧
  iter (Z5 (T.map ZR)) ((((T.map ZR).length:Nat):Int).toNat+1) ([],0)=some (QaY T):=by
 have hml:(T.map ZR).length=T.length:=by simp
 constructor
 ·have:=YE (body:=W2 T) T (fun k=>QaY (T.take k)) (fun m k=>(m,k)) (fun _ _=>none) (QaY T) (by omega) (fun k x hx _=> ?_) (fun _=>by simp only[W2,oun,List.take_length];simp) (((T.length:Nat):Int).toNat+1) (by simp)
  ·rw[QO _ _ (fun _ _ _=>rfl)] at this
   exact this
  ·have hk:=Qr hx;have hk2:((k:Int)<(T.length:Nat)):=by omega
   have hul:=Qex (T.take k)
   rw[Yi (Nat.le_of_lt hk)] at hul
   simp only[W2,oun,hk2,decide_true,cond_true,Qq,hx,Option.bind_some,Zj]
   rw[Yz hx,Qh7]
   by_cases h:0<x.tour.Stops.length
   ·have h':(0:Int)<((x.tour.Stops.length:Nat):Int):=by omega
    simp only[h,h',decide_true,cond_true,if_true]
    rw[Yh (by simp;omega)]
    rfl
   ·have h': ¬(0:Int)<((x.tour.Stops.length:Nat):Int):=by omega
    simp only[h,h',decide_false,cond_false,if_false,List.append_nil,Option.bind_some]
 ·have:=YE (body:=Z5 (T.map ZR)) T (fun k=>QaY (T.take k)) (fun m k=>(m,k)) (fun _ _=>none) (QaY T) (by omega) (fun k x hx _=> ?_) (fun _=>by simp only[Z5,oun,List.take_length,hml];simp) (((T.length:Nat):Int).toNat+1) (by simp)
  ·rw[QO _ _ (fun _ _ _=>rfl)] at this
   rw[hml]
   exact this
  ·have hk:=Qr hx;have hk2:((k:Int)<(T.length:Nat)):=by omega
   have hul:=Qex (T.take k)
   rw[Yi (Nat.le_of_lt hk)] at hul
   have hx2:(T.map ZR)[k]? =some x.tour:=by rw[List.getElem?_map,hx];rfl
   simp only[Z5,oun,hml,hk2,decide_true,cond_true,Qq,hx2,Option.bind_some,Zj]
   rw[Yz hx,Qh7]
   by_cases h:0<x.tour.Stops.length
   ·have h':(0:Int)<((x.tour.Stops.length:Nat):Int):=by omega
    simp only[h,h',decide_true,cond_true,if_true]
    rw[Yh (by simp;omega)]
    rfl
   ·have h': ¬(0:Int)<((x.tour.Stops.length:Nat):Int):=by omega
    simp only[h,h',decide_false,cond_false,if_false,List.append_nil,Option.bind_some]
theorem QlN (n:Nat) (hn:n≤1000): ∃l,QbF (Qc.mk (Qa.mk 0 []) 0) ((n:Nat):Int)=some l∧l.length=n∧iter (W1 l) (((l.length:Nat):Int).toNat+1) (l,0)=some (JY n):=by
 have hm:QbF (Qc.mk (Qa.mk 0 []) 0) ((n:Nat):Int)=some (List.replicate n (Qc.mk (Qa.mk 0 []) 0)):=by
  unfold QbF
  rw[if_pos (by omega),Int.toNat_natCast]
 refine ⟨_,hm,by simp,?_⟩
 generalize hl:List.replicate n (Qc.mk (Qa.mk 0 []) 0)=l
 have hln:l.length=n:=by rw[←hl];simp
 have:=YE (body:=W1 l) l (fun k=>JY k++l.drop k) (fun m k=>(m,k)) (fun _ _=>none) (JY n) (by omega) (fun k x hx _=> ?_) (fun _=>by simp only[W1,oun,hln];simp[List.drop_of_length_le (Nat.le_of_eq hln)]) (((l.length:Nat):Int).toNat+1) (by simp)
 ·rw[QO _ _ (fun _ _ _=>rfl)] at this
  simpa [JY] using this
 ·have hk:=Qr hx;have hk2:((k:Int)<(l.length:Nat)):=by omega
  have hx0:x=⟨⟨0,[]⟩,0⟩:=by
   rw[←hl,List.getElem?_replicate] at hx
   split at hx
   ·injection hx with hx;exact hx.symm
   ·cases hx
  have hsl:(JY k).length=k:=by simp[JY]
  have hdr:l.drop k=x::l.drop (k+1):=by
   rw[List.drop_eq_getElem_cons hk]
   congr 1
   rw[List.getElem?_eq_getElem hk] at hx
   injection hx
  have hg:(JY k++l.drop k)[k]? =some x:=by
   rw[List.getElem?_append_right (by omega),hsl,Nat.sub_self,hdr];rfl
  simp only[W1,oun,hk2,decide_true,cond_true,Qq,hg,Option.bind_some,Zj,Yg,Int.toNat_natCast]
  rw[List.set_append_right _ _ (by omega),hsl,Nat.sub_self,hdr,List.set_cons_zero]
  have:JY (k+1)=JY k++[⟨⟨(k:Int),[]⟩,0⟩]:=by simp[JY,List.range_succ]
  rw[this,hx0]
  simp
theorem QlO {p:Pr} (hv:p.Vehicles.length≤1000):iter (Z4 p) (((p.Vehicles.length:Nat):Int).toNat+1) ([],0)=some ((JY p.Vehicles.length).map ZR):=by
 have:=YE (body:=Z4 p) p.Vehicles (fun k=>(JY k).map ZR) (fun m k=>(m,k)) (fun _ _=>none) ((JY p.Vehicles.length).map ZR) (by omega) (fun k x hx _=> ?_) (fun _=>by simp only[Z4,oun];simp) (((p.Vehicles.length:Nat):Int).toNat+1) (by simp)
 ·rw[QO _ _ (fun _ _ _=>rfl)] at this
  exact this
 ·have hk:=Qr hx;have hk2:((k:Int)<(p.Vehicles.length:Nat)):=by omega
  simp only[Z4,oun,hk2,decide_true,cond_true,Zj]
  have:JY (k+1)=JY k++[⟨⟨(k:Int),[]⟩,0⟩]:=by simp[JY,List.range_succ]
  rw[Yh (by simp[JY];omega),this,List.map_append]
  rfl
def QbG (F:Nat) (p:Pr):Qg:=⟨QaY (Qcl F p p.Demands.length).1,(Qcl F p p.Demands.length).2⟩
theorem Qk4 {F:Nat} (hF:40000≤F) (p:Pr) (hn:p.Road.Edges.length≤600) (hv:p.Vehicles.length≤1000) (hd:p.Demands.length≤1000) :
  ∃e,Ql p=some e∧((e≠0∧V7 F p=some (⟨[],[]⟩,e)∧V4 F p=some (⟨[],[]⟩,e))∨(e=0∧OkP p∧V7 F p=some (QbG F p,0)∧V4 F p=some (QbG F p,0))):=by
 unfold V7 V4
 rw[Zo (by omega) p hn]
 rcases Qcm p hn with ⟨h1,h2⟩ | ⟨e,h1,h2⟩
 ·refine ⟨0,h1,.inr ⟨rfl,h2,?_⟩⟩;obtain ⟨l,q1,q2,q3⟩:=QlN p.Vehicles.length hv;obtain ⟨b1,b2⟩:=Qg7 hF h2 h1 hn hv hd p.Demands.length 0 (((p.Demands.length:Nat):Int).toNat+1) (by omega) (by simp);have hr:=(Qeu hF h2 hn p.Demands.length).len;obtain ⟨u1,u2⟩:=Qnc (Qcl F p p.Demands.length).1 (by omega);have b1':iter (Wc F p) (((p.Demands.length:Nat):Int).toNat+1) (JY p.Vehicles.length,[],0)=some (Qcl F p p.Demands.length):=b1;have b2':iter (Zf F p) (((p.Demands.length:Nat):Int).toNat+1) ((JY p.Vehicles.length).map ZR,[],0)=some ((Qcl F p p.Demands.length).1.map ZR,(Qcl F p p.Demands.length).2):=b2
  rw[h1]
  simp only[Option.bind_some,decide_true,Bool.not_true,cond_false,q1,q3,QlO hv,b1',b2',oun,u1,u2]
  exact ⟨rfl,rfl⟩
 ·refine ⟨e,h2,.inl ⟨h1,?_⟩⟩
  rw[h2]
  simp only[Option.bind_some]
  rw[show decide (e=0)=false by simpa using h1]
  exact ⟨rfl,rfl⟩
theorem QkP {T:List Op} {t:Qa} (h:t∈QaY T): ∃(i:Nat) (x:Op),T[i]? =some x∧x.tour=t∧t.Stops≠[]:=by
 obtain ⟨h1,h2⟩:=List.mem_filter.1 h;obtain ⟨x,h3,rfl⟩:=List.mem_map.1 h1;obtain ⟨i,hi⟩:=List.getElem?_of_mem h3;refine ⟨i,x,hi,rfl,fun h=> ?_⟩;have:=of_decide_eq_true h2
 rw[h] at this
 simp at this
theorem Qlq {F:Nat} (hF:40000≤F) {p:Pr} (hp:OkP p) (hn:p.Road.Edges.length≤600):(QbG F p).Tours.length≤p.Vehicles.length∧(QbG F p).Left.length≤p.Demands.length∧ ∀t∈(QbG F p).Tours,t.Stops.length≤40:=by
 have h:=Qeu hF hp hn p.Demands.length;refine ⟨by rw[←h.len];exact Qex _,h.ll,fun t ht=> ?_⟩;obtain ⟨i,x,h1,rfl,_⟩:=QkP ht;exact (h.tour i x h1).len
end Go.Proofs.YthpgjbbjpfiniaaGreat
namespace Go.Proofs.YthpgjbbjpfiniaaGreat
open Go.RowKit
set_option linter.unusedSimpArgs false
set_option linter.unusedVariables false
theorem Qmt (d:Nat): ∀(T:List Op),tn (QaY T) d=cnB T (d:Int)
 | []=>rfl
 | x::T=>by
  have ih:=Qmt d T;unfold QaY tn at ih ⊢;unfold cnB at ih ⊢
  rw[List.map_cons,List.filter_cons,List.map_cons,List.sum_cons,←ih]
  by_cases h:0<x.tour.Stops.length
  ·simp[ZR,h,cn]
  ·have:x.tour.Stops=[]:=List.eq_nil_of_length_eq_zero (by omega)
   simp[ZR,this]
theorem QoF {F:Nat} {p:Pr} {k:Nat} {s:List Op×List Int} (h:QkT F p k s):(QaY s.1).Pairwise fun a b=>a.Vehicle<b.Vehicle:=by
 unfold QaY;refine List.Pairwise.sublist List.filter_sublist ?_
 rw[List.pairwise_map,List.pairwise_iff_getElem]
 intro i j hi hj hij;have h1:=(h.tour i _ (List.getElem?_eq_getElem hi)).veh;have h2:=(h.tour j _ (List.getElem?_eq_getElem hj)).veh
 show s.1[i].tour.Vehicle<s.1[j].tour.Vehicle
 rw[h1,h2];omega
theorem QcP {p:Pr} {t:Qa} (h:(Yv p t).2=0): ∃u,J8 p t= .inl u:=by
 unfold Yv at h;cases hr:J8 p t with
 | inl u=>exact ⟨u,rfl⟩
 | inr q=>rw[hr] at h;exact absurd h (V9 hr)
theorem Qmk {F:Nat} (hF:40000≤F) {p:Pr} (hn:p.Road.Edges.length≤600) (hp:OkP p) (hc:Ql p=some 0) (x:Qg) (hx:x.Tours.length≤30) (hl:x.Left.length≤100)
  (ha:x.Tours.Pairwise fun a b=>a.Vehicle<b.Vehicle) (ht: ∀t∈x.Tours,(Yv p t).2=0) (hb: ∀e∈x.Left,0≤e∧e<((p.Demands.length:Nat):Int)) (h1: ∀d,d<p.Demands.length→tn x.Tours d+cn x.Left d=1) :
  Y4 F p x=some (Y5 p x.Tours,0):=by
 have hdl:=hp.dl;have hbad: ∀(k:Nat) (t:To),x.Tours[k]? =some t→QcL p x.Tours k t=none:=fun k t hk=>by
  obtain ⟨u,hu⟩:=QcP (ht t (List.mem_of_getElem? hk));have hany:(x.Tours.take k).any (fun u=>decide (u.Vehicle=t.Vehicle))=false:=by
   rw[List.any_eq_false]
   intro y hy he;obtain ⟨j,hj⟩:=List.getElem?_of_mem hy;have hjk:=Qr hj;have hkl:=Qr hk
   rw[Yi (Nat.le_of_lt hkl)] at hjk
   rw[List.getElem?_take,if_pos hjk] at hj
   have:=List.pairwise_iff_getElem.1 ha j k (by omega) hkl hjk
   rw[List.getElem?_eq_getElem (by omega)] at hj hk
   injection hj with hj
   injection hk with hk
   rw[hj,hk,of_decide_eq_true he] at this
   omega
  unfold QcL
  rw[hany,hu]
  rfl
 have hall: ∀t∈x.Tours,(∀s∈t.Stops,okS p.Demands.length s)∧t.Stops.length≤40:=fun t htm=>by
  obtain ⟨u,hu⟩:=QcP (ht t htm);exact (Vt hp hu).2.2
 have q1:=Qes hF hp x hx
 rw[QO _ _ (fun i t hi=>by rw[Nat.zero_add,hbad i t hi];rfl)] at q1
 have q3:=(QcW (n:=p.Demands.length) x (fun _=>0) (by omega) (fun _=>Nat.zero_le _)).1;have q4:=(Qcg (n:=p.Demands.length) x (fun d=>0+cn x.Left d) (by omega) (fun d=>by have:=Qiv x.Left d;omega) (fun t htm=>by have:=(hall t htm).2;omega) (fun t htm=>(hall t htm).1)).1;have hbl:QeP p.Demands.length x.Left=false:=by
  unfold QeP
  rw[List.any_eq_false]
  intro e he;have:=hb e he
  simp;omega
 have hv:(vec p.Demands.length fun d=>0+cn x.Left d+tn x.Tours d)=vec p.Demands.length fun _=>1:=QbW fun d hd=>by have:=h1 d hd;omega
 rw[hv] at q4
 rw[hbl] at q3
 have hmem: ∀c∈vec p.Demands.length (fun _=>1),c=(1:Int):=fun c hc=>by
  unfold vec at hc;obtain ⟨j,_,rfl⟩:=List.mem_map.1 hc
  rfl
 have a1:(vec p.Demands.length (fun _=>1)).any (fun c=>decide (1<c))=false:=by
  rw[List.any_eq_false];intro c hc;rw[hmem c hc];decide
 have a2:(vec p.Demands.length (fun _=>1)).any (fun c=>decide (c=0))=false:=by
  rw[List.any_eq_false];intro c hc;rw[hmem c hc];decide
 unfold Y4
 rw[Zo (by omega) _ hn,hc]
 simp only[Option.bind_some,decide_true,Bool.not_true,cond_false]
 rw[q1]
 simp only[Option.bind_some,QD]
 rw[QdW _ (by omega)]
 simp only[Option.bind_some]
 rw[q3]
 simp only[cond_false,Option.bind_some,QD]
 rw[q4]
 simp only[Option.bind_some]
 rw[QgT _ (by rw[VA];omega),QgX _ (by rw[VA];omega),a1,a2]
 rfl
theorem Qoa {F:Nat} (hF:40000≤F) {p:Pr} (hn:p.Road.Edges.length≤600) (hv:p.Vehicles.length≤30) (hp:OkP p) (hc:Ql p=some 0):Y4 F p (QbG F p)=some (Y5 p (QbG F p).Tours,0):=by
 have h:=Qeu hF hp hn p.Demands.length;obtain ⟨l1,l2,l3⟩:=Qlq hF hp hn;have hdl:=hp.dl;refine Qmk hF hn hp hc _ (by omega) (by omega) (QoF h) (fun t ht=> ?_) h.lo (fun d hd=> ?_)
 ·obtain ⟨i,x,g1,rfl,g2⟩:=QkP ht;exact ((h.tour i x g1).full g2).1
 ·have:=h.once d
  rw[if_pos hd] at this
  show tn (QaY _) d+cn _ d=1
  rw[Qmt]
  exact this
end Go.Proofs.YthpgjbbjpfiniaaGreat
namespace Go.Proofs.YthpgjbbjpfiniaaGreat
open Go.RowKit
set_option linter.unusedSimpArgs false
set_option linter.unusedVariables false
theorem QdP {p:Pr} {v:Ve} (b:List Int): ∀(a pre:List Int) (x:Vi),Vo p v pre (a++b) x=match Vo p v pre a x with
  | .inr q=> .inr q
  | .inl z=>match Vo p v (pre++a) b z.1 with
   | .inr q=> .inr q
   | .inl z2=> .inl (z2.1,z.2++z2.2)
 | [],pre,x=>by
  simp only[List.nil_append,Vo,List.append_nil]
  cases Vo p v pre b x<;>rfl
 | s::a,pre,x=>by
  simp only[List.cons_append,Vo]
  cases VF p v pre x s with
  | inr e=>rfl
  | inl y =>
   simp only[]
   rw[QdP b a (pre++[s]) y]
   cases Vo p v (pre++[s]) a y with
   | inr q=>rfl
   | inl z =>
    simp only[List.append_assoc,List.singleton_append]
    cases Vo p v (pre++s::a) b z.1<;>rfl
theorem QoE {p:Pr} {t:Qa} {v:Ve} (h0:0≤t.Vehicle) (h1:t.Vehicle<((p.Vehicles.length:Nat):Int)) (hv:getI p.Vehicles t.Vehicle=some v) (hs:t.Stops.length≤40) :
  J8 p t=match Vo p v [] t.Stops (x0 v) with
   | .inr q=> .inr (q.1,((q.2:Nat):Int))
   | .inl z=>match VX p v z.1 with
    | .inr e=> .inr (e,((t.Stops.length:Nat):Int))
    | .inl y=> .inl (z.1,z.2++[y],v):=by
 unfold J8
 rw[if_neg (by omega),if_neg (by omega)]
 unfold getI at hv
 rw[if_pos h0] at hv
 rw[hv]
 rfl
end Go.Proofs.YthpgjbbjpfiniaaGreat
