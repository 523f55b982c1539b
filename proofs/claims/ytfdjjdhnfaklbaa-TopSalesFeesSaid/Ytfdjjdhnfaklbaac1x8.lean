/- TopSalesFees: for every input the given law returns true, and its arguments read as before. No condition. -/
import Derived.Test.Ytfdjjdhnfaklbaac1x3
import Derived.Test.Ytfdjjdhnfaklbaac1x7
import Derived.Test.Ytfdjjdhnfaklbaac1x2
import Derived.Test.Ytfdjjdhnfaklbaac1x1
import Derived.ProofKit
import Derived.Below
import Derived.ChangeSame
import Derived.Carry
import Derived.WideKeyArgs
import Derived.Deep.Slices
import Derived.Deep.Fields
import Derived.OpenShut
import Derived.Test.YtfdjjdhnfaklbaaRows
import Derived.Test.Ytfdjjdhnfaklbaac1x6
namespace Go.Proofs.Ytfdjjdhnfaklbaa
set_option linter.unusedSimpArgs false
set_option linter.unusedVariables false
theorem QhJ: ∀n:Nat,n<13→(J3 (IntKind.u64.wrap ((n:Nat):Int))).isSome=true:=by decide +kernel
theorem QfX (n:Nat) (hn:n≤12): ∃z,J3 (IntKind.u64.wrap ((n:Nat):Int))=some z:=Option.isSome_iff_exists.1 (QhJ n (by omega))
theorem QbN {n:Nat} (h:n≤12):w64 ((n:Int)-0)=n:=by rw[Q9 (by omega) (by omega)];omega
section
variable {F:Nat} (hF:1000≤F)
include hF
theorem QhP {L:List Qa} (hn:L.length≤12) (hp: ∀x∈L,0≤x.Producer∧x.Producer<32) :
  ∃L',Q4 F L=some L'∧Srt (fun x:Qa=>x.Producer) L'∧Yc (fun x:Qa=>x.Producer) L L':=by
 obtain ⟨z,hz⟩:=QfX L.length hn;obtain ⟨M,m1,m2,m3⟩:=V6 (α:=Qa) (cmp:=WK) (k:=fun x=>x.Producer) (Pv:=fun x=>0≤x.Producer∧x.Producer<32) (fun x y hx hy=>⟨_,rfl,by rw[Q9 (by omega) (by omega)];omega⟩) (a:=0) (b:=L.length) (F:=F) (A:=[]) (M:=L) (B:=[]) rfl (by omega) (by omega) (by omega) hp
 rw[List.append_nil,List.append_nil,List.nil_append,List.nil_append] at m1
 refine ⟨M,?_,m2,m3⟩;unfold Q4
 rw[hz,Option.bind_some]
 unfold QZ;obtain ⟨f,rfl⟩: ∃f,F=f+1:=⟨F-1,by omega⟩
 have e:QR (f+1) L 0 (L.length:Int) ()=some (.inr M):=by
  unfold QR
  rw[QbN hn,show decide (((L.length:Nat):Int)≤12)=true from decide_eq_true (by omega),cond_true]
  have m1':QJ (f+1) L 0 (L.length:Int)=some M:=m1
  rw[m1',Option.bind_some]
 simp only[iter,e,Option.bind_some,Yl]
theorem Qgk {L:List Qa} (hn:L.length≤12) (hp: ∀x∈L,(0≤x.Producer∧x.Producer<32)∧0≤x.Material∧x.Material<16) :
  ∃L',QG F L=some L'∧Srt (fun x:Qa=>x.Producer*16+x.Material) L'∧Yc (fun x:Qa=>x.Producer*16+x.Material) L L':=by
 obtain ⟨z,hz⟩:=QfX L.length hn;obtain ⟨M,m1,m2,m3⟩:=V6 (α:=Qa) (cmp:=ZK) (k:=fun x=>x.Producer*16+x.Material) (Pv:=fun x=>(0≤x.Producer∧x.Producer<32)∧0≤x.Material∧x.Material<16) (fun x y hx hy=>by
  unfold ZK
  by_cases h:x.Producer=y.Producer
  ·refine ⟨_,by rw[decide_eq_true h];rfl,?_⟩
   rw[Q9 (by omega) (by omega)];omega
  ·refine ⟨_,by rw[decide_eq_false h];rfl,?_⟩
   rw[Q9 (by omega) (by omega)];omega) (a:=0) (b:=L.length) (F:=F) (A:=[]) (M:=L) (B:=[]) rfl (by omega) (by omega) (by omega) hp
 rw[List.append_nil,List.append_nil,List.nil_append,List.nil_append] at m1
 refine ⟨M,?_,m2,m3⟩;unfold QG
 rw[hz,Option.bind_some]
 unfold QY;obtain ⟨f,rfl⟩: ∃f,F=f+1:=⟨F-1,by omega⟩
 have e:QQ (f+1) L 0 (L.length:Int) ()=some (.inr M):=by
  unfold QQ
  rw[QbN hn,show decide (((L.length:Nat):Int)≤12)=true from decide_eq_true (by omega),cond_true]
  have m1':QI (f+1) L 0 (L.length:Int)=some M:=m1
  rw[m1',Option.bind_some]
 simp only[iter,e,Option.bind_some,Yl]
theorem QhQ {L:List Qf} (hn:L.length≤12) (hp: ∀x∈L,(0≤x.Producer∧x.Producer<32)∧0≤x.Material∧x.Material<16) :
  ∃L',Yz F L=some L'∧L.Perm L':=by
 obtain ⟨z,hz⟩:=QfX L.length hn;obtain ⟨M,m1,m2,m3⟩:=V6 (α:=Qf) (cmp:=JO) (k:=fun x=>x.Producer*16+x.Material) (Pv:=fun x=>(0≤x.Producer∧x.Producer<32)∧0≤x.Material∧x.Material<16) (fun x y hx hy=>by
  unfold JO
  by_cases h0:x=y
  ·subst h0;exact ⟨0,by simp,by omega⟩
  rw[decide_eq_false h0,cond_false]
  by_cases h:x.Producer=y.Producer
  ·refine ⟨_,by rw[decide_eq_true h];rfl,?_⟩
   rw[Q9 (by omega) (by omega)];omega
  ·refine ⟨_,by rw[decide_eq_false h];rfl,?_⟩
   rw[Q9 (by omega) (by omega)];omega) (a:=0) (b:=L.length) (F:=F) (A:=[]) (M:=L) (B:=[]) rfl (by omega) (by omega) (by omega) hp
 rw[List.append_nil,List.append_nil,List.nil_append,List.nil_append] at m1
 refine ⟨M,?_,m3.perm⟩;unfold Yz
 rw[hz,Option.bind_some]
 unfold Yh;obtain ⟨f,rfl⟩: ∃f,F=f+1:=⟨F-1,by omega⟩
 have e:Q5 (f+1) L 0 (L.length:Int) ()=some (.inr M):=by
  unfold Q5
  rw[QbN hn,show decide (((L.length:Nat):Int)≤12)=true from decide_eq_true (by omega),cond_true]
  have m1':QT (f+1) L 0 (L.length:Int)=some M:=m1
  rw[m1',Option.bind_some]
 simp only[iter,e,Option.bind_some,Yl]
end
end Go.Proofs.Ytfdjjdhnfaklbaa
namespace Go.Proofs.Ytfdjjdhnfaklbaa
set_option linter.unusedSimpArgs false
set_option linter.unusedVariables false
theorem Qbf {α:Type} {k:α→Int} (c:Int): ∀{l:List α},(l.map k).Nodup→(l.filter (fun x=>decide (k x=c))).length≤1
 | [],_=>by simp
 | a::l,h=>by
  simp only[List.map_cons,List.nodup_cons] at h
  by_cases ha:k a=c
  ·have:l.filter (fun x=>decide (k x=c))=[]:=List.filter_eq_nil_iff.2 fun x hx hc=>h.1 (by rw[ha,←of_decide_eq_true hc];exact List.mem_map_of_mem hx)
   simp[List.filter_cons,ha,this]
  ·simp only[List.filter_cons,ha,decide_false]
   exact Qbf c h.2
theorem QcY {α:Type} {k:α→Int} {a b:List α} (hp:a.Perm b) (hn:(a.map k).Nodup):Yc k a b:=by
 refine ⟨hp,fun c=> ?_⟩;have h1:=hp.filter (fun x=>decide (k x=c));have h2:=Qbf (k:=k) c hn
 generalize a.filter (fun x=>decide (k x=c))=u at h1 h2
 generalize b.filter (fun x=>decide (k x=c))=v at h1
 cases u with
 | nil=>exact (List.nil_perm.1 h1).symm
 | cons x u =>
  cases u with
  | nil=>exact List.singleton_perm.1 h1
  | cons y u=>simp at h2
def Jy (q:Qk×Int):Qa:=Qa.mk q.1.producer q.1.material q.2
def QhN (x:Qa):Int:=x.Producer*16+x.Material
structure PlR (ps:List Ql) (l:List Qz) (r:List Qa):Prop where
 len:r.length≤12
 src: ∀x∈r,∃s∈l,∃q,Qp ps s.Product=some q∧q.Producer=x.Producer∧q.Material=x.Material
 rng: ∀x∈r,(0≤x.Producer∧x.Producer<32)∧0≤x.Material∧x.Material<16
 gr: ∀x∈r,0≤x.Grams∧x.Grams≤200000000
 ok: ∀s∈l,∃q,Qp ps s.Product=some q
theorem Qdm {α:Type} {l:List α} {i:Int} {x:α} (h:Qp l i=some x):x∈l:=by
 unfold Qp at h
 split at h
 ·exact List.mem_of_getElem? h
 ·cases h
theorem QeU {F:Nat} (hF:2000≤F) {ps:List Ql} {l:List Qz} (hps:ps.length≤12) (hl:l.length≤20) :
  ∃r e,Je F ps l (ZC.mk 0 3155760000)=some (r,e)∧(e=0→PlR ps l r):=by
 unfold Je
 rw[decide_eq_false (show ¬(0:Int)<0 by decide),cond_false,decide_eq_false (show ¬(3155760000:Int)<0 by decide),cond_false,decide_eq_false (show ¬(3155760000:Int)<3155760000 by decide),Option.bind_some,cond_false,decide_eq_false (show ¬512<((l.length:Nat):Int) by omega),cond_false]
 obtain ⟨o,e1,q1⟩:=Qe7 (ps:=ps) (l:=l) (w:=ZC.mk 0 3155760000) (by omega)
 rw[e1,Option.bind_some]
 rcases q1 with ⟨m,rfl,hI⟩ | ⟨e,rfl,he⟩
 case inr=>exact ⟨[],e,rfl,fun h=>absurd h he⟩
 simp only[Yl]
 have hm12:m.length≤12:=by
  have h1:=VD (l:=m.map Prod.fst) (m:=ps.map fun q=>Qk.mk q.Producer q.Material) hI.nd (fun x hx=>by
   obtain ⟨p,hp,rfl⟩:=List.mem_map.1 hx;obtain ⟨s,_,q,hq,e⟩:=(hI.key p hp).src
   rw[e]
   exact List.mem_map.2 ⟨q,Qdm hq,rfl⟩)
  rw[List.length_map,List.length_map] at h1
  omega
 rw[YG (show m.length≤512 by omega),Option.bind_some]
 have rng: ∀p:List (Qk×Int),p.Perm m→ ∀x∈p.map Jy,(0≤x.Producer∧x.Producer<32)∧0≤x.Material∧x.Material<16:=fun p hp x hx=>by
  obtain ⟨q,hq,rfl⟩:=List.mem_map.1 hx;have hk:=hI.key q (hp.subset hq);exact ⟨⟨hk.p0,hk.p1⟩,hk.m0,hk.m1⟩
 obtain ⟨M,m1,m2,m3⟩:=Qgk (F:=F) (by omega) (L:=m.map Jy) (by simpa using hm12) (rng m (.refl _));have hnd:((m.map Jy).map QhN).Nodup:=by
  rw[List.map_map]
  refine List.pairwise_map.2 ?_;have h2:=List.pairwise_map.1 hI.nd;refine List.Pairwise.imp_of_mem ?_ h2;intro a b ha hb hne hk;apply hne;have ka:=hI.key a ha;have kb:=hI.key b hb;have h3:a.1.producer*16+a.1.material=b.1.producer*16+b.1.material:=hk;have:=ka.p0;have:=ka.p1;have:=ka.m0;have:=ka.m1;have:=kb.p0;have:=kb.p1;have:=kb.m0;have:=kb.m1;have e1:a.1.producer=b.1.producer:=by omega
  have e2:a.1.material=b.1.material:=by omega
  cases ha1:a.1;cases hb1:b.1
  rw[ha1,hb1] at e1 e2
  simp only at e1 e2
  rw[e1,e2]
 have all: ∀p:List (Qk×Int),p.Perm m→(Option.bind (QG F (p.map Jy)) fun r3=>some (r3,(0:Int)))=some (M,0):=by
  intro p hp;obtain ⟨M',n1,n2,n3⟩:=Qgk (F:=F) (by omega) (L:=p.map Jy) (by rw[List.length_map,hp.length_eq];exact hm12) (rng p hp);have hst:Yc QhN (m.map Jy) (p.map Jy):=QcY (hp.symm.map Jy) hnd;have:M'=M:=Srt.unique (k:=QhN) n2 m2 ((n3.symm.trans hst.symm).trans m3)
  rw[n1,this];rfl
 refine ⟨M,0,?_,fun _=> ?_⟩
 ·have h:=Qgz (m:=m) (f:=fun p=>Option.bind (QG F (p.map Jy)) fun r3=>some (r3,(0:Int))) all;exact h
 ·have hmem: ∀x∈M,∃q∈m,x=Jy q:=fun x hx=>by
   obtain ⟨q,hq,e⟩:=List.mem_map.1 (m3.perm.symm.subset hx);exact ⟨q,hq,e.symm⟩
  refine ⟨by rw[←m3.perm.length_eq,List.length_map];exact hm12,fun x hx=> ?_,fun x hx=>rng m (.refl _) x (m3.perm.symm.subset hx),fun x hx=> ?_,fun s hs=>hI.ok s (by rw[List.take_length];exact hs)⟩
  ·obtain ⟨q,hq,rfl⟩:=hmem x hx;obtain ⟨s,hs,q',h1,h2⟩:=(hI.key q hq).src;refine ⟨s,hs,q',h1,?_,?_⟩<;>simp[Jy,h2]
  ·obtain ⟨q,hq,rfl⟩:=hmem x hx;have:=hI.val q hq
   show 0≤q.2∧q.2≤200000000
   omega
end Go.Proofs.Ytfdjjdhnfaklbaa
namespace Go.Proofs.Ytfdjjdhnfaklbaa
set_option linter.unusedSimpArgs false
set_option linter.unusedVariables false
def grp (l:List Qa) (k:Int):List Qa:=l.filter fun x=>decide (x.Material=k)
theorem Qeh (k j:Int) (g:List Qa) (m:List (Int×Option (List Qa))):Z0 j (Wb k (some g) m)=if j=k then some g else Z0 j m:=by
 unfold Z0
 by_cases h:j=k
 ·subst h;rw[Qbz,if_pos rfl]
 ·rw[QcP h,if_neg h]
theorem Qaa {α:Type} {k j:Int} (h:j≠k): ∀m:List (Int×Option (List α)),YY j (W4 k m)=YY j m
 | []=>rfl
 | p::m=>by
  unfold W4
  by_cases hp:p.1=k
  ·rw[if_pos hp]
   simp only[YY]
   rw[if_neg (fun e=>h e.symm),if_neg (fun e=>h (e.symm.trans hp))]
  ·rw[if_neg hp]
   simp only[YY]
   rw[Qaa h m]
theorem QbL {k j:Int} (h:j≠k) (m:List (Int×Option (List Qa))):Z0 j (W4 k m)=Z0 j m:=by
 unfold Z0;rw[Qaa h]
theorem QgC {l:List Qa} (hn:l.length≤512) :
  ∃m,iter (Jl l) (((l.length:Nat):Int).toNat+1) ([],0)=some m∧ ∀k,Z0 k m=some (grp l k):=by
 obtain ⟨
     o,e,h⟩:=YL l (fun (m:List (Int×Option (List Qa))) k=>(m,k)) (body:=Jl l) (fun m i=> ∀k,Z0 k m=some (grp (l.take i) k)) (fun m=> ∀k,Z0 k m=some (grp l k))
  (by
   intro i x m hx hI;have hk:=QF hx;have hlen:(grp (l.take i) x.Material).length≤i:=by
    have:=List.length_filter_le (fun y:Qa=>decide (y.Material=x.Material)) (l.take i)
    rw[WL (by omega)] at this
    exact this
   refine .inl ⟨Wb x.Material (some (grp (l.take i) x.Material++[x])) (W4 x.Material m),?_,?_⟩
   ·unfold Jl
    simp only[oun]
    rw[decide_eq_true (show (i:Int)<(l.length:Nat) by omega),cond_true,QA,hx,Option.bind_some,hI,Option.bind_some,QcB (by simp only[List.length_cons,List.length_nil];omega),Option.bind_some,Option.bind_some,Yo (by omega)]
   ·intro k
    rw[Qeh]
    by_cases hkx:k=x.Material
    ·subst hkx
     rw[if_pos rfl,ZI hx]
     simp[grp,List.filter_append]
    ·rw[if_neg hkx,QbL hkx,hI,ZI hx]
     simp[grp,List.filter_append,Ne.symm hkx])
  (by
   intro m hI;refine ⟨m,?_,by rw[List.take_length] at hI;exact hI⟩;unfold Jl
   simp only[oun]
   rw[decide_eq_false (by omega),cond_false]) (((l.length:Nat):Int).toNat+1) [] (fun k=>by simp[Z0,YY,grp]) (by omega)
 exact ⟨o,e,h⟩
end Go.Proofs.Ytfdjjdhnfaklbaa
namespace Go.Proofs.Ytfdjjdhnfaklbaa
set_option linter.unusedSimpArgs false
set_option linter.unusedVariables false
def wgt (mod:List Int) (x:Qa):Int:=x.Grams*(Qp mod x.Producer).getD 0
def QcR (g:List Qa):Bool:=g.any fun x=>decide (0<x.Grams)
theorem Qhb {mod:List Int} (hm: ∀x∈mod,1≤x∧x≤10000) {x:Qa} (h0:0≤x.Producer) (h1:x.Producer<mod.length) (g0:0≤x.Grams) (g1:x.Grams≤200000000) :
  ∃y,Qp mod x.Producer=some y∧1≤y∧wgt mod x=x.Grams*y∧0≤wgt mod x∧wgt mod x≤2000000000000:=by
 obtain ⟨y,hy⟩:=QeA h0 h1;obtain ⟨y0,y1⟩:=hm y (Qdm hy);have e:wgt mod x=x.Grams*y:=by unfold wgt;rw[hy];rfl
 refine ⟨y,hy,y0,e,?_,?_⟩
 ·rw[e];exact Int.mul_nonneg g0 (by omega)
 ·rw[e]
  have:=Int.mul_le_mul g1 y1 (by omega) (show (0:Int)≤200000000 by decide)
  omega
theorem QgD {mod:List Int} (hm: ∀x∈mod,1≤x∧x≤10000) {g:List Qa} (hn:g.length≤512) (hg: ∀x∈g,(0≤x.Producer∧x.Producer<mod.length)∧0≤x.Grams∧x.Grams≤200000000) :
  iter (Jm mod g) (((g.length:Nat):Int).toNat+1) ([],false,0)=some (g.map (wgt mod),QcR g):=by
 obtain ⟨o,e,rfl⟩:=YL g (fun (s:List Int×Bool) k=>(s.1,s.2,k)) (body:=Jm mod g) (fun s i=>s=((g.take i).map (wgt mod),QcR (g.take i))) (fun o=>o=(g.map (wgt mod),QcR g))
  (by
   rintro i x s hx rfl;have hk:=QF hx;obtain ⟨⟨p0,p1⟩,g0,g1⟩:=hg x (List.mem_of_getElem? hx);obtain ⟨y,hy,_,ew,w0,w1⟩:=Qhb hm p0 p1 g0 g1;refine .inl ⟨((g.take (i+1)).map (wgt mod),QcR (g.take (i+1))),?_,rfl⟩;unfold Jm
   simp only[oun]
   rw[decide_eq_true (show (i:Int)<(g.length:Nat) by omega),cond_true,QA,hx,Option.bind_some,hy,Option.bind_some,←ew,Q9 (n:=wgt mod x) (by omega) (by omega),QcB (by simp only[List.length_map,List.length_cons,List.length_nil,WL (show i≤g.length by omega)];omega),Option.bind_some,ZI hx]
   have e1:QcR (g.take i++[x])=(QcR (g.take i)||decide (0<x.Grams)):=by simp[QcR,List.any_append]
   rw[e1,List.map_append]
   cases QcR (g.take i) with
   | true=>rw[cond_true,Option.bind_some,Yo (by omega)];rfl
   | false=>rw[cond_false,Option.bind_some,Yo (by omega)];rfl)
  (by
   rintro s rfl;refine ⟨_,?_,rfl⟩;unfold Jm
   simp only[oun]
   rw[decide_eq_false (by omega),cond_false,List.take_length]) (((g.length:Nat):Int).toNat+1) ([],false) rfl (by omega)
 exact e
end Go.Proofs.Ytfdjjdhnfaklbaa
namespace Go.Proofs.Ytfdjjdhnfaklbaa
set_option linter.unusedSimpArgs false
set_option linter.unusedVariables false
def W8 (v:Int) (z:Qa×Int):Option Qf:=if 0<z.2 then some (Qf.mk z.1.Producer v z.2) else none
def Zc (v:Int) (zs:List (Qa×Int)):List Qf:=zs.filterMap (W8 v)
theorem Qg0 {α β:Type} {a:List α} {b:List β} {i:Nat} {x:α} {y:β} (hx:a[i]? =some x) (hy:b[i]? =some y):(a.zip b)[i]? =some (x,y):=by
 rw[List.getElem?_zip_eq_some];exact ⟨hx,hy⟩
theorem QgE {v:Int} {g:List Qa} {parts:List Int} {out:List Qf} (hn:g.length≤512) (ho:out.length≤512) (hp:parts.length=g.length) :
  iter (Jn v g parts) (((g.length:Nat):Int).toNat+1) (out,0)=some (out++Zc v (g.zip parts)):=by
 obtain ⟨o,e,rfl⟩:=YL g (fun (s:List Qf) k=>(s,k)) (body:=Jn v g parts) (fun s i=>s=out++Zc v ((g.zip parts).take i)) (fun o=>o=out++Zc v (g.zip parts))
  (by
   rintro i x s hx rfl;have hk:=QF hx;obtain ⟨p,hpi⟩: ∃p,parts[i]? =some p:=⟨parts[i]'(by omega),by simp⟩
   have hz:=Qg0 hx hpi;have hlen:(Zc v ((g.zip parts).take i)).length≤i:=by
    have:=List.length_filterMap_le (W8 v) ((g.zip parts).take i)
    rw[List.length_take] at this
    unfold Zc;omega
   refine .inl ⟨out++Zc v ((g.zip parts).take (i+1)),?_,rfl⟩;unfold Jn
   simp only[oun]
   rw[decide_eq_true (show (i:Int)<(g.length:Nat) by omega),cond_true,QA,hx,Option.bind_some,QA,hpi,Option.bind_some,ZI hz]
   have e1:Zc v ((g.zip parts).take i++[(x,p)])=Zc v ((g.zip parts).take i)++Zc v [(x,p)]:=by simp[Zc,List.filterMap_append]
   rw[e1]
   by_cases h0:0<p
   ·rw[decide_eq_true h0,cond_true,Option.bind_some,QcB (by simp only[List.length_append,List.length_cons,List.length_nil];omega),Option.bind_some,Option.bind_some,Yo (by omega)]
    have e2:Zc v [(x,p)]=[Qf.mk x.Producer v p]:=by simp[Zc,W8,h0]
    rw[e2,List.append_assoc]
   ·rw[decide_eq_false h0,cond_false,Option.bind_some,Yo (by omega)]
    have e2:Zc v [(x,p)]=[]:=by simp[Zc,W8,h0]
    rw[e2,List.append_nil])
  (by
   rintro s rfl;refine ⟨_,?_,rfl⟩;unfold Jn
   simp only[oun]
   rw[decide_eq_false (by omega),cond_false,List.take_of_length_le (by rw[List.length_zip];omega)]) (((g.length:Nat):Int).toNat+1) out (by simp[Zc]) (by omega)
 exact e
end Go.Proofs.Ytfdjjdhnfaklbaa
namespace Go.Proofs.Ytfdjjdhnfaklbaa
set_option linter.unusedSimpArgs false
set_option linter.unusedVariables false
def Wd (j:Int) (out:List Qf):Int:=QC (fun f=>if f.Material=j then f.Amount else 0) out
theorem Qd0 {v:Int} {z:Qa×Int} {f:Qf} (h:W8 v z=some f):0<z.2∧f=Qf.mk z.1.Producer v z.2:=by
 unfold W8 at h
 split at h
 ·cases h;exact ⟨by assumption,rfl⟩
 ·cases h
theorem VO {v:Int} {zs:List (Qa×Int)} {f:Qf} (h:f∈Zc v zs): ∃z∈zs,0<z.2∧f=Qf.mk z.1.Producer v z.2:=by
 obtain ⟨z,hz,e⟩:=List.mem_filterMap.1 h;exact ⟨z,hz,Qd0 e⟩
theorem QaK (v j:Int): ∀(zs:List (Qa×Int)),(∀z∈zs,0≤z.2)→Wd j (Zc v zs)=if v=j then QC (fun z:Qa×Int=>z.2) zs else 0
 | [],_=>by simp[Zc,Wd]
 | z::zs,h=>by
  have ih:=QaK v j zs (fun y hy=>h y (List.mem_cons_of_mem _ hy));have h0:=h z List.mem_cons_self;unfold Zc Wd at ih ⊢
  rw[List.filterMap_cons]
  by_cases hz:0<z.2
  ·have e:W8 v z=some (Qf.mk z.1.Producer v z.2):=by simp[W8,hz]
   rw[e]
   simp only[Yr,ih]
   split<;>omega
  ·have e:W8 v z=none:=by simp[W8,hz]
   rw[e]
   simp only[Yr,ih]
   split<;>omega
theorem QdK (j:Int) (a b:List Qf):Wd j (a++b)=Wd j a+Wd j b:=WR _ a b
theorem Qcv {j:Int}: ∀{out:List Qf},(∀f∈out,f.Material≠j)→Wd j out=0
 | [],_=>rfl
 | f::out,h=>by
  unfold Wd
  rw[Yr,if_neg (h f List.mem_cons_self)]
  have:=Qcv (j:=j) (out:=out) (fun y hy=>h y (List.mem_cons_of_mem _ hy));unfold Wd at this
  omega
theorem QgX {g:List Qa} {parts:List Int} (h:parts.length=g.length):QC (fun z:Qa×Int=>z.2) (g.zip parts)=QC (fun w=>w) parts:=by
 have:(g.zip parts).map Prod.snd=parts:=List.map_snd_zip (by omega);unfold QC
 rw[show (g.zip parts).map (fun z:Qa×Int=>z.2)=parts from this]
 simp
end Go.Proofs.Ytfdjjdhnfaklbaa
namespace Go.Proofs.Ytfdjjdhnfaklbaa
set_option linter.unusedSimpArgs false
set_option linter.unusedVariables false
theorem Qfj {j:Int} {a b:List Qf} (h:a.Perm b):Wd j a=Wd j b:=by
 unfold Wd
 induction h with
 | nil=>rfl
 | cons x _ ih=>simp only[Yr,ih]
 | swap x y l=>simp only[Yr];omega
 | trans _ _ h1 h2=>exact h1.trans h2
theorem Qcu {α:Type} {f:α→Int}: ∀{l:List α},(∀x∈l,0≤f x)→(∃x∈l,0<f x)→0<QC f l
 | [],_,⟨x,h,_⟩=>by cases h
 | a::l,h0,⟨x,hx,hp⟩=>by
  rw[Yr]
  have ha:=h0 a List.mem_cons_self;have hl:0≤QC f l:=by
   have:=Qag (f:=fun _:α=>0) (g:=f) (l:=l) (fun w h=>h0 w (List.mem_cons_of_mem _ h))
   rw[WS] at this;exact this
  rcases List.mem_cons.1 hx with rfl | hx
  ·omega
  ·have:=Qcu (f:=f) (l:=l) (fun w h=>h0 w (List.mem_cons_of_mem _ h)) ⟨x,hx,hp⟩
   omega
theorem Qct {α:Type} {f:α→Int}: ∀{l:List α},(∀x∈l,0≤f x)→ ∀x∈l,f x≤QC f l
 | [],_,x,h=>by cases h
 | a::l,h0,x,hx=>by
  rw[Yr]
  have ha:=h0 a List.mem_cons_self;have hl:0≤QC f l:=by
   have:=Qag (f:=fun _:α=>0) (g:=f) (l:=l) (fun w h=>h0 w (List.mem_cons_of_mem _ h))
   rw[WS] at this;exact this
  rcases List.mem_cons.1 hx with rfl | hx
  ·omega
  ·have:=Qct (f:=f) (l:=l) (fun w h=>h0 w (List.mem_cons_of_mem _ h)) x hx
   omega
theorem Qcf {α:Type} (f:α→Int) (l:List α):QC (fun w=>w) (l.map f)=QC f l:=by
 unfold QC;rw[List.map_map];rfl
def Qej (l:List Qa) (k:Nat):List Qa:=l.filter fun x=>decide (x.Material<(k:Int))
theorem Qaw (k:Nat): ∀l:List Qa,(Qej l (k+1)).length=(Qej l k).length+(grp l k).length
 | []=>rfl
 | x::l=>by
  have ih:=Qaw k l;unfold Qej grp at ih ⊢
  simp only[List.filter_cons]
  by_cases h1:x.Material<(k:Int)
  ·rw[decide_eq_true (show x.Material<((k+1:Nat):Int) by omega),decide_eq_true h1,decide_eq_false (show ¬x.Material=(k:Int) by omega)]
   simp only[if_true,Bool.false_eq_true,if_false,List.length_cons]
   omega
  by_cases h2:x.Material=(k:Int)
  ·rw[decide_eq_true (show x.Material<((k+1:Nat):Int) by omega),decide_eq_false h1,decide_eq_true h2]
   simp only[if_true,Bool.false_eq_true,if_false,List.length_cons]
   omega
  rw[decide_eq_false (show ¬x.Material<((k+1:Nat):Int) by omega),decide_eq_false h1,decide_eq_false h2]
  simp only[Bool.false_eq_true,if_false]
  exact ih
structure FeI (costs:List Int) (l:List Qa) (out:List Qf) (k:Nat):Prop where
 len:out.length≤(Qej l k).length
 mat: ∀f∈out,0≤f.Material∧f.Material<(k:Int)
 amt: ∀f∈out,0≤f.Amount∧f.Amount≤1000000000000
 src: ∀f∈out,∃x∈l,x.Producer=f.Producer∧x.Material=f.Material
 sum: ∀j:Nat,j<k→ ∀c,costs[j]? =some c→Wd (j:Int) out=c
theorem QgF {F:Nat} (hF:2000≤F) {costs mod:List Int} {l:List Qa} (hl:l.length≤12) (ck:CkF costs mod l)
  (hr: ∀x∈l,(0≤x.Producer∧x.Producer<32)∧0≤x.Material∧x.Material<16) (hg: ∀x∈l,0≤x.Grams∧x.Grams≤200000000)
  {m:List (Int×Option (List Qa))} (hm: ∀k,Z0 k m=some (grp l k)) :
  ∃o,iter (Jo F costs mod) (((costs.length:Nat):Int).toNat+1) (m,[],0)=some o∧((∃out,o= .inl out∧FeI costs l out costs.length)∨ ∃e,o= .inr ([],e)∧e≠0) :=
 YL costs (fun (s:List (Int×Option (List Qa))×List Qf) k=>(s.1,s.2,k)) (body:=Jo F costs mod)
  (fun s k=>(∀j:Int,(k:Int)≤j→Z0 j s.1=some (grp l j))∧FeI costs l s.2 k)
  (fun o=>(∃out,o= .inl out∧FeI costs l out costs.length)∨ ∃e,o= .inr ([],e)∧e≠0)
  (by
   rintro k c ⟨m,out⟩ hc ⟨hm,hI⟩;have hk:=QF hc;have hc16:=ck.c2;obtain ⟨c0,c1⟩:=ck.c c (List.mem_of_getElem? hc);have hup:(Qej l k).length≤12:=Nat.le_trans (List.length_filter_le _ _) hl;have hol:out.length≤12:=Nat.le_trans hI.len hup;unfold Jo
   simp only[oun]
   rw[decide_eq_true (show (k:Int)<(costs.length:Nat) by omega),cond_true,QA,hc,Option.bind_some]
   have hno:Wd (k:Int) out=0:=Qcv fun f hf=>by have:=hI.mat f hf;omega
   by_cases hz:c=0
   ·rw[decide_eq_true hz,cond_true,Option.bind_some]
    refine .inl ⟨(m,out),by simp only[Yl];rw[Yo (by omega)],fun j hj=>hm j (by omega),?_⟩;have hlen:=Qaw k l;refine ⟨by have h5:out.length≤(Qej l k).length:=hI.len;show out.length≤_;omega,fun f hf=>by have:=hI.mat f hf;omega,hI.amt,hI.src,fun j hj d hd=> ?_⟩
    by_cases hjk:j=k
    ·subst hjk
     rw[hc] at hd;cases hd
     exact hno.trans hz.symm
    ·exact hI.sum j (by omega) d hd
   rw[decide_eq_false hz,cond_false,hm k (by omega),Option.bind_some]
   have hgl:(grp l k).length≤12:=Nat.le_trans (List.length_filter_le _ _) hl;have hgm: ∀x∈grp l k,x∈l∧x.Material=(k:Int):=fun x hx=>by
    have:=List.mem_filter.1 hx;exact ⟨this.1,of_decide_eq_true this.2⟩
   obtain ⟨g,g1,_,g3⟩:=QhP (F:=F) (by omega) (L:=grp l k) hgl (fun x hx=>(hr x (hgm x hx).1).1)
   rw[g1,Option.bind_some]
   have hgn:g.length≤12:=by rw[←g3.perm.length_eq];exact hgl
   have hg': ∀x∈g,x∈l∧x.Material=(k:Int):=fun x hx=>hgm x (g3.perm.symm.subset hx);have hgb: ∀x∈g,(0≤x.Producer∧x.Producer<mod.length)∧0≤x.Grams∧x.Grams≤200000000:=fun x hx=>by
    have hx':=(hg' x hx).1;have hp:=ck.l x hx';exact ⟨⟨hp.p0,hp.p1⟩,hg x hx'⟩
   rw[QgD ck.m (by omega) hgb,Option.bind_some]
   cases hpos:QcR g with
   | false=>exact .inr ⟨_,rfl,.inr ⟨38,rfl,by decide⟩⟩
   | true =>
    have hw: ∀x∈g,∃y,1≤y∧wgt mod x=x.Grams*y∧0≤wgt mod x∧wgt mod x≤2000000000000:=fun x hx=>by
     obtain ⟨⟨p0,p1⟩,q0,q1⟩:=hgb x hx;obtain ⟨y,_,y1,y2,y3,y4⟩:=Qhb ck.m p0 p1 q0 q1;exact ⟨y,y1,y2,y3,y4⟩
    obtain ⟨x0,hx0,hx0p⟩: ∃x∈g,0<x.Grams:=by
     obtain ⟨x,hx,h⟩:=List.any_eq_true.1 hpos;exact ⟨x,hx,of_decide_eq_true h⟩
    have hg1:1≤g.length:=by
     cases g with
     | nil=>cases hx0
     | cons _ _=>simp
    have hb:=JR (f:=wgt mod) (B:=2000000000000) (l:=g) (fun x hx=>by obtain ⟨y,_,_,h3,h4⟩:=hw x hx;exact ⟨h3,h4⟩);have hp0:0<QC (wgt mod) g:=Qcu (fun x hx=>by obtain ⟨y,_,_,h3,_⟩:=hw x hx;exact h3) ⟨x0,hx0,by
     obtain ⟨y,h1,h2,_,_⟩:=hw x0 hx0
     rw[h2];exact Int.mul_pos hx0p (by omega)⟩
    obtain ⟨parts,s1,s2,s3,s4⟩:=QfC (F:=F) hF (c:=c) (ws:=g.map (wgt mod)) (by omega) c1 (by rw[List.length_map];exact hg1) (by rw[List.length_map];omega)
     (fun w hw'=>by
      obtain ⟨x,hx,rfl⟩:=List.mem_map.1 hw';obtain ⟨y,_,_,h3,h4⟩:=hw x hx
      omega) (by rw[Qcf];omega) (by rw[Qcf];exact hp0)
    rw[List.length_map] at s2
    simp only[oun]
    rw[show (!true)=false from rfl,cond_false,s1,Option.bind_some]
    simp only[oun]
    rw[show (!(decide True))=false from by simp,cond_false,QgE (v:=(k:Int)) (g:=g) (parts:=parts) (out:=out) (by omega) (by omega) s2,Option.bind_some,Option.bind_some]
    have hzp: ∀z∈g.zip parts,z.1∈g∧z.2∈parts:=fun z hz=>⟨(List.of_mem_zip hz).1,(List.of_mem_zip hz).2⟩
    have hfl:(Zc (k:Int) (g.zip parts)).length≤(grp l k).length:=by
     have h1:=List.length_filterMap_le (W8 (k:Int)) (g.zip parts)
     rw[List.length_zip] at h1
     have h2:=g3.perm.length_eq;unfold Zc;omega
    have hlen:=Qaw k l;have hpm: ∀p∈parts,p≤c:=fun p hp=>by rw[←s4];exact Qct (f:=fun w:Int=>w) s3 p hp
    refine .inl ⟨(W4 (k:Int) m,out++Zc (k:Int) (g.zip parts)),by simp only[Yl];rw[Yo (by omega)],fun j hj=>by rw[QbL (by omega)];exact hm j (by omega),?_⟩;refine ⟨?_,fun f hf=> ?_,fun f hf=> ?_,fun f hf=> ?_,fun j hj d hd=> ?_⟩
    ·have h5:out.length≤(Qej l k).length:=hI.len
     show (out++Zc (k:Int) (g.zip parts)).length≤_
     rw[List.length_append];omega
    ·rcases List.mem_append.1 hf with hf | hf
     ·have:=hI.mat f hf;omega
     ·obtain ⟨z,_,_,rfl⟩:=VO hf
      show 0≤(k:Int)∧(k:Int)<_
      omega
    ·rcases List.mem_append.1 hf with hf | hf
     ·exact hI.amt f hf
     ·obtain ⟨z,hz',h0,rfl⟩:=VO hf;have:=hpm _ (hzp z hz').2
      show 0≤z.2∧z.2≤_
      omega
    ·rcases List.mem_append.1 hf with hf | hf
     ·exact hI.src f hf
     ·obtain ⟨z,hz',h0,rfl⟩:=VO hf;have:=hg' z.1 (hzp z hz').1;exact ⟨z.1,this.1,rfl,this.2⟩
    ·rw[QdK]
     have h2:=QaK (k:Int) (j:Int) (g.zip parts) (fun z hz'=>s3 _ (hzp z hz').2)
     rw[h2]
     by_cases hjk:j=k
     ·subst hjk
      rw[hc] at hd;cases hd
      rw[if_pos rfl,hno,QgX s2,s4];omega
     ·rw[if_neg (by omega),hI.sum j (by omega) d hd];omega)
  (by
   rintro ⟨m,out⟩ ⟨_,hI⟩;refine ⟨.inl out,?_,.inl ⟨out,rfl,hI⟩⟩;unfold Jo
   simp only[oun]
   rw[decide_eq_false (by omega),cond_false]) _ (m,[]) ⟨fun j _=>hm j,⟨by simp,by simp,by simp,by simp,fun j hj=>by omega⟩⟩ (by omega)
theorem Qgt {F:Nat} (hF:2000≤F) {costs mod:List Int} {l:List Qa} (hl:l.length≤12)
  (hr: ∀x∈l,(0≤x.Producer∧x.Producer<32)∧0≤x.Material∧x.Material<16) (hg: ∀x∈l,0≤x.Grams∧x.Grams≤200000000) :
  ∃r e,Wt F costs l mod=some (r,e)∧(e=0→costs.length≤16∧(∀x∈costs,0≤x∧x≤1000000000000)∧r.length≤12∧FeI costs l r costs.length):=by
 unfold Wt;obtain ⟨e,h1,h2⟩:=Qfl (costs:=costs) (mod:=mod) (l:=l) (by omega)
 rw[h1,Option.bind_some]
 by_cases he:e=0
 case neg =>
  rw[decide_eq_false he]
  exact ⟨[],e,rfl,fun h=>absurd h he⟩
 have ck:=h2 he
 rw[decide_eq_true he,show (!true)=false from rfl,cond_false]
 obtain ⟨m,e1,hm⟩:=QgC (l:=l) (by omega)
 rw[e1,Option.bind_some]
 obtain ⟨o,e2,q⟩:=QgF hF hl ck hr hg hm
 rw[e2,Option.bind_some]
 rcases q with ⟨out,rfl,hI⟩ | ⟨e',rfl,he'⟩
 case inr=>exact ⟨[],e',rfl,fun h=>absurd h he'⟩
 simp only[Yl]
 have hol:out.length≤12:=Nat.le_trans hI.len (Nat.le_trans (List.length_filter_le _ _) hl);obtain ⟨M,m1,m2⟩:=QhQ (F:=F) (by omega) (L:=out) hol (fun f hf=>by
  obtain ⟨x,hx,e3,e4⟩:=hI.src f hf
  rw[←e3,←e4];exact hr x hx)
 rw[m1,Option.bind_some]
 refine ⟨M,0,rfl,fun _=>⟨ck.c2,ck.c,by rw[←m2.length_eq];exact hol,⟨by rw[←m2.length_eq];exact hI.len,fun f hf=>hI.mat f (m2.symm.subset hf),fun f hf=>hI.amt f (m2.symm.subset hf),fun f hf=>hI.src f (m2.symm.subset hf),fun j hj c hc=>by rw[←Qfj m2];exact hI.sum j hj c hc⟩⟩⟩
end Go.Proofs.Ytfdjjdhnfaklbaa
namespace Go.Proofs.Ytfdjjdhnfaklbaa
set_option linter.unusedSimpArgs false
set_option linter.unusedVariables false
theorem QdQ {l:List Int} (hn:l.length<9223372036854775807):ZA l l=some true:=by
 obtain ⟨o,e,rfl⟩:=YL l (fun (_:Unit) k=>k) (body:=Y7 l l) (fun _ _=>True) (fun o=>o= .inl ())
  (by
   intro k x s hx _;have hk:=QF hx;refine .inl ⟨(),?_,trivial⟩;unfold Y7
   rw[decide_eq_true (show (k:Int)<(l.length:Nat) by omega),cond_true,QA,hx,Option.bind_some,Option.bind_some,decide_eq_true rfl,Yo (by omega)]
   rfl)
  (by
   intro s _;refine ⟨_,?_,rfl⟩;unfold Y7
   rw[decide_eq_false (by omega),cond_false]) (((l.length:Nat):Int).toNat+1) () trivial (by omega)
 unfold ZA
 rw[decide_eq_true rfl,show (!true)=false from rfl,cond_false,e]
 rfl
theorem QeR {costs:List Int} {ls:List Qa} {l:List Qf} (hc:costs.length≤16) (hl:l.length≤12) (hI:FeI costs ls l costs.length):J4 costs l=some true:=by
 unfold J4
 rw[decide_eq_false (show ¬512<((l.length:Nat):Int) by omega),cond_false]
 have hcl:Qa8 costs=some costs:=by unfold Qa8;rw[if_pos (by omega)]
 rw[hcl,Option.bind_some]
 obtain ⟨o,e1,rfl⟩:=YL l (fun (_:Unit) k=>k) (body:=Ja costs l) (fun _ _=>True) (fun o=>o= .inl ())
  (by
   intro k x s hx _;have hk:=QF hx;have hm:=hI.mat x (List.mem_of_getElem? hx);have ha:=hI.amt x (List.mem_of_getElem? hx);refine .inl ⟨(),?_,trivial⟩;unfold Ja
   rw[decide_eq_true (show (k:Int)<(l.length:Nat) by omega),cond_true,QA,hx,Option.bind_some,decide_eq_false (show ¬x.Material<0 by omega),cond_false,decide_eq_false (show ¬((costs.length:Nat):Int)≤x.Material by omega),cond_false,decide_eq_false (show ¬x.Amount<0 by omega),cond_false,decide_eq_false (show ¬1000000000000<x.Amount by omega),Option.bind_some,cond_false,Yo (by omega)])
  (by
   intro s _;refine ⟨_,?_,rfl⟩;unfold Ja
   rw[decide_eq_false (by omega),cond_false]) (((l.length:Nat):Int).toNat+1) () trivial (by omega)
 rw[e1,Option.bind_some]
 simp only[Yl]
 have hm:VC (0:Int) ((costs.length:Nat):Int)=some (List.replicate costs.length 0):=by
  unfold VC
  rw[if_pos ⟨by omega,by omega⟩]
  simp
 rw[hm,Option.bind_some]
 have hb: ∀(j:Int) (k:Nat),k≤l.length→0≤Wd j (l.take k)∧Wd j (l.take k)≤12*1000000000000:=fun j k hk=>by
  have h1:=JR (f:=fun f:Qf=>if f.Material=j then f.Amount else 0) (B:=1000000000000) (l:=l.take k) (fun x hx=>by
   have ha:=hI.amt x (List.mem_of_mem_take hx)
   split<;>omega)
  rw[List.length_take] at h1
  unfold Wd;omega
 obtain ⟨
     o,e2,h1,h2⟩:=YL l (fun (s:List Int) k=>(s,k)) (body:=Jb l) (fun s k=>s.length=costs.length∧ ∀j:Nat,j<costs.length→s[j]? =some (Wd (j:Int) (l.take k))) (fun o=>o.length=costs.length∧ ∀j:Nat,j<costs.length→o[j]? =some (Wd (j:Int) l))
  (by
   intro k x s hx ⟨i1,i2⟩;have hk:=QF hx;have hm:=hI.mat x (List.mem_of_getElem? hx);have ha:=hI.amt x (List.mem_of_getElem? hx);obtain ⟨i,hi⟩: ∃i:Nat,x.Material=i:=⟨x.Material.toNat,by omega⟩
   have hb1:=hb (i:Int) k (by omega);refine .inl ⟨s.set i (Wd (i:Int) (l.take k)+x.Amount),?_,by simp[i1],fun j hj=> ?_⟩
   ·unfold Jb
    simp only[oun]
    rw[decide_eq_true (show (k:Int)<(l.length:Nat) by omega),cond_true,QA,hx,Option.bind_some,hi,QA,i2 i (by omega),Option.bind_some,Option.bind_some,Yo (by omega),Q9 (by omega) (by omega)]
    simp[YV]
   ·have h3:Wd (j:Int) (l.take (k+1))=Wd (j:Int) (l.take k)+(if x.Material=(j:Int) then x.Amount else 0):=VV _ hx
    rw[h3]
    by_cases hij:i=j
    ·subst hij
     rw[List.getElem?_set_self (by omega),if_pos hi]
    ·rw[List.getElem?_set_ne hij,i2 j hj,if_neg (by omega),Int.add_zero])
  (by
   intro s ⟨i1,i2⟩
   rw[List.take_length] at i2
   refine ⟨s,?_,i1,i2⟩;unfold Jb
   simp only[oun]
   rw[decide_eq_false (by omega),cond_false]) (((l.length:Nat):Int).toNat+1) (List.replicate costs.length 0) ⟨by simp,fun j hj=>by rw[List.getElem?_replicate,if_pos hj];rfl⟩ (by omega)
 rw[e2,Option.bind_some]
 have:o=costs:=by
  apply List.ext_getElem?;intro j
  by_cases hj:j<costs.length
  ·have h3:costs[j]? =some costs[j]:=List.getElem?_eq_getElem hj
   rw[h2 j hj,hI.sum j hj _ h3,h3]
  ·rw[List.getElem?_eq_none (by omega),List.getElem?_eq_none (by omega)]
 rw[this,QdQ (by omega),Option.bind_some]
end Go.Proofs.Ytfdjjdhnfaklbaa
namespace Go.Proofs.Ytfdjjdhnfaklbaa
theorem QcC:Q8 2000=some true:=by decide +kernel
end Go.Proofs.Ytfdjjdhnfaklbaa
namespace Go.Proofs.Ytfdjjdhnfaklbaa
set_option linter.unusedSimpArgs false
set_option linter.unusedVariables false
theorem QgV {ps:List Ql} {l:List Qz} {x:Qf} (hl:l.length≤20) (ok: ∀s∈l,∃q,Qp ps s.Product=some q)
  (src: ∃s∈l,∃q,Qp ps s.Product=some q∧q.Producer=x.Producer∧q.Material=x.Material) :
  iter (QK ps l x) (((l.length:Nat):Int).toNat+1) (false,0)=some true:=by
 obtain ⟨
     o,e,rfl⟩:=YL l (fun (s:Bool) k=>(s,k)) (body:=QK ps l x)
  (fun b k=>(∃s∈l.take k,∃q,Qp ps s.Product=some q∧q.Producer=x.Producer∧q.Material=x.Material)→b=true) (fun o=>o=true)
  (by
   intro k y b hy hI;have hk:=QF hy;obtain ⟨q,hq⟩:=ok y (List.mem_of_getElem? hy);unfold QK
   simp only[oun]
   rw[decide_eq_true (show (k:Int)<(l.length:Nat) by omega),cond_true,QA,hy,Option.bind_some]
   cases b with
   | true=>exact .inl ⟨true,by rw[cond_true,Option.bind_some,Yo (by omega)],fun _=>rfl⟩
   | false =>
    rw[cond_false,hq,Option.bind_some]
    have hno: ¬ ∃s∈l.take k,∃q,Qp ps s.Product=some q∧q.Producer=x.Producer∧q.Material=x.Material:=fun h=>by cases hI h
    have hthen:(∃s∈l.take (k+1),∃q,Qp ps s.Product=some q∧q.Producer=x.Producer∧q.Material=x.Material)→q.Producer=x.Producer∧q.Material=x.Material:=by
     rintro ⟨s,hs,q',h1,h2⟩
     rw[ZI hy] at hs
     rcases List.mem_append.1 hs with hs | hs
     ·exact absurd ⟨s,hs,q',h1,h2⟩ hno
     ·simp at hs;subst hs
      rw[hq] at h1;cases h1;exact h2
    by_cases h1:q.Producer=x.Producer
    ·rw[decide_eq_true h1,cond_true,Option.bind_some,Option.bind_some,Yo (by omega)]
     exact .inl ⟨_,rfl,fun h=>decide_eq_true (hthen h).2⟩
    ·rw[decide_eq_false h1,cond_false,Option.bind_some,Yo (by omega)]
     exact .inl ⟨_,rfl,fun h=>absurd (hthen h).1 h1⟩)
  (by
   intro b hI
   rw[List.take_length] at hI
   refine ⟨b,?_,hI src⟩;unfold QK
   simp only[oun]
   rw[decide_eq_false (by omega),cond_false]) (((l.length:Nat):Int).toNat+1) false (by simp) (by omega)
 exact e
theorem QfM (ps:List Ql) (l:List Qz) (costs mod:List Int):Ye 2000 ps l costs mod=some true:=by
 unfold Ye
 rw[QcC]
 by_cases h1:12<((ps.length:Nat):Int)
 ·rw[decide_eq_true h1];rfl
 rw[decide_eq_false h1,cond_false]
 by_cases h2:20<((l.length:Nat):Int)
 ·rw[decide_eq_true h2];rfl
 rw[decide_eq_false h2,cond_false]
 obtain ⟨r1,e1⟩:=Qe9 (l:=ps) 32 16;obtain ⟨r2,e2⟩:=Qfa (ps:=ps) (l:=l) 32
 rw[e1,Option.bind_some]
 by_cases h3:r1=0
 case neg=>rw[decide_eq_false h3];rfl
 rw[decide_eq_true h3,show (!true)=false from rfl,cond_false,e2,Option.bind_some,Option.bind_some]
 by_cases h4:r2=0
 case neg=>rw[decide_eq_false h4];rfl
 rw[decide_eq_true h4,show (!true)=false from rfl,cond_false]
 obtain ⟨p,e,h5,h6⟩:=QeU (F:=2000) (Nat.le_refl _) (ps:=ps) (l:=l) (by omega) (by omega)
 rw[h5,Option.bind_some]
 simp only[oun]
 by_cases he:e=0
 case neg=>rw[decide_eq_false he];rfl
 rw[decide_eq_true he,show (!true)=false from rfl,cond_false]
 have hp:=h6 he;obtain ⟨r,f,h7,h8⟩:=Qgt (F:=2000) (Nat.le_refl _) (costs:=costs) (mod:=mod) (l:=p) hp.len hp.rng hp.gr
 rw[h7,Option.bind_some]
 simp only[oun]
 by_cases hf:f=0
 case neg=>rw[decide_eq_false hf];rfl
 rw[decide_eq_true hf,show (!true)=false from rfl,cond_false]
 obtain ⟨c16,_,rl,hI⟩:=h8 hf
 rw[QeR c16 rl hI,Option.bind_some,show (!true)=false from rfl,cond_false]
 obtain ⟨o,h9,rfl⟩:=YL r (fun (_:Unit) k=>k) (body:=QX ps l r) (fun _ _=>True) (fun o=>o= .inl ())
  (by
   intro k x s hx _;have hk:=QF hx;refine .inl ⟨(),?_,trivial⟩;have hs: ∃s∈l,∃q,Qp ps s.Product=some q∧q.Producer=x.Producer∧q.Material=x.Material:=by
    obtain ⟨y,hy,y1,y2⟩:=hI.src x (List.mem_of_getElem? hx);obtain ⟨s,hs,q,q1,q2,q3⟩:=hp.src y hy;exact ⟨s,hs,q,q1,q2.trans y1,q3.trans y2⟩
   unfold QX
   rw[decide_eq_true (show (k:Int)<(r.length:Nat) by omega),cond_true,QA,hx,Option.bind_some,QgV (by omega) hp.ok hs,Option.bind_some,show (!true)=false from rfl,cond_false,Option.bind_some]
   simp only[Yl]
   rw[Yo (by omega)])
  (by
   intro s _;refine ⟨_,?_,rfl⟩;unfold QX
   rw[decide_eq_false (by omega),cond_false]) (((r.length:Nat):Int).toNat+1) () trivial (by omega)
 rw[h9,Option.bind_some]
 rfl
theorem JF (ps:List Ql) (l:List Qz) (costs mod:List Int) (_: ∀x∈ps,Vn x) (_: ∀x∈l,QaN x) (_: ∀x∈costs,wfI .i64 x) (_: ∀x∈mod,wfI .i64 x): ∃F,Ye F ps l costs mod=some true:=⟨2000,QfM ps l costs mod⟩
end Go.Proofs.Ytfdjjdhnfaklbaa
namespace Go.Proofs.Ytfdjjdhnfaklbaa
open Go.RowKit Go.ChangeShapes Go.WideShapes
set_option linter.unusedSimpArgs false
set_option linter.unusedVariables false
def QcK (W:World):Gh:=⟨fun b=>W.heap[b]?,W.os,W.output,W.tape⟩
theorem QfV (W:World):Inv W (QcK W) []:=⟨rfl,rfl,rfl,fun _ _ h=>h,by simp,by simp,by simp⟩
theorem QfG {W W':World} {μ:Gh} {L:List Seg} (hm:(QcK W).le μ) (h:Inv W' μ L):Below W.heap.size W W':=by
 have hb: ∀k,k<W.heap.size→W'.heap[k]? =W.heap[k]? :=fun k hk=>by
  have h1:W.heap[k]? =some W.heap[k]:=by simp[hk]
  rw[h1]
  exact h.mem k _ (hm.mem k _ h1)
 refine ⟨h.os.trans hm.os,h.tape.trans hm.tape,h.out.trans hm.out,?_,hb⟩;rcases Nat.eq_zero_or_pos W.heap.size with h0 | h0
 ·omega
 ·have h1:=hb (W.heap.size-1) (by omega);have h2:W.heap[W.heap.size-1]? =some (W.heap[W.heap.size-1]'(by omega)):=by simp
  rw[h2] at h1
  have:=ZD h1
  omega
theorem Qc7 {P:Program} {f:FuncId} {fn:Func} (hf:P.funcs[f]? =some fn) (hb:fn.body.isNone=false) {args:List Value} {W:World} {v:Value} (h:Fn P f args (QcK W) [] fun u _ _=>u=v) :
  Calls P f args.toArray W fun e W'=>e= .returned v∧Below W.heap.size W W':=by
 rcases h with ⟨_,h⟩ | ⟨fn',_,hf',_,hb',_⟩
 ·refine (h W (QfV W)).mono ?_;rintro e W' ⟨u,μ',L',rfl,hm,hi,rfl⟩;exact ⟨rfl,QfG hm hi⟩
 ·rw[hf] at hf'
  injection hf' with hf'
  subst hf'
  rw[hb] at hb';cases hb'
section
variable {H:Type} {enc:TypeId×Value→H} {P:Program}
theorem VE (hl:laidOutB P=true) {W W':World} (hb:Below W.heap.size W W') {sp:Nat→Bool}: ∀{ts:List TypeId} {vs:List Value} {ds:List (DataW H)} {ps:List MemPlace},
  (∀t∈ts,P.readableRec t=true∧t<P.types.size)→(∀p∈ps,p.block<W.heap.size)→(∀p∈ps,sp p.block=true) →
  DataW.TrodAll enc P W 0 (fun _=>true) true ts vs ds ps→DataW.TrodAll enc P W' 0 sp true ts vs ds ps
 | [],vs,ds,ps,_,_,_,h=>by
  obtain ⟨rfl,rfl,rfl⟩:=trodAll_nil h
  rfl
 | t::ts,vs,ds,ps,hr,hlt,hs,h=>by
  obtain ⟨v,vs',d,ds',p,q,rfl,rfl,rfl,hd,hrest⟩:=trodAll_cons h;refine ⟨p,q,WideElems.Trod_stays hl (hr t (by simp)).1 (hr t (by simp)).2 hd (fun x hx=>hb.same (hlt x (by simp[hx]))) (fun x hx=>hs x (by simp[hx])),?_,rfl⟩;exact VE hl hb (fun u hu=>hr u (by simp[hu])) (fun x hx=>hlt x (by simp[hx])) (fun x hx=>hs x (by simp[hx])) hrest
theorem Qe8 {f:Func} {s:ChangeSpec} {apart fresh handsOn again:Bool} {W W':World} {args:Array Value} {ds:List (DataW H)} {before:List MemPlace} {tb:TypeId}
  (hW:DataW.Whole enc P f.params.toList s.vars apart W args.toList ds [] before) (hv:s.vars=[]) (hres:f.resultTypes= #[tb]) (htb:P.underlying tb=some .bool)
  (hfr:(s.fn H ds).results=[.lit (.bool true)]) (hfa:(s.fn H ds).args=ds) (hfv:(s.fn H ds).vars=[]) (hl:laidOutB P=true) (hr: ∀t∈f.params.toList,P.readableRec t=true∧t<P.types.size) (hb:Below W.heap.size W W') :
  s.post enc P f apart fresh handsOn again W args (.bool true) W':=by
 have hlt: ∀p∈before,p.block<W.heap.size:=fun p hp=>hW.lt p hp;have hW':=hW;obtain ⟨p,q,hA,hV,hpq,hz,hn⟩:=hW'
 rw[hv] at hV
 obtain ⟨_,rfl⟩:=trodVars_none hV
 rw[List.append_nil] at hpq
 subst hpq;have hresl:((Value.bool true).resultList f.resultTypes.size)=[.bool true]:=by rw[hres];rfl
 have hargs: ∀sp:Nat→Bool,(∀x∈before,sp x.block=true)→DataW.TrodAll enc P W' 0 sp true f.params.toList args.toList ds before:=fun sp hs=>VE hl hb hr hlt hs hA;have hres2: ∀(b:Nat) (sp:Nat→Bool) (hd:Bool),DataW.TrodAll enc P W' b sp hd f.resultTypes.toList [.bool true] [.lit (.bool true)] []:=fun b sp hd=>by
  rw[hres];exact trodAll_mk1 (shut_bool htb true)
 have hold: ∀p∈before,(fun b=>decide (b<W.heap.size)) p.block=true:=fun p hp=>by simpa using hlt p hp
 have hvars: ∀sp:Nat→Bool,DataW.TrodVars enc P W' sp s.vars [] []:=fun sp=>by rw[hv];rfl
 refine ⟨ds,[],before,[],before,[],hW,?_,?_,?_,World.keptBut_mono (fun p hp=>⟨hp,by simpa using hp⟩) (hb.frame (· ∈before)),fun _=> ?_⟩
 ·rw[hresl,List.append_nil,hfr];exact hres2 _ _ _
 ·rw[List.append_nil,hfa];exact hargs _ hold
 ·rw[List.append_nil,hfv];exact hvars _
 ·have A1:=hargs (fun _=>true) (fun _ _=>rfl);have R1:=hres2 0 (fun _=>true) true;refine ⟨ok_one hres rfl (okWide_bool_mk htb true),?_⟩
  rw[hresl]
  refine ⟨_,_,([]++before)++[],⟨[]++before,[],trodAll_append A1 R1,hvars _,rfl,?_,?_⟩,?_⟩
  ·intro b off hp;have hin:MemPlace.cell b off∈before:=by simpa using hp
   rw[hb.frozen (hlt _ hin)]
   exact hz b off hin
  ·intro ha;have:=hn ha
   simpa using this
  ·intro p hp _
   simpa using hp
end
end Go.Proofs.Ytfdjjdhnfaklbaa
namespace Go.Proofs.Ytfdjjdhnfaklbaa
open Go.RowKit Go.ChangeShapes Go.WideShapes Go.Deep
set_option linter.unusedSimpArgs false
set_option linter.unusedVariables false
theorem QbT {W:World} {L:List Seg} {a:Addr} {v:Value} (h:W.cell? a=some v):ZQ (QcK W) L a v:=by
 unfold World.cell? at h
 split at h
 ·rename_i c e f hb
  split at h
  ·cases h
  ·rename_i hs
   refine ⟨by simpa using hs,c,e,f,.inl hb,by simpa using h⟩
 ·cases h
theorem QeC {α β:Type} (Q:Nat→α→β→Prop): ∀n,(∀i,i<n→ ∃x y,Q i x y)→ ∃(l:List α) (m:List β),l.length=n∧m.length=n∧ ∀(i:Nat) (x:α) (y:β),l[i]? =some x→m[i]? =some y→Q i x y
 | 0,_=>⟨[],[],rfl,rfl,by simp⟩
 | n+1,h=>by
  obtain ⟨l,m,hl,hm,hq⟩:=QeC Q n fun i hi=>h i (by omega);obtain ⟨x,y,hx⟩:=h n (by omega);refine ⟨l++[x],m++[y],by simp[hl],by simp[hm],fun i u v hu hv=> ?_⟩;rcases Nat.lt_or_ge i n with hi | hi
  ·rw[List.getElem?_append_left (by omega)] at hu hv
   exact hq i u v hu hv
  ·rw[List.getElem?_append_right (by omega)] at hu hv
   have:i-n=0:=by
    rcases Nat.eq_zero_or_pos (i-n) with h0 | h0
    ·exact h0
    ·rw[List.getElem?_eq_none (by simp;omega)] at hu;cases hu
   rw[hl,this] at hu
   rw[hm,this] at hv
   simp only[List.getElem?_cons_zero,Option.some.injEq] at hu hv
   have:i=n:=by omega
   subst this;subst hu;subst hv;exact hx
def Opn {α:Type} (P:Program) (W:World) (t:TypeId) (r:Rp α) (Q:α→Prop):Prop :=
 ∀(H:Type) (enc:TypeId×Value→H) (spare:Nat→Bool) (held:Bool) (fuel:Nat) (cs:List Value) (x:DataW H×List MemPlace),DataW.trod enc P W 0 spare held fuel t cs=some x→ ∃d,r.rep (QcK W) d cs∧Q d
section
variable {P:Program} {W:World} {t:TypeId}
theorem Jx {k:IntKind} (ht:P.underlying t=some (.int k)):Opn P W t (rI k) (wfI k):=by
 intro H enc spare held fuel cs x h;obtain ⟨n,h1,_,h2⟩:=DataW.trod_int ht h;exact ⟨n,h1,h2⟩
theorem QgO (ht:P.underlying t=some .string):Opn P W t Qiz fun s=>s.size≤maxLen:=by
 intro H enc spare held fuel cs x h;obtain ⟨n,h1,_,h2⟩:=DataW.trod_string ht h;exact ⟨n,h1,h2⟩
theorem Vs {α:Type} {e:TypeId} {r:Rp α} {Q:α→Prop} (ht:P.underlying t=some (.slice e)) (hC:P.cellsOf e=r.sz) (he:Opn P W e r Q):Opn P W t (Qir r) fun xs=> ∀x∈xs,Q x:=by
 intro H enc spare held fuel cs x h;rcases open_slice ht h with ⟨rfl,_⟩ | ⟨a,n,c,m,nn,D,Pl,rfl,hb,hl,hm,hmm,hx,hi⟩
 ·exact ⟨[],⟨none,0,rfl,Nat.le_refl _,Nat.zero_le _,W0.nil⟩,by simp⟩
 ·have hrow: ∀i,i<n→ ∃(y:α) (cs:List Value),r.rep (QcK W) y cs∧Q y∧Yp (QcK W) [] (a.add (i*r.sz)) cs:=fun i hin=>by
   obtain ⟨cs',hc,htr⟩:=hi i (by split at hmm<;>omega)
   rw[hC] at hc
   obtain ⟨y,hy,hq⟩:=he H enc spare held nn cs' _ htr;obtain ⟨_,hcl,hat⟩:=World.cells?_some hc;refine ⟨y,cs',hy,hq,fun j u hu=> ?_⟩;have hjk:j<r.sz:=by
    rcases Nat.lt_or_ge j r.sz with h | h
    ·exact h
    ·rw[List.getElem?_eq_none (by omega)] at hu;cases hu
   exact QbT (by rw[hat j hjk];exact hu)
  obtain ⟨xs,css,hxl,hcl,hq⟩:=QeC (fun i y cs=>r.rep (QcK W) y cs∧Q y∧Yp (QcK W) [] (a.add (i*r.sz)) cs) n hrow;refine ⟨xs,⟨some a,c,by rw[hxl],by omega,hm,css,fun i cs hcs=> ?_,by rw[hxl,hcl],fun i y cs hy hcs=>(hq i y cs hy hcs).1⟩,fun y hy=> ?_⟩
  ·have hlt:i<css.length:=by
    rcases Nat.lt_or_ge i css.length with h | h
    ·exact h
    ·rw[List.getElem?_eq_none h] at hcs;cases hcs
   obtain ⟨h1,_,h3⟩:=hq i (xs[i]'(by omega)) cs (by simp) hcs;exact ⟨r.len h1,a,rfl,h3⟩
  ·obtain ⟨i,hi'⟩:=List.getElem?_of_mem hy;have hlt:i<xs.length:=by
    rcases Nat.lt_or_ge i xs.length with h | h
    ·exact h
    ·rw[List.getElem?_eq_none h] at hi';cases hi'
   exact (hq i y (css[i]'(by omega)) hi' (by simp)).2.1
end
theorem Wm {cs:List Value} {o a o2:Nat} (h:o+a=o2):cs.drop o=(cs.drop o).take a++cs.drop o2:=by rw[←h,←List.drop_drop,List.take_append_drop]
theorem QhW {cs:Array Value} {l:List Value} (h:cs.toList=l):cs=l.toArray:=by rw[←h]
end Go.Proofs.Ytfdjjdhnfaklbaa
namespace Go.Proofs.Ytfdjjdhnfaklbaa
open Go.ChangeShapes Go.WideShapes Go.ChangeAt Go.RowKit
set_option linter.unusedSimpArgs false
set_option linter.unusedVariables false
theorem Qiy:ownKnob Try.prog.godebug=none:=by kernel_rfl
theorem QfW:laidOutB Try.prog=true:=by kernel_rfl
theorem QaP {W:World}:Opn Try.prog W 23 Jc Vn:=by
 intro H enc spare held fuel cs x h;obtain ⟨xs,n,_,_,hlen,hxl,hf⟩:=DataW.trod_struct Try.underlying23 h
 rw[show Try.prog.cellsOf 23=5 by kernel_rfl] at hlen
 have g0:DataW.trod enc Try.prog W 0 spare held n 9 ((cs.drop 0).take (Try.prog.cellsOf 9))=xs[0]? :=hf 0 _ rfl
 rw[show Try.prog.cellsOf 9=1 by kernel_rfl,List.getElem?_eq_getElem (by rw[hxl];decide)] at g0
 obtain ⟨d0,h0,q0⟩:=(QgO Try.underlying9) H enc spare held n _ _ g0;have g1:DataW.trod enc Try.prog W 0 spare held n 3 ((cs.drop 1).take (Try.prog.cellsOf 3))=xs[1]? :=hf 1 _ rfl
 rw[show Try.prog.cellsOf 3=1 by kernel_rfl,List.getElem?_eq_getElem (by rw[hxl];decide)] at g1
 obtain ⟨d1,h1,q1⟩:=(Jx Try.underlying3) H enc spare held n _ _ g1;have g2:DataW.trod enc Try.prog W 0 spare held n 3 ((cs.drop 2).take (Try.prog.cellsOf 3))=xs[2]? :=hf 2 _ rfl
 rw[show Try.prog.cellsOf 3=1 by kernel_rfl,List.getElem?_eq_getElem (by rw[hxl];decide)] at g2
 obtain ⟨d2,h2,q2⟩:=(Jx Try.underlying3) H enc spare held n _ _ g2;have g3:DataW.trod enc Try.prog W 0 spare held n 3 ((cs.drop 3).take (Try.prog.cellsOf 3))=xs[3]? :=hf 3 _ rfl
 rw[show Try.prog.cellsOf 3=1 by kernel_rfl,List.getElem?_eq_getElem (by rw[hxl];decide)] at g3
 obtain ⟨d3,h3,q3⟩:=(Jx Try.underlying3) H enc spare held n _ _ g3;have g4:DataW.trod enc Try.prog W 0 spare held n 3 ((cs.drop 4).take (Try.prog.cellsOf 3))=xs[4]? :=hf 4 _ rfl
 rw[show Try.prog.cellsOf 3=1 by kernel_rfl,List.getElem?_eq_getElem (by rw[hxl];decide)] at g4
 obtain ⟨d4,h4,q4⟩:=(Jx Try.underlying3) H enc spare held n _ _ g4;have e0:cs.drop 0=(cs.drop 0).take 1++cs.drop 1:=Wm rfl;have e1:cs.drop 1=(cs.drop 1).take 1++cs.drop 2:=Wm rfl;have e2:cs.drop 2=(cs.drop 2).take 1++cs.drop 3:=Wm rfl;have e3:cs.drop 3=(cs.drop 3).take 1++cs.drop 4:=Wm rfl;have e4:cs.drop 4=(cs.drop 4).take 1++cs.drop 5:=Wm rfl;have en:cs.drop 5=[]:=List.drop_of_length_le (by omega);have hcs:cs.drop 0=_:=e0
 rw[e1,e2,e3,e4,en,show (cs.drop 0).take 1=_ from h0,show (cs.drop 1).take 1=_ from h1,show (cs.drop 2).take 1=_ from h2,show (cs.drop 3).take 1=_ from h3,show (cs.drop 4).take 1=_ from h4] at hcs
 exact ⟨⟨d0,d1,d2,d3,d4⟩,hcs,q0,q1,q2,q3,q4⟩
theorem QcQ {W:World}:Opn Try.prog W 71 WO QaN:=by
 intro H enc spare held fuel cs x h;obtain ⟨xs,n,_,_,hlen,hxl,hf⟩:=DataW.trod_struct Try.underlying71 h
 rw[show Try.prog.cellsOf 71=5 by kernel_rfl] at hlen
 have g0:DataW.trod enc Try.prog W 0 spare held n 3 ((cs.drop 0).take (Try.prog.cellsOf 3))=xs[0]? :=hf 0 _ rfl
 rw[show Try.prog.cellsOf 3=1 by kernel_rfl,List.getElem?_eq_getElem (by rw[hxl];decide)] at g0
 obtain ⟨d0,h0,q0⟩:=(Jx Try.underlying3) H enc spare held n _ _ g0;have g1:DataW.trod enc Try.prog W 0 spare held n 3 ((cs.drop 1).take (Try.prog.cellsOf 3))=xs[1]? :=hf 1 _ rfl
 rw[show Try.prog.cellsOf 3=1 by kernel_rfl,List.getElem?_eq_getElem (by rw[hxl];decide)] at g1
 obtain ⟨d1,h1,q1⟩:=(Jx Try.underlying3) H enc spare held n _ _ g1;have g2:DataW.trod enc Try.prog W 0 spare held n 3 ((cs.drop 2).take (Try.prog.cellsOf 3))=xs[2]? :=hf 2 _ rfl
 rw[show Try.prog.cellsOf 3=1 by kernel_rfl,List.getElem?_eq_getElem (by rw[hxl];decide)] at g2
 obtain ⟨d2,h2,q2⟩:=(Jx Try.underlying3) H enc spare held n _ _ g2;have g3:DataW.trod enc Try.prog W 0 spare held n 3 ((cs.drop 3).take (Try.prog.cellsOf 3))=xs[3]? :=hf 3 _ rfl
 rw[show Try.prog.cellsOf 3=1 by kernel_rfl,List.getElem?_eq_getElem (by rw[hxl];decide)] at g3
 obtain ⟨d3,h3,q3⟩:=(Jx Try.underlying3) H enc spare held n _ _ g3;have g4:DataW.trod enc Try.prog W 0 spare held n 3 ((cs.drop 4).take (Try.prog.cellsOf 3))=xs[4]? :=hf 4 _ rfl
 rw[show Try.prog.cellsOf 3=1 by kernel_rfl,List.getElem?_eq_getElem (by rw[hxl];decide)] at g4
 obtain ⟨d4,h4,q4⟩:=(Jx Try.underlying3) H enc spare held n _ _ g4;have e0:cs.drop 0=(cs.drop 0).take 1++cs.drop 1:=Wm rfl;have e1:cs.drop 1=(cs.drop 1).take 1++cs.drop 2:=Wm rfl;have e2:cs.drop 2=(cs.drop 2).take 1++cs.drop 3:=Wm rfl;have e3:cs.drop 3=(cs.drop 3).take 1++cs.drop 4:=Wm rfl;have e4:cs.drop 4=(cs.drop 4).take 1++cs.drop 5:=Wm rfl;have en:cs.drop 5=[]:=List.drop_of_length_le (by omega);have hcs:cs.drop 0=_:=e0
 rw[e1,e2,e3,e4,en,show (cs.drop 0).take 1=_ from h0,show (cs.drop 1).take 1=_ from h1,show (cs.drop 2).take 1=_ from h2,show (cs.drop 3).take 1=_ from h3,show (cs.drop 4).take 1=_ from h4] at hcs
 exact ⟨⟨d0,d1,d2,d3,d4⟩,hcs,q0,q1,q2,q3,q4⟩
set_option maxRecDepth 100000 in
theorem Vz (os:Os) (started:os.Started) (H:Type) (enc:TypeId×Value→H) :
  ReturnsInHanded {} Try.checked os 4 .any (Rows.topSalesFeesSpec.pre6 enc Try.prog Try.f4 Rows.topSalesFeesRow.domain false) (Rows.topSalesFeesSpec.post enc Try.prog Try.f4 false true false false):=by
 refine returnsInHanded_of_change (C:=Try.checked) Qiy started (by kernel_rfl) Try.func4
  (ChangeSpec.witness6 (enc:=enc) (C:=Try.checked) false ⟨#[], #[(.slice none 0 0),(.slice none 0 0),(.slice none 0 0),(.slice none 0 0)],[]⟩ 8 (by kernel_rfl) (by kernel_rfl) (by kernel_rfl) (by kernel_rfl)) ?_
 intro W base args ds gs before hval0 hW hcnd _;have hval: ∀(j:Nat) t v,Try.f4.params[j]? =some t→args[j]? =some v→Value.okWide Try.prog W .any base t v:=hval0;have hW':=hW;obtain ⟨p,q,hA0,hV,rfl,hfz,hnd⟩:=hW;have hA:DataW.TrodAll enc Try.prog W 0 (fun _=>true) true Try.f4.params.toList args.toList ds p:=hA0
 rw[Try.params4] at hA hval
 obtain ⟨rfl,rfl⟩:=trodVars_none hV
 clear hA0 hval0
 obtain ⟨v0,v1,v2,v3,d0,d1,d2,d3,p0,p1,p2,p3,rfl,rfl,rfl,a0,a1,a2,a3⟩:=trodAll_four hA;obtain ⟨A0,n0,c0,rfl⟩:=okWide_slice Try.underlying26 (hval 0 26 v0 rfl rfl);obtain ⟨fu0,ht0⟩:=a0;obtain ⟨x0,⟨B0,b0,hcs0,hl0,hm0,ha0⟩,q0⟩:=(Vs (W:=W) Try.underlying26 (by kernel_rfl) QaP) H enc _ _ fu0 _ _ ht0;have e0:Value.slice A0 n0 c0= .slice B0 x0.length b0:=by simpa [Value.cells] using hcs0
 injection e0 with e0a e0b e0c
 subst e0a e0b e0c;obtain ⟨A1,n1,c1,rfl⟩:=okWide_slice Try.underlying24 (hval 1 24 v1 rfl rfl);obtain ⟨fu1,ht1⟩:=a1;obtain ⟨x1,⟨B1,b1,hcs1,hl1,hm1,ha1⟩,q1⟩:=(Vs (W:=W) Try.underlying24 (by kernel_rfl) QcQ) H enc _ _ fu1 _ _ ht1;have e1:Value.slice A1 n1 c1= .slice B1 x1.length b1:=by simpa [Value.cells] using hcs1
 injection e1 with e1a e1b e1c
 subst e1a e1b e1c;obtain ⟨A2,n2,c2,rfl⟩:=okWide_slice Try.underlying37 (hval 2 37 v2 rfl rfl);obtain ⟨fu2,ht2⟩:=a2;obtain ⟨x2,⟨B2,b2,hcs2,hl2,hm2,ha2⟩,q2⟩:=(Vs (W:=W) Try.underlying37 (by kernel_rfl) (Jx Try.underlying3)) H enc _ _ fu2 _ _ ht2;have e2:Value.slice A2 n2 c2= .slice B2 x2.length b2:=by simpa [Value.cells] using hcs2
 injection e2 with e2a e2b e2c
 subst e2a e2b e2c;obtain ⟨A3,n3,c3,rfl⟩:=okWide_slice Try.underlying37 (hval 3 37 v3 rfl rfl);obtain ⟨fu3,ht3⟩:=a3;obtain ⟨x3,⟨B3,b3,hcs3,hl3,hm3,ha3⟩,q3⟩:=(Vs (W:=W) Try.underlying37 (by kernel_rfl) (Jx Try.underlying3)) H enc _ _ fu3 _ _ ht3;have e3:Value.slice A3 n3 c3= .slice B3 x3.length b3:=by simpa [Value.cells] using hcs3
 injection e3 with e3a e3b e3c
 subst e3a e3b e3c;obtain ⟨F,hF⟩:=JF x0 x1 x2 x3 q0 q1 q2 q3;refine (Qc7 (v:= .bool true) Try.func4 rfl (args:=[_,_,_,_]) (JT ⟨hl0,hm0⟩ (ha0.rds _) ⟨hl1,hm1⟩ (ha1.rds _) ⟨hl2,hm2⟩ (ha2.rds _) ⟨hl3,hm3⟩ (ha3.rds _) hF rfl)).mono fun e W' ⟨he,hw⟩=> ?_;exact ⟨_,he,Qe8 (tb:=4) hW' rfl rfl Try.underlying4 rfl rfl rfl QfW (by decide +kernel) hw⟩
theorem topSalesFees_holds:Rows.TopSalesFeesSaid :=
 OpenClaim.holds_of_wide 4 Try.f4 rfl rfl rfl rfl rfl rfl rfl ⟨rfl,rfl,rfl,rfl,rfl⟩ rfl rfl rfl rfl rfl (by kernel_rfl) Try.func4 (by kernel_rfl)
  (of_decide_eq_true (by kernel_rfl)) (by unfold Func.isWrapper;first | (rw[if_pos (by decide +kernel)];kernel_rfl) | (rw[if_neg (by decide +kernel)];exact ⟨rfl,rfl⟩))
  (fun os started H enc _=>Vz os started H enc)
end Go.Proofs.Ytfdjjdhnfaklbaa
