/- ExactServes: for every input the given law returns true, and its arguments read as before. No condition. -/
import Derived.Test.YtilbengnjgglhaaGreatc2x8
import Derived.Test.YtilbengnjgglhaaGreatc2x1
import Derived.ProofKit
import Derived.Below
import Derived.ChangeSame
import Derived.Carry
import Derived.WideKeyArgs
import Derived.Test.YtilbengnjgglhaaGreatc2x2
import Derived.Deep.Slices
import Derived.Deep.Fields
import Derived.OpenShut
namespace Go.Proofs.YtilbengnjgglhaaGreat
open Go.RowKit
set_option linter.unusedSimpArgs false
set_option linter.unusedVariables false
abbrev Bst:=Bool×Int×List Int
def QiD (p:Pr) (v:Int) (s:Bst) (c:List Int):Bool:=decide ((Jv p ⟨v,c⟩).2=0)&&(!s.1||(decide ((Jv p ⟨v,c⟩).1<s.2.1)||(decide ((Jv p ⟨v,c⟩).1=s.2.1)&&Jd c s.2.2)))
def QbW (p:Pr) (v:Int) (s:Bst) (c:List Int):Bst:=bif QiD p v s c then (true,(Jv p ⟨v,c⟩).1,c) else s
theorem QkS {l:List Int} (hl:l.length≤1000000):Qd7 l=some l:=by
 unfold Qd7
 rw[if_pos hl]
theorem QiU {F:Nat} (hF:40000≤F) {p:Pr} (hp:OkP p) (hc:Qi p=some 0) (hn:p.Road.Edges.length≤600) {v v0:Int} {c:List Int} (hl:c.length≤1000) (s:Bst) :
  WM F c p v s.1 s.2.1 ⟨v0,s.2.2⟩=some ((QbW p v s c).1,(QbW p v s c).2.1,⟨v0,(QbW p v s c).2.2⟩):=by
 unfold WM
 rw[QjO hF hp hc hn,Option.bind_some]
 simp only[oun,QbW,QiD,QdX (show c.length≤1000000 by omega),QkS (show c.length≤1000000 by omega),Option.bind_some]
 have hz:=Qd9 c s.2.2;have e:decide (VH c s.2.2<0)=Jd c s.2.2:=by
  cases h:Jd c s.2.2 with
  | true=>exact decide_eq_true (hz.1.2 h)
  | false =>
   refine decide_eq_false fun h2=> ?_
   rw[hz.1.1 h2] at h
   cases h
 rw[e]
 obtain ⟨s1,s2,s3⟩:=s
 by_cases h0:(Jv p ⟨v,c⟩).2=0
 ·simp only[h0,decide_true,Bool.not_true,cond_false,Bool.true_and]
  cases s1 with
  | false=>simp
  | true =>
   by_cases h1:(Jv p ⟨v,c⟩).1<s2
   ·simp[h1]
   ·by_cases h2:(Jv p ⟨v,c⟩).1=s2
    ·cases h3:Jd c s3<;>simp[h1,h2,h3]
    ·simp[h1,h2]
 ·simp[h0]
def Qdx (ds:List Int) (n:Nat) (pre:List Int) (us:List Bool) (i:Nat):List (List Int):=match ds[i]?,us[i]? with
 | some d,some false=>QaH ds n (pre++[d]) (us.set i true)++QaH ds n (pre++[d,-1]) (us.set i true)
 | _,_=>[]
theorem Qig (ds:List Int) (n:Nat) (pre:List Int) (us:List Bool):QaH ds (n+1) pre us=(List.range ds.length).flatMap (Qdx ds n pre us):=by
 rfl
theorem QjE (L:List Bool) (i:Nat) (x:Bool):Z2 L (i:Int) x=L.set i x:=by simp[Z2]
theorem QjJ (pre x:List Int):J0 (pre++x) 0 ((pre.length:Nat):Int)=some pre:=by
 rw[Va (by simp)]
 simp
theorem QjI (pre:List Int):J0 pre 0 ((pre.length:Nat):Int)=some pre:=by
 rw[Va (Nat.le_refl _)]
 simp
def Qkk (p:Pr) (v v0:Int) (ds:List Int) (n:Nat) (rec_:Int→Unit→Qb→Int→Bool→Int→Ql→(List Int)→(List Int)→(List Bool)→Unit→Option (Bool×Int×Ql×(List Int)×(List Bool))):Prop :=
 ∀(s:Bst) (pre:List Int) (us:List Bool),pre.length+2*n≤1000→us.length=ds.length→(ZK ds us).length=n →
  rec_ (n:Int) () p v s.1 s.2.1 ⟨v0,s.2.2⟩ pre ds us ()=some (((QaH ds n pre us).foldl (QbW p v) s).1,((QaH ds n pre us).foldl (QbW p v) s).2.1,⟨v0,((QaH ds n pre us).foldl (QbW p v) s).2.2⟩,pre,us)
theorem QcY {p:Pr} {v v0:Int} {ds pre:List Int} {us:List Bool} {n:Nat} {rec_:Int→Unit→Qb→Int→Bool→Int→Ql→(List Int)→(List Int)→(List Bool)→Unit→Option (Bool×Int×Ql×(List Int)×(List Bool))}
  (hr:Qkk p v v0 ds n rec_) (hd:ds.length≤1000) (hpre:pre.length+2*(n+1)≤1000) (hus:us.length=ds.length) (hn:(ZK ds us).length=n+1): ∀(rest:List Nat) (i f:Nat) (s:Bst),(List.range ds.length).drop i=rest→i≤ds.length→rest.length<f →
  iter (YD ((n+1:Nat):Int) p v pre ds rec_) f (pre,us,s.1,s.2.1,v0,s.2.2,(i:Int))=some (((rest.flatMap (Qdx ds n pre us)).foldl (QbW p v) s).1,((rest.flatMap (Qdx ds n pre us)).foldl (QbW p v) s).2.1,v0,((rest.flatMap (Qdx ds n pre us)).foldl (QbW p v) s).2.2,pre,us)
 | _,_,0,_,_,_,h=>by omega
 | [],i,f+1,s,h,hi,_=>by
  have h0:ds.length=i:=by
   have:=congrArg List.length h
   simp at this;omega
  have h1: ¬((i:Int)<((ds.length:Nat):Int)):=by omega
  simp only[iter,YD,oun,QQ,h1,decide_false,cond_false,Option.bind_some,List.flatMap_nil,List.foldl_nil]
 | k::rest,i,f+1,s,h,hi,hf=>by
  have hi':i<ds.length:=by
   have:=congrArg List.length h
   simp at this;omega
  have hk:k=i:=by
   have:((List.range ds.length).drop i)[0]? =some k:=by rw[h];rfl
   simp[hi'] at this
   exact this.symm
  subst hk;have hrest:(List.range ds.length).drop (k+1)=rest:=by rw[←List.drop_drop,h];rfl
  have h1:((k:Int)<((ds.length:Nat):Int)):=by omega
  have e1:w64 ((k:Int)+1)=((k+1:Nat):Int):=by rw[QV (by omega) (by omega)];omega
  have en:w64 (((n+1:Nat):Int)-1)=(n:Int):=by rw[QV (by omega) (by omega)];omega
  obtain ⟨d,gd⟩: ∃d,ds[k]? =some d:=⟨_,List.getElem?_eq_getElem hi'⟩
  obtain ⟨u,gu⟩: ∃u,us[k]? =some u:=⟨_,List.getElem?_eq_getElem (hus▸hi')⟩
  rw[List.flatMap_cons,List.foldl_append]
  cases u with
  | true =>
   have hs:Qdx ds n pre us k=[]:=by simp only[Qdx,gd,gu]
   rw[hs,List.foldl_nil]
   have ih:=QcY hr hd hpre hus hn rest (k+1) f s hrest (by omega) (by simp at hf;omega)
   rw[←ih]
   simp only[iter,YD,oun,QQ,h1,decide_true,cond_true,Qt,gd,gu,Option.bind_some,e1]
  | false =>
   have hp:=Vj gd gu;have hl2:(ZK ds (us.set k true)).length=n:=by
    have:=hp.length_eq
    simp at this;omega
   have hs:Qdx ds n pre us k=QaH ds n (pre++[d]) (us.set k true)++QaH ds n (pre++[d,-1]) (us.set k true):=by simp only[Qdx,gd,gu]
   rw[hs,List.foldl_append]
   have r1:=hr s (pre++[d]) (us.set k true) (by simp;omega) (by simp[hus]) hl2
   generalize (QaH ds n (pre++[d]) (us.set k true)).foldl (QbW p v) s=s1 at r1 ⊢
   have r2:=hr s1 (pre++[d,-1]) (us.set k true) (by simp;omega) (by simp[hus]) hl2
   generalize (QaH ds n (pre++[d,-1]) (us.set k true)).foldl (QbW p v) s1=s2 at r2 ⊢
   have ih:=QcY hr hd hpre hus hn rest (k+1) f s2 hrest (by omega) (by simp at hf;omega)
   rw[←ih]
   have gx:(us.set k true)[k]? =some true:=by simp[hus,hi']
   have gz:(us.set k true).set k false=us:=by
    rw[List.set_set]
    apply List.ext_getElem? fun j=> ?_
    by_cases hj:j=k
    ·subst hj
     rw[gu]
     simp[hus,hi']
    ·rw[List.getElem?_set_ne (by omega)]
   simp only[iter,YD,oun,QQ,h1,decide_true,cond_true,Qt,gd,gu,Option.bind_some,e1,en,cond_false,QjI,QjJ,QjE,ZP (show pre.length+[d].length≤1000000 by simp;omega),ZP (show pre.length+[d,-1].length≤1000000 by simp;omega),r1,r2,gx,gz]
theorem QhQ {p:Pr} (hp:OkP p) (hc:Qi p=some 0) (hne:p.Road.Edges.length≤600) {v v0:Int} {ds:List Int} (hd:ds.length≤1000): ∀(n F:Nat),40000+n+1≤F→Qkk p v v0 ds n (YN F)
 | 0,0,h=>by omega
 | n+1,0,h=>by omega
 | 0,F+1,h=>by
  intro s pre us hpre hus hn;have b:=QiU (v0:=v0) (v:=v) (show 40000≤F by omega) hp hc hne (c:=pre) (by omega) s
  simp only[YN,Jj,Int.ofNat_zero,Int.natCast_zero,decide_true,cond_true,b,Option.bind_some,oun,QaH,List.foldl_cons,List.foldl_nil]
 | n+1,F+1,h=>by
  intro s pre us hpre hus hn;have ih:=QhQ hp hc hne (v:=v) (v0:=v0) hd n F (by omega);have l:=QcY ih hd hpre hus hn _ 0 (((ds.length:Nat):Int).toNat+1) s rfl (by omega) (by simp);have h0: ¬(((n+1:Nat):Int)=0):=by omega
  simp only[YN,Jj,h0,decide_false,cond_false]
  have l':iter (YD ((n+1:Nat):Int) p v pre ds (YN F)) (((ds.length:Nat):Int).toNat+1) (pre,us,s.1,s.2.1,v0,s.2.2,0)=_:=l
  rw[l',Qig]
  simp only[Option.bind_some,oun,List.drop_zero]
end Go.Proofs.YtilbengnjgglhaaGreat
namespace Go.Proofs.YtilbengnjgglhaaGreat
open Go.RowKit
set_option linter.unusedSimpArgs false
set_option linter.unusedVariables false
theorem Qc0 {L:List Int}: ∀(l pre:List Int),L=pre++l→pre.Nodup→YZ (fun k (y:Int)=>bif decide (y∈L.take k) then some (.inr 6) else none) (.inl ():Unit⊕Int) pre.length l=bif decide L.Nodup then .inl () else .inr 6
 | [],pre,h,hp=>by
  have:L.Nodup:=by rw[h];simpa using hp
  simp[YZ,this]
 | y::l,pre,h,hp=>by
  have ht:L.take pre.length=pre:=by rw[h];simp
  unfold YZ
  rw[ht]
  by_cases hy:y∈pre
  ·have hnd: ¬L.Nodup:=by
    rw[h,List.nodup_append]
    exact fun hh=>hh.2.2 y hy y List.mem_cons_self rfl
   simp[hy,hnd]
  ·have ih:=Qc0 (L:=L) l (pre++[y]) (by rw[h];simp) (by
    rw[List.nodup_append]
    exact ⟨hp,by simp,fun a ha b hb=>by rw[List.mem_singleton] at hb;subst hb;exact fun hh=>hy (hh▸ha)⟩)
   rw[List.length_append] at ih
   simpa [hy] using ih
theorem QiY {L:List Int} (hn:L.length≤1000):iter (Jw L) (((L.length:Nat):Int).toNat+1) 0=some (bif decide L.Nodup then .inl () else .inr 6):=by
 have:=YA (body:=Jw L) L (fun k (y:Int)=>bif decide (y∈L.take k) then some (.inr 6) else none) (.inl ():Unit⊕Int) (by omega) (fun k y hy=> ?_) (by simp[Jw]) (((L.length:Nat):Int).toNat+1) (by simp)
 ·rw[this]
  exact congrArg some (Qc0 L [] rfl List.nodup_nil)
 ·have hk:=Qz hy;have hk2:((k:Int)<(L.length:Nat)):=by omega
  simp only[Jw,hk2,decide_true,cond_true,Qt,hy,Option.bind_some,Va (Nat.le_of_lt hk),Qdl (L.take k) (by simp;omega)]
  cases decide (y∈L.take k)<;>rfl
def Qc7 (p:Pr) (d:Int):Bool:=decide (d<0)||decide (((p.Demands.length:Nat):Int)≤d)
theorem Qk0 (p:Pr) (L:List Int) (hn:L.length≤1000):YH L p=some (L.any (Qc7 p)):=by
 unfold YH ZQ;have:=YA (body:=YI L p) L (fun k y=>bif Qc7 p y then some (.inr (k:Int)) else none) (.inl ():Unit⊕Int) (by omega) (fun k y hy=> ?_) (by simp[YI]) (((L.length:Nat):Int).toNat+1) (by simp)
 ·rw[this]
  rcases QhN (Qc7 p) L 0 with ⟨h1,h2⟩ | ⟨j,h1,h2⟩
  ·rw[h1,h2];rfl
  ·rw[h1,h2]
   simp only[Option.bind_some,QQ]
   simp
 ·have hk:=Qz hy;have hk2:((k:Int)<(L.length:Nat)):=by omega
  simp only[YI,hk2,decide_true,cond_true,Qt,hy,Option.bind_some,Vf,Qc7]
  cases decide (y<0)<;>cases decide (((p.Demands.length:Nat):Int)≤y)<;>rfl
def WW (p:Pr) (v:Int) (ds:List Int):Int :=
 bif decide (v<0)||decide (((p.Vehicles.length:Nat):Int)≤v) then 7
 else bif decide (5<ds.length) then 8
 else bif ds.any (Qc7 p) then 7
 else bif decide ds.Nodup then 0 else 6
theorem Qd6 {F:Nat} (hF:33≤F) {p:Pr} (hn:p.Road.Edges.length≤600) {e:Int} (hc:Qi p=some e) (v:Int) (ds:List Int) (hd:ds.length≤1000) :
  J3 F p v ds=some (if e=0 then WW p v ds else e):=by
 unfold J3
 rw[Qb5 hF p hn,hc]
 simp only[Option.bind_some]
 by_cases h:e=0
 ·subst h
  simp only[decide_true,Bool.not_true,cond_false,if_true,WW,Qk0 p ds hd,QiY hd,Option.bind_some]
  have h5:decide ((5:Int)<((ds.length:Nat):Int))=decide (5<ds.length):=by
   by_cases h:5<ds.length<;>simp[h]<;>omega
  rw[h5]
  cases decide (v<0)<;>cases decide (((p.Vehicles.length:Nat):Int)≤v)<;>cases decide (5<ds.length)<;>cases ds.any (Qc7 p)<;>cases decide ds.Nodup<;>rfl
 ·simp[h]
theorem QiV {p:Pr} {v:Int} {ds:List Int}:WW p v ds=0↔(0≤v∧v<((p.Vehicles.length:Nat):Int))∧ds.length≤5∧(∀d∈ds,0≤d∧d<((p.Demands.length:Nat):Int))∧ds.Nodup:=by
 have ho:ds.any (Qc7 p)=false↔ ∀d∈ds,0≤d∧d<((p.Demands.length:Nat):Int):=by
  simp only[List.any_eq_false,Qc7,Bool.or_eq_true,decide_eq_true_eq,not_or,Int.not_lt,Int.not_le]
 rw[←ho]
 unfold WW
 by_cases h1:v<0∨((p.Vehicles.length:Nat):Int)≤v
 ·have e:(decide (v<0)||decide (((p.Vehicles.length:Nat):Int)≤v))=true:=by simpa using h1
  rw[e]
  simp only[cond_true]
  constructor
  ·intro h;cases h
  ·rintro ⟨h,_⟩;omega
 ·have e:(decide (v<0)||decide (((p.Vehicles.length:Nat):Int)≤v))=false:=by
   simp only[Bool.or_eq_false_iff,decide_eq_false_iff_not];omega
  rw[e]
  simp only[cond_false]
  by_cases h5:5<ds.length
  ·simp only[h5,decide_true,cond_true]
   exact ⟨fun h=>(by cases h),fun h=>by omega⟩
  ·simp only[h5,decide_false,cond_false]
   cases ds.any (Qc7 p) with
   | true =>
    simp only[cond_true]
    exact ⟨fun h=>(by cases h),fun h=>(by cases h.2.2.1)⟩
   | false =>
    by_cases hnd:ds.Nodup
    ·simp only[hnd,decide_true,cond_true,cond_false]
     exact ⟨fun _=>⟨by omega,by omega,trivial,trivial⟩,fun _=>trivial⟩
    ·simp only[hnd,decide_false,cond_false]
     exact ⟨fun h=>(by cases h),fun h=>absurd h.2.2.2 id⟩
def Z6 (p:Pr) (v:Int) (C:List Int→Prop) (s:Bst):Prop :=
 (s=(false,0,[])∧ ∀c,C c→(Jv p ⟨v,c⟩).2≠0) ∨
 (s.1=true∧C s.2.2∧Jv p ⟨v,s.2.2⟩=(s.2.1,0)∧ ∀c,C c→(Jv p ⟨v,c⟩).2=0→s.2.1<(Jv p ⟨v,c⟩).1∨(s.2.1=(Jv p ⟨v,c⟩).1∧Jd c s.2.2=false))
theorem Z6.congr {p:Pr} {v:Int} {C D:List Int→Prop} {s:Bst} (h: ∀c,C c↔D c) (hs:Z6 p v C s):Z6 p v D s:=by
 have:C=D:=funext fun c=>propext (h c);exact this▸hs
theorem Z6.uniq {p:Pr} {v:Int} {C:List Int→Prop} {s s':Bst} (h:Z6 p v C s) (h':Z6 p v C s'):s=s':=by
 rcases h with ⟨h1,h2⟩ | ⟨h1,h2,h3,h4⟩
 ·rcases h' with ⟨g1,g2⟩ | ⟨g1,g2,g3,g4⟩
  ·rw[h1,g1]
  ·exact absurd (congrArg Prod.snd g3) (h2 _ g2)
 ·rcases h' with ⟨g1,g2⟩ | ⟨g1,g2,g3,g4⟩
  ·exact absurd (congrArg Prod.snd h3) (g2 _ h2)
  ·have a:=h4 _ g2 (congrArg Prod.snd g3);have b:=g4 _ h2 (congrArg Prod.snd h3)
   rw[g3] at a
   rw[h3] at b
   obtain ⟨s1,s2,s3⟩:=s;obtain ⟨t1,t2,t3⟩:=s'
   simp only at *
   have e2:s2=t2:=by omega
   have e3:s3=t3:=by
    rcases a with a | a
    ·omega
    ·rcases b with b | b
     ·omega
     ·exact Qes b.2 a.2
   rw[h1,g1,e2,e3]
theorem Z6.step {p:Pr} {v:Int} {C:List Int→Prop} {s:Bst} (h:Z6 p v C s) (c:List Int):Z6 p v (fun x=>C x∨x=c) (QbW p v s c):=by
 unfold QbW;cases hu:QiD p v s c with
 | true =>
  simp only[cond_true]
  simp only[QiD,Bool.and_eq_true,Bool.or_eq_true,decide_eq_true_eq,Bool.not_eq_true'] at hu
  obtain ⟨h0,hu⟩:=hu;refine .inr ⟨rfl,.inr rfl,Prod.ext rfl h0,?_⟩;rintro x (hx | rfl) hx0
  ·rcases h with ⟨h1,h2⟩ | ⟨h1,h2,h3,h4⟩
   ·exact absurd hx0 (h2 _ hx)
   ·rcases hu with hu | hu | ⟨hu1,hu2⟩
    ·rw[h1] at hu;cases hu
    ·have:=h4 _ hx hx0
     simp only
     omega
    ·rcases h4 _ hx hx0 with h5 | ⟨h5,h6⟩
     ·simp only;omega
     ·refine .inr ⟨by simp only;omega,?_⟩
      simp only
      cases h7:Jd x c with
      | false=>rfl
      | true=>rw[QaP h7 hu2] at h6;cases h6
  ·exact .inr ⟨rfl,Qer _⟩
 | false =>
  simp only[cond_false]
  rcases h with ⟨h1,h2⟩ | ⟨h1,h2,h3,h4⟩
  ·refine .inl ⟨h1,?_⟩;rintro x (hx | rfl)
   ·exact h2 _ hx
   ·intro h0
    rw[h1] at hu
    simp[QiD,h0] at hu
  ·refine .inr ⟨h1,.inl h2,h3,?_⟩;rintro x (hx | rfl) hx0
   ·exact h4 _ hx hx0
   ·simp only[QiD,hx0,decide_true,Bool.true_and,h1,Bool.not_true,Bool.false_or,Bool.or_eq_false_iff,decide_eq_false_iff_not,Bool.and_eq_false_iff] at hu
    obtain ⟨hu1,hu2⟩:=hu;rcases hu2 with hu2 | hu2
    ·exact .inl (by omega)
    ·by_cases he:s.2.1=(Jv p ⟨v,x⟩).1
     ·exact .inr ⟨he,hu2⟩
     ·exact .inl (by omega)
theorem Z6.fold {p:Pr} {v:Int}: ∀(L:List (List Int)) {C:List Int→Prop} {s:Bst},Z6 p v C s→Z6 p v (fun x=>C x∨x∈L) (L.foldl (QbW p v) s)
 | [],C,s,h=>h.congr (by simp)
 | c::L,C,s,h=>by
  rw[List.foldl_cons]
  refine (Z6.fold L (h.step c)).congr fun x=> ?_
  simp only[List.mem_cons,or_assoc]
def Ju (p:Pr) (v:Int) (ds:List Int):Bst:=(QaH ds ds.length [] (List.replicate ds.length false)).foldl (QbW p v) (false,0,[])
theorem Qgj (p:Pr) (v:Int) (ds:List Int):Z6 p v (Qg2 ds) (Ju p v ds):=by
 refine (Z6.fold (QaH ds ds.length [] (List.replicate ds.length false)) (C:=fun _=>False) (s:=(false,0,[])) (.inl ⟨rfl,fun c h=>h.elim⟩)).congr fun x=> ?_
 rw[Qbd ds.length [] (List.replicate ds.length false) (by rw[QbO]),QbO]
 simp only[List.nil_append,false_or]
 exact Iff.rfl
theorem QfD {F:Nat} (hF:41100≤F) {p:Pr} (hp:OkP p) (hc:Qi p=some 0) (hne:p.Road.Edges.length≤600) (v:Int) {ds:List Int} (hd:ds.length≤100) :
  Wu F p v ds=some (⟨v,(Ju p v ds).2.2⟩,(Ju p v ds).2.1,(Ju p v ds).1):=by
 unfold Wu Jk;have hm:WO false ((ds.length:Nat):Int)=some (List.replicate ds.length false):=by
  unfold WO
  rw[if_pos ⟨by omega,by omega⟩]
  simp
 obtain ⟨l2,hm2⟩: ∃l2,WO (0:Int) (w64 (2*((ds.length:Nat):Int)))=some l2:=by
  rw[QV (by omega) (by omega)]
  unfold WO
  rw[if_pos ⟨by omega,by omega⟩]
  exact ⟨_,rfl⟩
 have:=QhQ hp hc hne (v:=v) (v0:=v) (ds:=ds) (by omega) ds.length F (by omega) (false,0,[]) [] (List.replicate ds.length false) (by simp;omega) (by simp) (by rw[QbO])
 rw[hm,hm2]
 simp only[Option.bind_some]
 simp only at this
 rw[this]
 rfl
def Qdg (p:Pr) (e v:Int) (ds:List Int):Ql×Int×Int :=
 bif decide ((if e=0 then WW p v ds else e)=0) then
  bif (Ju p v ds).1 then (⟨v,(Ju p v ds).2.2⟩,(Ju p v ds).2.1,0) else (⟨0,[]⟩,0,40)
 else (⟨0,[]⟩,0,if e=0 then WW p v ds else e)
def VX (p:Pr) (e v:Int) (ds:List Int):Bool×Int :=
 bif decide ((if e=0 then WW p v ds else e)=0) then ((Ju p v ds).1,0) else (false,if e=0 then WW p v ds else e)
theorem QfJ {e x:Int} (h:(if e=0 then x else e)=0):e=0∧x=0:=by
 by_cases h0:e=0
 ·rw[if_pos h0] at h;exact ⟨h0,h⟩
 ·rw[if_neg h0] at h;exact absurd h h0
theorem Qfy {F:Nat} (hF:41100≤F) {p:Pr} (hne:p.Road.Edges.length≤600) {e:Int} (hc:Qi p=some e) (v:Int) {ds:List Int} (hd:ds.length≤100):Wt F p v ds=some (Qdg p e v ds):=by
 unfold Wt Qdg
 rw[Qd6 (by omega) hne hc v ds (by omega),Option.bind_some]
 by_cases h:(if e=0 then WW p v ds else e)=0
 ·obtain ⟨rfl,h2⟩:=QfJ h
  simp only[if_true,h2,decide_true,Bool.not_true,cond_false,cond_true,QfD hF (OkP.of hne hc) hc hne v hd,Option.bind_some,oun]
  cases (Ju p v ds).1<;>rfl
 ·simp only[h,decide_false,Bool.not_false,cond_true,cond_false]
theorem QcU {F:Nat} (hF:41100≤F) {p:Pr} (hne:p.Road.Edges.length≤600) {e:Int} (hc:Qi p=some e) (v:Int) {ds:List Int} (hd:ds.length≤100):JF F p v ds=some (VX p e v ds):=by
 unfold JF VX
 rw[Qd6 (by omega) hne hc v ds (by omega),Option.bind_some]
 by_cases h:(if e=0 then WW p v ds else e)=0
 ·obtain ⟨rfl,h2⟩:=QfJ h
  simp only[if_true,h2,decide_true,Bool.not_true,cond_false,cond_true,QfD hF (OkP.of hne hc) hc hne v hd,Option.bind_some,oun]
 ·simp only[h,decide_false,Bool.not_false,cond_true,cond_false]
end Go.Proofs.YtilbengnjgglhaaGreat
namespace Go.Proofs.YtilbengnjgglhaaGreat
open Go.RowKit
set_option linter.unusedSimpArgs false
set_option linter.unusedVariables false
theorem Qh7 (L:List Int) (hn:L.length≤1000): ∀(rest:List Int) (k f:Nat) (out:List Int),L.drop k=rest→k≤L.length→out.length=k→rest.length<f →
  iter (Yp L) f ((k:Int),out)=some (out++rest)
 | _,_,0,_,_,_,_,h=>by omega
 | [],k,f+1,out,h,hk,ho,_=>by
  have h0:L.length=k:=by
   have:=congrArg List.length h
   simp at this;omega
  have h1: ¬((k:Int)<((L.length:Nat):Int)):=by omega
  simp only[iter,Yp,oun,QQ,h1,decide_false,cond_false,Option.bind_some,List.append_nil]
 | d::rest,k,f+1,out,h,hk,ho,hf=>by
  have hk':k<L.length:=by
   have:=congrArg List.length h
   simp at this;omega
  have h1:((k:Int)<((L.length:Nat):Int)):=by omega
  have gd:L[k]? =some d:=by
   have:(L.drop k)[0]? =some d:=by rw[h];rfl
   simpa using this
  have hr:L.drop (k+1)=rest:=by rw[←List.drop_drop,h];rfl
  have e1:w64 ((k:Int)+1)=((k+1:Nat):Int):=by rw[QV (by omega) (by omega)];omega
  have ih:=Qh7 L hn rest (k+1) f (out++[d]) hr (by omega) (by simp[ho]) (by simp at hf;omega)
  simp only[iter,Yp,Z3,oun,QQ,h1,decide_true,cond_true,Qt,gd,Option.bind_some,e1,ZP (show out.length+[d].length≤1000000 by simp;omega)]
  have ih':=ih
  rw[List.append_assoc] at ih'
  exact ih'
theorem Qie {L:List Int} (hn:L.length≤1000):ZL L=some (ZS L):=by
 unfold ZL Z4 Y9 ZU;have:=Qh7 L hn L 0 (((L.length:Nat):Int).toNat+1) [] rfl (by omega) rfl (by simp)
 rw[List.nil_append] at this
 have h2:iter (Yp L) (((L.length:Nat):Int).toNat+1) (0,[])=some L:=this
 rw[h2]
 simp only[Option.bind_some,Qft]
 rw[if_pos (by omega)]
 rfl
def Yh:Nat→List Int→List Int
 | _,[]=>[]
 | m,d::r=>if m%2=1 then d::Yh (m/2) r else Yh (m/2) r
theorem W6: ∀(m:Nat) (r:List Int),(Yh m r).Sublist r
 | _,[]=>List.Sublist.refl _
 | m,d::r=>by
  unfold Yh
  split
  ·exact (W6 (m/2) r).cons_cons d
  ·exact (W6 (m/2) r).cons d
theorem Qc6 {r:List Int} (hn:r.length≤15) {m:Nat} (hm:m<65536): ∀(rest:List Int) (k f:Nat) (out:List Int),r.drop k=rest→k≤r.length→out.length≤k→rest.length<f →
  iter (Jo r (m:Int)) f (out,(k:Int))=some (out++Yh (m/2^k) rest)
 | _,_,0,_,_,_,_,h=>by omega
 | [],k,f+1,out,h,hk,ho,_=>by
  have h0:r.length=k:=by
   have:=congrArg List.length h
   simp at this;omega
  have h1: ¬((k:Int)<((r.length:Nat):Int)):=by omega
  simp only[iter,Jo,oun,QQ,h1,decide_false,cond_false,Option.bind_some,Yh,List.append_nil]
 | d::rest,k,f+1,out,h,hk,ho,hf=>by
  have hk':k<r.length:=by
   have:=congrArg List.length h
   simp at this;omega
  have h1:((k:Int)<((r.length:Nat):Int)):=by omega
  have gd:r[k]? =some d:=by
   have:(r.drop k)[0]? =some d:=by rw[h];rfl
   simpa using this
  have hr:r.drop (k+1)=rest:=by rw[←List.drop_drop,h];rfl
  have e1:w64 ((k:Int)+1)=((k+1:Nat):Int):=by rw[QV (by omega) (by omega)];omega
  have e2:((m:Int)/2^((k:Int)).toNat)=((m/2^k:Nat):Int):=by
   rw[Int.toNat_natCast]
   simp
  have hq:m/2^k≤m:=Nat.div_le_self _ _;have e3:QeO .i64 ((m:Int)/2^((k:Int)).toNat) 1=((m/2^k%2:Nat):Int):=by
   rw[e2]
   generalize m/2^k=q at hq ⊢
   rw[QjX (by omega) (by omega)]
   omega
  have e4:m/2^k/2=m/2^(k+1):=by rw[Nat.div_div_eq_div_mul,Nat.pow_succ]
  unfold Yh
  rw[e4]
  by_cases hb:m/2^k%2=1
  ·have ih:=Qc6 hn hm rest (k+1) f (out++[d]) hr (by omega) (by simp;omega) (by simp at hf;omega)
   rw[if_pos hb]
   simp only[iter,Jo,oun,QQ,h1,decide_true,cond_true,Qt,gd,Option.bind_some,e1,Jf (show 0≤(k:Int)∧(k:Int)≤64 by omega),e3,hb,Int.natCast_one,ZP (show out.length+[d].length≤1000000 by simp;omega)]
   have ih':=ih
   rw[List.append_assoc] at ih'
   exact ih'
  ·have ih:=Qc6 hn hm rest (k+1) f out hr (by omega) (by omega) (by simp at hf;omega);have h0:m/2^k%2=0:=by omega
   rw[if_neg hb]
   simp only[iter,Jo,oun,QQ,h1,decide_true,cond_true,Qt,gd,Option.bind_some,e1,Jf (show 0≤(k:Int)∧(k:Int)≤64 by omega),e3,h0,Int.natCast_zero,show decide ((0:Int)=1)=false by decide,cond_false]
   exact ih
def Qdc (ok:List Int→Bool) (out l:List Int):List Int :=
 bif decide (l.length<out.length)||(decide (l.length=out.length)&&decide (0≤VH l out)) then out else bif ok l then l else out
def Qi8 (ok:List Int→Bool) (r:List Int):List Int:=((List.range (2^r.length)).map fun m=>Yh m r).foldl (Qdc ok) []
theorem Qfj {F:Nat} (hF:41100≤F) {p:Pr} (hp:OkP p) (hc:Qi p=some 0) (hne:p.Road.Edges.length≤600) (v:Int) {r:List Int} (hn:r.length≤15): ∀(rest:List Nat) (k f:Nat) (out:List Int),(List.range (2^r.length)).drop k=rest→k≤2^r.length→rest.length<f →
  out.length≤1000→iter (Jp F p v r) f (out,((2^r.length:Nat):Int),(k:Int))=some ((rest.map fun m=>Yh m r).foldl (Qdc fun l=>(Ju p v l).1) out)
 | _,_,0,_,_,_,h,_=>by omega
 | [],k,f+1,out,h,hk,_,_=>by
  have h0:2^r.length=k:=by
   have:=congrArg List.length h
   simp at this;omega
  have h1: ¬((k:Int)<((2^r.length:Nat):Int)):=by omega
  simp only[iter,Jp,oun,QQ,h1,decide_false,cond_false,Option.bind_some,List.map_nil,List.foldl_nil]
 | m::rest,k,f+1,out,h,hk,hf,ho=>by
  have hk':k<2^r.length:=by
   have:=congrArg List.length h
   simp at this;omega
  have hm:m=k:=by
   have:((List.range (2^r.length)).drop k)[0]? =some m:=by rw[h];rfl
   simp[hk'] at this
   exact this.symm
  subst hm;have hr:(List.range (2^r.length)).drop (m+1)=rest:=by rw[←List.drop_drop,h];rfl
  have h1:((m:Int)<((2^r.length:Nat):Int)):=by omega
  have hp2:2^r.length≤2^15:=Nat.pow_le_pow_right (by decide) hn;have e1:w64 ((m:Int)+1)=((m+1:Nat):Int):=by rw[QV (by omega) (by omega)];omega
  have hml:=Qc6 hn (m:=m) (by omega) r 0 (((r.length:Nat):Int).toNat+1) [] rfl (by omega) (by simp) (by simp)
  rw[show m/2^0=m by simp,List.nil_append] at hml
  have hml':iter (Jo r (m:Int)) (((r.length:Nat):Int).toNat+1) ([],0)=some (Yh m r):=hml;have hlen:(Yh m r).length≤15:=Nat.le_trans (W6 m r).length_le hn;have ih:=Qfj hF hp hc hne v hn rest (m+1) f (Qdc (fun l=>(Ju p v l).1) out (Yh m r)) hr (by omega) (by simp at hf;omega) (by
   simp only[Qdc]
   cases (decide ((Yh m r).length<out.length)||(decide ((Yh m r).length=out.length)&&decide (0≤VH (Yh m r) out))) with
   | true=>exact ho
   | false =>
    cases (Ju p v (Yh m r)).1 with
    | true=>simp only[cond_false,cond_true];omega
    | false=>exact ho)
  have c1:decide ((((Yh m r).length:Nat):Int)<((out.length:Nat):Int))=decide ((Yh m r).length<out.length):=by
   by_cases h:(Yh m r).length<out.length<;>simp[h]<;>omega
  have c2:decide ((((Yh m r).length:Nat):Int)=((out.length:Nat):Int))=decide ((Yh m r).length=out.length):=by
   by_cases h:(Yh m r).length=out.length<;>simp[h]<;>omega
  have hb:Jp F p v r (out,((2^r.length:Nat):Int),(m:Int))=some (.inl (Qdc (fun l=>(Ju p v l).1) out (Yh m r),((2^r.length:Nat):Int),((m+1:Nat):Int))):=by
   simp only[Jp,oun,h1,decide_true,cond_true,hml',Option.bind_some,e1,QdX (show (Yh m r).length≤1000000 by omega),QfD hF hp hc hne v (show (Yh m r).length≤100 by omega),Qdc]
   rw[c1,c2]
   cases decide ((Yh m r).length<out.length)<;>cases decide ((Yh m r).length=out.length)<;>cases decide (0≤VH (Yh m r) out)<;>cases (Ju p v (Yh m r)).1<;>rfl
  rw[List.map_cons,List.foldl_cons,←ih]
  simp only[iter,hb,Option.bind_some,QQ]
def Qdh (p:Pr) (e v:Int) (ds:List Int):List Int×Int :=
 bif decide ((if e=0 then WW p v ds else e)=0) then (Qi8 (fun l=>(Ju p v l).1) (ZS ds),0) else ([],if e=0 then WW p v ds else e)
theorem QhH {F:Nat} (hF:41100≤F) {p:Pr} (hne:p.Road.Edges.length≤600) {e:Int} (hc:Qi p=some e) (v:Int) {ds:List Int} (hd:ds.length≤15):W4 F p v ds=some (Qdh p e v ds):=by
 unfold W4 Qdh
 rw[Qd6 (by omega) hne hc v ds (by omega),Option.bind_some]
 by_cases h:(if e=0 then WW p v ds else e)=0
 ·obtain ⟨rfl,h2⟩:=QfJ h;have hl:(ZS ds).length=ds.length:=(JG ds).length_eq;have hp2:2^ds.length≤2^15:=Nat.pow_le_pow_right (by decide) hd;have hw:w64 (1*2^(((ZS ds).length:Nat):Int).toNat)=((2^(ZS ds).length:Nat):Int):=by
   rw[Int.toNat_natCast,hl,Int.one_mul]
   have:((2:Int)^ds.length)=((2^ds.length:Nat):Int):=by simp
   rw[this]
   generalize 2^ds.length=q at hp2 ⊢
   exact QV (by omega) (by omega)
  have hr2:(List.range (2^(ZS ds).length)).length<F:=by
   rw[List.length_range,hl]
   omega
  have:=Qfj hF (OkP.of hne hc) hc hne v (r:=ZS ds) (by omega) _ 0 F [] rfl (Nat.zero_le _) (by simpa using hr2) (by simp);have h':iter (Jp F p v (ZS ds)) F ([],((2^(ZS ds).length:Nat):Int),0)=_:=this
  simp only[if_true,h2,decide_true,Bool.not_true,cond_false,cond_true,Qie (show ds.length≤1000 by omega),Option.bind_some,Jf (show 0≤(((ZS ds).length:Nat):Int)∧(((ZS ds).length:Nat):Int)≤64 by omega),hw,h',List.drop_zero]
  rfl
 ·simp only[h,decide_false,Bool.not_false,cond_true,cond_false]
end Go.Proofs.YtilbengnjgglhaaGreat
namespace Go.Proofs.YtilbengnjgglhaaGreat
open Go.RowKit
set_option linter.unusedSimpArgs false
set_option linter.unusedVariables false
def QlP (k:List Int→Int×Int) (s:Bst) (c:List Int):Bst :=
 bif decide ((k c).2=0)&&(!s.1||(decide ((k c).1<s.2.1)||(decide ((k c).1=s.2.1)&&Jd c s.2.2))) then (true,(k c).1,c) else s
def Qdj (k:List Int→Int×Int) (ds:List Int):Bst:=(QaH ds ds.length [] (List.replicate ds.length false)).foldl (QlP k) (false,0,[])
def QbX (p:Pr) (v:Int) (c:List Int):Int×Int:=(Wi p ⟨v,c⟩).getD (0,1)
theorem W2 {p:Pr} (hp:OkP p) (hc:Qi p=some 0) (v:Int) (ds:List Int):Ju p v ds=Qdj (QbX p v) ds:=by
 have e:(fun c=>Jv p ⟨v,c⟩)=QbX p v:=funext fun c=>by unfold QbX;rw[Qjn hp hc];rfl
 rw[←e]
 rfl
def exZ (g:Int):Pr:=Qb.mk (QB.mk 3 [(QM.mk 0 1 100 60),(QM.mk 1 0 100 60),(QM.mk 1 2 100 60),(QM.mk 2 1 100 60)]) [(Qo.mk ⟨#[118]⟩ 0 (Yd.mk 0 86400) g 1)] [(Qn.mk 0 1 0 10 (Yd.mk 0 86400) 0),(Qn.mk 1 2 0 10 (Yd.mk 0 86400) 0)] 0 0
theorem Qlx (g:Int):QY g=some (exZ g):=rfl
theorem exN (g:Int):(exZ g).Road.Edges.length≤600:=by show 4≤600;decide
theorem c20:Qi (exZ 20)=some 0:=by decide +kernel
theorem c10:Qi (exZ 10)=some 0:=by decide +kernel
theorem c9:Qi (exZ 9)=some 0:=by decide +kernel
theorem z1:Qdg (exZ 20) 0 0 [1,0]=(⟨0,[0,1,-1]⟩,400,0):=by
 unfold Qdg
 rw[W2 (OkP.of (exN 20) c20) c20,show Qdj (QbX (exZ 20) 0) [1,0]=(true,400,[0,1,-1]) by decide +kernel,show WW (exZ 20) 0 [1,0]=0 by decide +kernel]
 rfl
theorem z2:Qdg (exZ 10) 0 0 [0,1]=(⟨0,[0,-1,1,-1]⟩,600,0):=by
 unfold Qdg
 rw[W2 (OkP.of (exN 10) c10) c10,show Qdj (QbX (exZ 10) 0) [0,1]=(true,600,[0,-1,1,-1]) by decide +kernel,show WW (exZ 10) 0 [0,1]=0 by decide +kernel]
 rfl
theorem z3:Qdg (exZ 9) 0 0 [0,1]=(⟨0,[]⟩,0,40):=by
 unfold Qdg
 rw[W2 (OkP.of (exN 9) c9) c9,show Qdj (QbX (exZ 9) 0) [0,1]=(false,0,[]) by decide +kernel,show WW (exZ 9) 0 [0,1]=0 by decide +kernel]
 rfl
theorem z4:VX (exZ 9) 0 0 [0]=(false,0):=by
 unfold VX
 rw[W2 (OkP.of (exN 9) c9) c9,show Qdj (QbX (exZ 9) 0) [0]=(false,0,[]) by decide +kernel,show WW (exZ 9) 0 [0]=0 by decide +kernel]
 rfl
theorem z5:VX (exZ 20) 0 0 [0,1]=(true,0):=by
 unfold VX
 rw[W2 (OkP.of (exN 20) c20) c20,show (Qdj (QbX (exZ 20) 0) [0,1]).1=true by decide +kernel,show WW (exZ 20) 0 [0,1]=0 by decide +kernel]
 rfl
theorem z6:Qdh (exZ 10) 0 0 [1,0]=([0,1],0):=by
 unfold Qdh;have e:(fun l=>(Ju (exZ 10) 0 l).1)=fun l=>(Qdj (QbX (exZ 10) 0) l).1:=funext fun l=>by rw[W2 (OkP.of (exN 10) c10) c10]
 rw[e,show Qi8 (fun l=>(Qdj (QbX (exZ 10) 0) l).1) (ZS [1,0])=[0,1] by decide +kernel,show WW (exZ 10) 0 [1,0]=0 by decide +kernel]
 rfl
theorem QjY {F:Nat} (hF:41100≤F):Zd F=some true:=by
 unfold Zd
 simp only[Qlx,Option.bind_some,Qfy hF (exN 20) c20 0 (ds:=[1,0]) (by decide),Qfy hF (exN 10) c10 0 (ds:=[0,1]) (by decide),Qfy hF (exN 9) c9 0 (ds:=[0,1]) (by decide),QcU hF (exN 9) c9 0 (ds:=[0]) (by decide),QcU hF (exN 20) c20 0 (ds:=[0,1]) (by decide),QhH hF (exN 10) c10 0 (ds:=[1,0]) (by decide),z1,z2,z3,z4,z5,z6,oun]
 decide +kernel
theorem Qis (a:List Int) (hn:a.length≤1000):iter (YU a a) (((a.length:Nat):Int).toNat+1) 0=some (.inl ()):=by
 have:=YA (body:=YU a a) a (fun _ _=>none) (.inl ():Unit⊕Bool) (by omega) (fun k y hy=> ?_) (by simp[YU]) (((a.length:Nat):Int).toNat+1) (by simp)
 ·rw[this]
  exact congrArg some (J4 a 0 fun _ _ _=>rfl)
 ·have hk:=Qz hy;have hk2:((k:Int)<(a.length:Nat)):=by omega
  simp only[YU,hk2,decide_true,cond_true,Qt,hy,Option.bind_some,Bool.not_true,cond_false]
  rfl
theorem Qid {a:List Int} (hn:a.length≤1000):YC a a=some true:=by
 unfold YC
 rw[Qis a hn]
 simp[QQ]
end Go.Proofs.YtilbengnjgglhaaGreat
namespace Go.Proofs.YtilbengnjgglhaaGreat
open Go.RowKit
set_option linter.unusedSimpArgs false
set_option linter.unusedVariables false
theorem QlF (p:Pr) (L:List Int) (hn:L.length≤1000):iter (YJ p L) (((L.length:Nat):Int).toNat+1) 0=some (bif L.any (Qc7 p) then .inr 7 else .inl ()):=by
 have:=YA (body:=YJ p L) L (fun k y=>bif Qc7 p y then some (.inr 7) else none) (.inl ():Unit⊕Int) (by omega) (fun k y hy=> ?_) (by simp[YJ]) (((L.length:Nat):Int).toNat+1) (by simp)
 ·rw[this,QiS]
 ·have hk:=Qz hy;have hk2:((k:Int)<(L.length:Nat)):=by omega
  simp only[YJ,hk2,decide_true,cond_true,Qt,hy,Option.bind_some,Qc7]
  cases decide (y<0)<;>cases decide (((p.Demands.length:Nat):Int)≤y)<;>rfl
theorem QlG (L:List Int) (i:Nat) (hi:i≤L.length) (hn:L.length≤1000) {d:Int} (gd:L[i]? =some d):iter (YK L (i:Int)) ((i:Int).toNat+1) 0=some (bif decide (d∈L.take i) then .inr 6 else .inl ()):=by
 have:=YA (body:=YK L (i:Int)) (L.take i) (fun _ y=>bif decide (d=y) then some (.inr 6) else none) (.inl ():Unit⊕Int) (by simp;omega) (fun k y hy=> ?_) (by rw[Zs hi];simp[YK]) ((i:Int).toNat+1) (by rw[Zs hi];omega)
 ·rw[this,QiS]
  have ha:(L.take i).any (fun y=>decide (d=y))=decide (d∈L.take i):=by
   rw[Bool.eq_iff_iff]
   simp only[List.any_eq_true,decide_eq_true_eq]
   exact ⟨fun ⟨y,h1,h2⟩=>h2▸h1,fun h=>⟨d,h,rfl⟩⟩
  rw[ha]
 ·have hk:=Qz hy
  rw[Zs hi] at hk
  rw[List.getElem?_take,if_pos hk] at hy
  have hk2:((k:Int)<(i:Int)):=by omega
  simp only[YK,hk2,decide_true,cond_true,Qt,hy,gd,Option.bind_some]
  cases decide (d=y)<;>rfl
theorem QlH (L:List Int) (hn:L.length≤1000):iter (YL L) (((L.length:Nat):Int).toNat+1) 0=some (bif decide L.Nodup then .inl () else .inr 6):=by
 have:=YA (body:=YL L) L (fun k (y:Int)=>bif decide (y∈L.take k) then some (.inr 6) else none) (.inl ():Unit⊕Int) (by omega) (fun k y hy=> ?_) (by simp[YL]) (((L.length:Nat):Int).toNat+1) (by simp)
 ·rw[this]
  exact congrArg some (Qc0 L [] rfl List.nodup_nil)
 ·have hk:=Qz hy;have hk2:((k:Int)<((L.length:Nat):Int)):=by omega
  simp only[YL,hk2,decide_true,cond_true,QlG L k (Nat.le_of_lt hk) hn hy,Option.bind_some]
  cases decide (y∈L.take k)<;>rfl
theorem QgN {p:Pr} {e:Int} (hc:Qi p=some e) (v:Int) (ds:List Int) (hd:ds.length≤1000):Zl p v ds=some (if e=0 then WW p v ds else e):=by
 unfold Zl
 rw[hc]
 simp only[Option.bind_some]
 by_cases h:e=0
 ·subst h
  simp only[decide_true,Bool.not_true,cond_false,if_true,WW,QlF p ds hd,QlH ds hd,Option.bind_some]
  have h5:decide ((5:Int)<((ds.length:Nat):Int))=decide (5<ds.length):=by
   by_cases h:5<ds.length<;>simp[h]<;>omega
  rw[h5]
  cases decide (v<0)<;>cases decide (((p.Vehicles.length:Nat):Int)≤v)<;>cases decide (5<ds.length)<;>cases ds.any (Qc7 p)<;>cases decide ds.Nodup<;>rfl
 ·simp[h]
def ndD (p:Pr) (d:Int):Int:=match p.Demands[d.toNat]? with | some x=>x.Node | none=>0
def ndL (p:Pr) (v:Ve) (ds:List Int):List Int:=[v.Depot,p.Unload]++ds.map (ndD p)
def lgT (p:Pr) (ns:List Int):List (List Lg):=ns.map fun a=>ns.map fun b=>QR p a b
def OkN (p:Pr) (ns:List Int):Prop:=ns.length≤100∧ ∀a∈ns,0≤a∧a<p.Road.Nodes
theorem Qjg {p:Pr} {ds:List Int} (hd:ds.length≤20) (ho: ∀d∈ds,0≤d∧d<((p.Demands.length:Nat):Int)) (a:List Int) (ha:a.length≤20): ∀(rest:List Int) (k f:Nat) (out:List Int),ds.drop k=rest→k≤ds.length→out.length≤a.length+k→rest.length<f →
  iter (Yl p ds) f (out,(k:Int))=some (out++rest.map (ndD p))
 | _,_,0,_,_,_,_,h=>by omega
 | [],k,f+1,out,h,hk,ho2,_=>by
  have h0:ds.length=k:=by
   have:=congrArg List.length h
   simp at this;omega
  have h1: ¬((k:Int)<((ds.length:Nat):Int)):=by omega
  simp only[iter,Yl,oun,QQ,h1,decide_false,cond_false,Option.bind_some,List.map_nil,List.append_nil]
 | d::rest,k,f+1,out,h,hk,ho2,hf=>by
  have hk':k<ds.length:=by
   have:=congrArg List.length h
   simp at this;omega
  have h1:((k:Int)<((ds.length:Nat):Int)):=by omega
  have gd:ds[k]? =some d:=by
   have:(ds.drop k)[0]? =some d:=by rw[h];rfl
   simpa using this
  have hr:ds.drop (k+1)=rest:=by rw[←List.drop_drop,h];rfl
  have e1:w64 ((k:Int)+1)=((k+1:Nat):Int):=by rw[QV (by omega) (by omega)];omega
  obtain ⟨d0,d1⟩:=ho d (List.mem_of_getElem? gd);obtain ⟨x,hx⟩: ∃x,p.Demands[d.toNat]? =some x:=⟨p.Demands[d.toNat]'(by omega),by simp⟩
  have gx:QJ p.Demands d=some x:=by unfold QJ;rw[if_pos d0,hx]
  have hn:ndD p d=x.Node:=by unfold ndD;rw[hx]
  have ih:=Qjg hd ho a ha rest (k+1) f (out++[x.Node]) hr (by omega) (by simp;omega) (by simp at hf;omega)
  simp only[iter,Yl,oun,QQ,h1,decide_true,cond_true,Qt,gd,gx,Option.bind_some,e1,ZP (show out.length+[x.Node].length≤1000000 by simp;omega)]
  rw[List.append_assoc] at ih
  rw[List.map_cons,hn]
  exact ih
theorem Qjh {p:Pr} (hp:OkP p) {ns:List Int} (hn:OkN p ns) {i:Nat} {a:Int} (ga:ns[i]? =some a): ∀(rest:List Int) (k f:Nat) (out:List Lg),ns.drop k=rest→k≤ns.length→out.length=k→rest.length<f →
  iter (Ym p ns (i:Int)) f (out,(k:Int))=some (out++rest.map fun b=>QR p a b)
 | _,_,0,_,_,_,_,h=>by omega
 | [],k,f+1,out,h,hk,ho2,_=>by
  have h0:ns.length=k:=by
   have:=congrArg List.length h
   simp at this;omega
  have h1: ¬((k:Int)<((ns.length:Nat):Int)):=by omega
  simp only[iter,Ym,oun,QQ,h1,decide_false,cond_false,Option.bind_some,List.map_nil,List.append_nil]
 | d::rest,k,f+1,out,h,hk,ho2,hf=>by
  have hl:=hn.1;have hk':k<ns.length:=by
   have:=congrArg List.length h
   simp at this;omega
  have h1:((k:Int)<((ns.length:Nat):Int)):=by omega
  have gd:ns[k]? =some d:=by
   have:(ns.drop k)[0]? =some d:=by rw[h];rfl
   simpa using this
  have hr:ns.drop (k+1)=rest:=by rw[←List.drop_drop,h];rfl
  have e1:w64 ((k:Int)+1)=((k+1:Nat):Int):=by rw[QV (by omega) (by omega)];omega
  have hle:=QcM hp (hn.2 a (List.mem_of_getElem? ga)) (hn.2 d (List.mem_of_getElem? gd));have ih:=Qjh hp hn ga rest (k+1) f (out++[QR p a d]) hr (by omega) (by simp;omega) (by simp at hf;omega)
  simp only[iter,Ym,oun,QQ,h1,decide_true,cond_true,Qt,ga,gd,hle,Option.bind_some,e1,ZP (show out.length+[QR p a d].length≤1000000 by simp;omega)]
  rw[List.append_assoc] at ih
  rw[List.map_cons]
  exact ih
theorem Qji {p:Pr} (hp:OkP p) {ns:List Int} (hn:OkN p ns): ∀(rest:List Int) (k f:Nat) (out:List (List Lg)),ns.drop k=rest→k≤ns.length→out.length=k→rest.length<f →
  iter (Q6 p ns) f (out,(k:Int))=some (out++rest.map fun a=>ns.map fun b=>QR p a b)
 | _,_,0,_,_,_,_,h=>by omega
 | [],k,f+1,out,h,hk,ho2,_=>by
  have h0:ns.length=k:=by
   have:=congrArg List.length h
   simp at this;omega
  have h1: ¬((k:Int)<((ns.length:Nat):Int)):=by omega
  simp only[iter,Q6,oun,QQ,h1,decide_false,cond_false,Option.bind_some,List.map_nil,List.append_nil]
 | d::rest,k,f+1,out,h,hk,ho2,hf=>by
  have hl:=hn.1;have hk':k<ns.length:=by
   have:=congrArg List.length h
   simp at this;omega
  have h1:((k:Int)<((ns.length:Nat):Int)):=by omega
  have gd:ns[k]? =some d:=by
   have:(ns.drop k)[0]? =some d:=by rw[h];rfl
   simpa using this
  have hr:ns.drop (k+1)=rest:=by rw[←List.drop_drop,h];rfl
  have e1:w64 ((k:Int)+1)=((k+1:Nat):Int):=by rw[QV (by omega) (by omega)];omega
  have h2:=Qjh hp hn gd ns 0 (((ns.length:Nat):Int).toNat+1) [] rfl (by omega) rfl (by simp);have h2':iter (Ym p ns (k:Int)) (((ns.length:Nat):Int).toNat+1) ([],0)=some (ns.map fun b=>QR p d b):=h2;have ih:=Qji hp hn rest (k+1) f (out++[ns.map fun b=>QR p d b]) hr (by omega) (by simp;omega) (by simp at hf;omega);have hb:Q6 p ns (out,(k:Int))=some (.inl (out++[ns.map fun b=>QR p d b],((k+1:Nat):Int))):=by
   simp only[Q6,oun,QQ,h1,decide_true,cond_true,h2',Option.bind_some,e1,ZP (show out.length+[ns.map fun b=>QR p d b].length≤1000000 by simp;omega)]
  simp only[iter,hb,Option.bind_some,QQ]
  rw[List.append_assoc] at ih
  rw[List.map_cons]
  exact ih
theorem okN {p:Pr} (hp:OkP p) {v:Ve} (hv:OkV p.Road.Nodes v) {ds:List Int} (hd:ds.length≤20) (ho: ∀d∈ds,0≤d∧d<((p.Demands.length:Nat):Int)):OkN p (ndL p v ds):=by
 refine ⟨by simp[ndL];omega,fun a ha=> ?_⟩
 simp only[ndL,List.cons_append,List.nil_append,List.mem_cons,List.mem_map] at ha
 rcases ha with rfl | rfl | ⟨d,hd,rfl⟩
 ·exact ⟨hv.d0,hv.d1⟩
 ·exact ⟨hp.u0,hp.u1⟩
 ·obtain ⟨d0,d1⟩:=ho d hd;unfold ndD;have hx:p.Demands[d.toNat]? =some (p.Demands[d.toNat]'(by omega)):=by simp
  rw[hx]
  have:=hp.de _ (List.mem_of_getElem? hx);exact ⟨this.n0,this.n1⟩
theorem QgM {p:Pr} (hp:OkP p) {vi:Int} {v:Ve} (gv:QJ p.Vehicles vi=some v) (hv:OkV p.Road.Nodes v) {ds:List Int} (hd:ds.length≤20) (ho: ∀d∈ds,0≤d∧d<((p.Demands.length:Nat):Int)) :
  Zm p vi ds=some ⟨p,v,ds,lgT p (ndL p v ds)⟩:=by
 have hN:=okN hp hv hd ho;unfold Zm;have h1:=Qjg hd ho [v.Depot,p.Unload] (by simp) ds 0 (((ds.length:Nat):Int).toNat+1) [v.Depot,p.Unload] rfl (by omega) (by simp) (by simp);have h1':iter (Yl p ds) (((ds.length:Nat):Int).toNat+1) ([v.Depot,p.Unload],0)=some (ndL p v ds):=h1;have h2:=Qji hp hN (ndL p v ds) 0 ((((ndL p v ds).length:Nat):Int).toNat+1) [] rfl (by omega) rfl (by simp);have h2':iter (Q6 p (ndL p v ds)) ((((ndL p v ds).length:Nat):Int).toNat+1) ([],0)=some (lgT p (ndL p v ds)):=h2
 rw[gv]
 simp only[Option.bind_some,h1',h2']
end Go.Proofs.YtilbengnjgglhaaGreat
namespace Go.Proofs.YtilbengnjgglhaaGreat
open Go.RowKit
set_option linter.unusedSimpArgs false
set_option linter.unusedVariables false
abbrev Fd:=Qp
abbrev Sta:=Qk
def QbS (a b:Bst):Bst:=bif !b.1||(a.1&&(decide (a.2.1<b.2.1)||(decide (a.2.1=b.2.1)&&Jd a.2.2 b.2.2))) then a else b
def toF (s:Bst):Fd:=⟨s.1,s.2.1,s.2.2⟩
theorem Qd1 {F:Nat} (hF:40000≤F) {a b:Bst} (ha:a.2.2.length≤1000):Q7 F (toF a) (toF b)=some (toF (QbS a b)):=by
 obtain ⟨a1,a2,a3⟩:=a;obtain ⟨b1,b2,b3⟩:=b
 simp only[Q7,toF,QbS,QhG hF (show a3.length≤1000 from ha),Option.bind_some]
 cases b1<;>cases a1<;>by_cases h1:a2<b2<;>by_cases h2:a2=b2<;>cases Jd a3 b3<;>simp[h1,h2]
theorem Qe2 (s:Bst):QbS s (false,0,[])=s:=by simp[QbS]
theorem Z6.bet {p:Pr} {v:Int} {C D:List Int→Prop} {s t:Bst} (h:Z6 p v C s) (k:Z6 p v D t):Z6 p v (fun c=>C c∨D c) (QbS s t):=by
 rcases k with ⟨rfl,k2⟩ | ⟨k1,k2,k3,k4⟩
 ·rw[Qe2]
  rcases h with ⟨h1,h2⟩ | ⟨h1,h2,h3,h4⟩
  ·exact .inl ⟨h1,fun c hc=>hc.elim (h2 c) (k2 c)⟩
  ·exact .inr ⟨h1,.inl h2,h3,fun c hc h0=>hc.elim (fun hc=>h4 c hc h0) fun hc=>absurd h0 (k2 c hc)⟩
 ·rcases h with ⟨rfl,h2⟩ | ⟨h1,h2,h3,h4⟩
  ·have e:QbS (false,0,[]) t=t:=by simp[QbS,k1]
   rw[e]
   exact .inr ⟨k1,.inr k2,k3,fun c hc h0=>hc.elim (fun hc=>absurd h0 (h2 c hc)) fun hc=>k4 c hc h0⟩
  ·obtain ⟨
       s1,s2,s3⟩:=s
   obtain ⟨t1,t2,t3⟩:=t
   simp only at h1 h2 h3 h4 k1 k2 k3 k4
   subst h1 k1
   by_cases hb:s2<t2∨(s2=t2∧Jd s3 t3=true)
   ·have e:QbS (true,s2,s3) (true,t2,t3)=(true,s2,s3):=by
     have:(decide (s2<t2)||(decide (s2=t2)&&Jd s3 t3))=true:=by simpa using hb
     simp only[QbS,Bool.not_true,Bool.false_or,Bool.true_and,this,cond_true]
    rw[e]
    refine .inr ⟨rfl,.inl h2,h3,fun c hc h0=>hc.elim (fun hc=>h4 c hc h0) fun hc=> ?_⟩
    simp only
    rcases k4 c hc h0 with k | ⟨k,k'⟩
    ·left;rcases hb with hb | hb<;>omega
    ·rcases hb with hb | ⟨hb,hb'⟩
     ·left;omega
     ·refine .inr ⟨by omega,?_⟩;cases hl:Jd c s3 with
      | false=>rfl
      | true=>rw[QaP hl hb'] at k';cases k'
   ·have e:QbS (true,s2,s3) (true,t2,t3)=(true,t2,t3):=by
     have:(decide (s2<t2)||(decide (s2=t2)&&Jd s3 t3))=false:=by
      cases hx:(decide (s2<t2)||(decide (s2=t2)&&Jd s3 t3)) with
      | false=>rfl
      | true=>exact absurd (by simpa using hx) hb
     simp only[QbS,Bool.not_true,Bool.false_or,Bool.true_and,this,cond_false]
    rw[e]
    refine .inr ⟨rfl,.inr k2,k3,fun c hc h0=>hc.elim (fun hc=> ?_) fun hc=>k4 c hc h0⟩
    simp only
    rcases h4 c hc h0 with k | ⟨k,k'⟩
    ·left;omega
    ·by_cases ht:t2<s2
     ·left;omega
     ·have e2:s2=t2:=by omega
      refine .inr ⟨by omega,?_⟩;have hst:Jd s3 t3=false:=by
       cases hx:Jd s3 t3 with
       | false=>rfl
       | true=>exact absurd (.inr ⟨e2,hx⟩) hb
      cases hl:Jd c t3 with
      | false=>rfl
      | true =>
       cases hts:Jd t3 s3 with
       | true=>rw[QaP hl hts] at k';cases k'
       | false =>
        have:=Qes hst hts;subst this
        rw[hl] at k';cases k'
theorem Z6.more {p:Pr} {v:Int} {C D:List Int→Prop} {s:Bst} (h:Z6 p v C s) (hD: ∀c,D c→(Jv p ⟨v,c⟩).2≠0):Z6 p v (fun c=>C c∨D c) s:=by
 have:=h.bet (t:=(false,0,[])) (D:=D) (.inl ⟨rfl,hD⟩)
 rwa [Qe2] at this
structure AtS (p:Pr) (v:Ve) (ds:List Int) (pre:List Int) (us:List Bool) (x:Vi) (m:Int) (s:Sta):Prop where
 st:s.Stops=pre
 sv:s.Served=us
 a0:0≤s.At
 nd:(ndL p v ds)[s.At.toNat]? =some x.Node
 tm:s.Time=x.Leave
 ld:s.Load=x.Load
 mt:s.Meters=m
 inv:InV p v pre.length x
 m0:0≤m
 m1:m≤pre.length*6400000
 fol: ∃vis,Wc p v [] pre (x0 v)= .inl (x,vis)∧VS p v.Depot vis=m
abbrev tsk (p:Pr) (v:Ve) (ds:List Int):Qw:=⟨p,v,ds,lgT p (ndL p v ds)⟩
section
variable {p:Pr} {v:Ve} {ds pre:List Int} {us:List Bool} {x:Vi} {m:Int} {s:Sta}
theorem Qew (hp:OkP p) (hN:OkN p (ndL p v ds)) (h:AtS p v ds pre us x m s) (hl:pre.length≤40) {k:Nat} {b:Int} (hk:(ndL p v ds)[k]? =some b) :
  recyclingref24_moved (tsk p v ds) s (k:Int)=some (if (QR p x.Node b).Secs<0 then (s,false) else (⟨pre,us,(k:Int),x.Leave+(QR p x.Node b).Secs,x.Load,m+(QR p x.Node b).Meters⟩,true)):=by
 have g1:QJ (lgT p (ndL p v ds)) s.At=some ((ndL p v ds).map fun b=>QR p x.Node b):=by
  unfold QJ
  rw[if_pos h.a0]
  simp[lgT,h.nd]
 have g2:QJ ((ndL p v ds).map fun b=>QR p x.Node b) (k:Int)=some (QR p x.Node b):=by
  rw[Qt]
  simp[hk]
 have hb:=Zb hp (hN.2 _ (List.mem_of_getElem? h.nd)) (hN.2 _ (List.mem_of_getElem? hk));have t0:=h.inv.t0;have t1:=h.inv.t1;have m0:=h.m0;have m1:=h.m1;unfold recyclingref24_moved
 simp only[g1,g2,Option.bind_some]
 by_cases c:(QR p x.Node b).Secs<0
 ·simp only[c,decide_true,cond_true,if_true]
 ·simp only[c,decide_false,cond_false,if_false]
  rw[h.st,h.sv,h.tm,h.ld,h.mt,QV (n:=x.Leave+(QR p x.Node b).Secs) (by omega) (by omega),QV (n:=m+(QR p x.Node b).Meters) (by omega) (by omega)]
theorem AtS.next {us2:List Bool} {d:Int} {y:Vi} {a:Int} (hp:OkP p) (hv:OkV p.Road.Nodes v) (hN:OkN p (ndL p v ds)) (h:AtS p v ds pre us x m s) (hs:JX p v pre x d= .inl y) (ha:0≤a) (hn:(ndL p v ds)[a.toNat]? =some y.Node) :
  AtS p v ds (pre++[d]) us2 y (m+(QR p x.Node y.Node).Meters) ⟨pre++[d],us2,a,y.Leave,y.Load,m+(QR p x.Node y.Node).Meters⟩:=by
 obtain ⟨i1,_,_⟩:=QbB hp hv h.inv hs;have hb:=Zb hp (hN.2 _ (List.mem_of_getElem? h.nd)) (hN.2 _ (List.mem_of_getElem? hn));have m0:=h.m0;have m1:=h.m1;refine ⟨rfl,rfl,ha,hn,rfl,rfl,rfl,by simpa using i1,by omega,by simp;omega,?_⟩;obtain ⟨vis,f1,f2⟩:=h.fol;refine ⟨vis++[y],?_,?_⟩
 ·rw[Qbj,f1]
  simp only[List.nil_append,Wc,hs]
 ·have:=QbL (p:=p) (v:=v) y pre [] (x0 v) _ f1
  rw[←f2]
  exact this
theorem Qiy (hp:OkP p) (hv:OkV p.Road.Nodes v) (hN:OkN p (ndL p v ds)) (h:AtS p v ds pre us x m s) (hl:pre.length≤30) {i:Nat} {d:Int} (gd:ds[i]? =some d) (d0:0≤d∧d<((p.Demands.length:Nat):Int)) (hpre:d∉pre) (hu:us[i]? =some false) (hdl:ds.length≤20) (hul:us.length≤20) :
  match JX p v pre x d with
  | .inr _=> ∃s',Y6 (tsk p v ds) s (i:Int)=some (s',false)
  | .inl y=> ∃s',Y6 (tsk p v ds) s (i:Int)=some (s',true)∧AtS p v ds (pre++[d]) (us.set i true) y (m+(QR p x.Node y.Node).Meters) s':=by
 obtain ⟨D,hD⟩: ∃D,p.Demands[d.toNat]? =some D:=⟨p.Demands[d.toNat]'(by omega),by simp⟩
 have gD:QJ p.Demands d=some D:=by unfold QJ;rw[if_pos d0.1,hD]
 have hn:ndD p d=D.Node:=by unfold ndD;rw[hD]
 have hi:i<ds.length:=Qz gd;have hk:(ndL p v ds)[i+2]? =some D.Node:=by simp[ndL,gd,hn]
 have ew:w64 ((i:Int)+2)=((i+2:Nat):Int):=by rw[QV (by omega) (by omega)];omega
 have hmv:=Qew hp hN h (by omega) hk;have oD:=hp.de D (List.mem_of_getElem? hD);have hb:=Zb hp (hN.2 _ (List.mem_of_getElem? h.nd)) (hN.2 _ (List.mem_of_getElem? hk));have t0:=h.inv.t0;have t1:=h.inv.t1;have l0:=h.inv.l0;have l1:=h.inv.l1;have k0:=oD.k0;have k1:=oD.k1;have g0:=oD.g0;have g1:=oD.g1;have w0:=oD.w0;have w1:=oD.w1;have w2:=oD.w2;have s0:=oD.s0;have s1:=oD.s1;have vg:=hv.g1;have eK:IntKind.u64.wrap D.Kind=D.Kind:=by
  show D.Kind%18446744073709551616=D.Kind
  omega
 have hq:=QlA hv D.Kind.toNat;have eA:QeO .i64 (v.Kinds/2^D.Kind.toNat) 1=(v.Kinds/2^D.Kind.toNat)%2:=QjX hq.1 hq.2;have eC:decide ((v.Kinds/2^D.Kind.toNat)%2=0)=Bool.not (Qd4 v D.Kind):=by
  unfold Qd4
  by_cases c:(v.Kinds/2^D.Kind.toNat)%2=1
  ·rw[c];rfl
  ·have:(v.Kinds/2^D.Kind.toNat)%2=0:=by omega
   rw[this];rfl
 unfold JX
 rw[if_neg (by omega),if_neg (by omega),if_neg hpre,hD]
 simp only
 unfold Y6
 simp only[Qt,gd,gD,ew,hmv,Option.bind_some,oun,eK,Jf (show 0≤D.Kind∧D.Kind≤64 by omega),eA,eC]
 by_cases c1:Qd4 v D.Kind=false
 ·rw[if_pos c1]
  refine ⟨s,?_⟩
  rw[c1]
  by_cases c2:(QR p x.Node D.Node).Secs<0
  ·simp only[c2,if_true,Bool.not_false,cond_true,Option.bind_some]
  ·simp only[c2,if_false,Bool.not_true,Bool.not_false,cond_false,cond_true,Option.bind_some]
 ·rw[if_neg c1]
  have c1:Qd4 v D.Kind=true:=by simpa using c1
  rw[c1]
  by_cases c2:(QR p x.Node D.Node).Secs<0
  ·rw[if_pos c2]
   exact ⟨s,by simp only[c2,if_true,Bool.not_false,cond_true,Option.bind_some]⟩
  ·rw[if_neg c2]
   simp only[c2,if_false,Bool.not_true,cond_false,Option.bind_some]
   have em:(bif decide (x.Leave+(QR p x.Node D.Node).Secs<D.When.From) then some D.When.From else some (x.Leave+(QR p x.Node D.Node).Secs))=some (max (x.Leave+(QR p x.Node D.Node).Secs) D.When.From):=by
    by_cases c:x.Leave+(QR p x.Node D.Node).Secs<D.When.From
    ·simp only[c,decide_true,cond_true];congr 1;omega
    ·simp only[c,decide_false,cond_false];congr 1;omega
   rw[em]
   simp only[Option.bind_some]
   have e4:w64 (x.Load+D.Grams)=x.Load+D.Grams:=QV (by omega) (by omega)
   rw[e4]
   by_cases c3:D.When.To≤max (x.Leave+(QR p x.Node D.Node).Secs) D.When.From
   ·rw[if_pos c3]
    exact ⟨s,by simp only[c3,decide_true,cond_true,Option.bind_some]⟩
   ·rw[if_neg c3]
    simp only[c3,decide_false,cond_false,Option.bind_some]
    by_cases c4:v.Grams<x.Load+D.Grams
    ·rw[if_pos c4]
     exact ⟨s,by simp only[c4,decide_true,cond_true]⟩
    ·rw[if_neg c4]
     simp only[c4,decide_false,cond_false]
     have e5:w64 (max (x.Leave+(QR p x.Node D.Node).Secs) D.When.From+D.Service)=max (x.Leave+(QR p x.Node D.Node).Secs) D.When.From+D.Service:=QV (by omega) (by omega);have hstep:JX p v pre x d= .inl ⟨d,D.Node,x.Leave+(QR p x.Node D.Node).Secs,max (x.Leave+(QR p x.Node D.Node).Secs) D.When.From,max (x.Leave+(QR p x.Node D.Node).Secs) D.When.From+D.Service,x.Load+D.Grams⟩:=by
      unfold JX
      rw[if_neg (by omega),if_neg (by omega),if_neg hpre,hD]
      simp only
      rw[if_neg (by rw[c1];decide),if_neg c2,if_neg c3,if_neg c4]
     have hh:=AtS.next (us2:=us.set i true) (a:=((i+2:Nat):Int)) hp hv hN h hstep (by omega) hk;refine ⟨_,?_,hh⟩
     simp only[h.st,h.sv,e5,ZP (show ([]:List Int).length+pre.length≤1000000 by simp;omega),ZP (show pre.length+[d].length≤1000000 by simp;omega),ZP (show ([]:List Bool).length+us.length≤1000000 by simp;omega),List.nil_append,Option.bind_some,Qt,hu,Z2,Int.toNat_natCast]
theorem Qg0 (hp:OkP p) (hv:OkV p.Road.Nodes v) (hN:OkN p (ndL p v ds)) (h:AtS p v ds pre us x m s) (hl:pre.length≤30) :
  match JX p v pre x (-1) with
  | .inr _=> ∃s',YM (tsk p v ds) s=some (s',false)
  | .inl y=> ∃s',YM (tsk p v ds) s=some (s',true)∧AtS p v ds (pre++[-1]) us y (m+(QR p x.Node y.Node).Meters) s':=by
 have hk:(ndL p v ds)[1]? =some p.Unload:=rfl;have hmv:=Qew hp hN h (by omega) hk;have hmv':recyclingref24_moved (tsk p v ds) s 1=_:=hmv;have hb:=Zb hp (hN.2 _ (List.mem_of_getElem? h.nd)) (hN.2 _ (List.mem_of_getElem? hk));have t0:=h.inv.t0;have t1:=h.inv.t1;have u0:=hp.us0;have u1:=hp.us1;have hap1:Wh ([]:List Int) pre=some pre:=by rw[ZP (by simp;omega)];rfl
 have hap2:Wh pre [(-1:Int)]=some (pre++[-1]):=ZP (by simp;omega);unfold JX
 rw[if_pos rfl]
 unfold YM
 rw[hmv']
 by_cases c:(QR p x.Node p.Unload).Secs<0
 ·rw[if_pos c,if_pos c]
  simp only[Option.bind_some,oun,h.st,hap1,hap2]
  exact ⟨_,rfl⟩
 ·rw[if_neg c,if_neg c]
  have hstep:JX p v pre x (-1)= .inl ⟨-1,p.Unload,x.Leave+(QR p x.Node p.Unload).Secs,x.Leave+(QR p x.Node p.Unload).Secs,x.Leave+(QR p x.Node p.Unload).Secs+p.UnloadSecs,0⟩:=by
   unfold JX
   rw[if_pos rfl,if_neg c]
  have hh:=AtS.next (us2:=us) (a:=1) hp hv hN h hstep (by omega) hk;refine ⟨_,?_,hh⟩
  simp only[Option.bind_some,oun,h.st,hap1,hap2]
  rw[QV (by omega) (by omega)]
  rfl
theorem QiX {vi:Int} {c:List Int} (gv:QJ p.Vehicles vi=some v) (h:(Jv p ⟨vi,c⟩).2=0): ∃z,Wc p v [] c (x0 v)= .inl z:=by
 cases ht:V4 p ⟨vi,c⟩ with
 | inr q =>
  exfalso
  have:=Qdb ht;unfold Jv at h
  rw[ht] at h
  exact this h
 | inl u =>
  unfold V4 at ht
  split at ht
  ·cases ht
  ·split at ht
   ·cases ht
   ·split at ht
    ·cases ht
    ·rename_i v' hv'
     have:v'=v:=by
      have:=(Zr gv).2.2
      simp only at hv'
      rw[this] at hv'
      injection hv' with hv'
      exact hv'.symm
     subst this
     split at ht
     ·cases ht
     ·rename_i z hz
      exact ⟨z,hz⟩
theorem Qea {vi d e:Int} {rest:List Int} (gv:QJ p.Vehicles vi=some v) (h:AtS p v ds pre us x m s) (hs:JX p v pre x d= .inr e):(Jv p ⟨vi,pre++d::rest⟩).2≠0:=by
 intro h0;obtain ⟨z,hz⟩:=QiX gv h0;obtain ⟨vis,f1,_⟩:=h.fol
 rw[Qbj,f1] at hz
 simp only[List.nil_append,Wc,hs] at hz
 cases hz
theorem Qik {vi:Int} (gv:QJ p.Vehicles vi=some v) (h:AtS p v ds pre us x m s) (hl:pre.length≤30):Jv p ⟨vi,pre⟩=match JV p v x with
  | .inr e=>(0,e)
  | .inl y=>(m+(QR p x.Node v.Depot).Meters,0):=by
 obtain ⟨g0,g1,_⟩:=Zr gv;obtain ⟨vis,f1,f2⟩:=h.fol;have:=QjK (p:=p) (t:=⟨vi,pre⟩) g0 g1 gv (by simp only;omega)
 simp only[f1] at this
 unfold Jv
 rw[this]
 cases hh:JV p v x with
 | inr e=>rfl
 | inl y =>
  simp only
  have hy:y.Node=v.Depot:=by
   unfold JV at hh
   repeat' split at hh
   all_goals first | (cases hh;done) | (injection hh with hh;subst hh;rfl)
  have:=QbL (p:=p) (v:=v) y pre [] (x0 v) _ f1
  rw[show QR p x.Node v.Depot=QR p x.Node y.Node by rw[hy],←f2]
  exact congrArg (fun q=>(q,(0:Int))) this
end
end Go.Proofs.YtilbengnjgglhaaGreat
namespace Go.Proofs.YtilbengnjgglhaaGreat
open Go.RowKit
set_option linter.unusedSimpArgs false
set_option linter.unusedVariables false
def From (ds:List Int) (pre:List Int) (us:List Bool) (c:List Int):Prop:= ∃P:List (Int×Bool),(P.map Prod.fst).Perm (ZK ds us)∧c=pre++ZG P
theorem From.len {ds pre:List Int} {us:List Bool} {c:List Int} {n:Nat} (h:From ds pre us c) (hn:(ZK ds us).length=n):c.length≤pre.length+2*n:=by
 obtain ⟨P,h1,rfl⟩:=h;have h2:=QbC P;have h3:=h1.length_eq
 simp at h3 ⊢
 omega
theorem Z6.len {p:Pr} {v:Int} {C:List Int→Prop} {s:Bst} {n:Nat} (h:Z6 p v C s) (hC: ∀c,C c→c.length≤n):s.2.2.length≤n:=by
 rcases h with ⟨rfl,_⟩ | ⟨_,h2,_⟩
 ·exact Nat.zero_le _
 ·exact hC _ h2
def Qgb (ds:List Int) (pre:List Int) (us:List Bool) (k:Nat) (c:List Int):Prop:= ∃(i:Nat) (d:Int) (f:Bool) (P:List (Int×Bool)),i<k∧ds[i]? =some d∧us[i]? =some false∧(P.map Prod.fst).Perm (ZK ds (us.set i true))∧c=pre++ZG ((d,f)::P)
theorem Qg1 {ds pre:List Int} {us:List Bool} {k:Nat} (hu:us[k]? ≠some false) (c:List Int):Qgb ds pre us k c↔Qgb ds pre us (k+1) c:=by
 constructor
 ·rintro ⟨i,d,f,P,h1,h⟩;exact ⟨i,d,f,P,by omega,h⟩
 ·rintro ⟨i,d,f,P,h1,h2,h3,h⟩;refine ⟨i,d,f,P,?_,h2,h3,h⟩;rcases Nat.lt_or_ge i k with h4 | h4
  ·exact h4
  ·have:i=k:=by omega
   subst this;exact absurd h3 hu
theorem QbD {ds pre:List Int} {us:List Bool} {k:Nat} {d:Int} (gd:ds[k]? =some d) (hu:us[k]? =some false) (c:List Int) :
  ((Qgb ds pre us k c∨From ds (pre++[d]) (us.set k true) c)∨From ds (pre++[d]++[-1]) (us.set k true) c)↔Qgb ds pre us (k+1) c:=by
 constructor
 ·rintro ((⟨i,d,f,P,h1,h⟩ | ⟨P,h1,h2⟩) | ⟨P,h1,h2⟩)
  ·exact ⟨i,d,f,P,by omega,h⟩
  ·exact ⟨k,d,false,P,by omega,gd,hu,h1,by rw[h2];simp[ZG]⟩
  ·exact ⟨k,d,true,P,by omega,gd,hu,h1,by rw[h2];simp[ZG]⟩
 ·rintro ⟨i,d',f,P,h1,h2,h3,h4,h5⟩;rcases Nat.lt_or_ge i k with hi | hi
  ·exact .inl (.inl ⟨i,d',f,P,hi,h2,h3,h4,h5⟩)
  ·have:i=k:=by omega
   subst this
   rw[gd] at h2
   injection h2 with h2
   subst h2;cases f with
   | false=>exact .inl (.inr ⟨P,h4,by rw[h5];simp[ZG]⟩)
   | true=>exact .inr ⟨P,h4,by rw[h5];simp[ZG]⟩
theorem QjL {ds pre:List Int} {us:List Bool} (hr:ZK ds us≠[]) (c:List Int):Qgb ds pre us ds.length c↔From ds pre us c:=by
 constructor
 ·rintro ⟨i,d,f,P,h1,h2,h3,h4,h5⟩;exact ⟨(d,f)::P,(List.Perm.cons d h4).trans (Vj h2 h3).symm,h5⟩
 ·rintro ⟨P,h1,h2⟩;cases P with
  | nil=>exact absurd (h1.symm.eq_nil) hr
  | cons q P =>
   obtain ⟨d,f⟩:=q;obtain ⟨i,hd,hu⟩:=QcN (h1.subset (show d∈((d,f)::P).map Prod.fst by simp));have hp:=Vj hd hu;have h3:(P.map Prod.fst).Perm (ZK ds (us.set i true)):=(List.perm_cons d).1 (show (d::P.map Prod.fst).Perm _ from h1.trans hp);exact ⟨i,d,f,P,Qz hd,hd,hu,h3,h2⟩
section
variable {p:Pr} {v:Ve} {vi:Int} {ds pre:List Int} {us:List Bool} {x:Vi} {m:Int} {s:Sta}
theorem Qdw {F:Nat} (hF:40000≤F) (hp:OkP p) (gv:QJ p.Vehicles vi=some v) (hv:OkV p.Road.Nodes v) (hd:ds.length≤10) (ho: ∀d∈ds,0≤d∧d<((p.Demands.length:Nat):Int)) (hnd:ds.Nodup) {n:Nat} {rec_:Qw→Sta→Option Fd}
  (H: ∀(pre':List Int) (us':List Bool) (x':Vi) (m':Int) (s':Sta),(ZK ds us').length+1=n→us'.length=ds.length→pre'.length+2*(n-1)≤30→(∀(i:Nat) (d:Int),ds[i]? =some d→us'[i]? =some false→d∉pre')→AtS p v ds pre' us' x' m' s' →
   ∃r:Bst,rec_ (tsk p v ds) s'=some (toF r)∧Z6 p vi (From ds pre' us') r)
  (hn:(ZK ds us).length=n) (hul:us.length=ds.length) (hl:pre.length+2*n≤30) (hfr: ∀(i:Nat) (d:Int),ds[i]? =some d→us[i]? =some false→d∉pre) (h:AtS p v ds pre us x m s) :
  ∀(rest:List Int) (k f:Nat) (b:Bst) (all:Bool),ds.drop k=rest→k≤ds.length→Z6 p vi (Qgb ds pre us k) b→(all=true↔ ∀(i:Nat),i<k→us[i]? ≠some false)→rest.length<f →
   ∃(b':Bst) (all':Bool),iter (QO F (tsk p v ds) s rec_) f (b.1,b.2.1,b.2.2,all,(k:Int))=some (b'.1,b'.2.1,b'.2.2,all')∧Z6 p vi (Qgb ds pre us ds.length) b'∧(all'=true↔ ∀(i:Nat),i<ds.length→us[i]? ≠some false)
 | _,_,0,_,_,_,_,_,_,hf=>by omega
 | [],k,f+1,b,all,hr,hk,hb,ha,_=>by
  have h0:ds.length=k:=by
   have:=congrArg List.length hr
   simp at this;omega
  have h1: ¬((k:Int)<((ds.length:Nat):Int)):=by omega
  refine ⟨b,all,?_,by rw[h0];exact hb,by rw[h0];exact ha⟩
  simp only[iter,QO,oun,QQ,h1,decide_false,cond_false,Option.bind_some]
 | d::rest,k,f+1,b,all,hr,hk,hb,ha,hf=>by
  have hk':k<ds.length:=by
   have:=congrArg List.length hr
   simp at this;omega
  have h1:((k:Int)<((ds.length:Nat):Int)):=by omega
  have gd:ds[k]? =some d:=by
   have:(ds.drop k)[0]? =some d:=by rw[hr];rfl
   simpa using this
  have hr':ds.drop (k+1)=rest:=by rw[←List.drop_drop,hr];rfl
  have e1:w64 ((k:Int)+1)=((k+1:Nat):Int):=by rw[QV (by omega) (by omega)];omega
  have d0:=ho d (List.mem_of_getElem? gd);obtain ⟨u,gu⟩: ∃u,us[k]? =some u:=⟨us[k]'(by omega),by simp⟩
  have key: ∃(b2:Bst) (all2:Bool),QO F (tsk p v ds) s rec_ (b.1,b.2.1,b.2.2,all,(k:Int))=some (.inl (b2.1,b2.2.1,b2.2.2,all2,((k+1:Nat):Int)))∧Z6 p vi (Qgb ds pre us (k+1)) b2∧(all2=true↔ ∀(i:Nat),i<k+1→us[i]? ≠some false):=by
   cases u with
   | true =>
    refine ⟨b,all,?_,hb.congr (Qg1 (by rw[gu];simp)),ha.trans ⟨fun hh i hi=> ?_,fun hh i hi=>hh i (by omega)⟩⟩
    ·simp only[QO,oun,h1,decide_true,cond_true,h.sv,Qt,gu,Option.bind_some,e1]
    ·rcases Nat.lt_or_ge i k with h4 | h4
     ·exact hh i h4
     ·have:i=k:=by omega
      subst this
      rw[gu];simp
   | false =>
    have hall:(false=true)↔ ∀(i:Nat),i<k+1→us[i]? ≠some false:=⟨fun h=>(by cases h),fun hh=>absurd gu (hh k (by omega))⟩
    have hN:=okN hp hv (show ds.length≤20 by omega) ho;have hfd:=hfr k d gd gu;have hse:=Qiy hp hv hN h (by omega) gd d0 hfd gu (by omega) (by omega);have hrem:=Vj gd gu;have hlen:(ZK ds (us.set k true)).length+1=n:=by
     have:=hrem.length_eq
     simp at this;omega
    cases hst:JX p v pre x d with
    | inr e =>
     rw[hst] at hse
     obtain ⟨s',hs'⟩:=hse;have bad1: ∀c,From ds (pre++[d]) (us.set k true) c→(Jv p ⟨vi,c⟩).2≠0:=by
      rintro c ⟨P,_,rfl⟩
      rw[List.append_assoc]
      exact Qea gv h hst
     have bad2: ∀c,From ds (pre++[d]++[-1]) (us.set k true) c→(Jv p ⟨vi,c⟩).2≠0:=by
      rintro c ⟨P,_,rfl⟩
      rw[List.append_assoc,List.append_assoc]
      exact Qea gv h hst
     refine ⟨b,false,?_,((hb.more bad1).more bad2).congr (QbD gd gu),hall⟩
     simp only[QO,oun,h1,decide_true,cond_true,h.sv,Qt,gu,hs',Option.bind_some,cond_false,Bool.not_false,e1]
    | inl y =>
     rw[hst] at hse
     obtain ⟨s1,hs1,hA1⟩:=hse;have hfr1: ∀(i:Nat) (d':Int),ds[i]? =some d'→(us.set k true)[i]? =some false→d'∉pre++[d]:=by
      intro i d' g1 g2;have hik:i≠k:=by
       rintro rfl
       rw[List.getElem?_set_self (Qz gu)] at g2
       cases g2
      rw[List.getElem?_set_ne (Ne.symm hik)] at g2
      rw[List.mem_append,not_or]
      refine ⟨hfr i d' g1 g2,?_⟩
      rw[List.mem_singleton]
      rintro rfl;exact hik ((List.getElem?_inj (Qz g1) hnd).1 (g1.trans gd.symm))
     have hfr2: ∀(i:Nat) (d':Int),ds[i]? =some d'→(us.set k true)[i]? =some false→d'∉pre++[d]++[-1]:=by
      intro i d' g1 g2
      rw[List.mem_append,not_or]
      refine ⟨hfr1 i d' g1 g2,?_⟩
      rw[List.mem_singleton]
      have:=(ho d' (List.mem_of_getElem? g1)).1
      omega
     obtain ⟨r1,hr1,hL1⟩:=H _ _ _ _ _ hlen (by simp[hul]) (by simp;omega) hfr1 hA1;have hL2:=hb.bet hL1;have hbl:b.2.2.length≤1000:=by
      refine Nat.le_trans (hb.len (n:=30) fun c hc=> ?_) (by omega);obtain ⟨i,d',f',P,_,g1,g2,g3,rfl⟩:=hc;have:=(From.len (ds:=ds) (pre:=pre) (us:=us) (c:=pre++ZG ((d',f')::P)) ⟨(d',f')::P,(List.Perm.cons d' g3).trans (Vj g1 g2).symm,rfl⟩ hn)
      omega
     have hr1l:(QbS b r1).2.2.length≤1000:=by
      refine Nat.le_trans (hL2.len (n:=30) fun c hc=> ?_) (by omega);rcases hc with ⟨i,d',f',P,_,g1,g2,g3,rfl⟩ | hc
      ·have:=(From.len (ds:=ds) (pre:=pre) (us:=us) (c:=pre++ZG ((d',f')::P)) ⟨(d',f')::P,(List.Perm.cons d' g3).trans (Vj g1 g2).symm,rfl⟩ hn)
       omega
      ·have:=hc.len rfl
       simp at this
       omega
     have hb1:=Qd1 hF (b:=r1) hbl;have hb1':Q7 F ⟨b.1,b.2.1,b.2.2⟩ (toF r1)=some (toF (QbS b r1)):=hb1;have hun:=Qg0 hp hv hN hA1 (by simp;omega);cases hst2:JX p v (pre++[d]) y (-1) with
     | inr e =>
      rw[hst2] at hun
      obtain ⟨s2,hs2⟩:=hun;have bad2: ∀c,From ds (pre++[d]++[-1]) (us.set k true) c→(Jv p ⟨vi,c⟩).2≠0:=by
       rintro c ⟨P,_,rfl⟩
       rw[List.append_assoc]
       exact Qea gv hA1 hst2
      refine ⟨QbS b r1,false,?_,(hL2.more bad2).congr (QbD gd gu),hall⟩
      simp only[QO,oun,h1,decide_true,cond_true,h.sv,Qt,gu,hs1,hr1,hb1',hs2,Option.bind_some,cond_false,Bool.not_true,e1]
      rfl
     | inl z =>
      rw[hst2] at hun
      obtain ⟨s2,hs2,hA2⟩:=hun;obtain ⟨r2,hr2,hL3⟩:=H _ _ _ _ _ hlen (by simp[hul]) (by simp;omega) hfr2 hA2;have hb2:=Qd1 hF (b:=r2) hr1l;refine ⟨QbS (QbS b r1) r2,false,?_,(hL2.bet hL3).congr (QbD gd gu),hall⟩
      simp only[QO,oun,h1,decide_true,cond_true,h.sv,Qt,gu,hs1,hr1,hb1',hs2,hr2,hb2,Option.bind_some,cond_false,Bool.not_true,e1]
      rfl
  obtain ⟨b2,all2,k1,k2,k3⟩:=key;obtain ⟨b',all',j1,j2,j3⟩:=Qdw hF hp gv hv hd ho hnd H hn hul hl hfr h rest (k+1) f b2 all2 hr' (by omega) k2 k3 (by simp at hf;omega);refine ⟨b',all',?_,j2,j3⟩
  rw[←j1]
  simp only[iter,k1,Option.bind_some,QQ]
theorem Qka (h: ∀(i:Nat),i<ds.length→us[i]? ≠some false):ZK ds us=[]:=by
 cases hr:ZK ds us with
 | nil=>rfl
 | cons d r =>
  obtain ⟨i,g1,g2⟩:=QcN (show d∈ZK ds us by rw[hr];simp);exact absurd g2 (h i (Qz g1))
theorem Qk4 {i:Nat} (hul:us.length=ds.length) (hu:us[i]? =some false):ZK ds us≠[]:=by
 intro h0;have hi:=Qz hu;have:=Vj (ds:=ds) (us:=us) (i:=i) (d:=ds[i]'(by omega)) (by simp) hu
 rw[h0] at this
 have:=this.length_eq
 simp at this
theorem Qfq (hp:OkP p) (gv:QJ p.Vehicles vi=some v) (hv:OkV p.Road.Nodes v) (hd:ds.length≤10) (ho: ∀d∈ds,0≤d∧d<((p.Demands.length:Nat):Int)) (hnd:ds.Nodup): ∀(n F:Nat) (pre:List Int) (us:List Bool) (x:Vi) (m:Int) (s:Sta),
  40000+n<F→(ZK ds us).length=n→us.length=ds.length→pre.length+2*n≤30→(∀(i:Nat) (d:Int),ds[i]? =some d→us[i]? =some false→d∉pre)→AtS p v ds pre us x m s →
  ∃r:Bst,Yj F (tsk p v ds) s=some (toF r)∧Z6 p vi (From ds pre us) r
 | _,0,_,_,_,_,_,hF,_,_,_,_,_=>by omega
 | n,F+1,pre,us,x,m,s,hF,hn,hul,hl,hfr,h=>by
  have H: ∀(pre':List Int) (us':List Bool) (x':Vi) (m':Int) (s':Sta),(ZK ds us').length+1=n→us'.length=ds.length→pre'.length+2*(n-1)≤30→(∀(i:Nat) (d:Int),ds[i]? =some d→us'[i]? =some false→d∉pre')→AtS p v ds pre' us' x' m' s' →
    ∃r:Bst,Yj F (tsk p v ds) s'=some (toF r)∧Z6 p vi (From ds pre' us') r:=by
   intro pre' us' x' m' s' a1 a2 a3 a4 a5;exact Qfq hp gv hv hd ho hnd (n-1) F pre' us' x' m' s' (by omega) (by omega) a2 a3 a4 a5
  obtain ⟨b,all,j1,j2,j3⟩:=Qdw (F:=F) (by omega) hp gv hv hd ho hnd H hn hul hl hfr h ds 0 (((ds.length:Nat):Int).toNat+1) (false,0,[]) true rfl (by omega)
   (.inl ⟨rfl,fun c ⟨i,_,_,_,hi,_⟩=>absurd hi (Nat.not_lt_zero _)⟩) ⟨fun _ i hi=>absurd hi (Nat.not_lt_zero _),fun _=>rfl⟩ (by simp)
  have j1':iter (QO F (tsk p v ds) s (Yj F)) (((ds.length:Nat):Int).toNat+1) (false,0,[],true,0)=some (b.1,b.2.1,b.2.2,all):=j1;unfold Yj Jz
  simp only[j1',Option.bind_some,oun]
  cases all with
  | false =>
   refine ⟨b,by simp only[Bool.not_false,cond_true,Option.bind_some];rfl,j2.congr (QjL ?_)⟩;intro h0;have: ¬ ∀(i:Nat),i<ds.length→us[i]? ≠some false:=fun hh=>by cases j3.2 hh
   refine this fun i hi hu=>Qk4 hul hu h0
  | true =>
   have hno:=j3.1 rfl;have hrn:=Qka hno;have hb:b=(false,0,[]):=by
    rcases j2 with ⟨hb,_⟩ | ⟨_,⟨i,d,f,P,hi,_,hu,_⟩,_⟩
    ·exact hb
    ·exact absurd hu (hno i hi)
   subst hb;have hFr: ∀c,From ds pre us c↔c=pre:=by
    intro c;unfold From
    rw[hrn]
    constructor
    ·rintro ⟨P,h1,rfl⟩;have:P=[]:=by simpa using h1.eq_nil
     subst this
     simp[ZG]
    ·rintro rfl;exact ⟨[],List.Perm.refl _,by simp[ZG]⟩
   have hN:=okN hp hv (show ds.length≤20 by omega) ho;have hk:(ndL p v ds)[0]? =some v.Depot:=rfl;have hmv:recyclingref24_moved (tsk p v ds) s 0=_:=Qew hp hN h (by omega) hk;have hlf:=Qik (vi:=vi) gv h (by omega);have l0:=h.inv.l0;have none_: ∀e,JV p v x= .inr e→Z6 p vi (From ds pre us) (false,0,[]):=by
    intro e he;refine .inl ⟨rfl,fun c hc=> ?_⟩
    rw[(hFr c).1 hc,hlf,he]
    exact QbJ he
   simp only[Bool.not_true,cond_false,Option.bind_some,h.ld]
   by_cases c0:0<x.Load
   ·simp only[c0,decide_true,cond_true]
    have: ∃e,JV p v x= .inr e:=by
     unfold JV
     by_cases c1:(QR p x.Node v.Depot).Secs<0
     ·exact ⟨22,by rw[if_pos c1]⟩
     ·exact ⟨20,by rw[if_neg c1,if_pos (by omega)]⟩
    obtain ⟨e,he⟩:=this;exact ⟨(false,0,[]),rfl,none_ e he⟩
   ·simp only[c0,decide_false,cond_false]
    rw[hmv]
    by_cases c1:(QR p x.Node v.Depot).Secs<0
    ·simp only[c1,if_true,Option.bind_some,cond_false]
     exact ⟨(false,0,[]),rfl,none_ 22 (by unfold JV;rw[if_pos c1])⟩
    ·simp only[c1,if_false,Option.bind_some,cond_true]
     by_cases c2:x.Leave+(QR p x.Node v.Depot).Secs<v.Shift.To
     ·simp only[c2,decide_true,cond_true,Option.bind_some]
      have hbt:=Qd1 (F:=F) (a:=(false,0,[])) (b:=(true,m+(QR p x.Node v.Depot).Meters,pre)) (by omega) (by simp);have hbt':Q7 F ⟨false,0,[]⟩ ⟨true,m+(QR p x.Node v.Depot).Meters,s.Stops⟩=some (toF (true,m+(QR p x.Node v.Depot).Meters,pre)):=by rw[h.st];exact hbt
      rw[hbt']
      refine ⟨(true,m+(QR p x.Node v.Depot).Meters,pre),rfl,.inr ⟨rfl,(hFr pre).2 rfl,?_,?_⟩⟩
      ·simp only
       rw[hlf]
       unfold JV
       rw[if_neg c1,if_neg (by omega),if_neg (by omega)]
      ·intro c hc _
       rw[(hFr c).1 hc]
       refine .inr ⟨?_,Qer _⟩
       rw[hlf]
       unfold JV
       rw[if_neg c1,if_neg (by omega),if_neg (by omega)]
     ·simp only[c2,decide_false,cond_false,Option.bind_some]
      exact ⟨(false,0,[]),rfl,none_ 19 (by unfold JV;rw[if_neg c1,if_neg (by omega),if_pos (by omega)])⟩
end
theorem QhU {F:Nat} (hF:41100≤F) {p:Pr} (hp:OkP p) {vi:Int} (hvi:0≤vi∧vi<((p.Vehicles.length:Nat):Int)) {ds:List Int} (hd:ds.length≤10) (ho: ∀d∈ds,0≤d∧d<((p.Demands.length:Nat):Int)) (hnd:ds.Nodup) :
  ZC F p vi ds=some (toF (Ju p vi ds)):=by
 obtain ⟨v,gv⟩:=QfM hvi.1 hvi.2;have hv:=hp.ve v (List.mem_of_getElem? (Zr gv).2.2);have hm:WO false ((ds.length:Nat):Int)=some (List.replicate ds.length false):=by
  unfold WO
  rw[if_pos ⟨by omega,by omega⟩]
  simp
 have h0:AtS p v ds [] (List.replicate ds.length false) (x0 v) 0 ⟨[],List.replicate ds.length false,0,v.Shift.From,0,0⟩ :=
  ⟨rfl,rfl,Int.le_refl _,rfl,rfl,rfl,rfl,QeM hv,Int.le_refl _,by simp,[],rfl,rfl⟩
 obtain ⟨r,h1,h2⟩:=Qfq hp gv hv hd ho hnd ds.length F [] (List.replicate ds.length false) (x0 v) 0 _ (by omega) (by rw[QbO]) (by simp) (by simp;omega) (by simp) h0;have hu:r=Ju p vi ds:=by
  refine Z6.uniq (h2.congr fun c=> ?_) (Qgj p vi ds);unfold From Qg2
  rw[QbO]
  simp
 subst hu;unfold ZC
 rw[QgM hp gv hv (by omega) ho]
 simp only[Option.bind_some,hm,h1]
end Go.Proofs.YtilbengnjgglhaaGreat
namespace Go.Proofs.YtilbengnjgglhaaGreat
open Go.RowKit
set_option linter.unusedSimpArgs false
set_option linter.unusedVariables false
theorem QfF {p:Pr} {e v:Int} {ds:List Int} (hz:(if e=0 then WW p v ds else e)=0):e=0∧WW p v ds=0∧(0≤v∧v<((p.Vehicles.length:Nat):Int))∧ds.length≤5∧(∀d∈ds,0≤d∧d<((p.Demands.length:Nat):Int))∧ds.Nodup:=by
 obtain ⟨h1,h2⟩:=QfJ hz;exact ⟨h1,h2,QiV.1 h2⟩
theorem Qhm {F:Nat} (hF:41100≤F) {p:Pr} (hne:p.Road.Edges.length≤600) {e:Int} (hc:Qi p=some e) (v:Int) {ds:List Int} (hd:ds.length≤100):ZI F p v ds=some (VX p e v ds):=by
 unfold ZI VX
 rw[QgN hc v ds (by omega),Option.bind_some]
 by_cases hz:(if e=0 then WW p v ds else e)=0
 ·obtain ⟨rfl,h1,h2,h3,h4,h5⟩:=QfF hz
  rw[QhU hF (OkP.of hne hc) h2 (by omega) h4 h5]
  simp only[if_true,h1,decide_true,Bool.not_true,cond_false,cond_true,Option.bind_some,toF]
 ·simp only[hz,decide_false,Bool.not_false,cond_true,cond_false]
def posR (x:Int) (out:List Int):Nat→Nat
 | 0=>0
 | k+1=>match out[k]? with
  | some y=>if x<y then posR x out k else k+1
  | none=>k+1
theorem Qc8 {x:Int} {out:List Int}: ∀k,k≤out.length→posR x out k≤k∧(∀(j:Nat) (y:Int),posR x out k≤j→j<k→out[j]? =some y→x<y)∧(∀j,j+1=posR x out k→ ∃y,out[j]? =some y∧y≤x)
 | 0,_=>⟨Nat.le_refl _,fun j y _ h=>absurd h (Nat.not_lt_zero _),fun j h=>by simp[posR] at h⟩
 | k+1,hk=>by
  obtain ⟨y,hy⟩: ∃y,out[k]? =some y:=⟨out[k]'(by omega),by simp⟩
  unfold posR
  rw[hy]
  simp only
  by_cases hx:x<y
  ·rw[if_pos hx]
   obtain ⟨h1,h2,h3⟩:=Qc8 (x:=x) (out:=out) k (by omega);refine ⟨by omega,fun j z g1 g2 g3=> ?_,h3⟩;rcases Nat.lt_or_ge j k with g4 | g4
   ·exact h2 j z g1 g4 g3
   ·have:j=k:=by omega
    subst this
    rw[hy] at g3
    injection g3 with g3
    omega
  ·rw[if_neg hx]
   refine ⟨Nat.le_refl _,fun j z g1 g2 _=>by omega,fun j hj=> ?_⟩;have:j=k:=by omega
   subst this;exact ⟨y,hy,by omega⟩
theorem QgL {l out:List Int} {i:Nat} {x:Int} (gx:l[i]? =some x) (hl:out.length≤1000): ∀(k f:Nat),k≤out.length→k<f→iter (Y7 l out (i:Int)) f (k:Int)=some ((posR x out k:Nat):Int)
 | _,0,_,h=>by omega
 | 0,f+1,_,_=>by
  simp[iter,Y7,QQ,posR]
 | k+1,f+1,hk,hf=>by
  obtain ⟨y,hy⟩: ∃y,out[k]? =some y:=⟨out[k]'(by omega),by simp⟩
  have h1:(0:Int)<((k+1:Nat):Int):=by omega
  have e1:w64 (((k+1:Nat):Int)-1)=(k:Int):=by rw[QV (by omega) (by omega)];omega
  unfold posR
  rw[hy]
  simp only[iter,Y7,h1,decide_true,cond_true,Qt,gx,e1,hy,Option.bind_some]
  by_cases hx:x<y
  ·rw[if_pos hx]
   simp only[hx,decide_true,cond_true,QQ,Option.bind_some]
   exact QgL gx hl k f (by omega) (by omega)
  ·rw[if_neg hx]
   simp only[hx,decide_false,cond_false,QQ,Option.bind_some]
def Qao (x:Int) (out:List Int):List Int:=out.take (posR x out out.length)++[x]++out.drop (posR x out out.length)
theorem Qem (x:Int) (out:List Int):(Qao x out).Perm (x::out):=by
 have h:(Qao x out).Perm (x::(out.take (posR x out out.length)++out.drop (posR x out out.length))):=by
  unfold Qao
  rw[List.append_assoc]
  exact List.perm_middle
 rwa [List.take_append_drop] at h
theorem QfO {x:Int} {out:List Int} (h:out.Pairwise (· ≤ ·)):(Qao x out).Pairwise (· ≤ ·):=by
 obtain ⟨h1,h2,h3⟩:=Qc8 (x:=x) (out:=out) out.length (Nat.le_refl _);unfold Qao
 generalize hq:posR x out out.length=q at *
 have hcut:=h
 rw[←List.take_append_drop q out,List.pairwise_append] at hcut
 obtain ⟨c1,c2,c3⟩:=hcut;have hb: ∀y∈out.drop q,x<y:=by
  intro y hy;obtain ⟨j,hj⟩:=List.getElem?_of_mem hy
  rw[List.getElem?_drop] at hj
  exact h2 (q+j) y (by omega) (Qz hj) hj
 have ha: ∀y∈out.take q,y≤x:=by
  intro y hy;obtain ⟨j,hj⟩:=List.getElem?_of_mem hy
  rw[List.getElem?_take] at hj
  split at hj
  ·rename_i hjq
   obtain ⟨z,hz,hzx⟩:=h3 (q-1) (by omega);rcases Nat.lt_or_ge j (q-1) with g | g
   ·have:=(List.pairwise_iff_getElem.1 h) j (q-1) (Qz hj) (Qz hz) g
    rw[List.getElem?_eq_getElem (Qz hj)] at hj
    rw[List.getElem?_eq_getElem (Qz hz)] at hz
    injection hj with hj;injection hz with hz
    omega
   ·have:j=q-1:=by omega
    subst this
    rw[hz] at hj
    injection hj with hj
    omega
  ·cases hj
 rw[List.append_assoc,List.pairwise_append]
 refine ⟨c1,?_,?_⟩
 ·rw[List.singleton_append,List.pairwise_cons]
  exact ⟨fun y hy=>Int.le_of_lt (hb y hy),c2⟩
 ·intro a hA b hB
  rw[List.singleton_append,List.mem_cons] at hB
  rcases hB with rfl | hB
  ·exact ha a hA
  ·exact c3 a hA b hB
theorem Qfu {F:Nat} (hF:1000≤F) {l:List Int} (hl:l.length≤100): ∀(rest:List Int) (k f:Nat) (out:List Int),l.drop k=rest→k≤l.length→out.length=k→rest.length<f →
  iter (Yg F l) f (out,(k:Int))=some (rest.foldl (fun o x=>Qao x o) out)
 | _,_,0,_,_,_,_,h=>by omega
 | [],k,f+1,out,h,hk,ho,_=>by
  have h0:l.length=k:=by
   have:=congrArg List.length h
   simp at this;omega
  have h1: ¬((k:Int)<((l.length:Nat):Int)):=by omega
  simp only[iter,Yg,oun,QQ,h1,decide_false,cond_false,Option.bind_some,List.foldl_nil]
 | d::rest,k,f+1,out,h,hk,ho,hf=>by
  have hk':k<l.length:=by
   have:=congrArg List.length h
   simp at this;omega
  have h1:((k:Int)<((l.length:Nat):Int)):=by omega
  have gd:l[k]? =some d:=by
   have:(l.drop k)[0]? =some d:=by rw[h];rfl
   simpa using this
  have hr:l.drop (k+1)=rest:=by rw[←List.drop_drop,h];rfl
  have e1:w64 ((k:Int)+1)=((k+1:Nat):Int):=by rw[QV (by omega) (by omega)];omega
  obtain ⟨q1,_,_⟩:=Qc8 (x:=d) (out:=out) out.length (Nat.le_refl _);have hp:=QgL gd (by omega) out.length F (Nat.le_refl _) (by omega);have s1:J0 out ((posR d out out.length:Nat):Int) ((out.length:Nat):Int)=some (out.drop (posR d out out.length)):=by
   unfold J0
   rw[if_pos ⟨by omega,by omega,by omega⟩]
   simp
  have s2:J0 out 0 ((posR d out out.length:Nat):Int)=some (out.take (posR d out out.length)):=Va q1;have a1:Wh ([]:List Int) (out.drop (posR d out out.length))=some (out.drop (posR d out out.length)):=by rw[ZP (by simp;omega)];rfl
  have a2:Wh (out.take (posR d out out.length)) [d]=some (out.take (posR d out out.length)++[d]):=ZP (by simp;omega);have a3:Wh (out.take (posR d out out.length)++[d]) (out.drop (posR d out out.length))=some (Qao d out):=ZP (by simp;omega);have hb:Yg F l (out,(k:Int))=some (.inl (Qao d out,((k+1:Nat):Int))):=by
   simp only[Yg,oun,h1,decide_true,cond_true,hp,s1,s2,a1,a2,a3,Qt,gd,Option.bind_some,e1]
  have ih:=Qfu hF hl rest (k+1) f (Qao d out) hr (by omega) (by have:=(Qem d out).length_eq;simp at this;omega) (by simp at hf;omega)
  simp only[iter,hb,Option.bind_some,QQ,List.foldl_cons]
  exact ih
theorem Qgx: ∀(l out:List Int),out.Pairwise (· ≤ ·)→(l.foldl (fun o x=>Qao x o) out).Pairwise (· ≤ ·)∧(l.foldl (fun o x=>Qao x o) out).Perm (l++out)
 | [],out,h=>⟨h,List.Perm.refl _⟩
 | x::l,out,h=>by
  obtain ⟨h1,h2⟩:=Qgx l (Qao x out) (QfO h);exact ⟨h1,h2.trans (((Qem x out).append_left l).trans List.perm_middle)⟩
theorem QiB {F:Nat} (hF:1000≤F) {l:List Int} (hl:l.length≤100):ZJ F l=some (ZS l):=by
 unfold ZJ;have:=Qfu hF hl l 0 (((l.length:Nat):Int).toNat+1) [] rfl (by omega) rfl (by simp);have h':iter (Yg F l) (((l.length:Nat):Int).toNat+1) ([],0)=some (l.foldl (fun o x=>Qao x o) []):=this
 rw[h']
 obtain ⟨h1,h2⟩:=Qgx l [] List.Pairwise.nil
 rw[List.append_nil] at h2
 exact congrArg some (Qah (h2.trans (JG l).symm) h1 (QaM l))
theorem uw {k:Nat} (h:k≤64):IntKind.u64.wrap (k:Int)=k:=by
 show (k:Int)%18446744073709551616=k
 omega
theorem Qcl {r:List Int} (hn:r.length≤15) {m:Nat} (hm:m<65536): ∀(rest:List Int) (k f:Nat) (out:List Int),r.drop k=rest→k≤r.length→out.length≤k→rest.length<f →
  iter (Yw r (m:Int)) f (out,(k:Int))=some (out++Yh (m/2^k) rest)
 | _,_,0,_,_,_,_,h=>by omega
 | [],k,f+1,out,h,hk,ho,_=>by
  have h0:r.length=k:=by
   have:=congrArg List.length h
   simp at this;omega
  have h1: ¬((k:Int)<((r.length:Nat):Int)):=by omega
  simp only[iter,Yw,oun,QQ,h1,decide_false,cond_false,Option.bind_some,Yh,List.append_nil]
 | d::rest,k,f+1,out,h,hk,ho,hf=>by
  have hk':k<r.length:=by
   have:=congrArg List.length h
   simp at this;omega
  have h1:((k:Int)<((r.length:Nat):Int)):=by omega
  have gd:r[k]? =some d:=by
   have:(r.drop k)[0]? =some d:=by rw[h];rfl
   simpa using this
  have hr:r.drop (k+1)=rest:=by rw[←List.drop_drop,h];rfl
  have e1:w64 ((k:Int)+1)=((k+1:Nat):Int):=by rw[QV (by omega) (by omega)];omega
  have e2:((m:Int)/2^((k:Int)).toNat)=((m/2^k:Nat):Int):=by
   rw[Int.toNat_natCast]
   simp
  have hq:m/2^k≤m:=Nat.div_le_self _ _;have e3:QeO .i64 ((m:Int)/2^((k:Int)).toNat) 1=((m/2^k%2:Nat):Int):=by
   rw[e2]
   generalize m/2^k=q at hq ⊢
   rw[QjX (by omega) (by omega)]
   omega
  have e4:m/2^k/2=m/2^(k+1):=by rw[Nat.div_div_eq_div_mul,Nat.pow_succ]
  have ew:=uw (k:=k) (by omega);unfold Yh
  rw[e4]
  by_cases hb:m/2^k%2=1
  ·have ih:=Qcl hn hm rest (k+1) f (out++[d]) hr (by omega) (by simp;omega) (by simp at hf;omega)
   rw[if_pos hb]
   simp only[iter,Yw,oun,QQ,h1,decide_true,cond_true,Qt,gd,Option.bind_some,e1,ew,Jf (show 0≤(k:Int)∧(k:Int)≤64 by omega),e3,hb,Int.natCast_one,ZP (show out.length+[d].length≤1000000 by simp;omega)]
   have ih':=ih
   rw[List.append_assoc] at ih'
   exact ih'
  ·have ih:=Qcl hn hm rest (k+1) f out hr (by omega) (by omega) (by simp at hf;omega);have h0:m/2^k%2=0:=by omega
   rw[if_neg hb]
   simp only[iter,Yw,oun,QQ,h1,decide_true,cond_true,Qt,gd,Option.bind_some,e1,ew,Jf (show 0≤(k:Int)∧(k:Int)≤64 by omega),e3,h0,Int.natCast_zero,show decide ((0:Int)=1)=false by decide,cond_false]
   exact ih
theorem QeC {F:Nat} (hF:41100≤F) {p:Pr} (hp:OkP p) {v:Int} (hv:0≤v∧v<((p.Vehicles.length:Nat):Int)) {r:List Int} (hn:r.length≤10) (ho': ∀d∈r,0≤d∧d<((p.Demands.length:Nat):Int)) (hnd:r.Nodup): ∀(rest:List Nat) (k f:Nat) (out:List Int),(List.range (2^r.length)).drop k=rest→k≤2^r.length→rest.length<f →
  out.length≤1000→iter (Yx F p v r) f (out,(k:Int))=some ((rest.map fun m=>Yh m r).foldl (Qdc fun l=>(Ju p v l).1) out)
 | _,_,0,_,_,_,h,_=>by omega
 | [],k,f+1,out,h,hk,_,_=>by
  have h0:2^r.length=k:=by
   have:=congrArg List.length h
   simp at this;omega
  have hp2:2^r.length≤2^10:=Nat.pow_le_pow_right (by decide) hn;have ew:=uw (k:=r.length) (by omega);have e5:w64 (1*2^(((r.length:Nat):Int)).toNat)=((2^r.length:Nat):Int):=by
   rw[Int.toNat_natCast,Int.one_mul,show (2:Int)^r.length=((2^r.length:Nat):Int) by simp]
   exact QV (by omega) (by omega)
  have h1: ¬((k:Int)<((2^r.length:Nat):Int)):=by omega
  simp only[iter,Yx,oun,QQ,ew,Jf (show 0≤((r.length:Nat):Int)∧((r.length:Nat):Int)≤64 by omega),e5,h1,decide_false,cond_false,Option.bind_some,List.map_nil,List.foldl_nil]
 | m::rest,k,f+1,out,h,hk,hf,ho=>by
  have hk':k<2^r.length:=by
   have:=congrArg List.length h
   simp at this;omega
  have hm:m=k:=by
   have:((List.range (2^r.length)).drop k)[0]? =some m:=by rw[h];rfl
   simp[hk'] at this
   exact this.symm
  subst hm;have hr:(List.range (2^r.length)).drop (m+1)=rest:=by rw[←List.drop_drop,h];rfl
  have h1:((m:Int)<((2^r.length:Nat):Int)):=by omega
  have hp2:2^r.length≤2^10:=Nat.pow_le_pow_right (by decide) hn;have ew:=uw (k:=r.length) (by omega);have e5:w64 (1*2^(((r.length:Nat):Int)).toNat)=((2^r.length:Nat):Int):=by
   rw[Int.toNat_natCast,Int.one_mul,show (2:Int)^r.length=((2^r.length:Nat):Int) by simp]
   exact QV (by omega) (by omega)
  have e1:w64 ((m:Int)+1)=((m+1:Nat):Int):=by rw[QV (by omega) (by omega)];omega
  have hml:=Qcl (r:=r) (by omega) (m:=m) (by omega) r 0 (((r.length:Nat):Int).toNat+1) [] rfl (by omega) (by simp) (by simp)
  rw[show m/2^0=m by simp,List.nil_append] at hml
  have hml':iter (Yw r (m:Int)) (((r.length:Nat):Int).toNat+1) ([],0)=some (Yh m r):=hml;have hlen:(Yh m r).length≤10:=Nat.le_trans (W6 m r).length_le hn;have hfi:=QhU hF hp hv hlen (fun d hd=>ho' d ((W6 m r).subset hd)) (hnd.sublist (W6 m r));have ih:=QeC hF hp hv hn ho' hnd rest (m+1) f (Qdc (fun l=>(Ju p v l).1) out (Yh m r)) hr (by omega) (by simp at hf;omega) (by
   simp only[Qdc]
   cases (decide ((Yh m r).length<out.length)||(decide ((Yh m r).length=out.length)&&decide (0≤VH (Yh m r) out))) with
   | true=>exact ho
   | false =>
    cases (Ju p v (Yh m r)).1 with
    | true=>simp only[cond_false,cond_true];omega
    | false=>exact ho)
  have c1:decide ((((Yh m r).length:Nat):Int)<((out.length:Nat):Int))=decide ((Yh m r).length<out.length):=by
   by_cases h:(Yh m r).length<out.length<;>simp[h]<;>omega
  have c2:decide ((((Yh m r).length:Nat):Int)=((out.length:Nat):Int))=decide ((Yh m r).length=out.length):=by
   by_cases h:(Yh m r).length=out.length<;>simp[h]<;>omega
  have c3:decide (0≤VH (Yh m r) out)=Bool.not (Jd (Yh m r) out):=by
   have:=(Qd9 (Yh m r) out).1;cases hl:Jd (Yh m r) out with
   | true=>simpa using this.2 hl
   | false =>
    have: ¬VH (Yh m r) out<0:=fun hh=>by rw[this.1 hh] at hl;cases hl
    simpa using this
  have hb:Yx F p v r (out,(m:Int))=some (.inl (Qdc (fun l=>(Ju p v l).1) out (Yh m r),((m+1:Nat):Int))):=by
   simp only[Yx,oun,ew,Jf (show 0≤((r.length:Nat):Int)∧((r.length:Nat):Int)≤64 by omega),e5,h1,decide_true,cond_true,hml',Option.bind_some,e1,QhG (F:=F) (by omega) (show (Yh m r).length≤1000 by omega),hfi,toF,Qdc,c3]
   rw[c1,c2]
   cases decide ((Yh m r).length<out.length)<;>cases decide ((Yh m r).length=out.length)<;>cases Jd (Yh m r) out<;>cases (Ju p v (Yh m r)).1<;>rfl
  rw[List.map_cons,List.foldl_cons,←ih]
  simp only[iter,hb,Option.bind_some,QQ]
theorem Qjm {F:Nat} (hF:41100≤F) {p:Pr} (hne:p.Road.Edges.length≤600) {e:Int} (hc:Qi p=some e) (v:Int) {ds:List Int} (hd:ds.length≤15):ZY F p v ds=some (Qdh p e v ds):=by
 unfold ZY Qdh
 rw[QgN hc v ds (by omega),Option.bind_some]
 by_cases hz:(if e=0 then WW p v ds else e)=0
 ·obtain ⟨rfl,h1,h2,h3,h4,h5⟩:=QfF hz;have hl:(ZS ds).length=ds.length:=(JG ds).length_eq;have hp2:2^(ZS ds).length≤2^5:=Nat.pow_le_pow_right (by decide) (by omega);have hm:=QeC hF (OkP.of hne hc) h2 (r:=ZS ds) (by omega) (fun d hd=>h4 d ((JG ds).mem_iff.1 hd)) ((JG ds).nodup_iff.2 h5) (List.range (2^(ZS ds).length)) 0 F [] rfl (Nat.zero_le _) (by rw[List.length_range];exact Nat.lt_of_le_of_lt hp2 (by omega)) (by simp);have hm':iter (Yx F p v (ZS ds)) F ([],0)=some (Qi8 (fun l=>(Ju p v l).1) (ZS ds)):=hm
  simp only[if_true,h1,decide_true,Bool.not_true,cond_false,cond_true,QiB (F:=F) (by omega) (show ds.length≤100 by omega),Option.bind_some,hm']
 ·simp only[hz,decide_false,Bool.not_false,cond_true,cond_false]
theorem Qgy (p:Pr) (ds:List Int):Ze p ds=some true∨(Ze p ds=some false∧p.Road.Edges.length≤600∧ds.length≤10):=by
 unfold Ze;obtain ⟨⟨b,hb⟩,hl⟩:=Qg3 p
 rw[hb]
 cases b with
 | true=>exact .inl rfl
 | false =>
  obtain ⟨h1,_,_⟩:=hl hb
  simp only[Option.bind_some,cond_false]
  by_cases h2:(40:Int)<((p.Demands.length:Nat):Int)
  ·exact .inl (by simp only[h2,decide_true,cond_true,Option.bind_some])
  ·by_cases h3:((ds.length:Nat):Int)=5
   ·exact .inl (by simp only[h2,h3,decide_true,decide_false,cond_true,cond_false,Option.bind_some])
   ·by_cases h4:(10:Int)<((ds.length:Nat):Int)
    ·exact .inl (by simp only[h2,h3,h4,decide_true,decide_false,cond_true,cond_false,Option.bind_some])
    ·exact .inr ⟨by simp only[h2,h3,h4,decide_false,cond_false,Option.bind_some],h1,by omega⟩
theorem Qh9 {p:Pr} {e v:Int} {ds:List Int} (hd:ds.length≤10):(Qdh p e v ds).1.length≤1000:=by
 unfold Qdh
 by_cases hz:(if e=0 then WW p v ds else e)=0
 ·obtain ⟨rfl,h1,_⟩:=QfF hz
  rw[show decide ((if (0:Int)=0 then WW p v ds else 0)=0)=true by simpa using h1]
  simp only[cond_true]
  have hk: ∀(L:List (List Int)) (out:List Int),out.length≤10→(∀l∈L,l.length≤10)→(L.foldl (Qdc fun l=>(Ju p v l).1) out).length≤10:=by
   intro L
   induction L with
   | nil=>exact fun out h _=>h
   | cons l L ih =>
    intro out h hL
    rw[List.foldl_cons]
    refine ih _ ?_ fun x hx=>hL x (List.mem_cons_of_mem _ hx)
    simp only[Qdc]
    cases (decide (l.length<out.length)||(decide (l.length=out.length)&&decide (0≤VH l out))) with
    | true=>exact h
    | false =>
     cases (Ju p v l).1 with
     | true=>exact hL l List.mem_cons_self
     | false=>exact h
  refine Nat.le_trans (hk _ [] (by simp) fun l hl=> ?_) (by omega);obtain ⟨m,_,rfl⟩:=List.mem_map.1 hl;have:=(W6 m (ZS ds)).length_le;have h2:=(JG ds).length_eq
  omega
 ·rw[show decide ((if e=0 then WW p v ds else e)=0)=false by simpa using hz]
  exact Nat.zero_le _
theorem WX (p:Pr) (vehicle:Int) (ds:List Int) (hp:QbG p) (hv:wfI .i64 vehicle) (hd: ∀x∈ds,wfI .i64 x): ∃F,Zw F p vehicle ds=some true:=by
 refine ⟨41100,?_⟩;have haw:=QjY (Nat.le_refl 41100);unfold Zw;rcases Qgy p ds with h | ⟨h,hn,hl⟩
 ·rw[h];simp only[Option.bind_some,cond_true,haw]
 ·rw[h]
  obtain ⟨e,hc⟩:=Qht p hn
  rw[QcU (Nat.le_refl 41100) hn hc vehicle (show ds.length≤100 by omega),Qhm (Nat.le_refl 41100) hn hc vehicle (show ds.length≤100 by omega),QhH (Nat.le_refl 41100) hn hc vehicle (show ds.length≤15 by omega),Qjm (Nat.le_refl 41100) hn hc vehicle (show ds.length≤15 by omega)]
  simp only[Option.bind_some,cond_false,oun,decide_true,cond_true,beq_self_eq_true,Qid (Qh9 hl),haw]
end Go.Proofs.YtilbengnjgglhaaGreat
namespace Go.Proofs.YtilbengnjgglhaaGreat
open Go.RowKit Go.ChangeShapes Go.WideShapes
set_option linter.unusedSimpArgs false
set_option linter.unusedVariables false
def QfN (W:World):Gh:=⟨fun b=>W.heap[b]?,W.os,W.output,W.tape⟩
theorem Qi2 (W:World):Inv W (QfN W) []:=⟨rfl,rfl,rfl,fun _ _ h=>h,by simp,by simp,by simp⟩
theorem QiT {W W':World} {μ:Gh} {L:List Seg} (hm:(QfN W).le μ) (h:Inv W' μ L):Below W.heap.size W W':=by
 have hb: ∀k,k<W.heap.size→W'.heap[k]? =W.heap[k]? :=fun k hk=>by
  have h1:W.heap[k]? =some W.heap[k]:=by simp[hk]
  rw[h1]
  exact h.mem k _ (hm.mem k _ h1)
 refine ⟨h.os.trans hm.os,h.tape.trans hm.tape,h.out.trans hm.out,?_,hb⟩;rcases Nat.eq_zero_or_pos W.heap.size with h0 | h0
 ·omega
 ·have h1:=hb (W.heap.size-1) (by omega);have h2:W.heap[W.heap.size-1]? =some (W.heap[W.heap.size-1]'(by omega)):=by simp
  rw[h2] at h1
  have:=Zt h1
  omega
theorem Qgl {P:Program} {f:FuncId} {fn:Func} (hf:P.funcs[f]? =some fn) (hb:fn.body.isNone=false) {args:List Value} {W:World} {v:Value} (h:Fn P f args (QfN W) [] fun u _ _=>u=v) :
  Calls P f args.toArray W fun e W'=>e= .returned v∧Below W.heap.size W W':=by
 rcases h with ⟨_,h⟩ | ⟨fn',_,hf',_,hb',_⟩
 ·refine (h W (Qi2 W)).mono ?_;rintro e W' ⟨u,μ',L',rfl,hm,hi,rfl⟩;exact ⟨rfl,QiT hm hi⟩
 ·rw[hf] at hf'
  injection hf' with hf'
  subst hf'
  rw[hb] at hb';cases hb'
section
variable {H:Type} {enc:TypeId×Value→H} {P:Program}
theorem Qb7 (hl:laidOutB P=true) {W W':World} (hb:Below W.heap.size W W') {sp:Nat→Bool}: ∀{ts:List TypeId} {vs:List Value} {ds:List (DataW H)} {ps:List MemPlace},
  (∀t∈ts,P.readableRec t=true∧t<P.types.size)→(∀p∈ps,p.block<W.heap.size)→(∀p∈ps,sp p.block=true) →
  DataW.TrodAll enc P W 0 (fun _=>true) true ts vs ds ps→DataW.TrodAll enc P W' 0 sp true ts vs ds ps
 | [],vs,ds,ps,_,_,_,h=>by
  obtain ⟨rfl,rfl,rfl⟩:=trodAll_nil h
  rfl
 | t::ts,vs,ds,ps,hr,hlt,hs,h=>by
  obtain ⟨v,vs',d,ds',p,q,rfl,rfl,rfl,hd,hrest⟩:=trodAll_cons h;refine ⟨p,q,WideElems.Trod_stays hl (hr t (by simp)).1 (hr t (by simp)).2 hd (fun x hx=>hb.same (hlt x (by simp[hx]))) (fun x hx=>hs x (by simp[hx])),?_,rfl⟩;exact Qb7 hl hb (fun u hu=>hr u (by simp[hu])) (fun x hx=>hlt x (by simp[hx])) (fun x hx=>hs x (by simp[hx])) hrest
theorem Qip {f:Func} {s:ChangeSpec} {apart fresh handsOn again:Bool} {W W':World} {args:Array Value} {ds:List (DataW H)} {before:List MemPlace} {tb:TypeId}
  (hW:DataW.Whole enc P f.params.toList s.vars apart W args.toList ds [] before) (hv:s.vars=[]) (hres:f.resultTypes= #[tb]) (htb:P.underlying tb=some .bool)
  (hfr:(s.fn H ds).results=[.lit (.bool true)]) (hfa:(s.fn H ds).args=ds) (hfv:(s.fn H ds).vars=[]) (hl:laidOutB P=true) (hr: ∀t∈f.params.toList,P.readableRec t=true∧t<P.types.size) (hb:Below W.heap.size W W') :
  s.post enc P f apart fresh handsOn again W args (.bool true) W':=by
 have hlt: ∀p∈before,p.block<W.heap.size:=fun p hp=>hW.lt p hp;have hW':=hW;obtain ⟨p,q,hA,hV,hpq,hz,hn⟩:=hW'
 rw[hv] at hV
 obtain ⟨_,rfl⟩:=trodVars_none hV
 rw[List.append_nil] at hpq
 subst hpq;have hresl:((Value.bool true).resultList f.resultTypes.size)=[.bool true]:=by rw[hres];rfl
 have hargs: ∀sp:Nat→Bool,(∀x∈before,sp x.block=true)→DataW.TrodAll enc P W' 0 sp true f.params.toList args.toList ds before:=fun sp hs=>Qb7 hl hb hr hlt hs hA;have hres2: ∀(b:Nat) (sp:Nat→Bool) (hd:Bool),DataW.TrodAll enc P W' b sp hd f.resultTypes.toList [.bool true] [.lit (.bool true)] []:=fun b sp hd=>by
  rw[hres];exact trodAll_mk1 (shut_bool htb true)
 have hold: ∀p∈before,(fun b=>decide (b<W.heap.size)) p.block=true:=fun p hp=>by simpa using hlt p hp
 have hvars: ∀sp:Nat→Bool,DataW.TrodVars enc P W' sp s.vars [] []:=fun sp=>by rw[hv];rfl
 refine ⟨ds,[],before,[],before,[],hW,?_,?_,?_,World.keptBut_mono (fun p hp=>⟨hp,by simpa using hp⟩) (hb.frame (· ∈before)),fun _=> ?_⟩
 ·rw[hresl,List.append_nil,hfr];exact hres2 _ _ _
 ·rw[List.append_nil,hfa];exact hargs _ hold
 ·rw[List.append_nil,hfv];exact hvars _
 ·have A1:=hargs (fun _=>true) (fun _ _=>rfl);have R1:=hres2 0 (fun _=>true) true;refine ⟨ok_one hres rfl (okWide_bool_mk htb true),?_⟩
  rw[hresl]
  refine ⟨_,_,([]++before)++[],⟨[]++before,[],trodAll_append A1 R1,hvars _,rfl,?_,?_⟩,?_⟩
  ·intro b off hp;have hin:MemPlace.cell b off∈before:=by simpa using hp
   rw[hb.frozen (hlt _ hin)]
   exact hz b off hin
  ·intro ha;have:=hn ha
   simpa using this
  ·intro p hp _
   simpa using hp
end
end Go.Proofs.YtilbengnjgglhaaGreat
namespace Go.Proofs.YtilbengnjgglhaaGreat
open Go.RowKit Go.ChangeShapes Go.WideShapes Go.Deep
set_option linter.unusedSimpArgs false
set_option linter.unusedVariables false
theorem QeP {W:World} {L:List Seg} {a:Addr} {v:Value} (h:W.cell? a=some v):ZW (QfN W) L a v:=by
 unfold World.cell? at h
 split at h
 ·rename_i c e f hb
  split at h
  ·cases h
  ·rename_i hs
   refine ⟨by simpa using hs,c,e,f,.inl hb,by simpa using h⟩
 ·cases h
theorem QhX {α β:Type} (Q:Nat→α→β→Prop): ∀n,(∀i,i<n→ ∃x y,Q i x y)→ ∃(l:List α) (m:List β),l.length=n∧m.length=n∧ ∀(i:Nat) (x:α) (y:β),l[i]? =some x→m[i]? =some y→Q i x y
 | 0,_=>⟨[],[],rfl,rfl,by simp⟩
 | n+1,h=>by
  obtain ⟨l,m,hl,hm,hq⟩:=QhX Q n fun i hi=>h i (by omega);obtain ⟨x,y,hx⟩:=h n (by omega);refine ⟨l++[x],m++[y],by simp[hl],by simp[hm],fun i u v hu hv=> ?_⟩;rcases Nat.lt_or_ge i n with hi | hi
  ·rw[List.getElem?_append_left (by omega)] at hu hv
   exact hq i u v hu hv
  ·rw[List.getElem?_append_right (by omega)] at hu hv
   have:i-n=0:=by
    rcases Nat.eq_zero_or_pos (i-n) with h0 | h0
    ·exact h0
    ·rw[List.getElem?_eq_none (by simp;omega)] at hu;cases hu
   rw[hl,this] at hu
   rw[hm,this] at hv
   simp only[List.getElem?_cons_zero,Option.some.injEq] at hu hv
   have:i=n:=by omega
   subst this;subst hu;subst hv;exact hx
def Opn {α:Type} (P:Program) (W:World) (t:TypeId) (r:Rp α) (Q:α→Prop):Prop :=
 ∀(H:Type) (enc:TypeId×Value→H) (spare:Nat→Bool) (held:Bool) (fuel:Nat) (cs:List Value) (x:DataW H×List MemPlace),DataW.trod enc P W 0 spare held fuel t cs=some x→ ∃d,r.rep (QfN W) d cs∧Q d
section
variable {P:Program} {W:World} {t:TypeId}
theorem Jc {k:IntKind} (ht:P.underlying t=some (.int k)):Opn P W t (rI k) (wfI k):=by
 intro H enc spare held fuel cs x h;obtain ⟨n,h1,_,h2⟩:=DataW.trod_int ht h;exact ⟨n,h1,h2⟩
theorem Qj8 (ht:P.underlying t=some .string):Opn P W t QlO fun s=>s.size≤maxLen:=by
 intro H enc spare held fuel cs x h;obtain ⟨n,h1,_,h2⟩:=DataW.trod_string ht h;exact ⟨n,h1,h2⟩
theorem QbN {α:Type} {e:TypeId} {r:Rp α} {Q:α→Prop} (ht:P.underlying t=some (.slice e)) (hC:P.cellsOf e=r.sz) (he:Opn P W e r Q):Opn P W t (Qbv r) fun xs=> ∀x∈xs,Q x:=by
 intro H enc spare held fuel cs x h;rcases open_slice ht h with ⟨rfl,_⟩ | ⟨a,n,c,m,nn,D,Pl,rfl,hb,hl,hm,hmm,hx,hi⟩
 ·exact ⟨[],⟨none,0,rfl,Nat.le_refl _,Nat.zero_le _,Qj.nil⟩,by simp⟩
 ·have hrow: ∀i,i<n→ ∃(y:α) (cs:List Value),r.rep (QfN W) y cs∧Q y∧Zo (QfN W) [] (a.add (i*r.sz)) cs:=fun i hin=>by
   obtain ⟨cs',hc,htr⟩:=hi i (by split at hmm<;>omega)
   rw[hC] at hc
   obtain ⟨y,hy,hq⟩:=he H enc spare held nn cs' _ htr;obtain ⟨_,hcl,hat⟩:=World.cells?_some hc;refine ⟨y,cs',hy,hq,fun j u hu=> ?_⟩;have hjk:j<r.sz:=by
    rcases Nat.lt_or_ge j r.sz with h | h
    ·exact h
    ·rw[List.getElem?_eq_none (by omega)] at hu;cases hu
   exact QeP (by rw[hat j hjk];exact hu)
  obtain ⟨xs,css,hxl,hcl,hq⟩:=QhX (fun i y cs=>r.rep (QfN W) y cs∧Q y∧Zo (QfN W) [] (a.add (i*r.sz)) cs) n hrow;refine ⟨xs,⟨some a,c,by rw[hxl],by omega,hm,css,fun i cs hcs=> ?_,by rw[hxl,hcl],fun i y cs hy hcs=>(hq i y cs hy hcs).1⟩,fun y hy=> ?_⟩
  ·have hlt:i<css.length:=by
    rcases Nat.lt_or_ge i css.length with h | h
    ·exact h
    ·rw[List.getElem?_eq_none h] at hcs;cases hcs
   obtain ⟨h1,_,h3⟩:=hq i (xs[i]'(by omega)) cs (by simp) hcs;exact ⟨r.len h1,a,rfl,h3⟩
  ·obtain ⟨i,hi'⟩:=List.getElem?_of_mem hy;have hlt:i<xs.length:=by
    rcases Nat.lt_or_ge i xs.length with h | h
    ·exact h
    ·rw[List.getElem?_eq_none h] at hi';cases hi'
   exact (hq i y (css[i]'(by omega)) hi' (by simp)).2.1
end
theorem Z5 {cs:List Value} {o a o2:Nat} (h:o+a=o2):cs.drop o=(cs.drop o).take a++cs.drop o2:=by rw[←h,←List.drop_drop,List.take_append_drop]
theorem QiC {cs:Array Value} {l:List Value} (h:cs.toList=l):cs=l.toArray:=by rw[←h]
end Go.Proofs.YtilbengnjgglhaaGreat
