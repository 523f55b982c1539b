/- ExactBests: for every input the given law returns true, and its arguments read as before. No condition. -/
import Derived.Test.YtilbengnjgglhaaGreatc1x8
import Derived.Test.YtilbengnjgglhaaGreatc1x1
import Derived.ProofKit
import Derived.Below
import Derived.ChangeSame
import Derived.Carry
import Derived.WideKeyArgs
import Derived.Test.YtilbengnjgglhaaGreatc1x2
import Derived.Deep.Slices
import Derived.Deep.Fields
import Derived.OpenShut
import Derived.Test.YtilbengnjgglhaaGreatRows
import Derived.Test.YtilbengnjgglhaaGreatc1x7
namespace Go.Proofs.YtilbengnjgglhaaGreat
open Go.RowKit
set_option linter.unusedSimpArgs false
set_option linter.unusedVariables false
theorem QcM {L:List Int}: ∀(l pre:List Int),L=pre++l→pre.Nodup→YR (fun k (y:Int)=>bif decide (y∈L.take k) then some (.inr 6) else none) (.inl ():Unit⊕Int) pre.length l=bif decide L.Nodup then .inl () else .inr 6
 | [],pre,h,hp=>by
  have:L.Nodup:=by rw[h];simpa using hp
  simp[YR,this]
 | y::l,pre,h,hp=>by
  have ht:L.take pre.length=pre:=by rw[h];simp
  unfold YR
  rw[ht]
  by_cases hy:y∈pre
  ·have hnd: ¬L.Nodup:=by
    rw[h,List.nodup_append]
    exact fun hh=>hh.2.2 y hy y List.mem_cons_self rfl
   simp[hy,hnd]
  ·have ih:=QcM (L:=L) l (pre++[y]) (by rw[h];simp) (by
    rw[List.nodup_append]
    exact ⟨hp,by simp,fun a ha b hb=>by rw[List.mem_singleton] at hb;subst hb;exact fun hh=>hy (hh▸ha)⟩)
   rw[List.length_append] at ih
   simpa [hy] using ih
theorem Qix {L:List Int} (hn:L.length≤1000):iter (Jn L) (((L.length:Nat):Int).toNat+1) 0=some (bif decide L.Nodup then .inl () else .inr 6):=by
 have:=Yu (body:=Jn L) L (fun k (y:Int)=>bif decide (y∈L.take k) then some (.inr 6) else none) (.inl ():Unit⊕Int) (by omega) (fun k y hy=> ?_) (by simp[Jn]) (((L.length:Nat):Int).toNat+1) (by simp)
 ·rw[this]
  exact congrArg some (QcM L [] rfl List.nodup_nil)
 ·have hk:=QC hy;have hk2:((k:Int)<(L.length:Nat)):=by omega
  simp only[Jn,hk2,decide_true,cond_true,Qt,hy,Option.bind_some,Vr (Nat.le_of_lt hk),Qc6 (L.take k) (by simp;omega)]
  cases decide (y∈L.take k)<;>rfl
def QcU (p:Pr) (d:Int):Bool:=decide (d<0)||decide (((p.Demands.length:Nat):Int)≤d)
theorem QkB (p:Pr) (L:List Int) (hn:L.length≤1000):YB L p=some (L.any (QcU p)):=by
 unfold YB ZE;have:=Yu (body:=YC L p) L (fun k y=>bif QcU p y then some (.inr (k:Int)) else none) (.inl ():Unit⊕Int) (by omega) (fun k y hy=> ?_) (by simp[YC]) (((L.length:Nat):Int).toNat+1) (by simp)
 ·rw[this]
  rcases Qhm (QcU p) L 0 with ⟨h1,h2⟩ | ⟨j,h1,h2⟩
  ·rw[h1,h2];rfl
  ·rw[h1,h2]
   simp only[Option.bind_some,QS]
   simp
 ·have hk:=QC hy;have hk2:((k:Int)<(L.length:Nat)):=by omega
  simp only[YC,hk2,decide_true,cond_true,Qt,hy,Option.bind_some,WY,QcU]
  cases decide (y<0)<;>cases decide (((p.Demands.length:Nat):Int)≤y)<;>rfl
def Vd (p:Pr) (v:Int) (ds:List Int):Int :=
 bif decide (v<0)||decide (((p.Vehicles.length:Nat):Int)≤v) then 7
 else bif decide (5<ds.length) then 8
 else bif ds.any (QcU p) then 7
 else bif decide ds.Nodup then 0 else 6
theorem QdT {F:Nat} (hF:33≤F) {p:Pr} (hn:p.Road.Edges.length≤600) {e:Int} (hc:Qj p=some e) (v:Int) (ds:List Int) (hd:ds.length≤1000) :
  JR F p v ds=some (if e=0 then Vd p v ds else e):=by
 unfold JR
 rw[QbR hF p hn,hc]
 simp only[Option.bind_some]
 by_cases h:e=0
 ·subst h
  simp only[decide_true,Bool.not_true,cond_false,if_true,Vd,QkB p ds hd,Qix hd,Option.bind_some]
  have h5:decide ((5:Int)<((ds.length:Nat):Int))=decide (5<ds.length):=by
   by_cases h:5<ds.length<;>simp[h]<;>omega
  rw[h5]
  cases decide (v<0)<;>cases decide (((p.Vehicles.length:Nat):Int)≤v)<;>cases decide (5<ds.length)<;>cases ds.any (QcU p)<;>cases decide ds.Nodup<;>rfl
 ·simp[h]
theorem Qiu {p:Pr} {v:Int} {ds:List Int}:Vd p v ds=0↔(0≤v∧v<((p.Vehicles.length:Nat):Int))∧ds.length≤5∧(∀d∈ds,0≤d∧d<((p.Demands.length:Nat):Int))∧ds.Nodup:=by
 have ho:ds.any (QcU p)=false↔ ∀d∈ds,0≤d∧d<((p.Demands.length:Nat):Int):=by
  simp only[List.any_eq_false,QcU,Bool.or_eq_true,decide_eq_true_eq,not_or,Int.not_lt,Int.not_le]
 rw[←ho]
 unfold Vd
 by_cases h1:v<0∨((p.Vehicles.length:Nat):Int)≤v
 ·have e:(decide (v<0)||decide (((p.Vehicles.length:Nat):Int)≤v))=true:=by simpa using h1
  rw[e]
  simp only[cond_true]
  constructor
  ·intro h;cases h
  ·rintro ⟨h,_⟩;omega
 ·have e:(decide (v<0)||decide (((p.Vehicles.length:Nat):Int)≤v))=false:=by
   simp only[Bool.or_eq_false_iff,decide_eq_false_iff_not];omega
  rw[e]
  simp only[cond_false]
  by_cases h5:5<ds.length
  ·simp only[h5,decide_true,cond_true]
   exact ⟨fun h=>(by cases h),fun h=>by omega⟩
  ·simp only[h5,decide_false,cond_false]
   cases ds.any (QcU p) with
   | true =>
    simp only[cond_true]
    exact ⟨fun h=>(by cases h),fun h=>(by cases h.2.2.1)⟩
   | false =>
    by_cases hnd:ds.Nodup
    ·simp only[hnd,decide_true,cond_true,cond_false]
     exact ⟨fun _=>⟨by omega,by omega,trivial,trivial⟩,fun _=>trivial⟩
    ·simp only[hnd,decide_false,cond_false]
     exact ⟨fun h=>(by cases h),fun h=>absurd h.2.2.2 id⟩
def ZW (p:Pr) (v:Int) (C:List Int→Prop) (s:Bst):Prop :=
 (s=(false,0,[])∧ ∀c,C c→(Jm p ⟨v,c⟩).2≠0) ∨
 (s.1=true∧C s.2.2∧Jm p ⟨v,s.2.2⟩=(s.2.1,0)∧ ∀c,C c→(Jm p ⟨v,c⟩).2=0→s.2.1<(Jm p ⟨v,c⟩).1∨(s.2.1=(Jm p ⟨v,c⟩).1∧Ji c s.2.2=false))
theorem ZW.congr {p:Pr} {v:Int} {C D:List Int→Prop} {s:Bst} (h: ∀c,C c↔D c) (hs:ZW p v C s):ZW p v D s:=by
 have:C=D:=funext fun c=>propext (h c);exact this▸hs
theorem ZW.uniq {p:Pr} {v:Int} {C:List Int→Prop} {s s':Bst} (h:ZW p v C s) (h':ZW p v C s'):s=s':=by
 rcases h with ⟨h1,h2⟩ | ⟨h1,h2,h3,h4⟩
 ·rcases h' with ⟨g1,g2⟩ | ⟨g1,g2,g3,g4⟩
  ·rw[h1,g1]
  ·exact absurd (congrArg Prod.snd g3) (h2 _ g2)
 ·rcases h' with ⟨g1,g2⟩ | ⟨g1,g2,g3,g4⟩
  ·exact absurd (congrArg Prod.snd h3) (g2 _ h2)
  ·have a:=h4 _ g2 (congrArg Prod.snd g3);have b:=g4 _ h2 (congrArg Prod.snd h3)
   rw[g3] at a
   rw[h3] at b
   obtain ⟨s1,s2,s3⟩:=s;obtain ⟨t1,t2,t3⟩:=s'
   simp only at *
   have e2:s2=t2:=by omega
   have e3:s3=t3:=by
    rcases a with a | a
    ·omega
    ·rcases b with b | b
     ·omega
     ·exact Qed b.2 a.2
   rw[h1,g1,e2,e3]
theorem ZW.step {p:Pr} {v:Int} {C:List Int→Prop} {s:Bst} (h:ZW p v C s) (c:List Int):ZW p v (fun x=>C x∨x=c) (QbI p v s c):=by
 unfold QbI;cases hu:Qib p v s c with
 | true =>
  simp only[cond_true]
  simp only[Qib,Bool.and_eq_true,Bool.or_eq_true,decide_eq_true_eq,Bool.not_eq_true'] at hu
  obtain ⟨h0,hu⟩:=hu;refine .inr ⟨rfl,.inr rfl,Prod.ext rfl h0,?_⟩;rintro x (hx | rfl) hx0
  ·rcases h with ⟨h1,h2⟩ | ⟨h1,h2,h3,h4⟩
   ·exact absurd hx0 (h2 _ hx)
   ·rcases hu with hu | hu | ⟨hu1,hu2⟩
    ·rw[h1] at hu;cases hu
    ·have:=h4 _ hx hx0
     simp only
     omega
    ·rcases h4 _ hx hx0 with h5 | ⟨h5,h6⟩
     ·simp only;omega
     ·refine .inr ⟨by simp only;omega,?_⟩
      simp only
      cases h7:Ji x c with
      | false=>rfl
      | true=>rw[Qaz h7 hu2] at h6;cases h6
  ·exact .inr ⟨rfl,Qec _⟩
 | false =>
  simp only[cond_false]
  rcases h with ⟨h1,h2⟩ | ⟨h1,h2,h3,h4⟩
  ·refine .inl ⟨h1,?_⟩;rintro x (hx | rfl)
   ·exact h2 _ hx
   ·intro h0
    rw[h1] at hu
    simp[Qib,h0] at hu
  ·refine .inr ⟨h1,.inl h2,h3,?_⟩;rintro x (hx | rfl) hx0
   ·exact h4 _ hx hx0
   ·simp only[Qib,hx0,decide_true,Bool.true_and,h1,Bool.not_true,Bool.false_or,Bool.or_eq_false_iff,decide_eq_false_iff_not,Bool.and_eq_false_iff] at hu
    obtain ⟨hu1,hu2⟩:=hu;rcases hu2 with hu2 | hu2
    ·exact .inl (by omega)
    ·by_cases he:s.2.1=(Jm p ⟨v,x⟩).1
     ·exact .inr ⟨he,hu2⟩
     ·exact .inl (by omega)
theorem ZW.fold {p:Pr} {v:Int}: ∀(L:List (List Int)) {C:List Int→Prop} {s:Bst},ZW p v C s→ZW p v (fun x=>C x∨x∈L) (L.foldl (QbI p v) s)
 | [],C,s,h=>h.congr (by simp)
 | c::L,C,s,h=>by
  rw[List.foldl_cons]
  refine (ZW.fold L (h.step c)).congr fun x=> ?_
  simp only[List.mem_cons,or_assoc]
def Wb (p:Pr) (v:Int) (ds:List Int):Bst:=(Qaq ds ds.length [] (List.replicate ds.length false)).foldl (QbI p v) (false,0,[])
theorem Qc4 (p:Pr) (v:Int) (ds:List Int):ZW p v (QgD ds) (Wb p v ds):=by
 refine (ZW.fold (Qaq ds ds.length [] (List.replicate ds.length false)) (C:=fun _=>False) (s:=(false,0,[])) (.inl ⟨rfl,fun c h=>h.elim⟩)).congr fun x=> ?_
 rw[Qa1 ds.length [] (List.replicate ds.length false) (by rw[QbB]),QbB]
 simp only[List.nil_append,false_or]
 exact Iff.rfl
theorem Qfh {F:Nat} (hF:41100≤F) {p:Pr} (hp:OkP p) (hc:Qj p=some 0) (hne:p.Road.Edges.length≤600) (v:Int) {ds:List Int} (hd:ds.length≤100) :
  Wi F p v ds=some (⟨v,(Wb p v ds).2.2⟩,(Wb p v ds).2.1,(Wb p v ds).1):=by
 unfold Wi Ja;have hm:WE false ((ds.length:Nat):Int)=some (List.replicate ds.length false):=by
  unfold WE
  rw[if_pos ⟨by omega,by omega⟩]
  simp
 obtain ⟨l2,hm2⟩: ∃l2,WE (0:Int) (w64 (2*((ds.length:Nat):Int)))=some l2:=by
  rw[Q6 (by omega) (by omega)]
  unfold WE
  rw[if_pos ⟨by omega,by omega⟩]
  exact ⟨_,rfl⟩
 have:=Qhp hp hc hne (v:=v) (v0:=v) (ds:=ds) (by omega) ds.length F (by omega) (false,0,[]) [] (List.replicate ds.length false) (by simp;omega) (by simp) (by rw[QbB])
 rw[hm,hm2]
 simp only[Option.bind_some]
 simp only at this
 rw[this]
 rfl
def QaM (p:Pr) (e v:Int) (ds:List Int):Qi×Int×Int :=
 bif decide ((if e=0 then Vd p v ds else e)=0) then
  bif (Wb p v ds).1 then (⟨v,(Wb p v ds).2.2⟩,(Wb p v ds).2.1,0) else (⟨0,[]⟩,0,40)
 else (⟨0,[]⟩,0,if e=0 then Vd p v ds else e)
def Qbu (p:Pr) (e v:Int) (ds:List Int):Bool×Int :=
 bif decide ((if e=0 then Vd p v ds else e)=0) then ((Wb p v ds).1,0) else (false,if e=0 then Vd p v ds else e)
theorem Qfm {e x:Int} (h:(if e=0 then x else e)=0):e=0∧x=0:=by
 by_cases h0:e=0
 ·rw[if_pos h0] at h;exact ⟨h0,h⟩
 ·rw[if_neg h0] at h;exact absurd h h0
theorem QdB {F:Nat} (hF:41100≤F) {p:Pr} (hne:p.Road.Edges.length≤600) {e:Int} (hc:Qj p=some e) (v:Int) {ds:List Int} (hd:ds.length≤100):JQ F p v ds=some (QaM p e v ds):=by
 unfold JQ QaM
 rw[QdT (by omega) hne hc v ds (by omega),Option.bind_some]
 by_cases h:(if e=0 then Vd p v ds else e)=0
 ·obtain ⟨rfl,h2⟩:=Qfm h
  simp only[if_true,h2,decide_true,Bool.not_true,cond_false,cond_true,Qfh hF (OkP.of hne hc) hc hne v hd,Option.bind_some,oun]
  cases (Wb p v ds).1<;>rfl
 ·simp only[h,decide_false,Bool.not_false,cond_true,cond_false]
theorem QeI {F:Nat} (hF:41100≤F) {p:Pr} (hne:p.Road.Edges.length≤600) {e:Int} (hc:Qj p=some e) (v:Int) {ds:List Int} (hd:ds.length≤100):JZ F p v ds=some (Qbu p e v ds):=by
 unfold JZ Qbu
 rw[QdT (by omega) hne hc v ds (by omega),Option.bind_some]
 by_cases h:(if e=0 then Vd p v ds else e)=0
 ·obtain ⟨rfl,h2⟩:=Qfm h
  simp only[if_true,h2,decide_true,Bool.not_true,cond_false,cond_true,Qfh hF (OkP.of hne hc) hc hne v hd,Option.bind_some,oun]
 ·simp only[h,decide_false,Bool.not_false,cond_true,cond_false]
end Go.Proofs.YtilbengnjgglhaaGreat
namespace Go.Proofs.YtilbengnjgglhaaGreat
open Go.RowKit
set_option linter.unusedSimpArgs false
set_option linter.unusedVariables false
theorem QhF (L:List Int) (hn:L.length≤1000): ∀(rest:List Int) (k f:Nat) (out:List Int),L.drop k=rest→k≤L.length→out.length=k→rest.length<f →
  iter (Yn L) f ((k:Int),out)=some (out++rest)
 | _,_,0,_,_,_,_,h=>by omega
 | [],k,f+1,out,h,hk,ho,_=>by
  have h0:L.length=k:=by
   have:=congrArg List.length h
   simp at this;omega
  have h1: ¬((k:Int)<((L.length:Nat):Int)):=by omega
  simp only[iter,Yn,oun,QS,h1,decide_false,cond_false,Option.bind_some,List.append_nil]
 | d::rest,k,f+1,out,h,hk,ho,hf=>by
  have hk':k<L.length:=by
   have:=congrArg List.length h
   simp at this;omega
  have h1:((k:Int)<((L.length:Nat):Int)):=by omega
  have gd:L[k]? =some d:=by
   have:(L.drop k)[0]? =some d:=by rw[h];rfl
   simpa using this
  have hr:L.drop (k+1)=rest:=by rw[←List.drop_drop,h];rfl
  have e1:w64 ((k:Int)+1)=((k+1:Nat):Int):=by rw[Q6 (by omega) (by omega)];omega
  have ih:=QhF L hn rest (k+1) f (out++[d]) hr (by omega) (by simp[ho]) (by simp at hf;omega)
  simp only[iter,Yn,ZT,oun,QS,h1,decide_true,cond_true,Qt,gd,Option.bind_some,e1,Z8 (show out.length+[d].length≤1000000 by simp;omega)]
  have ih':=ih
  rw[List.append_assoc] at ih'
  exact ih'
theorem QhM {L:List Int} (hn:L.length≤1000):Zz L=some (Jo L):=by
 unfold Zz ZU Y2 ZI;have:=QhF L hn L 0 (((L.length:Nat):Int).toNat+1) [] rfl (by omega) rfl (by simp)
 rw[List.nil_append] at this
 have h2:iter (Yn L) (((L.length:Nat):Int).toNat+1) (0,[])=some L:=this
 rw[h2]
 simp only[Option.bind_some,Qfb]
 rw[if_pos (by omega)]
 rfl
def Jb:Nat→List Int→List Int
 | _,[]=>[]
 | m,d::r=>if m%2=1 then d::Jb (m/2) r else Jb (m/2) r
theorem QcS: ∀(m:Nat) (r:List Int),(Jb m r).Sublist r
 | _,[]=>List.Sublist.refl _
 | m,d::r=>by
  unfold Jb
  split
  ·exact (QcS (m/2) r).cons_cons d
  ·exact (QcS (m/2) r).cons d
theorem QcT {r:List Int} (hn:r.length≤15) {m:Nat} (hm:m<65536): ∀(rest:List Int) (k f:Nat) (out:List Int),r.drop k=rest→k≤r.length→out.length≤k→rest.length<f →
  iter (Jf r (m:Int)) f (out,(k:Int))=some (out++Jb (m/2^k) rest)
 | _,_,0,_,_,_,_,h=>by omega
 | [],k,f+1,out,h,hk,ho,_=>by
  have h0:r.length=k:=by
   have:=congrArg List.length h
   simp at this;omega
  have h1: ¬((k:Int)<((r.length:Nat):Int)):=by omega
  simp only[iter,Jf,oun,QS,h1,decide_false,cond_false,Option.bind_some,Jb,List.append_nil]
 | d::rest,k,f+1,out,h,hk,ho,hf=>by
  have hk':k<r.length:=by
   have:=congrArg List.length h
   simp at this;omega
  have h1:((k:Int)<((r.length:Nat):Int)):=by omega
  have gd:r[k]? =some d:=by
   have:(r.drop k)[0]? =some d:=by rw[h];rfl
   simpa using this
  have hr:r.drop (k+1)=rest:=by rw[←List.drop_drop,h];rfl
  have e1:w64 ((k:Int)+1)=((k+1:Nat):Int):=by rw[Q6 (by omega) (by omega)];omega
  have e2:((m:Int)/2^((k:Int)).toNat)=((m/2^k:Nat):Int):=by
   rw[Int.toNat_natCast]
   simp
  have hq:m/2^k≤m:=Nat.div_le_self _ _;have e3:QfS .i64 ((m:Int)/2^((k:Int)).toNat) 1=((m/2^k%2:Nat):Int):=by
   rw[e2]
   generalize m/2^k=q at hq ⊢
   rw[Qkp (by omega) (by omega)]
   omega
  have e4:m/2^k/2=m/2^(k+1):=by rw[Nat.div_div_eq_div_mul,Nat.pow_succ]
  unfold Jb
  rw[e4]
  by_cases hb:m/2^k%2=1
  ·have ih:=QcT hn hm rest (k+1) f (out++[d]) hr (by omega) (by simp;omega) (by simp at hf;omega)
   rw[if_pos hb]
   simp only[iter,Jf,oun,QS,h1,decide_true,cond_true,Qt,gd,Option.bind_some,e1,Wo (show 0≤(k:Int)∧(k:Int)≤64 by omega),e3,hb,Int.natCast_one,Z8 (show out.length+[d].length≤1000000 by simp;omega)]
   have ih':=ih
   rw[List.append_assoc] at ih'
   exact ih'
  ·have ih:=QcT hn hm rest (k+1) f out hr (by omega) (by omega) (by simp at hf;omega);have h0:m/2^k%2=0:=by omega
   rw[if_neg hb]
   simp only[iter,Jf,oun,QS,h1,decide_true,cond_true,Qt,gd,Option.bind_some,e1,Wo (show 0≤(k:Int)∧(k:Int)≤64 by omega),e3,h0,Int.natCast_zero,show decide ((0:Int)=1)=false by decide,cond_false]
   exact ih
def Qic (ok:List Int→Bool) (out l:List Int):List Int :=
 bif decide (l.length<out.length)||(decide (l.length=out.length)&&decide (0≤Qar l out)) then out else bif ok l then l else out
def QjW (ok:List Int→Bool) (r:List Int):List Int:=((List.range (2^r.length)).map fun m=>Jb m r).foldl (Qic ok) []
theorem Qe1 {F:Nat} (hF:41100≤F) {p:Pr} (hp:OkP p) (hc:Qj p=some 0) (hne:p.Road.Edges.length≤600) (v:Int) {r:List Int} (hn:r.length≤15): ∀(rest:List Nat) (k f:Nat) (out:List Int),(List.range (2^r.length)).drop k=rest→k≤2^r.length→rest.length<f →
  out.length≤1000→iter (Jg F p v r) f (out,((2^r.length:Nat):Int),(k:Int))=some ((rest.map fun m=>Jb m r).foldl (Qic fun l=>(Wb p v l).1) out)
 | _,_,0,_,_,_,h,_=>by omega
 | [],k,f+1,out,h,hk,_,_=>by
  have h0:2^r.length=k:=by
   have:=congrArg List.length h
   simp at this;omega
  have h1: ¬((k:Int)<((2^r.length:Nat):Int)):=by omega
  simp only[iter,Jg,oun,QS,h1,decide_false,cond_false,Option.bind_some,List.map_nil,List.foldl_nil]
 | m::rest,k,f+1,out,h,hk,hf,ho=>by
  have hk':k<2^r.length:=by
   have:=congrArg List.length h
   simp at this;omega
  have hm:m=k:=by
   have:((List.range (2^r.length)).drop k)[0]? =some m:=by rw[h];rfl
   simp[hk'] at this
   exact this.symm
  subst hm;have hr:(List.range (2^r.length)).drop (m+1)=rest:=by rw[←List.drop_drop,h];rfl
  have h1:((m:Int)<((2^r.length:Nat):Int)):=by omega
  have hp2:2^r.length≤2^15:=Nat.pow_le_pow_right (by decide) hn;have e1:w64 ((m:Int)+1)=((m+1:Nat):Int):=by rw[Q6 (by omega) (by omega)];omega
  have hml:=QcT hn (m:=m) (by omega) r 0 (((r.length:Nat):Int).toNat+1) [] rfl (by omega) (by simp) (by simp)
  rw[show m/2^0=m by simp,List.nil_append] at hml
  have hml':iter (Jf r (m:Int)) (((r.length:Nat):Int).toNat+1) ([],0)=some (Jb m r):=hml;have hlen:(Jb m r).length≤15:=Nat.le_trans (QcS m r).length_le hn;have ih:=Qe1 hF hp hc hne v hn rest (m+1) f (Qic (fun l=>(Wb p v l).1) out (Jb m r)) hr (by omega) (by simp at hf;omega) (by
   simp only[Qic]
   cases (decide ((Jb m r).length<out.length)||(decide ((Jb m r).length=out.length)&&decide (0≤Qar (Jb m r) out))) with
   | true=>exact ho
   | false =>
    cases (Wb p v (Jb m r)).1 with
    | true=>simp only[cond_false,cond_true];omega
    | false=>exact ho)
  have c1:decide ((((Jb m r).length:Nat):Int)<((out.length:Nat):Int))=decide ((Jb m r).length<out.length):=by
   by_cases h:(Jb m r).length<out.length<;>simp[h]<;>omega
  have c2:decide ((((Jb m r).length:Nat):Int)=((out.length:Nat):Int))=decide ((Jb m r).length=out.length):=by
   by_cases h:(Jb m r).length=out.length<;>simp[h]<;>omega
  have hb:Jg F p v r (out,((2^r.length:Nat):Int),(m:Int))=some (.inl (Qic (fun l=>(Wb p v l).1) out (Jb m r),((2^r.length:Nat):Int),((m+1:Nat):Int))):=by
   simp only[Jg,oun,h1,decide_true,cond_true,hml',Option.bind_some,e1,QdJ (show (Jb m r).length≤1000000 by omega),Qfh hF hp hc hne v (show (Jb m r).length≤100 by omega),Qic]
   rw[c1,c2]
   cases decide ((Jb m r).length<out.length)<;>cases decide ((Jb m r).length=out.length)<;>cases decide (0≤Qar (Jb m r) out)<;>cases (Wb p v (Jb m r)).1<;>rfl
  rw[List.map_cons,List.foldl_cons,←ih]
  simp only[iter,hb,Option.bind_some,QS]
def Qhi (p:Pr) (e v:Int) (ds:List Int):List Int×Int :=
 bif decide ((if e=0 then Vd p v ds else e)=0) then (QjW (fun l=>(Wb p v l).1) (Jo ds),0) else ([],if e=0 then Vd p v ds else e)
theorem Qjo {F:Nat} (hF:41100≤F) {p:Pr} (hne:p.Road.Edges.length≤600) {e:Int} (hc:Qj p=some e) (v:Int) {ds:List Int} (hd:ds.length≤15):Vt F p v ds=some (Qhi p e v ds):=by
 unfold Vt Qhi
 rw[QdT (by omega) hne hc v ds (by omega),Option.bind_some]
 by_cases h:(if e=0 then Vd p v ds else e)=0
 ·obtain ⟨rfl,h2⟩:=Qfm h;have hl:(Jo ds).length=ds.length:=(Qaw ds).length_eq;have hp2:2^ds.length≤2^15:=Nat.pow_le_pow_right (by decide) hd;have hw:w64 (1*2^(((Jo ds).length:Nat):Int).toNat)=((2^(Jo ds).length:Nat):Int):=by
   rw[Int.toNat_natCast,hl,Int.one_mul]
   have:((2:Int)^ds.length)=((2^ds.length:Nat):Int):=by simp
   rw[this]
   generalize 2^ds.length=q at hp2 ⊢
   exact Q6 (by omega) (by omega)
  have hr2:(List.range (2^(Jo ds).length)).length<F:=by
   rw[List.length_range,hl]
   omega
  have:=Qe1 hF (OkP.of hne hc) hc hne v (r:=Jo ds) (by omega) _ 0 F [] rfl (Nat.zero_le _) (by simpa using hr2) (by simp);have h':iter (Jg F p v (Jo ds)) F ([],((2^(Jo ds).length:Nat):Int),0)=_:=this
  simp only[if_true,h2,decide_true,Bool.not_true,cond_false,cond_true,QhM (show ds.length≤1000 by omega),Option.bind_some,Wo (show 0≤(((Jo ds).length:Nat):Int)∧(((Jo ds).length:Nat):Int)≤64 by omega),hw,h',List.drop_zero]
  rfl
 ·simp only[h,decide_false,Bool.not_false,cond_true,cond_false]
end Go.Proofs.YtilbengnjgglhaaGreat
namespace Go.Proofs.YtilbengnjgglhaaGreat
open Go.RowKit
set_option linter.unusedSimpArgs false
set_option linter.unusedVariables false
def Qlr (k:List Int→Int×Int) (s:Bst) (c:List Int):Bst :=
 bif decide ((k c).2=0)&&(!s.1||(decide ((k c).1<s.2.1)||(decide ((k c).1=s.2.1)&&Ji c s.2.2))) then (true,(k c).1,c) else s
def Qc3 (k:List Int→Int×Int) (ds:List Int):Bst:=(Qaq ds ds.length [] (List.replicate ds.length false)).foldl (Qlr k) (false,0,[])
def QbJ (p:Pr) (v:Int) (c:List Int):Int×Int:=(J6 p ⟨v,c⟩).getD (0,1)
theorem WO {p:Pr} (hp:OkP p) (hc:Qj p=some 0) (v:Int) (ds:List Int):Wb p v ds=Qc3 (QbJ p v) ds:=by
 have e:(fun c=>Jm p ⟨v,c⟩)=QbJ p v:=funext fun c=>by unfold QbJ;rw[QiV hp hc];rfl
 rw[←e]
 rfl
def exZ (g:Int):Pr:=Qb.mk (QA.mk 3 [(QM.mk 0 1 100 60),(QM.mk 1 0 100 60),(QM.mk 1 2 100 60),(QM.mk 2 1 100 60)]) [(Qn.mk ⟨#[118]⟩ 0 (Yd.mk 0 86400) g 1)] [(Qm.mk 0 1 0 10 (Yd.mk 0 86400) 0),(Qm.mk 1 2 0 10 (Yd.mk 0 86400) 0)] 0 0
theorem Qk9 (g:Int):QY g=some (exZ g):=rfl
theorem exN (g:Int):(exZ g).Road.Edges.length≤600:=by show 4≤600;decide
theorem c20:Qj (exZ 20)=some 0:=by decide +kernel
theorem c10:Qj (exZ 10)=some 0:=by decide +kernel
theorem c9:Qj (exZ 9)=some 0:=by decide +kernel
theorem z1:QaM (exZ 20) 0 0 [1,0]=(⟨0,[0,1,-1]⟩,400,0):=by
 unfold QaM
 rw[WO (OkP.of (exN 20) c20) c20,show Qc3 (QbJ (exZ 20) 0) [1,0]=(true,400,[0,1,-1]) by decide +kernel,show Vd (exZ 20) 0 [1,0]=0 by decide +kernel]
 rfl
theorem z2:QaM (exZ 10) 0 0 [0,1]=(⟨0,[0,-1,1,-1]⟩,600,0):=by
 unfold QaM
 rw[WO (OkP.of (exN 10) c10) c10,show Qc3 (QbJ (exZ 10) 0) [0,1]=(true,600,[0,-1,1,-1]) by decide +kernel,show Vd (exZ 10) 0 [0,1]=0 by decide +kernel]
 rfl
theorem z3:QaM (exZ 9) 0 0 [0,1]=(⟨0,[]⟩,0,40):=by
 unfold QaM
 rw[WO (OkP.of (exN 9) c9) c9,show Qc3 (QbJ (exZ 9) 0) [0,1]=(false,0,[]) by decide +kernel,show Vd (exZ 9) 0 [0,1]=0 by decide +kernel]
 rfl
theorem z4:Qbu (exZ 9) 0 0 [0]=(false,0):=by
 unfold Qbu
 rw[WO (OkP.of (exN 9) c9) c9,show Qc3 (QbJ (exZ 9) 0) [0]=(false,0,[]) by decide +kernel,show Vd (exZ 9) 0 [0]=0 by decide +kernel]
 rfl
theorem z5:Qbu (exZ 20) 0 0 [0,1]=(true,0):=by
 unfold Qbu
 rw[WO (OkP.of (exN 20) c20) c20,show (Qc3 (QbJ (exZ 20) 0) [0,1]).1=true by decide +kernel,show Vd (exZ 20) 0 [0,1]=0 by decide +kernel]
 rfl
theorem z6:Qhi (exZ 10) 0 0 [1,0]=([0,1],0):=by
 unfold Qhi;have e:(fun l=>(Wb (exZ 10) 0 l).1)=fun l=>(Qc3 (QbJ (exZ 10) 0) l).1:=funext fun l=>by rw[WO (OkP.of (exN 10) c10) c10]
 rw[e,show QjW (fun l=>(Qc3 (QbJ (exZ 10) 0) l).1) (Jo [1,0])=[0,1] by decide +kernel,show Vd (exZ 10) 0 [1,0]=0 by decide +kernel]
 rfl
theorem Qjw {F:Nat} (hF:41100≤F):Y6 F=some true:=by
 unfold Y6
 simp only[Qk9,Option.bind_some,QdB hF (exN 20) c20 0 (ds:=[1,0]) (by decide),QdB hF (exN 10) c10 0 (ds:=[0,1]) (by decide),QdB hF (exN 9) c9 0 (ds:=[0,1]) (by decide),QeI hF (exN 9) c9 0 (ds:=[0]) (by decide),QeI hF (exN 20) c20 0 (ds:=[0,1]) (by decide),Qjo hF (exN 10) c10 0 (ds:=[1,0]) (by decide),z1,z2,z3,z4,z5,z6,oun]
 decide +kernel
theorem Qh1 (a:List Int) (hn:a.length≤1000):iter (YO a a) (((a.length:Nat):Int).toNat+1) 0=some (.inl ()):=by
 have:=Yu (body:=YO a a) a (fun _ _=>none) (.inl ():Unit⊕Bool) (by omega) (fun k y hy=> ?_) (by simp[YO]) (((a.length:Nat):Int).toNat+1) (by simp)
 ·rw[this]
  exact congrArg some (JS a 0 fun _ _ _=>rfl)
 ·have hk:=QC hy;have hk2:((k:Int)<(a.length:Nat)):=by omega
  simp only[YO,hk2,decide_true,cond_true,Qt,hy,Option.bind_some,Bool.not_true,cond_false]
  rfl
theorem QhL {a:List Int} (hn:a.length≤1000):Yw a a=some true:=by
 unfold Yw
 rw[Qh1 a hn]
 simp[QS]
end Go.Proofs.YtilbengnjgglhaaGreat
namespace Go.Proofs.YtilbengnjgglhaaGreat
open Go.RowKit
set_option linter.unusedSimpArgs false
set_option linter.unusedVariables false
theorem Qlh (p:Pr) (L:List Int) (hn:L.length≤1000):iter (YD p L) (((L.length:Nat):Int).toNat+1) 0=some (bif L.any (QcU p) then .inr 7 else .inl ()):=by
 have:=Yu (body:=YD p L) L (fun k y=>bif QcU p y then some (.inr 7) else none) (.inl ():Unit⊕Int) (by omega) (fun k y hy=> ?_) (by simp[YD]) (((L.length:Nat):Int).toNat+1) (by simp)
 ·rw[this,Qir]
 ·have hk:=QC hy;have hk2:((k:Int)<(L.length:Nat)):=by omega
  simp only[YD,hk2,decide_true,cond_true,Qt,hy,Option.bind_some,QcU]
  cases decide (y<0)<;>cases decide (((p.Demands.length:Nat):Int)≤y)<;>rfl
theorem Qli (L:List Int) (i:Nat) (hi:i≤L.length) (hn:L.length≤1000) {d:Int} (gd:L[i]? =some d):iter (YE L (i:Int)) ((i:Int).toNat+1) 0=some (bif decide (d∈L.take i) then .inr 6 else .inl ()):=by
 have:=Yu (body:=YE L (i:Int)) (L.take i) (fun _ y=>bif decide (d=y) then some (.inr 6) else none) (.inl ():Unit⊕Int) (by simp;omega) (fun k y hy=> ?_) (by rw[Zj hi];simp[YE]) ((i:Int).toNat+1) (by rw[Zj hi];omega)
 ·rw[this,Qir]
  have ha:(L.take i).any (fun y=>decide (d=y))=decide (d∈L.take i):=by
   rw[Bool.eq_iff_iff]
   simp only[List.any_eq_true,decide_eq_true_eq]
   exact ⟨fun ⟨y,h1,h2⟩=>h2▸h1,fun h=>⟨d,h,rfl⟩⟩
  rw[ha]
 ·have hk:=QC hy
  rw[Zj hi] at hk
  rw[List.getElem?_take,if_pos hk] at hy
  have hk2:((k:Int)<(i:Int)):=by omega
  simp only[YE,hk2,decide_true,cond_true,Qt,hy,gd,Option.bind_some]
  cases decide (d=y)<;>rfl
theorem Qlj (L:List Int) (hn:L.length≤1000):iter (YF L) (((L.length:Nat):Int).toNat+1) 0=some (bif decide L.Nodup then .inl () else .inr 6):=by
 have:=Yu (body:=YF L) L (fun k (y:Int)=>bif decide (y∈L.take k) then some (.inr 6) else none) (.inl ():Unit⊕Int) (by omega) (fun k y hy=> ?_) (by simp[YF]) (((L.length:Nat):Int).toNat+1) (by simp)
 ·rw[this]
  exact congrArg some (QcM L [] rfl List.nodup_nil)
 ·have hk:=QC hy;have hk2:((k:Int)<((L.length:Nat):Int)):=by omega
  simp only[YF,hk2,decide_true,cond_true,Qli L k (Nat.le_of_lt hk) hn hy,Option.bind_some]
  cases decide (y∈L.take k)<;>rfl
theorem Qi2 {p:Pr} {e:Int} (hc:Qj p=some e) (v:Int) (ds:List Int) (hd:ds.length≤1000):ZH p v ds=some (if e=0 then Vd p v ds else e):=by
 unfold ZH
 rw[hc]
 simp only[Option.bind_some]
 by_cases h:e=0
 ·subst h
  simp only[decide_true,Bool.not_true,cond_false,if_true,Vd,Qlh p ds hd,Qlj ds hd,Option.bind_some]
  have h5:decide ((5:Int)<((ds.length:Nat):Int))=decide (5<ds.length):=by
   by_cases h:5<ds.length<;>simp[h]<;>omega
  rw[h5]
  cases decide (v<0)<;>cases decide (((p.Vehicles.length:Nat):Int)≤v)<;>cases decide (5<ds.length)<;>cases ds.any (QcU p)<;>cases decide ds.Nodup<;>rfl
 ·simp[h]
def ndD (p:Pr) (d:Int):Int:=match p.Demands[d.toNat]? with | some x=>x.Node | none=>0
def ndL (p:Pr) (v:Ve) (ds:List Int):List Int:=[v.Depot,p.Unload]++ds.map (ndD p)
def lgT (p:Pr) (ns:List Int):List (List Lg):=ns.map fun a=>ns.map fun b=>QQ p a b
def OkN (p:Pr) (ns:List Int):Prop:=ns.length≤100∧ ∀a∈ns,0≤a∧a<p.Road.Nodes
theorem QiO {p:Pr} {ds:List Int} (hd:ds.length≤20) (ho: ∀d∈ds,0≤d∧d<((p.Demands.length:Nat):Int)) (a:List Int) (ha:a.length≤20): ∀(rest:List Int) (k f:Nat) (out:List Int),ds.drop k=rest→k≤ds.length→out.length≤a.length+k→rest.length<f →
  iter (Yj p ds) f (out,(k:Int))=some (out++rest.map (ndD p))
 | _,_,0,_,_,_,_,h=>by omega
 | [],k,f+1,out,h,hk,ho2,_=>by
  have h0:ds.length=k:=by
   have:=congrArg List.length h
   simp at this;omega
  have h1: ¬((k:Int)<((ds.length:Nat):Int)):=by omega
  simp only[iter,Yj,oun,QS,h1,decide_false,cond_false,Option.bind_some,List.map_nil,List.append_nil]
 | d::rest,k,f+1,out,h,hk,ho2,hf=>by
  have hk':k<ds.length:=by
   have:=congrArg List.length h
   simp at this;omega
  have h1:((k:Int)<((ds.length:Nat):Int)):=by omega
  have gd:ds[k]? =some d:=by
   have:(ds.drop k)[0]? =some d:=by rw[h];rfl
   simpa using this
  have hr:ds.drop (k+1)=rest:=by rw[←List.drop_drop,h];rfl
  have e1:w64 ((k:Int)+1)=((k+1:Nat):Int):=by rw[Q6 (by omega) (by omega)];omega
  obtain ⟨d0,d1⟩:=ho d (List.mem_of_getElem? gd);obtain ⟨x,hx⟩: ∃x,p.Demands[d.toNat]? =some x:=⟨p.Demands[d.toNat]'(by omega),by simp⟩
  have gx:QI p.Demands d=some x:=by unfold QI;rw[if_pos d0,hx]
  have hn:ndD p d=x.Node:=by unfold ndD;rw[hx]
  have ih:=QiO hd ho a ha rest (k+1) f (out++[x.Node]) hr (by omega) (by simp;omega) (by simp at hf;omega)
  simp only[iter,Yj,oun,QS,h1,decide_true,cond_true,Qt,gd,gx,Option.bind_some,e1,Z8 (show out.length+[x.Node].length≤1000000 by simp;omega)]
  rw[List.append_assoc] at ih
  rw[List.map_cons,hn]
  exact ih
theorem QiP {p:Pr} (hp:OkP p) {ns:List Int} (hn:OkN p ns) {i:Nat} {a:Int} (ga:ns[i]? =some a): ∀(rest:List Int) (k f:Nat) (out:List Lg),ns.drop k=rest→k≤ns.length→out.length=k→rest.length<f →
  iter (Yk p ns (i:Int)) f (out,(k:Int))=some (out++rest.map fun b=>QQ p a b)
 | _,_,0,_,_,_,_,h=>by omega
 | [],k,f+1,out,h,hk,ho2,_=>by
  have h0:ns.length=k:=by
   have:=congrArg List.length h
   simp at this;omega
  have h1: ¬((k:Int)<((ns.length:Nat):Int)):=by omega
  simp only[iter,Yk,oun,QS,h1,decide_false,cond_false,Option.bind_some,List.map_nil,List.append_nil]
 | d::rest,k,f+1,out,h,hk,ho2,hf=>by
  have hl:=hn.1;have hk':k<ns.length:=by
   have:=congrArg List.length h
   simp at this;omega
  have h1:((k:Int)<((ns.length:Nat):Int)):=by omega
  have gd:ns[k]? =some d:=by
   have:(ns.drop k)[0]? =some d:=by rw[h];rfl
   simpa using this
  have hr:ns.drop (k+1)=rest:=by rw[←List.drop_drop,h];rfl
  have e1:w64 ((k:Int)+1)=((k+1:Nat):Int):=by rw[Q6 (by omega) (by omega)];omega
  have hle:=Qcz hp (hn.2 a (List.mem_of_getElem? ga)) (hn.2 d (List.mem_of_getElem? gd));have ih:=QiP hp hn ga rest (k+1) f (out++[QQ p a d]) hr (by omega) (by simp;omega) (by simp at hf;omega)
  simp only[iter,Yk,oun,QS,h1,decide_true,cond_true,Qt,ga,gd,hle,Option.bind_some,e1,Z8 (show out.length+[QQ p a d].length≤1000000 by simp;omega)]
  rw[List.append_assoc] at ih
  rw[List.map_cons]
  exact ih
theorem QiQ {p:Pr} (hp:OkP p) {ns:List Int} (hn:OkN p ns): ∀(rest:List Int) (k f:Nat) (out:List (List Lg)),ns.drop k=rest→k≤ns.length→out.length=k→rest.length<f →
  iter (Q5 p ns) f (out,(k:Int))=some (out++rest.map fun a=>ns.map fun b=>QQ p a b)
 | _,_,0,_,_,_,_,h=>by omega
 | [],k,f+1,out,h,hk,ho2,_=>by
  have h0:ns.length=k:=by
   have:=congrArg List.length h
   simp at this;omega
  have h1: ¬((k:Int)<((ns.length:Nat):Int)):=by omega
  simp only[iter,Q5,oun,QS,h1,decide_false,cond_false,Option.bind_some,List.map_nil,List.append_nil]
 | d::rest,k,f+1,out,h,hk,ho2,hf=>by
  have hl:=hn.1;have hk':k<ns.length:=by
   have:=congrArg List.length h
   simp at this;omega
  have h1:((k:Int)<((ns.length:Nat):Int)):=by omega
  have gd:ns[k]? =some d:=by
   have:(ns.drop k)[0]? =some d:=by rw[h];rfl
   simpa using this
  have hr:ns.drop (k+1)=rest:=by rw[←List.drop_drop,h];rfl
  have e1:w64 ((k:Int)+1)=((k+1:Nat):Int):=by rw[Q6 (by omega) (by omega)];omega
  have h2:=QiP hp hn gd ns 0 (((ns.length:Nat):Int).toNat+1) [] rfl (by omega) rfl (by simp);have h2':iter (Yk p ns (k:Int)) (((ns.length:Nat):Int).toNat+1) ([],0)=some (ns.map fun b=>QQ p d b):=h2;have ih:=QiQ hp hn rest (k+1) f (out++[ns.map fun b=>QQ p d b]) hr (by omega) (by simp;omega) (by simp at hf;omega);have hb:Q5 p ns (out,(k:Int))=some (.inl (out++[ns.map fun b=>QQ p d b],((k+1:Nat):Int))):=by
   simp only[Q5,oun,QS,h1,decide_true,cond_true,h2',Option.bind_some,e1,Z8 (show out.length+[ns.map fun b=>QQ p d b].length≤1000000 by simp;omega)]
  simp only[iter,hb,Option.bind_some,QS]
  rw[List.append_assoc] at ih
  rw[List.map_cons]
  exact ih
theorem okN {p:Pr} (hp:OkP p) {v:Ve} (hv:OkV p.Road.Nodes v) {ds:List Int} (hd:ds.length≤20) (ho: ∀d∈ds,0≤d∧d<((p.Demands.length:Nat):Int)):OkN p (ndL p v ds):=by
 refine ⟨by simp[ndL];omega,fun a ha=> ?_⟩
 simp only[ndL,List.cons_append,List.nil_append,List.mem_cons,List.mem_map] at ha
 rcases ha with rfl | rfl | ⟨d,hd,rfl⟩
 ·exact ⟨hv.d0,hv.d1⟩
 ·exact ⟨hp.u0,hp.u1⟩
 ·obtain ⟨d0,d1⟩:=ho d hd;unfold ndD;have hx:p.Demands[d.toNat]? =some (p.Demands[d.toNat]'(by omega)):=by simp
  rw[hx]
  have:=hp.de _ (List.mem_of_getElem? hx);exact ⟨this.n0,this.n1⟩
theorem Qgo {p:Pr} (hp:OkP p) {vi:Int} {v:Ve} (gv:QI p.Vehicles vi=some v) (hv:OkV p.Road.Nodes v) {ds:List Int} (hd:ds.length≤20) (ho: ∀d∈ds,0≤d∧d<((p.Demands.length:Nat):Int)) :
  Ze p vi ds=some ⟨p,v,ds,lgT p (ndL p v ds)⟩:=by
 have hN:=okN hp hv hd ho;unfold Ze;have h1:=QiO hd ho [v.Depot,p.Unload] (by simp) ds 0 (((ds.length:Nat):Int).toNat+1) [v.Depot,p.Unload] rfl (by omega) (by simp) (by simp);have h1':iter (Yj p ds) (((ds.length:Nat):Int).toNat+1) ([v.Depot,p.Unload],0)=some (ndL p v ds):=h1;have h2:=QiQ hp hN (ndL p v ds) 0 ((((ndL p v ds).length:Nat):Int).toNat+1) [] rfl (by omega) rfl (by simp);have h2':iter (Q5 p (ndL p v ds)) ((((ndL p v ds).length:Nat):Int).toNat+1) ([],0)=some (lgT p (ndL p v ds)):=h2
 rw[gv]
 simp only[Option.bind_some,h1',h2']
end Go.Proofs.YtilbengnjgglhaaGreat
namespace Go.Proofs.YtilbengnjgglhaaGreat
open Go.RowKit
set_option linter.unusedSimpArgs false
set_option linter.unusedVariables false
abbrev Fd:=Qp
abbrev Sta:=Ql
def QbE (a b:Bst):Bst:=bif !b.1||(a.1&&(decide (a.2.1<b.2.1)||(decide (a.2.1=b.2.1)&&Ji a.2.2 b.2.2))) then a else b
def toF (s:Bst):Fd:=⟨s.1,s.2.1,s.2.2⟩
theorem QdO {F:Nat} (hF:40000≤F) {a b:Bst} (ha:a.2.2.length≤1000):Q7 F (toF a) (toF b)=some (toF (QbE a b)):=by
 obtain ⟨a1,a2,a3⟩:=a;obtain ⟨b1,b2,b3⟩:=b
 simp only[Q7,toF,QbE,Qjn hF (show a3.length≤1000 from ha),Option.bind_some]
 cases b1<;>cases a1<;>by_cases h1:a2<b2<;>by_cases h2:a2=b2<;>cases Ji a3 b3<;>simp[h1,h2]
theorem QeK (s:Bst):QbE s (false,0,[])=s:=by simp[QbE]
theorem ZW.bet {p:Pr} {v:Int} {C D:List Int→Prop} {s t:Bst} (h:ZW p v C s) (k:ZW p v D t):ZW p v (fun c=>C c∨D c) (QbE s t):=by
 rcases k with ⟨rfl,k2⟩ | ⟨k1,k2,k3,k4⟩
 ·rw[QeK]
  rcases h with ⟨h1,h2⟩ | ⟨h1,h2,h3,h4⟩
  ·exact .inl ⟨h1,fun c hc=>hc.elim (h2 c) (k2 c)⟩
  ·exact .inr ⟨h1,.inl h2,h3,fun c hc h0=>hc.elim (fun hc=>h4 c hc h0) fun hc=>absurd h0 (k2 c hc)⟩
 ·rcases h with ⟨rfl,h2⟩ | ⟨h1,h2,h3,h4⟩
  ·have e:QbE (false,0,[]) t=t:=by simp[QbE,k1]
   rw[e]
   exact .inr ⟨k1,.inr k2,k3,fun c hc h0=>hc.elim (fun hc=>absurd h0 (h2 c hc)) fun hc=>k4 c hc h0⟩
  ·obtain ⟨
       s1,s2,s3⟩:=s
   obtain ⟨t1,t2,t3⟩:=t
   simp only at h1 h2 h3 h4 k1 k2 k3 k4
   subst h1 k1
   by_cases hb:s2<t2∨(s2=t2∧Ji s3 t3=true)
   ·have e:QbE (true,s2,s3) (true,t2,t3)=(true,s2,s3):=by
     have:(decide (s2<t2)||(decide (s2=t2)&&Ji s3 t3))=true:=by simpa using hb
     simp only[QbE,Bool.not_true,Bool.false_or,Bool.true_and,this,cond_true]
    rw[e]
    refine .inr ⟨rfl,.inl h2,h3,fun c hc h0=>hc.elim (fun hc=>h4 c hc h0) fun hc=> ?_⟩
    simp only
    rcases k4 c hc h0 with k | ⟨k,k'⟩
    ·left;rcases hb with hb | hb<;>omega
    ·rcases hb with hb | ⟨hb,hb'⟩
     ·left;omega
     ·refine .inr ⟨by omega,?_⟩;cases hl:Ji c s3 with
      | false=>rfl
      | true=>rw[Qaz hl hb'] at k';cases k'
   ·have e:QbE (true,s2,s3) (true,t2,t3)=(true,t2,t3):=by
     have:(decide (s2<t2)||(decide (s2=t2)&&Ji s3 t3))=false:=by
      cases hx:(decide (s2<t2)||(decide (s2=t2)&&Ji s3 t3)) with
      | false=>rfl
      | true=>exact absurd (by simpa using hx) hb
     simp only[QbE,Bool.not_true,Bool.false_or,Bool.true_and,this,cond_false]
    rw[e]
    refine .inr ⟨rfl,.inr k2,k3,fun c hc h0=>hc.elim (fun hc=> ?_) fun hc=>k4 c hc h0⟩
    simp only
    rcases h4 c hc h0 with k | ⟨k,k'⟩
    ·left;omega
    ·by_cases ht:t2<s2
     ·left;omega
     ·have e2:s2=t2:=by omega
      refine .inr ⟨by omega,?_⟩;have hst:Ji s3 t3=false:=by
       cases hx:Ji s3 t3 with
       | false=>rfl
       | true=>exact absurd (.inr ⟨e2,hx⟩) hb
      cases hl:Ji c t3 with
      | false=>rfl
      | true =>
       cases hts:Ji t3 s3 with
       | true=>rw[Qaz hl hts] at k';cases k'
       | false =>
        have:=Qed hst hts;subst this
        rw[hl] at k';cases k'
theorem ZW.more {p:Pr} {v:Int} {C D:List Int→Prop} {s:Bst} (h:ZW p v C s) (hD: ∀c,D c→(Jm p ⟨v,c⟩).2≠0):ZW p v (fun c=>C c∨D c) s:=by
 have:=h.bet (t:=(false,0,[])) (D:=D) (.inl ⟨rfl,hD⟩)
 rwa [QeK] at this
structure AtS (p:Pr) (v:Ve) (ds:List Int) (pre:List Int) (us:List Bool) (x:Vi) (m:Int) (s:Sta):Prop where
 st:s.Stops=pre
 sv:s.Served=us
 a0:0≤s.At
 nd:(ndL p v ds)[s.At.toNat]? =some x.Node
 tm:s.Time=x.Leave
 ld:s.Load=x.Load
 mt:s.Meters=m
 inv:InV p v pre.length x
 m0:0≤m
 m1:m≤pre.length*6400000
 fol: ∃vis,J0 p v [] pre (x0 v)= .inl (x,vis)∧VE p v.Depot vis=m
abbrev tsk (p:Pr) (v:Ve) (ds:List Int):Qv:=⟨p,v,ds,lgT p (ndL p v ds)⟩
section
variable {p:Pr} {v:Ve} {ds pre:List Int} {us:List Bool} {x:Vi} {m:Int} {s:Sta}
theorem Qeh (hp:OkP p) (hN:OkN p (ndL p v ds)) (h:AtS p v ds pre us x m s) (hl:pre.length≤40) {k:Nat} {b:Int} (hk:(ndL p v ds)[k]? =some b) :
  recyclingref24_moved (tsk p v ds) s (k:Int)=some (if (QQ p x.Node b).Secs<0 then (s,false) else (⟨pre,us,(k:Int),x.Leave+(QQ p x.Node b).Secs,x.Load,m+(QQ p x.Node b).Meters⟩,true)):=by
 have g1:QI (lgT p (ndL p v ds)) s.At=some ((ndL p v ds).map fun b=>QQ p x.Node b):=by
  unfold QI
  rw[if_pos h.a0]
  simp[lgT,h.nd]
 have g2:QI ((ndL p v ds).map fun b=>QQ p x.Node b) (k:Int)=some (QQ p x.Node b):=by
  rw[Qt]
  simp[hk]
 have hb:=Y3 hp (hN.2 _ (List.mem_of_getElem? h.nd)) (hN.2 _ (List.mem_of_getElem? hk));have t0:=h.inv.t0;have t1:=h.inv.t1;have m0:=h.m0;have m1:=h.m1;unfold recyclingref24_moved
 simp only[g1,g2,Option.bind_some]
 by_cases c:(QQ p x.Node b).Secs<0
 ·simp only[c,decide_true,cond_true,if_true]
 ·simp only[c,decide_false,cond_false,if_false]
  rw[h.st,h.sv,h.tm,h.ld,h.mt,Q6 (n:=x.Leave+(QQ p x.Node b).Secs) (by omega) (by omega),Q6 (n:=m+(QQ p x.Node b).Meters) (by omega) (by omega)]
theorem AtS.next {us2:List Bool} {d:Int} {y:Vi} {a:Int} (hp:OkP p) (hv:OkV p.Road.Nodes v) (hN:OkN p (ndL p v ds)) (h:AtS p v ds pre us x m s) (hs:JL p v pre x d= .inl y) (ha:0≤a) (hn:(ndL p v ds)[a.toNat]? =some y.Node) :
  AtS p v ds (pre++[d]) us2 y (m+(QQ p x.Node y.Node).Meters) ⟨pre++[d],us2,a,y.Leave,y.Load,m+(QQ p x.Node y.Node).Meters⟩:=by
 obtain ⟨i1,_,_⟩:=Qbn hp hv h.inv hs;have hb:=Y3 hp (hN.2 _ (List.mem_of_getElem? h.nd)) (hN.2 _ (List.mem_of_getElem? hn));have m0:=h.m0;have m1:=h.m1;refine ⟨rfl,rfl,ha,hn,rfl,rfl,rfl,by simpa using i1,by omega,by simp;omega,?_⟩;obtain ⟨vis,f1,f2⟩:=h.fol;refine ⟨vis++[y],?_,?_⟩
 ·rw[Qa6,f1]
  simp only[List.nil_append,J0,hs]
 ·have:=Qby (p:=p) (v:=v) y pre [] (x0 v) _ f1
  rw[←f2]
  exact this
theorem Qh7 (hp:OkP p) (hv:OkV p.Road.Nodes v) (hN:OkN p (ndL p v ds)) (h:AtS p v ds pre us x m s) (hl:pre.length≤30) {i:Nat} {d:Int} (gd:ds[i]? =some d) (d0:0≤d∧d<((p.Demands.length:Nat):Int)) (hpre:d∉pre) (hu:us[i]? =some false) (hdl:ds.length≤20) (hul:us.length≤20) :
  match JL p v pre x d with
  | .inr _=> ∃s',YY (tsk p v ds) s (i:Int)=some (s',false)
  | .inl y=> ∃s',YY (tsk p v ds) s (i:Int)=some (s',true)∧AtS p v ds (pre++[d]) (us.set i true) y (m+(QQ p x.Node y.Node).Meters) s':=by
 obtain ⟨D,hD⟩: ∃D,p.Demands[d.toNat]? =some D:=⟨p.Demands[d.toNat]'(by omega),by simp⟩
 have gD:QI p.Demands d=some D:=by unfold QI;rw[if_pos d0.1,hD]
 have hn:ndD p d=D.Node:=by unfold ndD;rw[hD]
 have hi:i<ds.length:=QC gd;have hk:(ndL p v ds)[i+2]? =some D.Node:=by simp[ndL,gd,hn]
 have ew:w64 ((i:Int)+2)=((i+2:Nat):Int):=by rw[Q6 (by omega) (by omega)];omega
 have hmv:=Qeh hp hN h (by omega) hk;have oD:=hp.de D (List.mem_of_getElem? hD);have hb:=Y3 hp (hN.2 _ (List.mem_of_getElem? h.nd)) (hN.2 _ (List.mem_of_getElem? hk));have t0:=h.inv.t0;have t1:=h.inv.t1;have l0:=h.inv.l0;have l1:=h.inv.l1;have k0:=oD.k0;have k1:=oD.k1;have g0:=oD.g0;have g1:=oD.g1;have w0:=oD.w0;have w1:=oD.w1;have w2:=oD.w2;have s0:=oD.s0;have s1:=oD.s1;have vg:=hv.g1;have eK:IntKind.u64.wrap D.Kind=D.Kind:=by
  show D.Kind%18446744073709551616=D.Kind
  omega
 have hq:=Qlc hv D.Kind.toNat;have eA:QfS .i64 (v.Kinds/2^D.Kind.toNat) 1=(v.Kinds/2^D.Kind.toNat)%2:=Qkp hq.1 hq.2;have eC:decide ((v.Kinds/2^D.Kind.toNat)%2=0)=Bool.not (QdR v D.Kind):=by
  unfold QdR
  by_cases c:(v.Kinds/2^D.Kind.toNat)%2=1
  ·rw[c];rfl
  ·have:(v.Kinds/2^D.Kind.toNat)%2=0:=by omega
   rw[this];rfl
 unfold JL
 rw[if_neg (by omega),if_neg (by omega),if_neg hpre,hD]
 simp only
 unfold YY
 simp only[Qt,gd,gD,ew,hmv,Option.bind_some,oun,eK,Wo (show 0≤D.Kind∧D.Kind≤64 by omega),eA,eC]
 by_cases c1:QdR v D.Kind=false
 ·rw[if_pos c1]
  refine ⟨s,?_⟩
  rw[c1]
  by_cases c2:(QQ p x.Node D.Node).Secs<0
  ·simp only[c2,if_true,Bool.not_false,cond_true,Option.bind_some]
  ·simp only[c2,if_false,Bool.not_true,Bool.not_false,cond_false,cond_true,Option.bind_some]
 ·rw[if_neg c1]
  have c1:QdR v D.Kind=true:=by simpa using c1
  rw[c1]
  by_cases c2:(QQ p x.Node D.Node).Secs<0
  ·rw[if_pos c2]
   exact ⟨s,by simp only[c2,if_true,Bool.not_false,cond_true,Option.bind_some]⟩
  ·rw[if_neg c2]
   simp only[c2,if_false,Bool.not_true,cond_false,Option.bind_some]
   have em:(bif decide (x.Leave+(QQ p x.Node D.Node).Secs<D.When.From) then some D.When.From else some (x.Leave+(QQ p x.Node D.Node).Secs))=some (max (x.Leave+(QQ p x.Node D.Node).Secs) D.When.From):=by
    by_cases c:x.Leave+(QQ p x.Node D.Node).Secs<D.When.From
    ·simp only[c,decide_true,cond_true];congr 1;omega
    ·simp only[c,decide_false,cond_false];congr 1;omega
   rw[em]
   simp only[Option.bind_some]
   have e4:w64 (x.Load+D.Grams)=x.Load+D.Grams:=Q6 (by omega) (by omega)
   rw[e4]
   by_cases c3:D.When.To≤max (x.Leave+(QQ p x.Node D.Node).Secs) D.When.From
   ·rw[if_pos c3]
    exact ⟨s,by simp only[c3,decide_true,cond_true,Option.bind_some]⟩
   ·rw[if_neg c3]
    simp only[c3,decide_false,cond_false,Option.bind_some]
    by_cases c4:v.Grams<x.Load+D.Grams
    ·rw[if_pos c4]
     exact ⟨s,by simp only[c4,decide_true,cond_true]⟩
    ·rw[if_neg c4]
     simp only[c4,decide_false,cond_false]
     have e5:w64 (max (x.Leave+(QQ p x.Node D.Node).Secs) D.When.From+D.Service)=max (x.Leave+(QQ p x.Node D.Node).Secs) D.When.From+D.Service:=Q6 (by omega) (by omega);have hstep:JL p v pre x d= .inl ⟨d,D.Node,x.Leave+(QQ p x.Node D.Node).Secs,max (x.Leave+(QQ p x.Node D.Node).Secs) D.When.From,max (x.Leave+(QQ p x.Node D.Node).Secs) D.When.From+D.Service,x.Load+D.Grams⟩:=by
      unfold JL
      rw[if_neg (by omega),if_neg (by omega),if_neg hpre,hD]
      simp only
      rw[if_neg (by rw[c1];decide),if_neg c2,if_neg c3,if_neg c4]
     have hh:=AtS.next (us2:=us.set i true) (a:=((i+2:Nat):Int)) hp hv hN h hstep (by omega) hk;refine ⟨_,?_,hh⟩
     simp only[h.st,h.sv,e5,Z8 (show ([]:List Int).length+pre.length≤1000000 by simp;omega),Z8 (show pre.length+[d].length≤1000000 by simp;omega),Z8 (show ([]:List Bool).length+us.length≤1000000 by simp;omega),List.nil_append,Option.bind_some,Qt,hu,ZS,Int.toNat_natCast]
theorem QgB (hp:OkP p) (hv:OkV p.Road.Nodes v) (hN:OkN p (ndL p v ds)) (h:AtS p v ds pre us x m s) (hl:pre.length≤30) :
  match JL p v pre x (-1) with
  | .inr _=> ∃s',YG (tsk p v ds) s=some (s',false)
  | .inl y=> ∃s',YG (tsk p v ds) s=some (s',true)∧AtS p v ds (pre++[-1]) us y (m+(QQ p x.Node y.Node).Meters) s':=by
 have hk:(ndL p v ds)[1]? =some p.Unload:=rfl;have hmv:=Qeh hp hN h (by omega) hk;have hmv':recyclingref24_moved (tsk p v ds) s 1=_:=hmv;have hb:=Y3 hp (hN.2 _ (List.mem_of_getElem? h.nd)) (hN.2 _ (List.mem_of_getElem? hk));have t0:=h.inv.t0;have t1:=h.inv.t1;have u0:=hp.us0;have u1:=hp.us1;have hap1:Vc ([]:List Int) pre=some pre:=by rw[Z8 (by simp;omega)];rfl
 have hap2:Vc pre [(-1:Int)]=some (pre++[-1]):=Z8 (by simp;omega);unfold JL
 rw[if_pos rfl]
 unfold YG
 rw[hmv']
 by_cases c:(QQ p x.Node p.Unload).Secs<0
 ·rw[if_pos c,if_pos c]
  simp only[Option.bind_some,oun,h.st,hap1,hap2]
  exact ⟨_,rfl⟩
 ·rw[if_neg c,if_neg c]
  have hstep:JL p v pre x (-1)= .inl ⟨-1,p.Unload,x.Leave+(QQ p x.Node p.Unload).Secs,x.Leave+(QQ p x.Node p.Unload).Secs,x.Leave+(QQ p x.Node p.Unload).Secs+p.UnloadSecs,0⟩:=by
   unfold JL
   rw[if_pos rfl,if_neg c]
  have hh:=AtS.next (us2:=us) (a:=1) hp hv hN h hstep (by omega) hk;refine ⟨_,?_,hh⟩
  simp only[Option.bind_some,oun,h.st,hap1,hap2]
  rw[Q6 (by omega) (by omega)]
  rfl
theorem Qiw {vi:Int} {c:List Int} (gv:QI p.Vehicles vi=some v) (h:(Jm p ⟨vi,c⟩).2=0): ∃z,J0 p v [] c (x0 v)= .inl z:=by
 cases ht:VP p ⟨vi,c⟩ with
 | inr q =>
  exfalso
  have:=QcY ht;unfold Jm at h
  rw[ht] at h
  exact this h
 | inl u =>
  unfold VP at ht
  split at ht
  ·cases ht
  ·split at ht
   ·cases ht
   ·split at ht
    ·cases ht
    ·rename_i v' hv'
     have:v'=v:=by
      have:=(Zi gv).2.2
      simp only at hv'
      rw[this] at hv'
      injection hv' with hv'
      exact hv'.symm
     subst this
     split at ht
     ·cases ht
     ·rename_i z hz
      exact ⟨z,hz⟩
theorem QdW {vi d e:Int} {rest:List Int} (gv:QI p.Vehicles vi=some v) (h:AtS p v ds pre us x m s) (hs:JL p v pre x d= .inr e):(Jm p ⟨vi,pre++d::rest⟩).2≠0:=by
 intro h0;obtain ⟨z,hz⟩:=Qiw gv h0;obtain ⟨vis,f1,_⟩:=h.fol
 rw[Qa6,f1] at hz
 simp only[List.nil_append,J0,hs] at hz
 cases hz
theorem QhT {vi:Int} (gv:QI p.Vehicles vi=some v) (h:AtS p v ds pre us x m s) (hl:pre.length≤30):Jm p ⟨vi,pre⟩=match JJ p v x with
  | .inr e=>(0,e)
  | .inl y=>(m+(QQ p x.Node v.Depot).Meters,0):=by
 obtain ⟨g0,g1,_⟩:=Zi gv;obtain ⟨vis,f1,f2⟩:=h.fol;have:=Qjh (p:=p) (t:=⟨vi,pre⟩) g0 g1 gv (by simp only;omega)
 simp only[f1] at this
 unfold Jm
 rw[this]
 cases hh:JJ p v x with
 | inr e=>rfl
 | inl y =>
  simp only
  have hy:y.Node=v.Depot:=by
   unfold JJ at hh
   repeat' split at hh
   all_goals first | (cases hh;done) | (injection hh with hh;subst hh;rfl)
  have:=Qby (p:=p) (v:=v) y pre [] (x0 v) _ f1
  rw[show QQ p x.Node v.Depot=QQ p x.Node y.Node by rw[hy],←f2]
  exact congrArg (fun q=>(q,(0:Int))) this
end
end Go.Proofs.YtilbengnjgglhaaGreat
namespace Go.Proofs.YtilbengnjgglhaaGreat
open Go.RowKit
set_option linter.unusedSimpArgs false
set_option linter.unusedVariables false
def From (ds:List Int) (pre:List Int) (us:List Bool) (c:List Int):Prop:= ∃P:List (Int×Bool),(P.map Prod.fst).Perm (Zy ds us)∧c=pre++Zw P
theorem From.len {ds pre:List Int} {us:List Bool} {c:List Int} {n:Nat} (h:From ds pre us c) (hn:(Zy ds us).length=n):c.length≤pre.length+2*n:=by
 obtain ⟨P,h1,rfl⟩:=h;have h2:=Qbo P;have h3:=h1.length_eq
 simp at h3 ⊢
 omega
theorem ZW.len {p:Pr} {v:Int} {C:List Int→Prop} {s:Bst} {n:Nat} (h:ZW p v C s) (hC: ∀c,C c→c.length≤n):s.2.2.length≤n:=by
 rcases h with ⟨rfl,_⟩ | ⟨_,h2,_⟩
 ·exact Nat.zero_le _
 ·exact hC _ h2
def QfO (ds:List Int) (pre:List Int) (us:List Bool) (k:Nat) (c:List Int):Prop:= ∃(i:Nat) (d:Int) (f:Bool) (P:List (Int×Bool)),i<k∧ds[i]? =some d∧us[i]? =some false∧(P.map Prod.fst).Perm (Zy ds (us.set i true))∧c=pre++Zw ((d,f)::P)
theorem QgC {ds pre:List Int} {us:List Bool} {k:Nat} (hu:us[k]? ≠some false) (c:List Int):QfO ds pre us k c↔QfO ds pre us (k+1) c:=by
 constructor
 ·rintro ⟨i,d,f,P,h1,h⟩;exact ⟨i,d,f,P,by omega,h⟩
 ·rintro ⟨i,d,f,P,h1,h2,h3,h⟩;refine ⟨i,d,f,P,?_,h2,h3,h⟩;rcases Nat.lt_or_ge i k with h4 | h4
  ·exact h4
  ·have:i=k:=by omega
   subst this;exact absurd h3 hu
theorem Qbp {ds pre:List Int} {us:List Bool} {k:Nat} {d:Int} (gd:ds[k]? =some d) (hu:us[k]? =some false) (c:List Int) :
  ((QfO ds pre us k c∨From ds (pre++[d]) (us.set k true) c)∨From ds (pre++[d]++[-1]) (us.set k true) c)↔QfO ds pre us (k+1) c:=by
 constructor
 ·rintro ((⟨i,d,f,P,h1,h⟩ | ⟨P,h1,h2⟩) | ⟨P,h1,h2⟩)
  ·exact ⟨i,d,f,P,by omega,h⟩
  ·exact ⟨k,d,false,P,by omega,gd,hu,h1,by rw[h2];simp[Zw]⟩
  ·exact ⟨k,d,true,P,by omega,gd,hu,h1,by rw[h2];simp[Zw]⟩
 ·rintro ⟨i,d',f,P,h1,h2,h3,h4,h5⟩;rcases Nat.lt_or_ge i k with hi | hi
  ·exact .inl (.inl ⟨i,d',f,P,hi,h2,h3,h4,h5⟩)
  ·have:i=k:=by omega
   subst this
   rw[gd] at h2
   injection h2 with h2
   subst h2;cases f with
   | false=>exact .inl (.inr ⟨P,h4,by rw[h5];simp[Zw]⟩)
   | true=>exact .inr ⟨P,h4,by rw[h5];simp[Zw]⟩
theorem Qji {ds pre:List Int} {us:List Bool} (hr:Zy ds us≠[]) (c:List Int):QfO ds pre us ds.length c↔From ds pre us c:=by
 constructor
 ·rintro ⟨i,d,f,P,h1,h2,h3,h4,h5⟩;exact ⟨(d,f)::P,(List.Perm.cons d h4).trans (W1 h2 h3).symm,h5⟩
 ·rintro ⟨P,h1,h2⟩;cases P with
  | nil=>exact absurd (h1.symm.eq_nil) hr
  | cons q P =>
   obtain ⟨d,f⟩:=q;obtain ⟨i,hd,hu⟩:=QcA (h1.subset (show d∈((d,f)::P).map Prod.fst by simp));have hp:=W1 hd hu;have h3:(P.map Prod.fst).Perm (Zy ds (us.set i true)):=(List.perm_cons d).1 (show (d::P.map Prod.fst).Perm _ from h1.trans hp);exact ⟨i,d,f,P,QC hd,hd,hu,h3,h2⟩
section
variable {p:Pr} {v:Ve} {vi:Int} {ds pre:List Int} {us:List Bool} {x:Vi} {m:Int} {s:Sta}
theorem Qdh {F:Nat} (hF:40000≤F) (hp:OkP p) (gv:QI p.Vehicles vi=some v) (hv:OkV p.Road.Nodes v) (hd:ds.length≤10) (ho: ∀d∈ds,0≤d∧d<((p.Demands.length:Nat):Int)) (hnd:ds.Nodup) {n:Nat} {rec_:Qv→Sta→Option Fd}
  (H: ∀(pre':List Int) (us':List Bool) (x':Vi) (m':Int) (s':Sta),(Zy ds us').length+1=n→us'.length=ds.length→pre'.length+2*(n-1)≤30→(∀(i:Nat) (d:Int),ds[i]? =some d→us'[i]? =some false→d∉pre')→AtS p v ds pre' us' x' m' s' →
   ∃r:Bst,rec_ (tsk p v ds) s'=some (toF r)∧ZW p vi (From ds pre' us') r)
  (hn:(Zy ds us).length=n) (hul:us.length=ds.length) (hl:pre.length+2*n≤30) (hfr: ∀(i:Nat) (d:Int),ds[i]? =some d→us[i]? =some false→d∉pre) (h:AtS p v ds pre us x m s) :
  ∀(rest:List Int) (k f:Nat) (b:Bst) (all:Bool),ds.drop k=rest→k≤ds.length→ZW p vi (QfO ds pre us k) b→(all=true↔ ∀(i:Nat),i<k→us[i]? ≠some false)→rest.length<f →
   ∃(b':Bst) (all':Bool),iter (QO F (tsk p v ds) s rec_) f (b.1,b.2.1,b.2.2,all,(k:Int))=some (b'.1,b'.2.1,b'.2.2,all')∧ZW p vi (QfO ds pre us ds.length) b'∧(all'=true↔ ∀(i:Nat),i<ds.length→us[i]? ≠some false)
 | _,_,0,_,_,_,_,_,_,hf=>by omega
 | [],k,f+1,b,all,hr,hk,hb,ha,_=>by
  have h0:ds.length=k:=by
   have:=congrArg List.length hr
   simp at this;omega
  have h1: ¬((k:Int)<((ds.length:Nat):Int)):=by omega
  refine ⟨b,all,?_,by rw[h0];exact hb,by rw[h0];exact ha⟩
  simp only[iter,QO,oun,QS,h1,decide_false,cond_false,Option.bind_some]
 | d::rest,k,f+1,b,all,hr,hk,hb,ha,hf=>by
  have hk':k<ds.length:=by
   have:=congrArg List.length hr
   simp at this;omega
  have h1:((k:Int)<((ds.length:Nat):Int)):=by omega
  have gd:ds[k]? =some d:=by
   have:(ds.drop k)[0]? =some d:=by rw[hr];rfl
   simpa using this
  have hr':ds.drop (k+1)=rest:=by rw[←List.drop_drop,hr];rfl
  have e1:w64 ((k:Int)+1)=((k+1:Nat):Int):=by rw[Q6 (by omega) (by omega)];omega
  have d0:=ho d (List.mem_of_getElem? gd);obtain ⟨u,gu⟩: ∃u,us[k]? =some u:=⟨us[k]'(by omega),by simp⟩
  have key: ∃(b2:Bst) (all2:Bool),QO F (tsk p v ds) s rec_ (b.1,b.2.1,b.2.2,all,(k:Int))=some (.inl (b2.1,b2.2.1,b2.2.2,all2,((k+1:Nat):Int)))∧ZW p vi (QfO ds pre us (k+1)) b2∧(all2=true↔ ∀(i:Nat),i<k+1→us[i]? ≠some false):=by
   cases u with
   | true =>
    refine ⟨b,all,?_,hb.congr (QgC (by rw[gu];simp)),ha.trans ⟨fun hh i hi=> ?_,fun hh i hi=>hh i (by omega)⟩⟩
    ·simp only[QO,oun,h1,decide_true,cond_true,h.sv,Qt,gu,Option.bind_some,e1]
    ·rcases Nat.lt_or_ge i k with h4 | h4
     ·exact hh i h4
     ·have:i=k:=by omega
      subst this
      rw[gu];simp
   | false =>
    have hall:(false=true)↔ ∀(i:Nat),i<k+1→us[i]? ≠some false:=⟨fun h=>(by cases h),fun hh=>absurd gu (hh k (by omega))⟩
    have hN:=okN hp hv (show ds.length≤20 by omega) ho;have hfd:=hfr k d gd gu;have hse:=Qh7 hp hv hN h (by omega) gd d0 hfd gu (by omega) (by omega);have hrem:=W1 gd gu;have hlen:(Zy ds (us.set k true)).length+1=n:=by
     have:=hrem.length_eq
     simp at this;omega
    cases hst:JL p v pre x d with
    | inr e =>
     rw[hst] at hse
     obtain ⟨s',hs'⟩:=hse;have bad1: ∀c,From ds (pre++[d]) (us.set k true) c→(Jm p ⟨vi,c⟩).2≠0:=by
      rintro c ⟨P,_,rfl⟩
      rw[List.append_assoc]
      exact QdW gv h hst
     have bad2: ∀c,From ds (pre++[d]++[-1]) (us.set k true) c→(Jm p ⟨vi,c⟩).2≠0:=by
      rintro c ⟨P,_,rfl⟩
      rw[List.append_assoc,List.append_assoc]
      exact QdW gv h hst
     refine ⟨b,false,?_,((hb.more bad1).more bad2).congr (Qbp gd gu),hall⟩
     simp only[QO,oun,h1,decide_true,cond_true,h.sv,Qt,gu,hs',Option.bind_some,cond_false,Bool.not_false,e1]
    | inl y =>
     rw[hst] at hse
     obtain ⟨s1,hs1,hA1⟩:=hse;have hfr1: ∀(i:Nat) (d':Int),ds[i]? =some d'→(us.set k true)[i]? =some false→d'∉pre++[d]:=by
      intro i d' g1 g2;have hik:i≠k:=by
       rintro rfl
       rw[List.getElem?_set_self (QC gu)] at g2
       cases g2
      rw[List.getElem?_set_ne (Ne.symm hik)] at g2
      rw[List.mem_append,not_or]
      refine ⟨hfr i d' g1 g2,?_⟩
      rw[List.mem_singleton]
      rintro rfl;exact hik ((List.getElem?_inj (QC g1) hnd).1 (g1.trans gd.symm))
     have hfr2: ∀(i:Nat) (d':Int),ds[i]? =some d'→(us.set k true)[i]? =some false→d'∉pre++[d]++[-1]:=by
      intro i d' g1 g2
      rw[List.mem_append,not_or]
      refine ⟨hfr1 i d' g1 g2,?_⟩
      rw[List.mem_singleton]
      have:=(ho d' (List.mem_of_getElem? g1)).1
      omega
     obtain ⟨r1,hr1,hL1⟩:=H _ _ _ _ _ hlen (by simp[hul]) (by simp;omega) hfr1 hA1;have hL2:=hb.bet hL1;have hbl:b.2.2.length≤1000:=by
      refine Nat.le_trans (hb.len (n:=30) fun c hc=> ?_) (by omega);obtain ⟨i,d',f',P,_,g1,g2,g3,rfl⟩:=hc;have:=(From.len (ds:=ds) (pre:=pre) (us:=us) (c:=pre++Zw ((d',f')::P)) ⟨(d',f')::P,(List.Perm.cons d' g3).trans (W1 g1 g2).symm,rfl⟩ hn)
      omega
     have hr1l:(QbE b r1).2.2.length≤1000:=by
      refine Nat.le_trans (hL2.len (n:=30) fun c hc=> ?_) (by omega);rcases hc with ⟨i,d',f',P,_,g1,g2,g3,rfl⟩ | hc
      ·have:=(From.len (ds:=ds) (pre:=pre) (us:=us) (c:=pre++Zw ((d',f')::P)) ⟨(d',f')::P,(List.Perm.cons d' g3).trans (W1 g1 g2).symm,rfl⟩ hn)
       omega
      ·have:=hc.len rfl
       simp at this
       omega
     have hb1:=QdO hF (b:=r1) hbl;have hb1':Q7 F ⟨b.1,b.2.1,b.2.2⟩ (toF r1)=some (toF (QbE b r1)):=hb1;have hun:=QgB hp hv hN hA1 (by simp;omega);cases hst2:JL p v (pre++[d]) y (-1) with
     | inr e =>
      rw[hst2] at hun
      obtain ⟨s2,hs2⟩:=hun;have bad2: ∀c,From ds (pre++[d]++[-1]) (us.set k true) c→(Jm p ⟨vi,c⟩).2≠0:=by
       rintro c ⟨P,_,rfl⟩
       rw[List.append_assoc]
       exact QdW gv hA1 hst2
      refine ⟨QbE b r1,false,?_,(hL2.more bad2).congr (Qbp gd gu),hall⟩
      simp only[QO,oun,h1,decide_true,cond_true,h.sv,Qt,gu,hs1,hr1,hb1',hs2,Option.bind_some,cond_false,Bool.not_true,e1]
      rfl
     | inl z =>
      rw[hst2] at hun
      obtain ⟨s2,hs2,hA2⟩:=hun;obtain ⟨r2,hr2,hL3⟩:=H _ _ _ _ _ hlen (by simp[hul]) (by simp;omega) hfr2 hA2;have hb2:=QdO hF (b:=r2) hr1l;refine ⟨QbE (QbE b r1) r2,false,?_,(hL2.bet hL3).congr (Qbp gd gu),hall⟩
      simp only[QO,oun,h1,decide_true,cond_true,h.sv,Qt,gu,hs1,hr1,hb1',hs2,hr2,hb2,Option.bind_some,cond_false,Bool.not_true,e1]
      rfl
  obtain ⟨b2,all2,k1,k2,k3⟩:=key;obtain ⟨b',all',j1,j2,j3⟩:=Qdh hF hp gv hv hd ho hnd H hn hul hl hfr h rest (k+1) f b2 all2 hr' (by omega) k2 k3 (by simp at hf;omega);refine ⟨b',all',?_,j2,j3⟩
  rw[←j1]
  simp only[iter,k1,Option.bind_some,QS]
theorem QjJ (h: ∀(i:Nat),i<ds.length→us[i]? ≠some false):Zy ds us=[]:=by
 cases hr:Zy ds us with
 | nil=>rfl
 | cons d r =>
  obtain ⟨i,g1,g2⟩:=QcA (show d∈Zy ds us by rw[hr];simp);exact absurd g2 (h i (QC g1))
theorem QkF {i:Nat} (hul:us.length=ds.length) (hu:us[i]? =some false):Zy ds us≠[]:=by
 intro h0;have hi:=QC hu;have:=W1 (ds:=ds) (us:=us) (i:=i) (d:=ds[i]'(by omega)) (by simp) hu
 rw[h0] at this
 have:=this.length_eq
 simp at this
theorem Qe8 (hp:OkP p) (gv:QI p.Vehicles vi=some v) (hv:OkV p.Road.Nodes v) (hd:ds.length≤10) (ho: ∀d∈ds,0≤d∧d<((p.Demands.length:Nat):Int)) (hnd:ds.Nodup): ∀(n F:Nat) (pre:List Int) (us:List Bool) (x:Vi) (m:Int) (s:Sta),
  40000+n<F→(Zy ds us).length=n→us.length=ds.length→pre.length+2*n≤30→(∀(i:Nat) (d:Int),ds[i]? =some d→us[i]? =some false→d∉pre)→AtS p v ds pre us x m s →
  ∃r:Bst,Yh F (tsk p v ds) s=some (toF r)∧ZW p vi (From ds pre us) r
 | _,0,_,_,_,_,_,hF,_,_,_,_,_=>by omega
 | n,F+1,pre,us,x,m,s,hF,hn,hul,hl,hfr,h=>by
  have H: ∀(pre':List Int) (us':List Bool) (x':Vi) (m':Int) (s':Sta),(Zy ds us').length+1=n→us'.length=ds.length→pre'.length+2*(n-1)≤30→(∀(i:Nat) (d:Int),ds[i]? =some d→us'[i]? =some false→d∉pre')→AtS p v ds pre' us' x' m' s' →
    ∃r:Bst,Yh F (tsk p v ds) s'=some (toF r)∧ZW p vi (From ds pre' us') r:=by
   intro pre' us' x' m' s' a1 a2 a3 a4 a5;exact Qe8 hp gv hv hd ho hnd (n-1) F pre' us' x' m' s' (by omega) (by omega) a2 a3 a4 a5
  obtain ⟨b,all,j1,j2,j3⟩:=Qdh (F:=F) (by omega) hp gv hv hd ho hnd H hn hul hl hfr h ds 0 (((ds.length:Nat):Int).toNat+1) (false,0,[]) true rfl (by omega)
   (.inl ⟨rfl,fun c ⟨i,_,_,_,hi,_⟩=>absurd hi (Nat.not_lt_zero _)⟩) ⟨fun _ i hi=>absurd hi (Nat.not_lt_zero _),fun _=>rfl⟩ (by simp)
  have j1':iter (QO F (tsk p v ds) s (Yh F)) (((ds.length:Nat):Int).toNat+1) (false,0,[],true,0)=some (b.1,b.2.1,b.2.2,all):=j1;unfold Yh Jr
  simp only[j1',Option.bind_some,oun]
  cases all with
  | false =>
   refine ⟨b,by simp only[Bool.not_false,cond_true,Option.bind_some];rfl,j2.congr (Qji ?_)⟩;intro h0;have: ¬ ∀(i:Nat),i<ds.length→us[i]? ≠some false:=fun hh=>by cases j3.2 hh
   refine this fun i hi hu=>QkF hul hu h0
  | true =>
   have hno:=j3.1 rfl;have hrn:=QjJ hno;have hb:b=(false,0,[]):=by
    rcases j2 with ⟨hb,_⟩ | ⟨_,⟨i,d,f,P,hi,_,hu,_⟩,_⟩
    ·exact hb
    ·exact absurd hu (hno i hi)
   subst hb;have hFr: ∀c,From ds pre us c↔c=pre:=by
    intro c;unfold From
    rw[hrn]
    constructor
    ·rintro ⟨P,h1,rfl⟩;have:P=[]:=by simpa using h1.eq_nil
     subst this
     simp[Zw]
    ·rintro rfl;exact ⟨[],List.Perm.refl _,by simp[Zw]⟩
   have hN:=okN hp hv (show ds.length≤20 by omega) ho;have hk:(ndL p v ds)[0]? =some v.Depot:=rfl;have hmv:recyclingref24_moved (tsk p v ds) s 0=_:=Qeh hp hN h (by omega) hk;have hlf:=QhT (vi:=vi) gv h (by omega);have l0:=h.inv.l0;have none_: ∀e,JJ p v x= .inr e→ZW p vi (From ds pre us) (false,0,[]):=by
    intro e he;refine .inl ⟨rfl,fun c hc=> ?_⟩
    rw[(hFr c).1 hc,hlf,he]
    exact Qbw he
   simp only[Bool.not_true,cond_false,Option.bind_some,h.ld]
   by_cases c0:0<x.Load
   ·simp only[c0,decide_true,cond_true]
    have: ∃e,JJ p v x= .inr e:=by
     unfold JJ
     by_cases c1:(QQ p x.Node v.Depot).Secs<0
     ·exact ⟨22,by rw[if_pos c1]⟩
     ·exact ⟨20,by rw[if_neg c1,if_pos (by omega)]⟩
    obtain ⟨e,he⟩:=this;exact ⟨(false,0,[]),rfl,none_ e he⟩
   ·simp only[c0,decide_false,cond_false]
    rw[hmv]
    by_cases c1:(QQ p x.Node v.Depot).Secs<0
    ·simp only[c1,if_true,Option.bind_some,cond_false]
     exact ⟨(false,0,[]),rfl,none_ 22 (by unfold JJ;rw[if_pos c1])⟩
    ·simp only[c1,if_false,Option.bind_some,cond_true]
     by_cases c2:x.Leave+(QQ p x.Node v.Depot).Secs<v.Shift.To
     ·simp only[c2,decide_true,cond_true,Option.bind_some]
      have hbt:=QdO (F:=F) (a:=(false,0,[])) (b:=(true,m+(QQ p x.Node v.Depot).Meters,pre)) (by omega) (by simp);have hbt':Q7 F ⟨false,0,[]⟩ ⟨true,m+(QQ p x.Node v.Depot).Meters,s.Stops⟩=some (toF (true,m+(QQ p x.Node v.Depot).Meters,pre)):=by rw[h.st];exact hbt
      rw[hbt']
      refine ⟨(true,m+(QQ p x.Node v.Depot).Meters,pre),rfl,.inr ⟨rfl,(hFr pre).2 rfl,?_,?_⟩⟩
      ·simp only
       rw[hlf]
       unfold JJ
       rw[if_neg c1,if_neg (by omega),if_neg (by omega)]
      ·intro c hc _
       rw[(hFr c).1 hc]
       refine .inr ⟨?_,Qec _⟩
       rw[hlf]
       unfold JJ
       rw[if_neg c1,if_neg (by omega),if_neg (by omega)]
     ·simp only[c2,decide_false,cond_false,Option.bind_some]
      exact ⟨(false,0,[]),rfl,none_ 19 (by unfold JJ;rw[if_neg c1,if_neg (by omega),if_pos (by omega)])⟩
end
theorem QjA {F:Nat} (hF:41100≤F) {p:Pr} (hp:OkP p) {vi:Int} (hvi:0≤vi∧vi<((p.Vehicles.length:Nat):Int)) {ds:List Int} (hd:ds.length≤10) (ho: ∀d∈ds,0≤d∧d<((p.Demands.length:Nat):Int)) (hnd:ds.Nodup) :
  ZP F p vi ds=some (toF (Wb p vi ds)):=by
 obtain ⟨v,gv⟩:=Qfp hvi.1 hvi.2;have hv:=hp.ve v (List.mem_of_getElem? (Zi gv).2.2);have hm:WE false ((ds.length:Nat):Int)=some (List.replicate ds.length false):=by
  unfold WE
  rw[if_pos ⟨by omega,by omega⟩]
  simp
 have h0:AtS p v ds [] (List.replicate ds.length false) (x0 v) 0 ⟨[],List.replicate ds.length false,0,v.Shift.From,0,0⟩ :=
  ⟨rfl,rfl,Int.le_refl _,rfl,rfl,rfl,rfl,Qev hv,Int.le_refl _,by simp,[],rfl,rfl⟩
 obtain ⟨r,h1,h2⟩:=Qe8 hp gv hv hd ho hnd ds.length F [] (List.replicate ds.length false) (x0 v) 0 _ (by omega) (by rw[QbB]) (by simp) (by simp;omega) (by simp) h0;have hu:r=Wb p vi ds:=by
  refine ZW.uniq (h2.congr fun c=> ?_) (Qc4 p vi ds);unfold From QgD
  rw[QbB]
  simp
 subst hu;unfold ZP
 rw[Qgo hp gv hv (by omega) ho]
 simp only[Option.bind_some,hm,h1]
end Go.Proofs.YtilbengnjgglhaaGreat
namespace Go.Proofs.YtilbengnjgglhaaGreat
open Go.RowKit
set_option linter.unusedSimpArgs false
set_option linter.unusedVariables false
theorem Qjx {p:Pr} {e v:Int} {ds:List Int} (hz:(if e=0 then Vd p v ds else e)=0):e=0∧Vd p v ds=0∧(0≤v∧v<((p.Vehicles.length:Nat):Int))∧ds.length≤5∧(∀d∈ds,0≤d∧d<((p.Demands.length:Nat):Int))∧ds.Nodup:=by
 obtain ⟨h1,h2⟩:=Qfm hz;exact ⟨h1,h2,Qiu.1 h2⟩
theorem QiU {F:Nat} (hF:41100≤F) {p:Pr} (hne:p.Road.Edges.length≤600) {e:Int} (hc:Qj p=some e) (v:Int) {ds:List Int} (hd:ds.length≤100):ZN F p v ds=some (QaM p e v ds):=by
 unfold ZN QaM
 rw[Qi2 hc v ds (by omega),Option.bind_some]
 by_cases hz:(if e=0 then Vd p v ds else e)=0
 ·obtain ⟨rfl,h1,h2,h3,h4,h5⟩:=Qjx hz
  rw[QjA hF (OkP.of hne hc) h2 (by omega) h4 h5]
  simp only[if_true,h1,decide_true,Bool.not_true,cond_false,cond_true,Option.bind_some,toF]
  cases (Wb p v ds).1<;>rfl
 ·simp only[hz,decide_false,Bool.not_false,cond_true,cond_false]
theorem Qgb (p:Pr) (ds:List Int):Y7 p ds=some true∨(Y7 p ds=some false∧p.Road.Edges.length≤600∧ds.length≤10):=by
 unfold Y7;obtain ⟨⟨b,hb⟩,hl⟩:=QgE p
 rw[hb]
 cases b with
 | true=>exact .inl rfl
 | false =>
  obtain ⟨h1,_,_⟩:=hl hb
  simp only[Option.bind_some,cond_false]
  by_cases h2:(40:Int)<((p.Demands.length:Nat):Int)
  ·exact .inl (by simp only[h2,decide_true,cond_true,Option.bind_some])
  ·by_cases h3:((ds.length:Nat):Int)=5
   ·exact .inl (by simp only[h2,h3,decide_true,decide_false,cond_true,cond_false,Option.bind_some])
   ·by_cases h4:(10:Int)<((ds.length:Nat):Int)
    ·exact .inl (by simp only[h2,h3,h4,decide_true,decide_false,cond_true,cond_false,Option.bind_some])
    ·exact .inr ⟨by simp only[h2,h3,h4,decide_false,cond_false,Option.bind_some],h1,by omega⟩
theorem QhG {p:Pr} {e v:Int} {ds:List Int} (hd:ds.length≤10):(QaM p e v ds).1.Stops.length≤1000:=by
 unfold QaM;cases decide ((if e=0 then Vd p v ds else e)=0) with
 | false=>exact Nat.zero_le _
 | true =>
  cases hb:(Wb p v ds).1 with
  | false=>exact Nat.zero_le _
  | true =>
   simp only[cond_true]
   exact Nat.le_trans ((Qc4 p v ds).len (n:=20) fun c hc=>by have:=hc.len;omega) (by omega)
theorem WR (p:Pr) (vehicle:Int) (ds:List Int) (hp:Qbs p) (hv:wfI .i64 vehicle) (hd: ∀x∈ds,wfI .i64 x): ∃F,Zv F p vehicle ds=some true:=by
 refine ⟨41100,?_⟩;have haw:=Qjw (Nat.le_refl 41100);unfold Zv;rcases Qgb p ds with h | ⟨h,hn,hl⟩
 ·rw[h];simp only[Option.bind_some,cond_true,haw]
 ·rw[h]
  obtain ⟨e,hc⟩:=Qg5 p hn
  rw[QdB (Nat.le_refl 41100) hn hc vehicle (show ds.length≤100 by omega),QiU (Nat.le_refl 41100) hn hc vehicle (show ds.length≤100 by omega)]
  simp only[Option.bind_some,cond_false,oun,decide_true,cond_true,QhL (QhG hl),haw]
end Go.Proofs.YtilbengnjgglhaaGreat
namespace Go.Proofs.YtilbengnjgglhaaGreat
open Go.RowKit Go.ChangeShapes Go.WideShapes
set_option linter.unusedSimpArgs false
set_option linter.unusedVariables false
def Qfq (W:World):Gh:=⟨fun b=>W.heap[b]?,W.os,W.output,W.tape⟩
theorem QiB (W:World):Inv W (Qfq W) []:=⟨rfl,rfl,rfl,fun _ _ h=>h,by simp,by simp,by simp⟩
theorem Qis {W W':World} {μ:Gh} {L:List Seg} (hm:(Qfq W).le μ) (h:Inv W' μ L):Below W.heap.size W W':=by
 have hb: ∀k,k<W.heap.size→W'.heap[k]? =W.heap[k]? :=fun k hk=>by
  have h1:W.heap[k]? =some W.heap[k]:=by simp[hk]
  rw[h1]
  exact h.mem k _ (hm.mem k _ h1)
 refine ⟨h.os.trans hm.os,h.tape.trans hm.tape,h.out.trans hm.out,?_,hb⟩;rcases Nat.eq_zero_or_pos W.heap.size with h0 | h0
 ·omega
 ·have h1:=hb (W.heap.size-1) (by omega);have h2:W.heap[W.heap.size-1]? =some (W.heap[W.heap.size-1]'(by omega)):=by simp
  rw[h2] at h1
  have:=Zk h1
  omega
theorem QfY {P:Program} {f:FuncId} {fn:Func} (hf:P.funcs[f]? =some fn) (hb:fn.body.isNone=false) {args:List Value} {W:World} {v:Value} (h:Fn P f args (Qfq W) [] fun u _ _=>u=v) :
  Calls P f args.toArray W fun e W'=>e= .returned v∧Below W.heap.size W W':=by
 rcases h with ⟨_,h⟩ | ⟨fn',_,hf',_,hb',_⟩
 ·refine (h W (QiB W)).mono ?_;rintro e W' ⟨u,μ',L',rfl,hm,hi,rfl⟩;exact ⟨rfl,Qis hm hi⟩
 ·rw[hf] at hf'
  injection hf' with hf'
  subst hf'
  rw[hb] at hb';cases hb'
section
variable {H:Type} {enc:TypeId×Value→H} {P:Program}
theorem QbT (hl:laidOutB P=true) {W W':World} (hb:Below W.heap.size W W') {sp:Nat→Bool}: ∀{ts:List TypeId} {vs:List Value} {ds:List (DataW H)} {ps:List MemPlace},
  (∀t∈ts,P.readableRec t=true∧t<P.types.size)→(∀p∈ps,p.block<W.heap.size)→(∀p∈ps,sp p.block=true) →
  DataW.TrodAll enc P W 0 (fun _=>true) true ts vs ds ps→DataW.TrodAll enc P W' 0 sp true ts vs ds ps
 | [],vs,ds,ps,_,_,_,h=>by
  obtain ⟨rfl,rfl,rfl⟩:=trodAll_nil h
  rfl
 | t::ts,vs,ds,ps,hr,hlt,hs,h=>by
  obtain ⟨v,vs',d,ds',p,q,rfl,rfl,rfl,hd,hrest⟩:=trodAll_cons h;refine ⟨p,q,WideElems.Trod_stays hl (hr t (by simp)).1 (hr t (by simp)).2 hd (fun x hx=>hb.same (hlt x (by simp[hx]))) (fun x hx=>hs x (by simp[hx])),?_,rfl⟩;exact QbT hl hb (fun u hu=>hr u (by simp[hu])) (fun x hx=>hlt x (by simp[hx])) (fun x hx=>hs x (by simp[hx])) hrest
theorem QhY {f:Func} {s:ChangeSpec} {apart fresh handsOn again:Bool} {W W':World} {args:Array Value} {ds:List (DataW H)} {before:List MemPlace} {tb:TypeId}
  (hW:DataW.Whole enc P f.params.toList s.vars apart W args.toList ds [] before) (hv:s.vars=[]) (hres:f.resultTypes= #[tb]) (htb:P.underlying tb=some .bool)
  (hfr:(s.fn H ds).results=[.lit (.bool true)]) (hfa:(s.fn H ds).args=ds) (hfv:(s.fn H ds).vars=[]) (hl:laidOutB P=true) (hr: ∀t∈f.params.toList,P.readableRec t=true∧t<P.types.size) (hb:Below W.heap.size W W') :
  s.post enc P f apart fresh handsOn again W args (.bool true) W':=by
 have hlt: ∀p∈before,p.block<W.heap.size:=fun p hp=>hW.lt p hp;have hW':=hW;obtain ⟨p,q,hA,hV,hpq,hz,hn⟩:=hW'
 rw[hv] at hV
 obtain ⟨_,rfl⟩:=trodVars_none hV
 rw[List.append_nil] at hpq
 subst hpq;have hresl:((Value.bool true).resultList f.resultTypes.size)=[.bool true]:=by rw[hres];rfl
 have hargs: ∀sp:Nat→Bool,(∀x∈before,sp x.block=true)→DataW.TrodAll enc P W' 0 sp true f.params.toList args.toList ds before:=fun sp hs=>QbT hl hb hr hlt hs hA;have hres2: ∀(b:Nat) (sp:Nat→Bool) (hd:Bool),DataW.TrodAll enc P W' b sp hd f.resultTypes.toList [.bool true] [.lit (.bool true)] []:=fun b sp hd=>by
  rw[hres];exact trodAll_mk1 (shut_bool htb true)
 have hold: ∀p∈before,(fun b=>decide (b<W.heap.size)) p.block=true:=fun p hp=>by simpa using hlt p hp
 have hvars: ∀sp:Nat→Bool,DataW.TrodVars enc P W' sp s.vars [] []:=fun sp=>by rw[hv];rfl
 refine ⟨ds,[],before,[],before,[],hW,?_,?_,?_,World.keptBut_mono (fun p hp=>⟨hp,by simpa using hp⟩) (hb.frame (· ∈before)),fun _=> ?_⟩
 ·rw[hresl,List.append_nil,hfr];exact hres2 _ _ _
 ·rw[List.append_nil,hfa];exact hargs _ hold
 ·rw[List.append_nil,hfv];exact hvars _
 ·have A1:=hargs (fun _=>true) (fun _ _=>rfl);have R1:=hres2 0 (fun _=>true) true;refine ⟨ok_one hres rfl (okWide_bool_mk htb true),?_⟩
  rw[hresl]
  refine ⟨_,_,([]++before)++[],⟨[]++before,[],trodAll_append A1 R1,hvars _,rfl,?_,?_⟩,?_⟩
  ·intro b off hp;have hin:MemPlace.cell b off∈before:=by simpa using hp
   rw[hb.frozen (hlt _ hin)]
   exact hz b off hin
  ·intro ha;have:=hn ha
   simpa using this
  ·intro p hp _
   simpa using hp
end
end Go.Proofs.YtilbengnjgglhaaGreat
namespace Go.Proofs.YtilbengnjgglhaaGreat
open Go.RowKit Go.ChangeShapes Go.WideShapes Go.Deep
set_option linter.unusedSimpArgs false
set_option linter.unusedVariables false
theorem Qex {W:World} {L:List Seg} {a:Addr} {v:Value} (h:W.cell? a=some v):ZK (Qfq W) L a v:=by
 unfold World.cell? at h
 split at h
 ·rename_i c e f hb
  split at h
  ·cases h
  ·rename_i hs
   refine ⟨by simpa using hs,c,e,f,.inl hb,by simpa using h⟩
 ·cases h
theorem Qhv {α β:Type} (Q:Nat→α→β→Prop): ∀n,(∀i,i<n→ ∃x y,Q i x y)→ ∃(l:List α) (m:List β),l.length=n∧m.length=n∧ ∀(i:Nat) (x:α) (y:β),l[i]? =some x→m[i]? =some y→Q i x y
 | 0,_=>⟨[],[],rfl,rfl,by simp⟩
 | n+1,h=>by
  obtain ⟨l,m,hl,hm,hq⟩:=Qhv Q n fun i hi=>h i (by omega);obtain ⟨x,y,hx⟩:=h n (by omega);refine ⟨l++[x],m++[y],by simp[hl],by simp[hm],fun i u v hu hv=> ?_⟩;rcases Nat.lt_or_ge i n with hi | hi
  ·rw[List.getElem?_append_left (by omega)] at hu hv
   exact hq i u v hu hv
  ·rw[List.getElem?_append_right (by omega)] at hu hv
   have:i-n=0:=by
    rcases Nat.eq_zero_or_pos (i-n) with h0 | h0
    ·exact h0
    ·rw[List.getElem?_eq_none (by simp;omega)] at hu;cases hu
   rw[hl,this] at hu
   rw[hm,this] at hv
   simp only[List.getElem?_cons_zero,Option.some.injEq] at hu hv
   have:i=n:=by omega
   subst this;subst hu;subst hv;exact hx
def Opn {α:Type} (P:Program) (W:World) (t:TypeId) (r:Rp α) (Q:α→Prop):Prop :=
 ∀(H:Type) (enc:TypeId×Value→H) (spare:Nat→Bool) (held:Bool) (fuel:Nat) (cs:List Value) (x:DataW H×List MemPlace),DataW.trod enc P W 0 spare held fuel t cs=some x→ ∃d,r.rep (Qfq W) d cs∧Q d
section
variable {P:Program} {W:World} {t:TypeId}
theorem Z3 {k:IntKind} (ht:P.underlying t=some (.int k)):Opn P W t (rI k) (wfI k):=by
 intro H enc spare held fuel cs x h;obtain ⟨n,h1,_,h2⟩:=DataW.trod_int ht h;exact ⟨n,h1,h2⟩
theorem QjH (ht:P.underlying t=some .string):Opn P W t Qlq fun s=>s.size≤maxLen:=by
 intro H enc spare held fuel cs x h;obtain ⟨n,h1,_,h2⟩:=DataW.trod_string ht h;exact ⟨n,h1,h2⟩
theorem QbA {α:Type} {e:TypeId} {r:Rp α} {Q:α→Prop} (ht:P.underlying t=some (.slice e)) (hC:P.cellsOf e=r.sz) (he:Opn P W e r Q):Opn P W t (Qbh r) fun xs=> ∀x∈xs,Q x:=by
 intro H enc spare held fuel cs x h;rcases open_slice ht h with ⟨rfl,_⟩ | ⟨a,n,c,m,nn,D,Pl,rfl,hb,hl,hm,hmm,hx,hi⟩
 ·exact ⟨[],⟨none,0,rfl,Nat.le_refl _,Nat.zero_le _,Qk.nil⟩,by simp⟩
 ·have hrow: ∀i,i<n→ ∃(y:α) (cs:List Value),r.rep (Qfq W) y cs∧Q y∧Zg (Qfq W) [] (a.add (i*r.sz)) cs:=fun i hin=>by
   obtain ⟨cs',hc,htr⟩:=hi i (by split at hmm<;>omega)
   rw[hC] at hc
   obtain ⟨y,hy,hq⟩:=he H enc spare held nn cs' _ htr;obtain ⟨_,hcl,hat⟩:=World.cells?_some hc;refine ⟨y,cs',hy,hq,fun j u hu=> ?_⟩;have hjk:j<r.sz:=by
    rcases Nat.lt_or_ge j r.sz with h | h
    ·exact h
    ·rw[List.getElem?_eq_none (by omega)] at hu;cases hu
   exact Qex (by rw[hat j hjk];exact hu)
  obtain ⟨xs,css,hxl,hcl,hq⟩:=Qhv (fun i y cs=>r.rep (Qfq W) y cs∧Q y∧Zg (Qfq W) [] (a.add (i*r.sz)) cs) n hrow;refine ⟨xs,⟨some a,c,by rw[hxl],by omega,hm,css,fun i cs hcs=> ?_,by rw[hxl,hcl],fun i y cs hy hcs=>(hq i y cs hy hcs).1⟩,fun y hy=> ?_⟩
  ·have hlt:i<css.length:=by
    rcases Nat.lt_or_ge i css.length with h | h
    ·exact h
    ·rw[List.getElem?_eq_none h] at hcs;cases hcs
   obtain ⟨h1,_,h3⟩:=hq i (xs[i]'(by omega)) cs (by simp) hcs;exact ⟨r.len h1,a,rfl,h3⟩
  ·obtain ⟨i,hi'⟩:=List.getElem?_of_mem hy;have hlt:i<xs.length:=by
    rcases Nat.lt_or_ge i xs.length with h | h
    ·exact h
    ·rw[List.getElem?_eq_none h] at hi';cases hi'
   exact (hq i y (css[i]'(by omega)) hi' (by simp)).2.1
end
theorem ZV {cs:List Value} {o a o2:Nat} (h:o+a=o2):cs.drop o=(cs.drop o).take a++cs.drop o2:=by rw[←h,←List.drop_drop,List.take_append_drop]
theorem Qia {cs:Array Value} {l:List Value} (h:cs.toList=l):cs=l.toArray:=by rw[←h]
end Go.Proofs.YtilbengnjgglhaaGreat
namespace Go.Proofs.YtilbengnjgglhaaGreat
open Go.ChangeShapes Go.WideShapes Go.ChangeAt Go.RowKit
set_option linter.unusedSimpArgs false
set_option linter.unusedVariables false
theorem Qlp:ownKnob Tryz.prog.godebug=none:=by kernel_rfl
theorem QiD:laidOutB Tryz.prog=true:=by kernel_rfl
theorem QfB {W:World}:Opn Tryz.prog W 63 Qw Qdl:=by
 intro H enc spare held fuel cs x h;obtain ⟨xs,n,_,_,hlen,hxl,hf⟩:=DataW.trod_struct Tryz.underlying63 h
 rw[show Tryz.prog.cellsOf 63=4 by kernel_rfl] at hlen
 have g0:DataW.trod enc Tryz.prog W 0 spare held n 3 ((cs.drop 0).take (Tryz.prog.cellsOf 3))=xs[0]? :=hf 0 _ rfl
 rw[show Tryz.prog.cellsOf 3=1 by kernel_rfl,List.getElem?_eq_getElem (by rw[hxl];decide)] at g0
 obtain ⟨d0,h0,q0⟩:=(Z3 Tryz.underlying3) H enc spare held n _ _ g0;have g1:DataW.trod enc Tryz.prog W 0 spare held n 3 ((cs.drop 1).take (Tryz.prog.cellsOf 3))=xs[1]? :=hf 1 _ rfl
 rw[show Tryz.prog.cellsOf 3=1 by kernel_rfl,List.getElem?_eq_getElem (by rw[hxl];decide)] at g1
 obtain ⟨d1,h1,q1⟩:=(Z3 Tryz.underlying3) H enc spare held n _ _ g1;have g2:DataW.trod enc Tryz.prog W 0 spare held n 3 ((cs.drop 2).take (Tryz.prog.cellsOf 3))=xs[2]? :=hf 2 _ rfl
 rw[show Tryz.prog.cellsOf 3=1 by kernel_rfl,List.getElem?_eq_getElem (by rw[hxl];decide)] at g2
 obtain ⟨d2,h2,q2⟩:=(Z3 Tryz.underlying3) H enc spare held n _ _ g2;have g3:DataW.trod enc Tryz.prog W 0 spare held n 3 ((cs.drop 3).take (Tryz.prog.cellsOf 3))=xs[3]? :=hf 3 _ rfl
 rw[show Tryz.prog.cellsOf 3=1 by kernel_rfl,List.getElem?_eq_getElem (by rw[hxl];decide)] at g3
 obtain ⟨d3,h3,q3⟩:=(Z3 Tryz.underlying3) H enc spare held n _ _ g3;have e0:cs.drop 0=(cs.drop 0).take 1++cs.drop 1:=ZV rfl;have e1:cs.drop 1=(cs.drop 1).take 1++cs.drop 2:=ZV rfl;have e2:cs.drop 2=(cs.drop 2).take 1++cs.drop 3:=ZV rfl;have e3:cs.drop 3=(cs.drop 3).take 1++cs.drop 4:=ZV rfl;have en:cs.drop 4=[]:=List.drop_of_length_le (by omega);have hcs:cs.drop 0=_:=e0
 rw[e1,e2,e3,en,show (cs.drop 0).take 1=_ from h0,show (cs.drop 1).take 1=_ from h1,show (cs.drop 2).take 1=_ from h2,show (cs.drop 3).take 1=_ from h3] at hcs
 exact ⟨⟨d0,d1,d2,d3⟩,hcs,q0,q1,q2,q3⟩
theorem QfC {W:World}:Opn Tryz.prog W 24 QgZ Qdm:=by
 intro H enc spare held fuel cs x h;obtain ⟨xs,n,_,_,hlen,hxl,hf⟩:=DataW.trod_struct Tryz.underlying24 h
 rw[show Tryz.prog.cellsOf 24=2 by kernel_rfl] at hlen
 have g0:DataW.trod enc Tryz.prog W 0 spare held n 3 ((cs.drop 0).take (Tryz.prog.cellsOf 3))=xs[0]? :=hf 0 _ rfl
 rw[show Tryz.prog.cellsOf 3=1 by kernel_rfl,List.getElem?_eq_getElem (by rw[hxl];decide)] at g0
 obtain ⟨d0,h0,q0⟩:=(Z3 Tryz.underlying3) H enc spare held n _ _ g0;have g1:DataW.trod enc Tryz.prog W 0 spare held n 22 ((cs.drop 1).take (Tryz.prog.cellsOf 22))=xs[1]? :=hf 1 _ rfl
 rw[show Tryz.prog.cellsOf 22=1 by kernel_rfl,List.getElem?_eq_getElem (by rw[hxl];decide)] at g1
 obtain ⟨d1,h1,q1⟩:=(QbA Tryz.underlying22 (by kernel_rfl) QfB) H enc spare held n _ _ g1;have e0:cs.drop 0=(cs.drop 0).take 1++cs.drop 1:=ZV rfl;have e1:cs.drop 1=(cs.drop 1).take 1++cs.drop 2:=ZV rfl;have en:cs.drop 2=[]:=List.drop_of_length_le (by omega);obtain ⟨A0,c0,h1,hl0,hm0,ha0⟩:=h1;have hcs:cs.drop 0=_:=e0
 rw[e1,en,show (cs.drop 0).take 1=_ from h0,show (cs.drop 1).take 1=_ from h1] at hcs
 exact ⟨⟨d0,d1⟩,⟨A0,c0,hcs,⟨hl0,hm0⟩,ha0⟩,q0,q1⟩
theorem Qbe {W:World}:Opn Tryz.prog W 59 QfE V2:=by
 intro H enc spare held fuel cs x h;obtain ⟨xs,n,_,_,hlen,hxl,hf⟩:=DataW.trod_struct Tryz.underlying59 h
 rw[show Tryz.prog.cellsOf 59=2 by kernel_rfl] at hlen
 have g0:DataW.trod enc Tryz.prog W 0 spare held n 3 ((cs.drop 0).take (Tryz.prog.cellsOf 3))=xs[0]? :=hf 0 _ rfl
 rw[show Tryz.prog.cellsOf 3=1 by kernel_rfl,List.getElem?_eq_getElem (by rw[hxl];decide)] at g0
 obtain ⟨d0,h0,q0⟩:=(Z3 Tryz.underlying3) H enc spare held n _ _ g0;have g1:DataW.trod enc Tryz.prog W 0 spare held n 3 ((cs.drop 1).take (Tryz.prog.cellsOf 3))=xs[1]? :=hf 1 _ rfl
 rw[show Tryz.prog.cellsOf 3=1 by kernel_rfl,List.getElem?_eq_getElem (by rw[hxl];decide)] at g1
 obtain ⟨d1,h1,q1⟩:=(Z3 Tryz.underlying3) H enc spare held n _ _ g1;have e0:cs.drop 0=(cs.drop 0).take 1++cs.drop 1:=ZV rfl;have e1:cs.drop 1=(cs.drop 1).take 1++cs.drop 2:=ZV rfl;have en:cs.drop 2=[]:=List.drop_of_length_le (by omega);have hcs:cs.drop 0=_:=e0
 rw[e1,en,show (cs.drop 0).take 1=_ from h0,show (cs.drop 1).take 1=_ from h1] at hcs
 exact ⟨⟨d0,d1⟩,hcs,q0,q1⟩
theorem Qdw {W:World}:Opn Tryz.prog W 61 Qq Qbt:=by
 intro H enc spare held fuel cs x h;obtain ⟨xs,n,_,_,hlen,hxl,hf⟩:=DataW.trod_struct Tryz.underlying61 h
 rw[show Tryz.prog.cellsOf 61=6 by kernel_rfl] at hlen
 have g0:DataW.trod enc Tryz.prog W 0 spare held n 9 ((cs.drop 0).take (Tryz.prog.cellsOf 9))=xs[0]? :=hf 0 _ rfl
 rw[show Tryz.prog.cellsOf 9=1 by kernel_rfl,List.getElem?_eq_getElem (by rw[hxl];decide)] at g0
 obtain ⟨d0,h0,q0⟩:=(QjH Tryz.underlying9) H enc spare held n _ _ g0;have g1:DataW.trod enc Tryz.prog W 0 spare held n 3 ((cs.drop 1).take (Tryz.prog.cellsOf 3))=xs[1]? :=hf 1 _ rfl
 rw[show Tryz.prog.cellsOf 3=1 by kernel_rfl,List.getElem?_eq_getElem (by rw[hxl];decide)] at g1
 obtain ⟨d1,h1,q1⟩:=(Z3 Tryz.underlying3) H enc spare held n _ _ g1;have g2:DataW.trod enc Tryz.prog W 0 spare held n 59 ((cs.drop 2).take (Tryz.prog.cellsOf 59))=xs[2]? :=hf 2 _ rfl
 rw[show Tryz.prog.cellsOf 59=2 by kernel_rfl,List.getElem?_eq_getElem (by rw[hxl];decide)] at g2
 obtain ⟨d2,h2,q2⟩:=Qbe H enc spare held n _ _ g2;have g3:DataW.trod enc Tryz.prog W 0 spare held n 3 ((cs.drop 4).take (Tryz.prog.cellsOf 3))=xs[3]? :=hf 3 _ rfl
 rw[show Tryz.prog.cellsOf 3=1 by kernel_rfl,List.getElem?_eq_getElem (by rw[hxl];decide)] at g3
 obtain ⟨d3,h3,q3⟩:=(Z3 Tryz.underlying3) H enc spare held n _ _ g3;have g4:DataW.trod enc Tryz.prog W 0 spare held n 3 ((cs.drop 5).take (Tryz.prog.cellsOf 3))=xs[4]? :=hf 4 _ rfl
 rw[show Tryz.prog.cellsOf 3=1 by kernel_rfl,List.getElem?_eq_getElem (by rw[hxl];decide)] at g4
 obtain ⟨d4,h4,q4⟩:=(Z3 Tryz.underlying3) H enc spare held n _ _ g4;have e0:cs.drop 0=(cs.drop 0).take 1++cs.drop 1:=ZV rfl;have e1:cs.drop 1=(cs.drop 1).take 1++cs.drop 2:=ZV rfl;have e2:cs.drop 2=(cs.drop 2).take 2++cs.drop 4:=ZV rfl;have e3:cs.drop 4=(cs.drop 4).take 1++cs.drop 5:=ZV rfl;have e4:cs.drop 5=(cs.drop 5).take 1++cs.drop 6:=ZV rfl;have en:cs.drop 6=[]:=List.drop_of_length_le (by omega);have hcs:cs.drop 0=_:=e0
 rw[e1,e2,e3,e4,en,show (cs.drop 0).take 1=_ from h0,show (cs.drop 1).take 1=_ from h1,show (cs.drop 2).take 2=_ from h2,show (cs.drop 4).take 1=_ from h3,show (cs.drop 5).take 1=_ from h4] at hcs
 exact ⟨⟨d0,d1,d2,d3,d4⟩,hcs,q0,q1,q2,q3,q4⟩
theorem Qei {W:World}:Opn Tryz.prog W 65 Qs QbU:=by
 intro H enc spare held fuel cs x h;obtain ⟨xs,n,_,_,hlen,hxl,hf⟩:=DataW.trod_struct Tryz.underlying65 h
 rw[show Tryz.prog.cellsOf 65=7 by kernel_rfl] at hlen
 have g0:DataW.trod enc Tryz.prog W 0 spare held n 3 ((cs.drop 0).take (Tryz.prog.cellsOf 3))=xs[0]? :=hf 0 _ rfl
 rw[show Tryz.prog.cellsOf 3=1 by kernel_rfl,List.getElem?_eq_getElem (by rw[hxl];decide)] at g0
 obtain ⟨d0,h0,q0⟩:=(Z3 Tryz.underlying3) H enc spare held n _ _ g0;have g1:DataW.trod enc Tryz.prog W 0 spare held n 3 ((cs.drop 1).take (Tryz.prog.cellsOf 3))=xs[1]? :=hf 1 _ rfl
 rw[show Tryz.prog.cellsOf 3=1 by kernel_rfl,List.getElem?_eq_getElem (by rw[hxl];decide)] at g1
 obtain ⟨d1,h1,q1⟩:=(Z3 Tryz.underlying3) H enc spare held n _ _ g1;have g2:DataW.trod enc Tryz.prog W 0 spare held n 3 ((cs.drop 2).take (Tryz.prog.cellsOf 3))=xs[2]? :=hf 2 _ rfl
 rw[show Tryz.prog.cellsOf 3=1 by kernel_rfl,List.getElem?_eq_getElem (by rw[hxl];decide)] at g2
 obtain ⟨d2,h2,q2⟩:=(Z3 Tryz.underlying3) H enc spare held n _ _ g2;have g3:DataW.trod enc Tryz.prog W 0 spare held n 3 ((cs.drop 3).take (Tryz.prog.cellsOf 3))=xs[3]? :=hf 3 _ rfl
 rw[show Tryz.prog.cellsOf 3=1 by kernel_rfl,List.getElem?_eq_getElem (by rw[hxl];decide)] at g3
 obtain ⟨d3,h3,q3⟩:=(Z3 Tryz.underlying3) H enc spare held n _ _ g3;have g4:DataW.trod enc Tryz.prog W 0 spare held n 59 ((cs.drop 4).take (Tryz.prog.cellsOf 59))=xs[4]? :=hf 4 _ rfl
 rw[show Tryz.prog.cellsOf 59=2 by kernel_rfl,List.getElem?_eq_getElem (by rw[hxl];decide)] at g4
 obtain ⟨d4,h4,q4⟩:=Qbe H enc spare held n _ _ g4;have g5:DataW.trod enc Tryz.prog W 0 spare held n 3 ((cs.drop 6).take (Tryz.prog.cellsOf 3))=xs[5]? :=hf 5 _ rfl
 rw[show Tryz.prog.cellsOf 3=1 by kernel_rfl,List.getElem?_eq_getElem (by rw[hxl];decide)] at g5
 obtain ⟨d5,h5,q5⟩:=(Z3 Tryz.underlying3) H enc spare held n _ _ g5;have e0:cs.drop 0=(cs.drop 0).take 1++cs.drop 1:=ZV rfl;have e1:cs.drop 1=(cs.drop 1).take 1++cs.drop 2:=ZV rfl;have e2:cs.drop 2=(cs.drop 2).take 1++cs.drop 3:=ZV rfl;have e3:cs.drop 3=(cs.drop 3).take 1++cs.drop 4:=ZV rfl;have e4:cs.drop 4=(cs.drop 4).take 2++cs.drop 6:=ZV rfl;have e5:cs.drop 6=(cs.drop 6).take 1++cs.drop 7:=ZV rfl;have en:cs.drop 7=[]:=List.drop_of_length_le (by omega);have hcs:cs.drop 0=_:=e0
 rw[e1,e2,e3,e4,e5,en,show (cs.drop 0).take 1=_ from h0,show (cs.drop 1).take 1=_ from h1,show (cs.drop 2).take 1=_ from h2,show (cs.drop 3).take 1=_ from h3,show (cs.drop 4).take 2=_ from h4,show (cs.drop 6).take 1=_ from h5] at hcs
 exact ⟨⟨d0,d1,d2,d3,d4,d5⟩,hcs,q0,q1,q2,q3,q4,q5⟩
theorem Qdv {W:World}:Opn Tryz.prog W 28 QeD Qbs:=by
 intro H enc spare held fuel cs x h;obtain ⟨xs,n,_,_,hlen,hxl,hf⟩:=DataW.trod_struct Tryz.underlying28 h
 rw[show Tryz.prog.cellsOf 28=6 by kernel_rfl] at hlen
 have g0:DataW.trod enc Tryz.prog W 0 spare held n 24 ((cs.drop 0).take (Tryz.prog.cellsOf 24))=xs[0]? :=hf 0 _ rfl
 rw[show Tryz.prog.cellsOf 24=2 by kernel_rfl,List.getElem?_eq_getElem (by rw[hxl];decide)] at g0
 obtain ⟨d0,h0,q0⟩:=QfC H enc spare held n _ _ g0;have g1:DataW.trod enc Tryz.prog W 0 spare held n 25 ((cs.drop 2).take (Tryz.prog.cellsOf 25))=xs[1]? :=hf 1 _ rfl
 rw[show Tryz.prog.cellsOf 25=1 by kernel_rfl,List.getElem?_eq_getElem (by rw[hxl];decide)] at g1
 obtain ⟨d1,h1,q1⟩:=(QbA Tryz.underlying25 (by kernel_rfl) Qdw) H enc spare held n _ _ g1;have g2:DataW.trod enc Tryz.prog W 0 spare held n 26 ((cs.drop 3).take (Tryz.prog.cellsOf 26))=xs[2]? :=hf 2 _ rfl
 rw[show Tryz.prog.cellsOf 26=1 by kernel_rfl,List.getElem?_eq_getElem (by rw[hxl];decide)] at g2
 obtain ⟨d2,h2,q2⟩:=(QbA Tryz.underlying26 (by kernel_rfl) Qei) H enc spare held n _ _ g2;have g3:DataW.trod enc Tryz.prog W 0 spare held n 3 ((cs.drop 4).take (Tryz.prog.cellsOf 3))=xs[3]? :=hf 3 _ rfl
 rw[show Tryz.prog.cellsOf 3=1 by kernel_rfl,List.getElem?_eq_getElem (by rw[hxl];decide)] at g3
 obtain ⟨d3,h3,q3⟩:=(Z3 Tryz.underlying3) H enc spare held n _ _ g3;have g4:DataW.trod enc Tryz.prog W 0 spare held n 3 ((cs.drop 5).take (Tryz.prog.cellsOf 3))=xs[4]? :=hf 4 _ rfl
 rw[show Tryz.prog.cellsOf 3=1 by kernel_rfl,List.getElem?_eq_getElem (by rw[hxl];decide)] at g4
 obtain ⟨d4,h4,q4⟩:=(Z3 Tryz.underlying3) H enc spare held n _ _ g4;have e0:cs.drop 0=(cs.drop 0).take 2++cs.drop 2:=ZV rfl;have e1:cs.drop 2=(cs.drop 2).take 1++cs.drop 3:=ZV rfl;have e2:cs.drop 3=(cs.drop 3).take 1++cs.drop 4:=ZV rfl;have e3:cs.drop 4=(cs.drop 4).take 1++cs.drop 5:=ZV rfl;have e4:cs.drop 5=(cs.drop 5).take 1++cs.drop 6:=ZV rfl;have en:cs.drop 6=[]:=List.drop_of_length_le (by omega);obtain ⟨A0,c0,h0,hl0,ha0⟩:=h0;obtain ⟨A1,c1,h1,hl1,hm1,ha1⟩:=h1;obtain ⟨A2,c2,h2,hl2,hm2,ha2⟩:=h2;have hcs:cs.drop 0=_:=e0
 rw[e1,e2,e3,e4,en,show (cs.drop 0).take 2=_ from h0,show (cs.drop 2).take 1=_ from h1,show (cs.drop 3).take 1=_ from h2,show (cs.drop 4).take 1=_ from h3,show (cs.drop 5).take 1=_ from h4] at hcs
 exact ⟨⟨d0,d1,d2,d3,d4⟩,⟨A0,c0,A1,c1,A2,c2,hcs,hl0,ha0,⟨hl1,hm1⟩,ha1,⟨hl2,hm2⟩,ha2⟩,q0,q1,q2,q3,q4⟩
set_option maxRecDepth 100000 in
theorem Qcn (os:Os) (started:os.Started) (H:Type) (enc:TypeId×Value→H) :
  ReturnsInHanded {} Tryz.checked os 3 .any (Rows.exactBestsSpec.pre6 enc Tryz.prog Tryz.f3 Rows.exactBestsRow.domain false) (Rows.exactBestsSpec.post enc Tryz.prog Tryz.f3 false true false false):=by
 refine returnsInHanded_of_change (C:=Tryz.checked) Qlp started (by kernel_rfl) Tryz.func3
  (ChangeSpec.witness6 (enc:=enc) (C:=Tryz.checked) false ⟨#[], #[((Go.Value.agg #[(Go.Value.int Go.IntKind.i64 0),(Go.Value.slice none 0 0),(Go.Value.slice none 0 0),(Go.Value.slice none 0 0),(Go.Value.int Go.IntKind.i64 0),(Go.Value.int Go.IntKind.i64 0)])),(.int .i64 0),(.slice none 0 0)],[]⟩ 8 (by kernel_rfl) (by kernel_rfl) (by kernel_rfl) (by kernel_rfl)) ?_
 intro W base args ds gs before hval0 hW hcnd _;have hval: ∀(j:Nat) t v,Tryz.f3.params[j]? =some t→args[j]? =some v→Value.okWide Tryz.prog W .any base t v:=hval0;have hW':=hW;obtain ⟨p,q,hA0,hV,rfl,hfz,hnd⟩:=hW;have hA:DataW.TrodAll enc Tryz.prog W 0 (fun _=>true) true Tryz.f3.params.toList args.toList ds p:=hA0
 rw[Tryz.params3] at hA hval
 obtain ⟨rfl,rfl⟩:=trodVars_none hV
 clear hA0 hval0
 obtain ⟨v0,v1,v2,d0,d1,d2,p0,p1,p2,rfl,rfl,rfl,a0,a1,a2⟩:=trodAll_three hA;obtain ⟨cs0,rfl,_⟩:=okWide_struct Tryz.underlying28 (hval 0 28 v0 rfl rfl);obtain ⟨fu0,ht0⟩:=a0;obtain ⟨x0,hr0,q0⟩:=Qdv (W:=W) H enc _ _ fu0 _ _ ht0;obtain ⟨A0_0,c0_0,A0_1,c0_1,A0_2,c0_2,hcs0,hl0_0,ha0_0,hl0_1,ha0_1,hl0_2,ha0_2⟩:=hr0;obtain rfl:=Qia hcs0;obtain ⟨x1,rfl,_,_,q1⟩:=open_int (P:=Tryz.prog) Tryz.underlying3 (hval 1 3 v1 rfl rfl) a1;obtain ⟨A2,n2,c2,rfl⟩:=okWide_slice Tryz.underlying29 (hval 2 29 v2 rfl rfl);obtain ⟨fu2,ht2⟩:=a2;obtain ⟨x2,⟨B2,b2,hcs2,hl2,hm2,ha2⟩,q2⟩:=(QbA (W:=W) Tryz.underlying29 (by kernel_rfl) (Z3 Tryz.underlying3)) H enc _ _ fu2 _ _ ht2;have e2:Value.slice A2 n2 c2= .slice B2 x2.length b2:=by simpa [Value.cells] using hcs2
 injection e2 with e2a e2b e2c
 subst e2a e2b e2c;obtain ⟨F,hF⟩:=WR x0 x1 x2 q0 q1 q2;refine (QfY (v:= .bool true) Tryz.func3 rfl (args:=[_,_,_]) (Vf hl0_0 ha0_0 hl0_1 ha0_1 hl0_2 ha0_2 ⟨hl2,hm2⟩ ha2 hF (fun _ _=>rfl))).mono fun e W' ⟨he,hw⟩=> ?_;exact ⟨_,he,QhY (tb:=4) hW' rfl rfl Tryz.underlying4 rfl rfl rfl QiD (by decide +kernel) hw⟩
theorem exactBests_holds:Rows.ExactBestsSaid :=
 OpenClaim.holds_of_wide 3 Tryz.f3 rfl rfl rfl rfl rfl rfl rfl ⟨rfl,rfl,rfl,rfl,rfl⟩ rfl rfl rfl rfl rfl (by kernel_rfl) Tryz.func3 (by kernel_rfl)
  (of_decide_eq_true (by kernel_rfl)) (by unfold Func.isWrapper;first | (rw[if_pos (by decide +kernel)];kernel_rfl) | (rw[if_neg (by decide +kernel)];exact ⟨rfl,rfl⟩))
  (fun os started H enc _=>Qcn os started H enc)
end Go.Proofs.YtilbengnjgglhaaGreat
