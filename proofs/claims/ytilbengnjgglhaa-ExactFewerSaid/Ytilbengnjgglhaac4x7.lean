/- ExactFewer: for every input the given law returns true, and its arguments read as before. No condition. -/
import Derived.Test.Ytilbengnjgglhaac4x6
namespace Go.Proofs.Ytilbengnjgglhaa
open Go.RowKit
set_option linter.unusedSimpArgs false
set_option linter.unusedVariables false
theorem Qd6 (c:Int):Jx c=YA c:=by
 unfold Jx YA
 generalize decide (97≤c)=a
 generalize decide (c≤122)=b
 generalize decide (65≤c)=d
 generalize decide (c≤90)=e
 cases a<;>cases b<;>cases d<;>cases e<;>rfl
theorem Qat (c:Int): ∃b,YA c=some b:=by
 unfold YA
 generalize decide (97≤c)=a
 generalize decide (c≤122)=b
 generalize decide (65≤c)=d
 generalize decide (c≤90)=e
 cases a<;>cases b<;>cases d<;>cases e<;>exact ⟨_,rfl⟩
theorem Qe4 (s:ByteArray):J8 s=Qz s:=by
 funext i
 simp only[J8,Qz,Qd6]
theorem QeC {s:ByteArray} {k:Nat} (h:k<s.size): ∃b,QdL s (k:Int)=some b:=by
 unfold QdL
 rw[if_pos (by omega)]
 simp[h]
theorem QfW (s:ByteArray) (hs:s.size≤32): ∀(m k:Nat),k+m=s.size→ ∃o,iter (Qz s) (m+1) (k:Int)=some o
 | 0,k,h=>by
  refine ⟨.inl (),?_⟩
  simp only[iter,Qz]
  rw[show decide ((k:Int)<((s.size:Nat):Int))=false by simp;omega]
  rfl
 | m+1,k,h=>by
  obtain ⟨b,hb⟩:=QeC (s:=s) (k:=k) (by omega);obtain ⟨q,hq⟩:=Qat b;obtain ⟨o,ho⟩:=QfW s hs m (k+1) (by omega);have hbody:(∃z,Qz s (k:Int)=some (.inr z))∨Qz s (k:Int)=some (.inl ((k+1:Nat):Int)):=by
   simp only[Qz]
   rw[show decide ((k:Int)<((s.size:Nat):Int))=true by simp;omega]
   simp only[cond_true,hb,Option.bind_some,hq,Ji (show k<9223372036854775807 by omega)]
   generalize decide (b<48)=c1
   generalize decide (b=45)=c2
   generalize decide (b=95)=c3
   generalize decide (b=46)=c4
   generalize decide (57<b)=c5
   cases q<;>cases c1<;>cases c2<;>cases c3<;>cases c4<;>cases c5<;>first | exact .inr rfl | exact .inl ⟨_,rfl⟩
  rcases hbody with ⟨z,hz⟩ | hz
  ·exact ⟨z,by rw[iter,hz];rfl⟩
  ·exact ⟨o,by rw[iter,hz];exact ho⟩
theorem QhO {F:Nat} (hF:33≤F) (s:ByteArray):WD F s=Za s:=by
 unfold WD Za
 simp only[Qd6,Qe4]
 by_cases h1:((s.size:Nat):Int)<1
 ·simp only[h1,decide_true,cond_true,Option.bind_some]
 ·by_cases h2:(32:Int)<((s.size:Nat):Int)
  ·simp only[h1,h2,decide_true,decide_false,cond_true,cond_false,Option.bind_some]
  ·obtain ⟨b,hb⟩:=QeC (s:=s) (k:=0) (by omega);obtain ⟨q,hq⟩:=Qat b;have hb':QdL s 0=some b:=hb
   simp only[h1,h2,decide_false,cond_false,hb',Option.bind_some,hq]
   cases q with
   | false=>rfl
   | true =>
    simp only[Bool.not_true,cond_false]
    obtain ⟨o,ho⟩:=QfW s (by omega) (s.size-1) 1 (by omega)
    rw[show ((1:Nat):Int)=1 from rfl] at ho
    rw[Qb6 ho (by omega)]
    have e2:iter (Qz s) (((s.size:Nat):Int).toNat+1) 0=some o:=by
     rw[iter]
     have:Qz s 0=some (.inl 1):=by
      simp only[Qz]
      rw[show decide ((0:Int)<((s.size:Nat):Int))=true by simp;omega]
      simp only[cond_true,hb',Option.bind_some,hq,Bool.not_true,cond_false]
      rfl
     rw[this]
     exact Qb6 ho (by simp;omega)
    rw[e2]
theorem Qfl {F:Nat} (hF:33≤F) (v:Qk) (n m:Int):JL F v n m=QN v n m:=by
 unfold JL QN
 rw[QhO hF]
theorem QjH {α ρ:Type} (p:α→Bool) (o fin:ρ): ∀(l:List α) (k:Nat),Yt (fun _ y=>bif p y then some o else none) fin k l=bif l.any p then o else fin
 | [],_=>rfl
 | x::l,k=>by
  simp only[Yt,List.any_cons]
  cases p x
  ·simpa using QjH p o fin l (k+1)
  ·rfl
theorem QgE {α:Type} (p:α→Bool): ∀(l:List α) (k:Nat),(Yt (fun (k:Nat) y=>bif p y then some (.inr (k:Int)) else none) (.inl ():Unit⊕Int) k l= .inl ()∧l.any p=false) ∨
  ∃j:Nat,Yt (fun (k:Nat) y=>bif p y then some (.inr (k:Int)) else none) (.inl ():Unit⊕Int) k l= .inr (j:Int)∧l.any p=true
 | [],_=> .inl ⟨rfl,rfl⟩
 | x::l,k=>by
  simp only[Yt,List.any_cons]
  cases p x
  ·simpa using QgE p l (k+1)
  ·exact .inr ⟨k,rfl,rfl⟩
def QaG {α β:Type} [DecidableEq β] (f:α→β) (l:List α) (k:Nat) (x:α):Option (Unit⊕Int):=bif (l.take k).any (fun y=>decide (f x=f y)) then some (.inr 6) else none
theorem QjR {α β:Type} [DecidableEq β] (f:α→β) (l:List α) (hn:l.length<1000000) {b2:Int→Int→Option (Int⊕(Unit⊕Int))} {b3:Int→Option (Int⊕(Unit⊕Int))}
  (h2: ∀(i k:Nat) (x y:α),l[i]? =some x→l[k]? =some y→k<i→b2 i k=some (bif decide (f x=f y) then .inr (.inr 6) else .inl (w64 ((k:Int)+1))))
  (h2f: ∀i:Nat,b2 i i=some (.inr (.inl ())))
  (h3: ∀i:Nat,i<l.length→b3 i=Option.bind (Option.bind (iter (b2 i) ((i:Int).toNat+1) 0) (fun o_=>QT o_ (fun _=>some (.inl ())) (fun rv=>some (.inr rv)))) (fun o_=>QT o_ (fun _:Unit=>some (.inl (w64 ((i:Int)+1)))) (fun rv=>some (.inr (.inr rv)))))
  (h3f:b3 (l.length:Nat)=some (.inr (.inl ()))):iter b3 (((l.length:Nat):Int).toNat+1) 0=some (Yt (QaG f l) (.inl ()) 0 l):=by
 refine YG l (QaG f l) (.inl ()) (by omega) (fun i x hx=> ?_) h3f _ (by simp);have hi:=QF hx
 rw[h3 i hi]
 have:=YG (body:=b2 i) (l.take i) (fun _ y=>bif decide (f x=f y) then some (.inr 6) else none) (.inl ():Unit⊕Int) (by simp;omega) (fun k y hy=> ?_) (by rw[ZH (Nat.le_of_lt hi)];exact h2f i) ((i:Int).toNat+1) (by rw[ZH (Nat.le_of_lt hi)];omega)
 ·rw[this,QjH]
  unfold QaG
  generalize (l.take i).any _=b
  cases b<;>rfl
 ·have hk:=QF hy
  rw[ZH (Nat.le_of_lt hi)] at hk
  rw[List.getElem?_take,if_pos hk] at hy
  rw[h2 i k x y hx hy hk]
  cases decide (f x=f y)<;>rfl
def Qiy (l:List Qk):List (ByteArray×Bool):=l.foldl (fun m x=>QdO x.ID true m) []
theorem Qek {β:Type} (k j:ByteArray) (v:β): ∀(m:List (ByteArray×β)),V7 j (QdO k v m)=if k=j then some v else V7 j m
 | []=>by simp[QdO,V7]
 | p::m=>by
  simp only[QdO]
  by_cases h:p.1=k
  ·subst h
   by_cases h2:p.1=j<;>simp[V7,h2]
  ·by_cases h2:p.1=j
   ·have: ¬k=j:=fun e=>h (by rw[h2,e])
    rw[if_neg h,if_neg this]
    simp[V7,h2]
   ·simp[V7,h,h2,Qek k j v m]
theorem Qhr (l:List Qk) (id:ByteArray): ∀(m:List (ByteArray×Bool)),(V7 id (l.foldl (fun m x=>QdO x.ID true m) m)).getD false=(l.any (fun y=>decide (id=y.ID))||(V7 id m).getD false):=by
 induction l with
 | nil=>intro m;simp
 | cons x l ih =>
  intro m
  rw[List.foldl_cons,ih,List.any_cons,Qek]
  by_cases h:x.ID=id
  ·simp[h]
  ·have: ¬id=x.ID:=fun e=>h e.symm
   simp[h,this]
theorem QdD (l:List Qk) (hn:l.length≤16):iter (Zt l) (((l.length:Nat):Int).toNat+1) ([],0)=some (Yt (QaG (·.ID) l) (.inl ()) 0 l):=by
 refine QbJ (body:=Zt l) l (fun k=>Qiy (l.take k)) (fun m k=>(m,k)) (QaG (·.ID) l) (.inl ()) (by omega) (fun k x hx _=> ?_) (fun _=>by simp[Zt,oun]) _ (by simp);have hk:=QF hx;have hk2:((k:Int)<(l.length:Nat)):=by omega
 simp only[Zt,oun,hk2,decide_true,cond_true,Qs,hx,Option.bind_some]
 rw[Qiy,Qhr,V9 hx]
 simp only[V7,Option.getD_none,Bool.or_false,QaG,Qiy,List.foldl_append,List.foldl_cons,List.foldl_nil]
 generalize (l.take k).any _=b
 cases b<;>rfl
theorem VQ {F:Nat} (hF:33≤F) (l:List Qk) (n m:Int):Jf F l n m=Q6 l n m:=by
 unfold Jf Q6;have e1:Zs F l n m=QA l n m:=by
  funext i
  simp only[Zs,QA,Qfl hF]
 rw[e1]
 by_cases h:(16:Int)<((l.length:Nat):Int)
 ·simp only[h,decide_true,cond_true]
 ·have e3:=QjR (·.ID) l (by omega) (b2:=Zd l) (b3:=Ze l) (fun i k x y hx hy hk=>by
    have:((k:Int)<(i:Int)):=by omega
    simp only[Zd,this,decide_true,cond_true,Qs,hx,hy,Option.bind_some]
    cases decide (x.ID=y.ID)<;>rfl) (fun i=>by simp[Zd]) (fun i hi=>by
    have:((i:Int)<((l.length:Nat):Int)):=by omega
    simp only[Ze,this,decide_true,cond_true]) (by simp[Ze])
  rw[e3,QdD l (by omega)]
theorem QhA (n a b:Int):ZJ n a b=some (decide (a≤n)&&decide (n≤b)):=by
 unfold ZJ
 rw[QhQ]
 rfl
theorem Qez (l:List Qh) (n m:Int):JM l n m=QG l n m:=by
 funext i
 simp only[JM,QG]
 cases decide (i<((l.length:Nat):Int)) with
 | false=>rfl
 | true =>
  simp only[cond_true]
  cases QM l i with
  | none=>rfl
  | some x =>
   simp only[Option.bind_some,VU,QhA,Yv,Bool.not_and]
   have e1:(!decide (0≤x.Container)|| !decide (x.Container≤255))=(decide (x.Container<0)||decide (256≤x.Container)):=by
    rw[Bool.eq_iff_iff];simp;omega
   have e2:(!decide (0≤x.Grams)|| !decide (x.Grams≤1073741824))=(decide (x.Grams<0)||decide (1073741824<x.Grams)):=by
    rw[Bool.eq_iff_iff];simp
   have e3:(!decide (0≤x.Service)|| !decide (x.Service≤3600))=(decide (x.Service<0)||decide (3600<x.Service)):=by
    rw[Bool.eq_iff_iff];simp
   rw[e1,e2,e3]
   have key: ∀(a b c d:Bool),(bif a||b then some true else some (c||d))=some (a||(b||(c||d))):=by intro a b c d;cases a<;>cases b<;>rfl
   simp only[Yv,Bool.or_assoc]
   generalize (decide (x.Container<0)||_)=a
   generalize (decide (x.Grams<0)||_)=b
   cases a<;>cases b<;>rfl
theorem QcF (L:List Qh) (hn:L.length≤32) (x:Qh):QY L x=some (L.any fun y=>decide (x.Container=y.Container)):=by
 unfold QY YN;have:=YG (body:=QZ L x) L (fun k y=>bif decide (x.Container=y.Container) then some (.inr (k:Int)) else none) (.inl ():Unit⊕Int) (by omega) (fun k y hy=> ?_) (by simp[QZ]) (((L.length:Nat):Int).toNat+1) (by simp)
 ·rw[this]
  rcases QgE (fun y:Qh=>decide (x.Container=y.Container)) L 0 with ⟨h1,h2⟩ | ⟨j,h1,h2⟩
  ·rw[h1,h2];rfl
  ·rw[h1,h2]
   simp only[Option.bind_some,QT]
   simp
 ·have hk:=QF hy;have hk2:((k:Int)<(L.length:Nat)):=by omega
  simp only[QZ,hk2,decide_true,cond_true,Qs,hy,Option.bind_some,J5]
  rw[show decide (y.Container=x.Container)=decide (x.Container=y.Container) by rw[Bool.eq_iff_iff];simp[eq_comm]]
  cases decide (x.Container=y.Container)<;>rfl
theorem Wq {α:Type} {l:List α} {k:Nat} (h:k≤l.length):Jw l 0 (k:Int)=some (l.take k):=by
 unfold Jw
 rw[if_pos ⟨by omega,by omega,by omega⟩]
 simp
theorem QcD (l:List Qh) (n m:Int):J4 l n m=Q7 l n m:=by
 unfold J4 Q7
 rw[Qez]
 by_cases h:(32:Int)<((l.length:Nat):Int)
 ·simp only[h,decide_true,cond_true]
 ·have e3:=QjR (·.Container) l (by omega) (b2:=QW l) (b3:=QX l) (fun i k x y hx hy hk=>by
    have:((k:Int)<(i:Int)):=by omega
    simp only[QW,this,decide_true,cond_true,Qs,hx,hy,Option.bind_some]
    cases decide (x.Container=y.Container)<;>rfl) (fun i=>by simp[QW]) (fun i hi=>by
    have:((i:Int)<((l.length:Nat):Int)):=by omega
    simp only[QX,this,decide_true,cond_true]) (by simp[QX])
  have e4:iter (Z8 l) (((l.length:Nat):Int).toNat+1) 0=some (Yt (QaG (·.Container) l) (.inl ()) 0 l):=by
   refine YG l (QaG (·.Container) l) (.inl ()) (by omega) (fun k x hx=> ?_) (by simp[Z8]) _ (by simp);have hk:=QF hx;have hk2:((k:Int)<(l.length:Nat)):=by omega
   simp only[Z8,hk2,decide_true,cond_true,Qs,hx,Option.bind_some,Wq (Nat.le_of_lt hk),QaG]
   rw[QcF _ (by simp;omega)]
   simp only[Option.bind_some]
   generalize (l.take k).any _=b
   cases b<;>rfl
  rw[e3,e4]
theorem Qa9 {F:Nat} (hF:33≤F) (p:Qc) (hn:p.Road.Edges.length≤600):Ws F p=Qj p:=by
 unfold Ws Qj
 rw[Qa5 _ hn,Jt _ hn]
 simp only[VQ hF,QcD]
theorem VZ {ρ:Type} {body:Int→Option (Int⊕ρ)} {N:Nat} (hN:N<1000000) (hb: ∀k:Nat,k<N→(∃r,body k=some (.inr r))∨body k=some (.inl ((k+1:Nat):Int))) (hf: ∃r,body (N:Nat)=some (.inr r)) :
  ∀(m k:Nat),k+m=N→ ∃o,iter body (m+1) (k:Int)=some o
 | 0,k,h=>by
  obtain ⟨r,hr⟩:=hf;obtain rfl:k=N:=by omega
  exact ⟨r,by rw[iter,hr];rfl⟩
 | m+1,k,h=>by
  rcases hb k (by omega) with ⟨r,hr⟩ | hr
  ·exact ⟨r,by rw[iter,hr];rfl⟩
  ·obtain ⟨o,ho⟩:=VZ hN hb hf m (k+1) (by omega);exact ⟨o,by rw[iter,hr];exact ho⟩
theorem QfS (p:Qc):(∃b,YJ p=some b)∧(YJ p=some false→p.Road.Edges.length≤600∧p.Vehicles.length≤30∧p.Demands.length≤60):=by
 unfold YJ
 simp only[Yv,Option.bind_some]
 by_cases h:(decide ((600:Int)<((p.Road.Edges.length:Nat):Int))||(decide ((30:Int)<((p.Vehicles.length:Nat):Int))||decide ((60:Int)<((p.Demands.length:Nat):Int))))=true
 ·rw[h]
  exact ⟨⟨true,rfl⟩,fun e=>by cases e⟩
 ·rw[Bool.not_eq_true] at h
  rw[h]
  simp only[Bool.or_eq_false_iff,decide_eq_false_iff_not] at h
  obtain ⟨o,ho⟩:=VZ (body:=YK p) (N:=p.Vehicles.length) (by omega) (fun k hk=>by
   obtain ⟨x,hx⟩: ∃x,p.Vehicles[k]? =some x:=⟨_,List.getElem?_eq_getElem hk⟩
   have hk2:((k:Int)<((p.Vehicles.length:Nat):Int)):=by omega
   simp only[YK,hk2,decide_true,cond_true,Qs,hx,Option.bind_some,Ji (show k<9223372036854775807 by omega)]
   cases decide ((200:Int)<((x.ID.size:Nat):Int)) with
   | true=>exact .inl ⟨_,rfl⟩
   | false=>exact .inr rfl) ⟨_,by simp[YK];rfl⟩ p.Vehicles.length 0 (by omega)
  refine ⟨?_,fun _=>by omega⟩
  simp only[cond_false]
  rw[show (((p.Vehicles.length:Nat):Int).toNat+1)=p.Vehicles.length+1 by simp,show (0:Int)=((0:Nat):Int) from rfl,ho]
  cases o with
  | inl u=>exact ⟨false,rfl⟩
  | inr b=>exact ⟨b,rfl⟩
theorem Qc8 (l:List Qh) (n m:Int) (hn:l.length≤32): ∃o,iter (QG l n m) (((l.length:Nat):Int).toNat+1) 0=some o:=by
 obtain ⟨o,ho⟩:=VZ (body:=QG l n m) (N:=l.length) (by omega) (fun k hk=>by
   obtain ⟨x,hx⟩: ∃x,l[k]? =some x:=⟨_,List.getElem?_eq_getElem hk⟩
   have hk2:((k:Int)<((l.length:Nat):Int)):=by omega
   simp only[QG,hk2,decide_true,cond_true,Qs,hx,Option.bind_some,Yv,Ji (show k<9223372036854775807 by omega)]
   generalize (decide (x.Container<0)||_)=a
   generalize (decide (x.Grams<0)||_)=b
   cases a<;>cases b<;>first | exact .inr rfl | exact .inl ⟨_,rfl⟩) ⟨_,by simp[QG];rfl⟩ l.length 0 (by omega)
 exact ⟨o,by simpa using ho⟩
theorem QbN (v:Qk) (n:Int): ∃e,QN v n 16=some e:=by
 unfold QN;have hv: ∃b,Za v.ID=some b:=by
  unfold Za
  by_cases h1:((v.ID.size:Nat):Int)<1
  ·exact ⟨false,by simp only[h1,decide_true,cond_true,Option.bind_some]⟩
  ·by_cases h2:(32:Int)<((v.ID.size:Nat):Int)
   ·exact ⟨false,by simp only[h1,h2,decide_true,decide_false,cond_true,cond_false,Option.bind_some]⟩
   ·obtain ⟨b,hb⟩:=QeC (s:=v.ID) (k:=0) (by omega);obtain ⟨q,hq⟩:=Qat b;have hb':QdL v.ID 0=some b:=hb;obtain ⟨o,ho⟩:=QfW v.ID (by omega) v.ID.size 0 (by omega)
    simp only[h1,h2,decide_false,cond_false,hb',Option.bind_some,hq]
    rw[show (((v.ID.size:Nat):Int).toNat+1)=v.ID.size+1 by simp,show (0:Int)=((0:Nat):Int) from rfl,ho]
    cases q<;>cases o<;>exact ⟨_,rfl⟩
 obtain ⟨b,hb⟩:=hv
 rw[hb]
 simp only[Option.bind_some,Yv,JW (show (0:Int)≤16∧(16:Int)≤64 by decide)]
 generalize (decide (v.Depot<0)||_)=c1
 generalize (decide (v.Shift.From<0)||_)=c2
 generalize (decide (v.Grams<1)||_)=c3
 generalize (decide (v.Kinds<1)||_)=c4
 cases b<;>cases c1<;>cases c2<;>cases c3<;>cases c4<;>exact ⟨_,rfl⟩
theorem Qgj (l:List Qk) (n:Int): ∃e,Q6 l n 16=some e:=by
 by_cases h:(16:Int)<((l.length:Nat):Int)
 ·unfold Q6
  simp only[Yv,Option.bind_some,h,decide_true,cond_true]
  generalize (decide (n<1)||_)=a
  generalize decide (((l.length:Nat):Int)=0)=b
  cases a<;>cases b<;>exact ⟨_,rfl⟩
 ·obtain ⟨o,ho⟩:=VZ (body:=QA l n 16) (N:=l.length) (by omega) (fun k hk=>by
   obtain ⟨x,hx⟩: ∃x,l[k]? =some x:=⟨_,List.getElem?_eq_getElem hk⟩
   obtain ⟨e,he⟩:=QbN x n;have hk2:((k:Int)<((l.length:Nat):Int)):=by omega
   simp only[QA,hk2,decide_true,cond_true,Qs,hx,Option.bind_some,he,Ji (show k<9223372036854775807 by omega)]
   cases decide (e=0)<;>first | exact .inr rfl | exact .inl ⟨_,rfl⟩) ⟨_,by simp[QA];rfl⟩ l.length 0 (by omega)
  have h2:=VQ (F:=33) (Nat.le_refl _) l n 16
  rw[←h2]
  unfold Jf;have e1:Zs 33 l n 16=QA l n 16:=by
   funext i
   simp only[Zs,QA,Qfl (F:=33) (Nat.le_refl _)]
  rw[e1,QdD l (by omega),show (((l.length:Nat):Int).toNat+1)=l.length+1 by simp,show (0:Int)=((0:Nat):Int) from rfl,ho]
  simp only[Yv,Option.bind_some,h,decide_false,cond_false]
  generalize (decide (n<1)||_)=a
  generalize decide (((l.length:Nat):Int)=((0:Nat):Int))=b
  generalize Yt (QaG (·.ID) l) (.inl ()) 0 l=q
  cases a<;>cases b<;>cases o<;>cases q<;>exact ⟨_,rfl⟩
theorem Qgm (p:Qc) (hn:p.Road.Edges.length≤600): ∃e,Qj p=some e:=by
 unfold Qj
 rw[Jt _ hn]
 obtain ⟨e2,he2⟩:=Qgj p.Vehicles p.Road.Nodes;have he3: ∃e,Q7 p.Demands p.Road.Nodes 16=some e:=by
  by_cases h:(32:Int)<((p.Demands.length:Nat):Int)
  ·exact ⟨8,by unfold Q7;simp only[h,decide_true,cond_true]⟩
  ·obtain ⟨o,ho⟩:=Qc8 p.Demands p.Road.Nodes 16 (by omega);unfold Q7;have e3:=QjR (·.Container) p.Demands (by omega) (b2:=QW p.Demands) (b3:=QX p.Demands) (fun i k x y hx hy hk=>by
    have:((k:Int)<(i:Int)):=by omega
    simp only[QW,this,decide_true,cond_true,Qs,hx,hy,Option.bind_some]
    cases decide (x.Container=y.Container)<;>rfl) (fun i=>by simp[QW]) (fun i hi=>by
    have:((i:Int)<((p.Demands.length:Nat):Int)):=by omega
    simp only[QX,this,decide_true,cond_true]) (by simp[QX])
   rw[ho,e3]
   simp only[h,decide_false,cond_false,Option.bind_some]
   generalize Yt (QaG (·.Container) p.Demands) (.inl ()) 0 p.Demands=q
   cases o<;>cases q<;>exact ⟨_,rfl⟩
 obtain ⟨e3,he3⟩:=he3
 simp only[he2,he3,Option.bind_some,Yv]
 generalize decide (Vm p.Road=0)=a
 generalize decide (e2=0)=b
 generalize decide (e3=0)=c
 generalize (decide (p.Unload<0)||_)=d
 generalize (decide (p.UnloadSecs<0)||_)=f
 cases a<;>cases b<;>cases c<;>cases d<;>cases f<;>exact ⟨_,rfl⟩
end Go.Proofs.Ytilbengnjgglhaa
namespace Go.Proofs.Ytilbengnjgglhaa
open Go.RowKit
set_option linter.unusedSimpArgs false
set_option linter.unusedVariables false
abbrev It:=Qp
abbrev Qu:=Qa
abbrev Lg:=Qd
def Lg.lt (a b:Lg):Prop:=a.Secs<b.Secs∨(a.Secs=b.Secs∧a.Meters<b.Meters)
def Lg.le (a b:Lg):Prop:=a.Secs<b.Secs∨(a.Secs=b.Secs∧a.Meters≤b.Meters)
instance (a b:Lg):Decidable (Lg.lt a b):=by unfold Lg.lt;infer_instance
instance (a b:Lg):Decidable (Lg.le a b):=by unfold Lg.le;infer_instance
theorem Lg.le_of_not_lt {a b:Lg} (h: ¬Lg.lt a b):Lg.le b a:=by unfold Lg.lt at h;unfold Lg.le;omega
theorem Lg.le_of_lt {a b:Lg} (h:Lg.lt a b):Lg.le a b:=by unfold Lg.lt at h;unfold Lg.le;omega
theorem Lg.le_refl (a:Lg):Lg.le a a:=by unfold Lg.le;omega
theorem Lg.le_trans {a b c:Lg} (h:Lg.le a b) (h2:Lg.le b c):Lg.le a c:=by unfold Lg.le at *;omega
theorem Lg.not_lt {a b:Lg} (h:Lg.le b a): ¬Lg.lt a b:=by unfold Lg.le at h;unfold Lg.lt;omega
abbrev noL:Lg:=⟨-1,0⟩
theorem QdU (a b:Lg):JX a b=some (decide (b=noL)||decide (Lg.lt a b)):=by
 unfold JX W1
 simp only[Option.bind_some]
 by_cases h:b=noL
 ·simp[h]
 ·by_cases h1:a.Secs<b.Secs
  ·simp[h,h1,Lg.lt]
  ·by_cases h2:a.Secs=b.Secs
   ·simp[h,h1,h2,Lg.lt]
   ·simp[h,h1,h2,Lg.lt]
def okI (x:It):Prop:=0≤x.value.leg.Secs
theorem QgP {a b:QC} (hb:0≤b.leg.Secs):Jd a b=some (decide (Lg.lt a.leg b.leg)):=by
 unfold Jd
 rw[QdU]
 have hn:b.leg≠noL:=by intro e;rw[e] at hb;exact absurd hb (by decide)
 by_cases h:a.leg=b.leg
 ·rw[h]
  simp[Lg.lt]
 ·simp[h,hn]
def bef (x y:It):Bool:=decide (Lg.lt x.value.leg y.value.leg)||(decide (x.n<y.n)&& !decide (Lg.lt y.value.leg x.value.leg))
theorem QfY {x y:It} (h:bef x y=true):Lg.le x.value.leg y.value.leg:=by
 simp only[bef,Bool.or_eq_true,Bool.and_eq_true,decide_eq_true_eq,Bool.not_eq_true',decide_eq_false_iff_not] at h
 rcases h with h | ⟨_,h⟩
 ·exact Lg.le_of_lt h
 ·exact Lg.le_of_not_lt h
theorem Qeu {x y:It} (h:bef x y=false):Lg.le y.value.leg x.value.leg:=by
 simp only[bef,Bool.or_eq_false_iff,decide_eq_false_iff_not] at h
 exact Lg.le_of_not_lt h.1
theorem QdT {q:Qu} {i k:Nat} {x y:It} (hx:q.heap[i]? =some x) (hy:q.heap[k]? =some y) (h1:okI x) (h2:okI y):Yf q i k=some (bef x y):=by
 unfold Yf
 simp only[Qs,hx,hy,Option.bind_some,oun]
 rw[QgP (a:=⟨x.value.node,⟨x.value.leg.Secs,x.value.leg.Meters⟩⟩) (b:=⟨y.value.node,⟨y.value.leg.Secs,y.value.leg.Meters⟩⟩) h2,QgP (a:=⟨y.value.node,⟨y.value.leg.Secs,y.value.leg.Meters⟩⟩) (b:=⟨x.value.node,⟨x.value.leg.Secs,x.value.leg.Meters⟩⟩) h1]
 simp only[Option.bind_some]
 unfold bef;cases decide (Lg.lt x.value.leg y.value.leg)<;>cases decide (x.n<y.n)<;>rfl
def swp (h:List It) (i k:Nat):List It:=match h[i]?,h[k]? with
 | some x,some y=>(h.set i y).set k x
 | _,_=>h
theorem QeW {q:Qu} {i k:Nat} (hi:i<q.heap.length) (hk:k<q.heap.length):Yc q i k=some ⟨swp q.heap i k,q.count⟩:=by
 unfold Yc swp
 simp only[Qs,List.getElem?_eq_getElem hi,List.getElem?_eq_getElem hk,Option.bind_some,Zw,Int.toNat_natCast]
 rw[List.getElem?_eq_getElem (by simpa using hk)]
 rfl
theorem Wr (h:List It) (i k:Nat):(swp h i k).length=h.length:=by unfold swp;split<;>simp
theorem QdA {h:List It} {i k:Nat} (hi:i<h.length) (hk:k<h.length):(swp h i k).Perm h:=by
 unfold swp
 simp only[List.getElem?_eq_getElem hi,List.getElem?_eq_getElem hk]
 exact List.set_set_perm hi hk
theorem V8 {h:List It} {i k:Nat} (hi:i<h.length) (hk:k<h.length) (j:Nat):(swp h i k)[j]? =if j=k then h[i]? else if j=i then h[k]? else h[j]? :=by
 unfold swp
 simp only[List.getElem?_eq_getElem hi,List.getElem?_eq_getElem hk]
 rw[List.getElem?_set,List.getElem?_set]
 simp only[List.length_set]
 by_cases h1:k=j
 ·subst h1;simp[hk]
 ·have h1': ¬j=k:=fun e=>h1 e.symm
  by_cases h2:i=j
  ·subst h2;simp[h1,h1',hi]
  ·have h2': ¬j=i:=fun e=>h2 e.symm
   simp[h1,h2,h1',h2']
end Go.Proofs.Ytilbengnjgglhaa
namespace Go.Proofs.Ytilbengnjgglhaa
open Go.RowKit
set_option linter.unusedSimpArgs false
set_option linter.unusedVariables false
abbrev kle (x y:It):Prop:=Lg.le x.value.leg y.value.leg
def okH (h:List It):Prop:= ∀x∈h,okI x
theorem okH.get {h:List It} (ho:okH h) {k:Nat} {x:It} (hx:h[k]? =some x):okI x:=ho x (List.mem_of_getElem? hx)
theorem okH.perm {h h':List It} (ho:okH h) (hp:h'.Perm h):okH h':=fun x hx=>ho x (hp.mem_iff.1 hx)
def Hp (h:List It):Prop:= ∀(k:Nat) (x y:It),1≤k→h[k]? =some x→h[(k-1)/2]? =some y→kle y x
theorem Hp.root {h:List It} (hh:Hp h) {r:It} (hr:h[0]? =some r): ∀(k:Nat) (x:It),h[k]? =some x→kle r x:=by
 intro k
 induction k using Nat.strongRecOn with
 | ind k ih =>
  intro x hx;rcases Nat.eq_zero_or_pos k with rfl | hk
  ·rw[hr] at hx;injection hx with hx;subst hx;exact Lg.le_refl _
  ·have hlt:=QF hx;have hy:h[(k-1)/2]? =some h[(k-1)/2]:=List.getElem?_eq_getElem (by omega);exact Lg.le_trans (ih _ (by omega) _ hy) (hh k x _ hk hx hy)
def HpU (h:List It) (i:Nat):Prop:=(∀(k:Nat) (x y:It),1≤k→k≠i→h[k]? =some x→h[(k-1)/2]? =some y→kle y x) ∧
 ∀(c:Nat) (x y:It),1≤i→1≤c→(c-1)/2=i→h[c]? =some x→h[(i-1)/2]? =some y→kle y x
def HpD (h:List It) (i:Nat):Prop:=(∀(k:Nat) (x y:It),1≤k→(k-1)/2≠i→h[k]? =some x→h[(k-1)/2]? =some y→kle y x) ∧
 ∀(c:Nat) (x y:It),1≤i→1≤c→(c-1)/2=i→h[c]? =some x→h[(i-1)/2]? =some y→kle y x
theorem HpU.step {h:List It} {i:Nat} (hi:1≤i) (hl:i<h.length) (hu:HpU h i) {x y:It} (hx:h[i]? =some x) (hy:h[(i-1)/2]? =some y) (hle:kle x y):HpU (swp h i ((i-1)/2)) ((i-1)/2):=by
 have hp:(i-1)/2<h.length:=by omega
 generalize hpe:(i-1)/2=p at *
 refine ⟨fun k a b hk hkp ha hb=> ?_,fun c a b h1 hc hcp ha hb=> ?_⟩
 ·rw[V8 hl hp] at ha hb
  rw[if_neg hkp] at ha
  by_cases hki:k=i
  ·subst hki
   rw[if_pos rfl] at ha
   rw[hpe,if_pos rfl] at hb
   rw[hy] at ha;rw[hx] at hb
   injection ha with ha;injection hb with hb
   subst ha;subst hb;exact hle
  ·rw[if_neg hki] at ha
   by_cases h2:(k-1)/2=p
   ·rw[if_pos h2,hx] at hb
    injection hb with hb;subst hb
    exact Lg.le_trans hle (hu.1 k a y hk hki ha (by rw[h2];exact hy))
   ·rw[if_neg h2] at hb
    by_cases h3:(k-1)/2=i
    ·rw[if_pos h3] at hb
     exact hu.2 k a b hi hk h3 ha (by rw[hpe];exact hb)
    ·rw[if_neg h3] at hb
     exact hu.1 k a b hk hki ha hb
 ·rw[V8 hl hp] at ha hb
  rw[if_neg (by omega),if_neg (by omega)] at hb
  have hpp:kle b y:=hu.1 p y b h1 (by omega) hy hb
  by_cases hci:c=i
  ·subst hci
   rw[if_neg (by omega),if_pos rfl,hy] at ha
   injection ha with ha;subst ha
   exact hpp
  ·rw[if_neg (by omega),if_neg hci] at ha
   exact Lg.le_trans hpp (hu.1 c a y hc hci ha (by rw[hcp];exact hy))
theorem HpU.zero {h:List It} (hu:HpU h 0):Hp h:=fun k x y hk hx hy=>hu.1 k x y hk (by omega) hx hy
theorem HpU.stop {h:List It} {i:Nat} (hu:HpU h i) {x y:It} (hx:h[i]? =some x) (hy:h[(i-1)/2]? =some y) (hle:kle y x):Hp h:=by
 intro k a b hk ha hb
 by_cases hki:k=i
 ·subst hki
  rw[hx] at ha;rw[hy] at hb
  injection ha with ha;injection hb with hb
  subst ha;subst hb;exact hle
 ·exact hu.1 k a b hk hki ha hb
theorem HpD.step {h:List It} {i n:Nat} (hl:n<h.length) (hn:n=2*i+1∨n=2*i+2) (hd:HpD h i) {x y:It} (hx:h[n]? =some x) (hy:h[i]? =some y) (hmin: ∀(j:Nat) (z:It),(j=i∨j=2*i+1∨j=2*i+2)→h[j]? =some z→kle x z):HpD (swp h i n) n:=by
 have hi:i<h.length:=by omega
 refine ⟨fun k a b hk hkp ha hb=> ?_,fun c a b h1 hc hcp ha hb=> ?_⟩
 ·rw[V8 hi hl] at ha hb
  rw[if_neg hkp] at hb
  by_cases h2:(k-1)/2=i
  ·rw[if_pos h2,hx] at hb
   injection hb with hb;subst hb
   by_cases hkn:k=n
   ·rw[if_pos hkn] at ha
    exact hmin i a (.inl rfl) ha
   ·rw[if_neg hkn,if_neg (by omega)] at ha
    exact hmin k a (by omega) ha
  ·rw[if_neg h2] at hb
   by_cases hki:k=i
   ·subst hki
    rw[if_neg (by omega),if_pos rfl] at ha
    exact hd.2 n a b hk (by omega) (by omega) ha hb
   ·rw[if_neg (by omega),if_neg hki] at ha
    exact hd.1 k a b hk h2 ha hb
 ·rw[V8 hi hl] at ha hb
  have h3:(n-1)/2=i:=by omega
  rw[h3,if_neg (by omega),if_pos rfl,hx] at hb
  injection hb with hb;subst hb
  rw[if_neg (by omega),if_neg (by omega)] at ha
  exact hd.1 c a x hc (by omega) ha (by rw[hcp];exact hx)
theorem HpD.stop {h:List It} {i:Nat} (hd:HpD h i) {y:It} (hy:h[i]? =some y) (hmin: ∀(j:Nat) (z:It),(j=i∨j=2*i+1∨j=2*i+2)→h[j]? =some z→kle y z):Hp h:=by
 intro k a b hk ha hb
 by_cases h2:(k-1)/2=i
 ·rw[h2,hy] at hb
  injection hb with hb;subst hb
  exact hmin k a (by omega) ha
 ·exact hd.1 k a b hk h2 ha hb
theorem QjV {i:Nat} (h1:1≤i) (h2:i<1000000000):w64 (Int.tdiv (w64 ((i:Int)-1)) 2)=(((i-1)/2:Nat):Int):=by
 rw[Ye (n:=(i:Int)-1) (by omega) (by omega),Int.tdiv_eq_ediv_of_nonneg (by omega),Ye (by omega) (by omega)]
 omega
theorem Qg4: ∀(i:Nat) (F:Nat) (h:List It) (c:Int),i<F→i<h.length→h.length<1000000000→okH h→HpU h i →
  ∃h',(iter Q8 F (⟨h,c⟩,(i:Int))=some (.inl ⟨h',c⟩)∨iter Q8 F (⟨h,c⟩,(i:Int))=some (.inr ⟨h',c⟩))∧h'.Perm h∧Hp h':=by
 intro i
 induction i using Nat.strongRecOn with
 | ind i ih =>
  intro F h c hF hl hb ho hu;obtain ⟨F,rfl⟩: ∃f,F=f+1:=⟨F-1,by omega⟩
  rcases Nat.eq_zero_or_pos i with rfl | hi
  ·exact ⟨h,.inl (by rw[iter];rfl),.refl _,hu.zero⟩
  ·have hx:h[i]? =some h[i]:=List.getElem?_eq_getElem hl;have hp:(i-1)/2<h.length:=by omega
   have hy:h[(i-1)/2]? =some h[(i-1)/2]:=List.getElem?_eq_getElem hp
   generalize h[i]=x at hx
   generalize h[(i-1)/2]=y at hy
   have hbody:Q8 (⟨h,c⟩,(i:Int))=if bef x y=true then some (.inl (⟨swp h i ((i-1)/2),c⟩,(((i-1)/2:Nat):Int))) else some (.inr (.inr ⟨h,c⟩)):=by
    simp only[Q8,oun]
    rw[show decide ((0:Int)<(i:Int))=true by simp;omega]
    simp only[cond_true,QjV hi (by omega)]
    rw[QdT hx hy (ho.get hx) (ho.get hy)]
    simp only[Option.bind_some]
    cases bef x y with
    | false=>rfl
    | true =>
     simp only[Bool.not_true,cond_false]
     rw[QeW hl hp]
     rfl
   rw[iter,hbody]
   cases hbe:bef x y with
   | false=>exact ⟨h,.inr rfl,.refl _,hu.stop hx hy (Qeu hbe)⟩
   | true =>
    have hpm:=QdA hl hp;obtain ⟨h',h1,h2,h3⟩:=ih ((i-1)/2) (by omega) F (swp h i ((i-1)/2)) c (by omega) (by rw[Wr];exact hp) (by rw[Wr];exact hb) (ho.perm hpm) (hu.step hi hl hx hy (QfY hbe));exact ⟨h',h1,h2.trans hpm,h3⟩
theorem QgC {F:Nat} {q:Qu} (x:QC) (hF:q.heap.length<F) (hl:q.heap.length<1000000) (ho:okH q.heap) (hx:0≤x.leg.Secs) (hh:Hp q.heap) :
  ∃q',Yo F q x=some q'∧q'.heap.Perm (q.heap++[⟨x,q.count⟩])∧Hp q'.heap:=by
 unfold Yo
 rw[appO_eq (by simp;omega)]
 simp only[Option.bind_some]
 have e1:w64 (((((q.heap++[⟨x,q.count⟩]:List It).length:Nat):Int))-1)=((q.heap.length:Nat):Int):=by
  rw[List.length_append,List.length_singleton,Ye (by omega) (by omega)];omega
 rw[e1]
 obtain ⟨h',h1,h2,h3⟩:=Qg4 q.heap.length F (q.heap++[⟨x,q.count⟩]) (w64 (q.count+1)) hF (by simp) (by simp;omega) (by
   intro y hy;rcases List.mem_append.1 hy with hy | hy
   ·exact ho y hy
   ·rw[List.mem_singleton.1 hy];exact hx) ⟨fun k a b hk hkn ha hb=>by
   have hka:=QF ha
   rw[List.length_append,List.length_singleton] at hka
   rw[List.getElem?_append_left (by omega)] at ha hb
   exact hh k a b hk ha hb,fun c a b _ hc hcp ha _=>by
   have hka:=QF ha
   rw[List.length_append,List.length_singleton] at hka
   omega⟩
 rcases h1 with h1 | h1
 ·exact ⟨⟨h',_⟩,by rw[h1];rfl,h2,h3⟩
 ·exact ⟨⟨h',_⟩,by rw[h1];rfl,h2,h3⟩
theorem Qcc {h:List It} {c:Int} {i n k:Nat} (hb:h.length<1000000000) (hi:i<h.length) (ho:okH h) {y:It} (hy:h[n]? =some y) :
  pqueue_Queue_stop_sink_l1 (i:Int) (h,c,(n:Int),(k:Int))=match h[k]? with
   | some x=>if k≤2*i+2 then some (.inl (h,c,((if bef x y=true then k else n:Nat):Int),w64 ((k:Int)+1))) else some (.inr (h,c,(n:Int)))
   | none=>some (.inr (h,c,(n:Int))):=by
 simp only[pqueue_Queue_stop_sink_l1,oun]
 have e1:w64 (w64 (2*(i:Int))+2)=((2*i+2:Nat):Int):=by
  rw[Ye (n:=2*(i:Int)) (by omega) (by omega),Ye (by omega) (by omega)];omega
 rw[e1]
 cases hx:h[k]? with
 | none =>
  have hk:h.length≤k:=List.getElem?_eq_none_iff.1 hx
  rw[show decide ((k:Int)<((h.length:Nat):Int))=false by simp;omega]
  cases decide ((k:Int)≤((2*i+2:Nat):Int))<;>rfl
 | some x =>
  have hk:=QF hx
  rw[show decide ((k:Int)<((h.length:Nat):Int))=true by simp;omega]
  by_cases h2:k≤2*i+2
  ·rw[show decide ((k:Int)≤((2*i+2:Nat):Int))=true by simp only[decide_eq_true_eq];omega]
   simp only[cond_true,Option.bind_some,if_pos h2]
   rw[QdT (q:=⟨h,c⟩) hx hy (ho.get hx) (ho.get hy)]
   simp only[Option.bind_some]
   cases bef x y<;>rfl
  ·rw[show decide ((k:Int)≤((2*i+2:Nat):Int))=false by simp only[decide_eq_false_iff_not];omega]
   simp only[cond_false,Option.bind_some,if_neg h2]
theorem Qhx {F:Nat} {h:List It} {c:Int} {i:Nat} (hF:3≤F) (hb:h.length<1000000000) (hi:i<h.length) (ho:okH h) :
  ∃(n:Nat) (x:It),iter (pqueue_Queue_stop_sink_l1 (i:Int)) F (h,c,(i:Int),w64 (w64 (2*(i:Int))+1))=some (h,c,(n:Int))∧(n=i∨n=2*i+1∨n=2*i+2)∧h[n]? =some x ∧
   ∀(j:Nat) (z:It),(j=i∨j=2*i+1∨j=2*i+2)→h[j]? =some z→kle x z:=by
 obtain ⟨F,rfl⟩: ∃f,F=f+3:=⟨F-3,by omega⟩
 have e1:w64 (w64 (2*(i:Int))+1)=((2*i+1:Nat):Int):=by
  rw[Ye (n:=2*(i:Int)) (by omega) (by omega),Ye (by omega) (by omega)];omega
 have hy:h[i]? =some h[i]:=List.getElem?_eq_getElem hi
 generalize h[i]=y at hy
 rw[e1,iter,Qcc hb hi ho hy]
 cases hx:h[2*i+1]? with
 | none =>
  have hk:h.length≤2*i+1:=List.getElem?_eq_none_iff.1 hx;refine ⟨i,y,rfl,.inl rfl,hy,fun j z hj hz=> ?_⟩;have:=QF hz;obtain rfl:j=i:=by omega
  rw[hy] at hz;injection hz with hz;subst hz;exact Lg.le_refl _
 | some x =>
  simp only[show 2*i+1≤2*i+2 by omega,if_true,Option.bind_some,QT]
  rw[Ji (by omega)]
  obtain ⟨n1,x1,hn1,hx1,hle1,hle2,hin⟩: ∃(n1:Nat) (x1:It),(if bef x y=true then 2*i+1 else i)=n1∧h[n1]? =some x1∧kle x1 y∧kle x1 x∧(n1=i∨n1=2*i+1):=by
   cases hbe:bef x y with
   | true=>exact ⟨2*i+1,x,rfl,hx,QfY hbe,Lg.le_refl _,.inr rfl⟩
   | false=>exact ⟨i,y,rfl,hy,Lg.le_refl _,Qeu hbe,.inl rfl⟩
  rw[hn1,iter,Qcc hb hi ho hx1]
  cases hx2:h[2*i+1+1]? with
  | none =>
   have hk:h.length≤2*i+2:=List.getElem?_eq_none_iff.1 hx2;refine ⟨n1,x1,rfl,by omega,hx1,fun j z hj hz=> ?_⟩;have:=QF hz;rcases hj with rfl | rfl | rfl
   ·rw[hy] at hz;injection hz with hz;subst hz;exact hle1
   ·rw[hx] at hz;injection hz with hz;subst hz;exact hle2
   ·omega
  | some x2 =>
   simp only[show 2*i+1+1≤2*i+2 by omega,if_true,Option.bind_some,QT]
   rw[Ji (by omega)]
   obtain ⟨n2,z2,hn2,hz2,hle3,hle4,hin2⟩: ∃(n2:Nat) (z2:It),(if bef x2 x1=true then 2*i+1+1 else n1)=n2∧h[n2]? =some z2∧kle z2 x1∧kle z2 x2∧(n2=n1∨n2=2*i+2):=by
    cases hbe:bef x2 x1 with
    | true=>exact ⟨2*i+2,x2,rfl,hx2,QfY hbe,Lg.le_refl _,.inr rfl⟩
    | false=>exact ⟨n1,x1,rfl,hx1,Lg.le_refl _,Qeu hbe,.inl rfl⟩
   rw[hn2,iter,Qcc hb hi ho hz2]
   have hfin:(match h[2*i+1+1+1]? with
     | some x=>if 2*i+1+1+1≤2*i+2 then some (.inl (h,c,((if bef x z2=true then 2*i+1+1+1 else n2:Nat):Int),w64 (((2*i+1+1+1:Nat):Int)+1))) else some (.inr (h,c,(n2:Int)))
     | none=>some (.inr (h,c,(n2:Int))):Option ((List It×Int×Int×Int)⊕(List It×Int×Int)))=some (.inr (h,c,(n2:Int))):=by
    cases h[2*i+1+1+1]? with
    | none=>rfl
    | some w=>simp only[];rw[if_neg (by omega)]
   rw[hfin]
   refine ⟨n2,z2,rfl,by omega,hz2,fun j z hj hz=> ?_⟩;rcases hj with rfl | rfl | rfl
   ·rw[hy] at hz;injection hz with hz;subst hz;exact Lg.le_trans hle3 hle1
   ·rw[hx] at hz;injection hz with hz;subst hz;exact Lg.le_trans hle3 hle2
   ·rw[hx2] at hz;injection hz with hz;subst hz;exact hle4
theorem Qhw {F:Nat} (hF3:3≤F): ∀(d:Nat) (i:Nat) (n:Nat) (h:List It) (c:Int),h.length-i≤d→d<n→i<h.length→h.length<1000000000→okH h→HpD h i →
  ∃h',iter (Q9 F) n (h,c,(i:Int))=some ⟨h',c⟩∧h'.Perm h∧Hp h':=by
 intro d
 induction d with
 | zero=>intro i n h c hd _ hl;omega
 | succ d ih =>
  intro i n h c hd hn hl hb ho hh;obtain ⟨n,rfl⟩: ∃f,n=f+1:=⟨n-1,by omega⟩
  obtain ⟨m,x,h1,h2,h3,h4⟩:=Qhx (c:=c) hF3 hb hl ho;have hml:=QF h3;have hy:h[i]? =some h[i]:=List.getElem?_eq_getElem hl
  generalize h[i]=y at hy
  by_cases hmi:m=i
  ·subst hmi;refine ⟨h,?_,.refl _,hh.stop h3 h4⟩
   rw[iter]
   simp only[Q9,oun,h1,Option.bind_some,decide_true,cond_true,QT]
  ·have hpm:=QdA hl hml;obtain ⟨h',g1,g2,g3⟩:=ih m n (swp h i m) c (by rw[Wr];omega) (by omega) (by rw[Wr];exact hml) (by rw[Wr];exact hb) (ho.perm hpm) (hh.step hml (by omega) h3 hy h4);refine ⟨h',?_,g2.trans hpm,g3⟩
   rw[iter]
   simp only[Q9,oun,h1,Option.bind_some]
   rw[show decide (((m:Nat):Int)=((i:Nat):Int))=false by simp only[decide_eq_false_iff_not];omega]
   simp only[cond_false]
   rw[QeW (q:=⟨h,c⟩) hl hml]
   simp only[Option.bind_some,QT]
   exact g1
theorem Qgw {F:Nat} (hF:3≤F) (c:Int):Yb F ⟨[],c⟩=some ⟨[],c⟩:=by
 obtain ⟨F,rfl⟩: ∃f,F=f+3:=⟨F-3,by omega⟩
 unfold Yb
 rw[iter]
 simp only[Q9,oun]
 rw[iter]
 rfl
theorem QiM (F:Nat) (q:Qu) (h:q.heap=[]):Yi F q=some (⟨0,⟨0,0⟩⟩,false,q):=by
 unfold Yi YQ Y0
 rw[h]
 rfl
theorem Qjk {F:Nat} {q:Qu} (hF:q.heap.length+3≤F) (hb:q.heap.length<1000000000) (ho:okH q.heap) (hh:Hp q.heap) (hne:q.heap≠[]) :
  ∃(x:It) (q':Qu),Yi F q=some (x.value,true,q')∧(x::q'.heap).Perm q.heap∧Hp q'.heap∧ ∀y∈q.heap,kle x y:=by
 have hpos:0<q.heap.length:=List.length_pos_iff.2 hne;have hx:q.heap[0]? =some q.heap[0]:=List.getElem?_eq_getElem hpos
 generalize q.heap[0]=x at hx
 have hmin: ∀y∈q.heap,kle x y:=fun y hy=>by
  obtain ⟨k,hk⟩:=List.getElem?_of_mem hy;exact hh.root hx k y hk
 have hx':QM q.heap 0=some x:=by simpa [QM] using hx
 have e0:w64 (((q.heap.length:Nat):Int)-1)=((q.heap.length-1:Nat):Int):=by rw[Ye (by omega) (by omega)];omega
 have hlast:q.heap.length-1<q.heap.length:=by omega
 obtain ⟨s,hs⟩: ∃s,swp q.heap 0 (q.heap.length-1)=s:=⟨_,rfl⟩
 have hsl:s.length=q.heap.length:=by rw[←hs,Wr]
 have hsp:s.Perm q.heap:=by rw[←hs];exact QdA hpos hlast
 have hsx:s[q.heap.length-1]? =some x:=by rw[←hs,V8 hpos hlast,if_pos rfl];exact hx
 have htake:s=s.take (q.heap.length-1)++[x]:=by
  conv=>lhs;rw[←List.take_append_drop (q.heap.length-1) s]
  congr 1
  rw[List.drop_eq_getElem_cons (by omega)]
  rw[List.getElem?_eq_getElem (by omega)] at hsx
  injection hsx with hsx
  rw[hsx,List.drop_of_length_le (by omega)]
 have hperm:(x::s.take (q.heap.length-1)).Perm q.heap:=by
  refine List.Perm.trans ?_ hsp
  conv=>rhs;rw[htake]
  exact (List.perm_append_comm (l₁:=[x]) (l₂:=s.take (q.heap.length-1)))
 have hclr: ∀z:It,Jw (Qc7 s ((q.heap.length-1:Nat):Int) z) 0 ((q.heap.length-1:Nat):Int)=some (s.take (q.heap.length-1)):=by
  intro z
  rw[Wq (by rw[Qcr];omega)]
  unfold Qc7
  rw[Int.toNat_natCast,List.take_append_of_le_length (by simp;omega),List.take_take,Nat.min_self]
 have hsub: ∃l,Jw s ((q.heap.length-1:Nat):Int) ((s.length:Nat):Int)=some l:=by
  unfold Jw;exact ⟨_,if_pos ⟨by omega,by omega,by omega⟩⟩
 obtain ⟨l,hl⟩:=hsub;have hsw:=QeW (q:=q) hpos hlast
 rw[hs] at hsw
 have main: ∃h',Yb F ⟨s.take (q.heap.length-1),q.count⟩=some ⟨h',q.count⟩∧h'.Perm (s.take (q.heap.length-1))∧Hp h':=by
  by_cases h1:q.heap.length=1
  ·rw[show s.take (q.heap.length-1)=[] by rw[h1];rfl]
   exact ⟨[],Qgw (by omega) _,.refl _,fun k a b _ ha=>by simp at ha⟩
  ·have htl:(s.take (q.heap.length-1)).length=q.heap.length-1:=by rw[List.length_take];omega
   have ho2:okH (s.take (q.heap.length-1)):=fun y hy=>ho y (hperm.mem_iff.1 (List.mem_cons_of_mem _ hy));obtain ⟨h',g1,g2,g3⟩:=Qhw (F:=F) (by omega) (q.heap.length) 0 F (s.take (q.heap.length-1)) q.count (by omega) (by omega) (by omega) (by omega) ho2 ⟨fun k a b hk hkp ha hb=>by
    have hk2:=QF ha
    rw[htl] at hk2
    rw[List.getElem?_take,if_pos hk2,←hs,V8 hpos hlast,if_neg (by omega),if_neg (by omega)] at ha
    rw[List.getElem?_take,if_pos (by omega),←hs,V8 hpos hlast,if_neg (by omega),if_neg (by omega)] at hb
    exact hh k a b hk ha hb,fun _ _ _ h0=>by omega⟩
   refine ⟨h',?_,g2,g3⟩;unfold Yb
   rw[show (0:Int)=((0:Nat):Int) from rfl,g1]
   rfl
 obtain ⟨h',g1,g2,g3⟩:=main;refine ⟨x,⟨h',q.count⟩,?_,(List.Perm.cons x g2).trans hperm,g3,hmin⟩;unfold Yi YQ Y0
 simp only[Option.bind_some]
 rw[show decide (((q.heap.length:Nat):Int)=0)=false by simp only[decide_eq_false_iff_not];omega]
 simp only[cond_false,hx',Option.bind_some,oun,Bool.not_true,e0]
 rw[show (0:Int)=((0:Nat):Int) from rfl,hsw]
 simp only[Option.bind_some,hl]
 rw[show ((0:Nat):Int)=(0:Int) from rfl,hclr]
 simp only[Option.bind_some,g1]
end Go.Proofs.Ytilbengnjgglhaa
namespace Go.Proofs.Ytilbengnjgglhaa
open Go.RowKit
set_option linter.unusedSimpArgs false
set_option linter.unusedVariables false
abbrev Ed:=QB
abbrev Rd_:=Qq
structure OkR (r:Rd_):Prop where
 n1:1≤r.Nodes
 n2:r.Nodes≤64
 el:r.Edges.length≤512
 ed: ∀x∈r.Edges,JS r x
theorem OkR.of {r:Rd_} (h:Vm r=0):OkR r:=let ⟨a,b,c,d⟩:=Qdx h;⟨a,b,c,d⟩
def Zl (l:Lg) (x:Ed):Lg:=⟨l.Secs+x.Secs,l.Meters+x.Meters⟩
theorem QiW {l:Lg} {x:Ed} (h:1≤x.Secs):Lg.lt l (Zl l x):=by unfold Lg.lt Zl;simp only[];omega
theorem QbX {a b:Lg} {x:Ed} (h:Lg.le a b):Lg.le (Zl a x) (Zl b x):=by unfold Lg.le Zl at *;simp only[];omega
theorem Lg.lt_irrefl {a:Lg}: ¬Lg.lt a a:=by unfold Lg.lt;omega
theorem Lg.lt_of_lt_le {a b c:Lg} (h:Lg.lt a b) (h2:Lg.le b c):Lg.lt a c:=by unfold Lg.lt Lg.le at *;omega
theorem Lg.lt_of_le_lt {a b c:Lg} (h:Lg.le a b) (h2:Lg.lt b c):Lg.lt a c:=by unfold Lg.lt Lg.le at *;omega
theorem Lg.lt_of_le_ne {a b:Lg} (h:Lg.le a b) (h2:a≠b):Lg.lt a b:=by
 cases a;cases b;unfold Lg.lt Lg.le at *
 simp only[ne_eq,Qd.mk.injEq] at *
 omega
theorem Lg.antisymm {a b:Lg} (h:Lg.le a b) (h2:Lg.le b a):a=b:=by
 cases a;cases b;unfold Lg.le at *
 simp only[Qd.mk.injEq] at *
 omega
inductive Wk (r:Rd_) (s:Int):Nat→Int→Lg→Prop
 | nil:Wk r s 0 s ⟨0,0⟩
 | cons {k:Nat} {a:Int} {l:Lg} {x:Ed} (h:Wk r s k a l) (hx:x∈r.Edges) (ha:x.From=a):Wk r s (k+1) x.To (Zl l x)
theorem Wk.bound {r:Rd_} {s:Int} (hr:OkR r): ∀{k:Nat} {n:Int} {l:Lg},Wk r s k n l→0≤l.Secs∧l.Secs≤k*100000∧0≤l.Meters∧l.Meters≤k*100000
 | _,_,_,.nil=>by simp
 | _,_,_,.cons h hx ha=>by
  have h1:=h.bound hr;have h2:=hr.ed _ hx;unfold JS at h2;unfold Zl
  simp only[]
  omega
theorem Wk.node {r:Rd_} {s:Int} (hr:OkR r) (hs:0≤s∧s<r.Nodes): ∀{k:Nat} {n:Int} {l:Lg},Wk r s k n l→0≤n∧n<r.Nodes
 | _,_,_,.nil=>hs
 | _,_,_,.cons h hx ha=>by
  have h2:=hr.ed _ hx;unfold JS at h2
  omega
def lab (out:List Lg) (n:Int):Lg:=(QM out n).getD noL
theorem Ww {out:List Lg} {n:Int} (h0:0≤n) (h1:n<(out.length:Nat)):QM out n=some (lab out n):=by
 obtain ⟨x,hx⟩:=QgM h0 h1;unfold lab
 rw[hx];rfl
theorem QaR {out:List Lg} {b n:Int} {l:Lg} (h0:0≤b) (h1:b<(out.length:Nat)) (hn:0≤n):lab (Zw out b l) n=if n=b then l else lab out n:=by
 unfold lab Zw QM
 simp only[hn,if_true]
 rw[List.getElem?_set]
 by_cases h:n=b
 ·subst h
  simp only[if_true]
  rw[if_pos (by omega)];rfl
 ·rw[if_neg h,if_neg (by omega)]
theorem QbR (out:List Lg) (b:Int) (l:Lg):(Zw out b l).length=out.length:=by simp[Zw]
structure Dj (r:Rd_) (s:Int) (M:Nat) (S:List Int) (W:Nat) (b:Lg) (cur:Int) (j:Nat) (out:List Lg) (h:List It):Prop where
 len:((out.length:Nat):Int)=r.Nodes
 hp:Hp h
 lenh:h.length≤M
 it: ∀y∈h,0≤y.value.node∧y.value.node<r.Nodes∧Lg.le b y.value.leg∧0≤(lab out y.value.node).Secs∧Lg.le (lab out y.value.node) y.value.leg
 nd:(h.map fun y=>(y.value.node,y.value.leg)).Nodup
 lb: ∀n,0≤n→n<r.Nodes→lab out n=noL∨ ∃k,k≤W∧Wk r s k n (lab out n)
 src:lab out s=⟨0,0⟩
 pend: ∀n,0≤n→n<r.Nodes→n∉S→lab out n≠noL→ ∃y∈h,y.value.node=n∧y.value.leg=lab out n
 sn:S.Nodup
 sr: ∀n∈S,0≤n∧n<r.Nodes
 dn: ∀n∈S,0≤(lab out n).Secs∧Lg.le (lab out n) b
 st: ∀y∈h,y.value.node∈S→Lg.lt (lab out y.value.node) y.value.leg
 bs:0≤b.Secs
 edge: ∀n∈S,∀x∈(if n=cur then r.Edges.take j else r.Edges),x.From=n→0≤(lab out x.To).Secs∧Lg.le (lab out x.To) (Zl (lab out n) x)
theorem Dj.okH {r:Rd_} {s:Int} {M:Nat} {S:List Int} {W:Nat} {b:Lg} {cur:Int} {j:Nat} {out:List Lg} {h:List It} (d:Dj r s M S W b cur j out h):okH h:=fun y hy=>by
 have h1:=d.it y hy;have h2:=d.bs;unfold okI;have h3:=h1.2.2.1;unfold Lg.le at h3
 omega
theorem Qb9 {l:Lg} (h:0≤l.Secs):l≠noL:=by intro e;rw[e] at h;exact absurd h (by decide)
theorem QaX {r:Rd_} {s:Int} {W:Nat} (hr:OkR r) {l:Lg} {n:Int} (h:l=noL∨ ∃k,k≤W∧Wk r s k n l) (hne:l≠noL): ∃k,k≤W∧Wk r s k n l∧0≤l.Secs:=by
 rcases h with h | ⟨k,h1,h2⟩
 ·exact absurd h hne
 ·exact ⟨k,h1,h2,(h2.bound hr).1⟩
theorem VA {α:Type} {l:List α} {j:Nat} {x y:α} (hx:l[j]? =some x) (hy:y∈l.take (j+1)):y∈l.take j∨y=x:=by
 rw[V9 hx] at hy
 rcases List.mem_append.1 hy with h | h
 ·exact .inl h
 ·exact .inr (List.mem_singleton.1 h)
theorem Dj.skip {r:Rd_} {s:Int} {M:Nat} {S:List Int} {W:Nat} {b:Lg} {cur:Int} {j:Nat} {out:List Lg} {h:List It} {x:Ed} (d:Dj r s M S W b cur j out h) (hx:r.Edges[j]? =some x)
  (hc:x.From=cur→0≤(lab out x.To).Secs∧Lg.le (lab out x.To) (Zl (lab out cur) x)):Dj r s (M+1) S W b cur (j+1) out h:=by
 refine { d with lenh:=by have:=d.lenh;omega,edge:=fun n hn y hy hf=> ?_ }
 by_cases hnc:n=cur
 ·rw[if_pos hnc] at hy
  rcases VA hx hy with h1 | h1
  ·exact d.edge n hn y (by rw[if_pos hnc];exact h1) hf
  ·subst h1
   rw[hnc]
   exact hc (by rw[hf,hnc])
 ·rw[if_neg hnc] at hy
  exact d.edge n hn y (by rw[if_neg hnc];exact hy) hf
theorem Dj.take {r:Rd_} {s:Int} {M:Nat} {S:List Int} {W:Nat} {b:Lg} {cur:Int} {j:Nat} {out:List Lg} {h h':List It} {x:Ed} {c:Int} (hr:OkR r) (hs:0≤s∧s<r.Nodes) (d:Dj r s M S W b cur j out h) (hx:r.Edges[j]? =some x)
  (hcur:lab out cur=b) (hcs:cur∈S) (hf:x.From=cur) (hk: ∃k,k+1≤W∧Wk r s k cur (lab out cur)) (hb:lab out x.To=noL∨Lg.lt (Zl b x) (lab out x.To))
  (hp:h'.Perm (h++[⟨⟨x.To,Zl b x⟩,c⟩])) (hh:Hp h'):Dj r s (M+1) S W b cur (j+1) (Zw out x.To (Zl b x)) h':=by
 have hok:=hr.ed x (List.mem_of_getElem? hx);unfold JS at hok;have hlen:=d.len;have hto0:0≤x.To:=by omega
 have hto1:x.To<((out.length:Nat):Int):=by omega
 have hbx:Lg.lt b (Zl b x):=QiW (by omega);have hset: ∀n,0≤n→lab (Zw out x.To (Zl b x)) n=if n=x.To then Zl b x else lab out n:=fun n hn=>QaR hto0 hto1 hn
 have hself:lab (Zw out x.To (Zl b x)) x.To=Zl b x:=by rw[hset _ hto0,if_pos rfl]
 have hbs:=d.bs;have hxs:0≤(Zl b x).Secs:=by unfold Zl;simp only[];omega
 have hnS:x.To∉S:=fun hm=>by
  have h1:=d.dn _ hm;rcases hb with h2 | h2
  ·rw[h2] at h1;exact absurd h1.1 (by decide)
  ·exact Lg.lt_irrefl (Lg.lt_of_lt_le (Lg.lt_of_lt_le (Lg.lt_of_le_lt h1.2 hbx) (Lg.le_of_lt h2)) (Lg.le_refl _))
 have hne: ∀n∈S,n≠x.To:=fun n hn e=>hnS (e▸hn);have hold: ∀n∈S,lab (Zw out x.To (Zl b x)) n=lab out n:=fun n hn=>by rw[hset _ (d.sr n hn).1,if_neg (hne n hn)]
 have hsrc:s≠x.To:=fun e=>by
  have h1:=d.src
  rw[e] at h1
  rcases hb with h2 | h2
  ·rw[h1] at h2;cases h2
  ·rw[h1] at h2
   unfold Lg.lt Zl at h2
   simp only[] at h2
   omega
 have hmem: ∀y,y∈h'↔y∈h∨y=⟨⟨x.To,Zl b x⟩,c⟩:=fun y=>by rw[hp.mem_iff];simp
 have himp: ∀n,0≤n→0≤(lab out n).Secs→0≤(lab (Zw out x.To (Zl b x)) n).Secs∧Lg.le (lab (Zw out x.To (Zl b x)) n) (lab out n):=fun n hn h0=>by
  rw[hset n hn]
  by_cases h1:n=x.To
  ·subst h1
   rw[if_pos rfl]
   rcases hb with h2 | h2
   ·rw[h2] at h0;exact absurd h0 (by decide)
   ·exact ⟨hxs,Lg.le_of_lt h2⟩
  ·rw[if_neg h1];exact ⟨h0,Lg.le_refl _⟩
 refine { len:=by rw[QbR];exact hlen,hp:=hh,lenh:= ?_,it:= ?_,nd:= ?_,lb:= ?_,src:= ?_,pend:= ?_,sn:=d.sn,sr:=d.sr,dn:= ?_,st:= ?_,bs:=d.bs,edge:= ?_ }
 ·rw[hp.length_eq,List.length_append,List.length_singleton];have:=d.lenh;omega
 ·intro y hy;rcases (hmem y).1 hy with h1 | h1
  ·have h2:=d.it y h1;have h3:=himp _ h2.1 h2.2.2.2.1;exact ⟨h2.1,h2.2.1,h2.2.2.1,h3.1,Lg.le_trans h3.2 h2.2.2.2.2⟩
  ·subst h1
   simp only[]
   rw[hself]
   exact ⟨hto0,by omega,Lg.le_of_lt hbx,hxs,Lg.le_refl _⟩
 ·rw[(hp.map _).nodup_iff,List.map_append,List.nodup_append]
  refine ⟨d.nd,by simp,fun p hp1 q hq=> ?_⟩
  simp only[List.map_cons,List.map_nil,List.mem_singleton] at hq
  subst hq;obtain ⟨y,hy,rfl⟩:=List.mem_map.1 hp1;intro e;injection e with e1 e2
  have h2:=d.it y hy
  rw[e1,e2] at h2
  rcases hb with h3 | h3
  ·rw[h3] at h2;exact absurd h2.2.2.2.1 (by decide)
  ·exact Lg.lt_irrefl (Lg.lt_of_lt_le h3 h2.2.2.2.2)
 ·intro n h0 h1
  rw[hset n h0]
  by_cases h2:n=x.To
  ·subst h2
   rw[if_pos rfl]
   obtain ⟨k,hk1,hk2⟩:=hk;refine .inr ⟨k+1,hk1,?_⟩
   rw[←hcur]
   exact .cons hk2 (List.mem_of_getElem? hx) hf
  ·rw[if_neg h2];exact d.lb n h0 h1
 ·rw[hset s hs.1,if_neg hsrc];exact d.src
 ·intro n h0 h1 h2 h3
  rw[hset n h0] at h3 ⊢
  by_cases h4:n=x.To
  ·rw[if_pos h4]
   exact ⟨_,(hmem _).2 (.inr rfl),h4.symm,rfl⟩
  ·rw[if_neg h4] at h3 ⊢
   obtain ⟨y,hy,h5⟩:=d.pend n h0 h1 h2 h3;exact ⟨y,(hmem y).2 (.inl hy),h5⟩
 ·intro n hn
  rw[hold n hn];exact d.dn n hn
 ·intro y hy hyS;rcases (hmem y).1 hy with h1 | h1
  ·rw[hold _ hyS];exact d.st y h1 hyS
  ·subst h1;exact absurd hyS hnS
 ·intro n hn y hy hfy;have hyE:y∈r.Edges:=by
   split at hy
   ·exact List.mem_of_mem_take hy
   ·exact hy
  have hyok:=hr.ed y hyE;unfold JS at hyok;have h5:(y=x∧n=cur)∨y∈(if n=cur then r.Edges.take j else r.Edges):=by
   by_cases hnc:n=cur
   ·rw[if_pos hnc] at hy ⊢
    rcases VA hx hy with h1 | h1
    ·exact .inr h1
    ·exact .inl ⟨h1,hnc⟩
   ·rw[if_neg hnc] at hy ⊢
    exact .inr hy
  rw[hold n hn]
  rcases h5 with ⟨rfl,rfl⟩ | h5
  ·rw[hself,hcur];exact ⟨hxs,Lg.le_refl _⟩
  ·have h6:=d.edge n hn y h5 hfy;have h7:=himp y.To (by omega) h6.1;exact ⟨h7.1,Lg.le_trans h7.2 h6.2⟩
end Go.Proofs.Ytilbengnjgglhaa
namespace Go.Proofs.Ytilbengnjgglhaa
open Go.RowKit
set_option linter.unusedSimpArgs false
set_option linter.unusedVariables false
variable {r:Rd_} {s:Int}
theorem Qe6 {l:Lg} {x:Ed} (hr:OkR r) (hx:x∈r.Edges) {k:Nat} {n:Int} (hw:Wk r s k n l) (hk:k≤100000):W9 l x=some (Zl l x):=by
 have h1:=hw.bound hr;have h2:=hr.ed x hx;unfold JS at h2;unfold W9 Zl
 rw[Ye (by omega) (by omega),Ye (by omega) (by omega)]
theorem Qgn {F:Nat} {S:List Int} {W:Nat} {b:Lg} {cur:Int} {y:QC} (hr:OkR r) (hs:0≤s∧s<r.Nodes) (hcs:cur∈S) (hyn:y.node=cur) (hyl:y.leg=b) (hW:W≤64) {M0:Nat} (hM:M0+600≤F) (hM2:M0≤100000) :
  ∀(d j:Nat) (out:List Lg) (q:Qu) (n:Nat),r.Edges.length-j=d→j≤r.Edges.length→d<n→lab out cur=b→(∃k,k+1≤W∧Wk r s k cur (lab out cur))→Dj r s (M0+j) S W b cur j out q.heap →
   ∃out' q',iter (Y3 F r y) n (out,q,(j:Int))=some (out',q')∧lab out' cur=b∧Dj r s (M0+r.Edges.length) S W b cur r.Edges.length out' q'.heap:=by
 intro d
 induction d with
 | zero =>
  intro j out q n hd hj hn hl hk hD;obtain ⟨n,rfl⟩: ∃f,n=f+1:=⟨n-1,by omega⟩
  obtain rfl:j=r.Edges.length:=by omega
  refine ⟨out,q,?_,hl,hD⟩
  rw[iter]
  simp only[Y3,oun]
  rw[show decide (((r.Edges.length:Nat):Int)<((r.Edges.length:Nat):Int))=false by simp]
  rfl
 | succ d ih =>
  intro j out q n hd hj hn hl hk hD;obtain ⟨n,rfl⟩: ∃f,n=f+1:=⟨n-1,by omega⟩
  have hjl:j<r.Edges.length:=by omega
  have hx:r.Edges[j]? =some r.Edges[j]:=List.getElem?_eq_getElem hjl
  generalize r.Edges[j]=x at hx
  have hxm:=List.mem_of_getElem? hx;have hok:=hr.ed x hxm;unfold JS at hok;have hel:=hr.el;have hlen:=hD.len;have hto:QM out x.To=some (lab out x.To):=Ww (by omega) (by omega);have step:(∃out1 q1,Y3 F r y (out,q,(j:Int))=some (.inl (out1,q1,((j+1:Nat):Int)))∧lab out1 cur=b∧(∃k,k+1≤W∧Wk r s k cur (lab out1 cur))∧Dj r s (M0+(j+1)) S W b cur (j+1) out1 q1.heap):=by
   simp only[Y3,oun]
   rw[show decide ((j:Int)<((r.Edges.length:Nat):Int))=true by simp;omega]
   simp only[cond_true,Qs,hx,Option.bind_some,WU,hyn,hyl]
   rw[Ji (by omega)]
   by_cases hf:x.From=cur
   ·simp only[hf,decide_true,Bool.not_true,cond_false]
    obtain ⟨k,hk1,hk2⟩:=hk;have hk3:=hk2
    rw[hl] at hk3
    rw[Qe6 hr hxm hk3 (by omega)]
    simp only[Option.bind_some,hto,QdU]
    cases hb:(decide (lab out x.To=noL)||decide (Lg.lt (Zl b x) (lab out x.To))) with
    | true =>
     simp only[cond_true]
     have hb':lab out x.To=noL∨Lg.lt (Zl b x) (lab out x.To):=by simpa using hb
     have hbnd:=hk3.bound hr;have hlh:=hD.lenh;obtain ⟨q1,hq1,hq2,hq3⟩:=QgC (F:=F) (q:=q) ⟨x.To,Zl b x⟩ (by omega) (by omega) hD.okH (by unfold Zl;simp only[];omega) hD.hp
     rw[hq1]
     simp only[Option.bind_some]
     have hD2:=hD.take hr hs hx hl hcs hf ⟨k,hk1,hk2⟩ hb' hq2 hq3;have hne:cur≠x.To:=fun e=>by omega
     have hl2:lab (Zw out x.To (Zl b x)) cur=lab out cur:=by rw[QaR (by omega) (by omega) (hD.sr cur hcs).1,if_neg hne]
     exact ⟨_,q1,rfl,by rw[hl2];exact hl,⟨k,hk1,by rw[hl2];exact hk2⟩,hD2⟩
    | false =>
     simp only[cond_false]
     refine ⟨out,q,rfl,hl,⟨k,hk1,hk2⟩,hD.skip hx fun _=> ?_⟩
     simp only[Bool.or_eq_false_iff,decide_eq_false_iff_not] at hb
     obtain ⟨k2,_,_,h5⟩:=QaX hr (hD.lb x.To (by omega) (by omega)) hb.1
     rw[hl]
     exact ⟨h5,Lg.le_of_not_lt hb.2⟩
   ·simp only[show decide (x.From=cur)=false by simpa using hf,Bool.not_false,cond_true,Option.bind_some]
    exact ⟨out,q,rfl,hl,hk,hD.skip hx fun e=>absurd e hf⟩
  obtain ⟨out1,q1,h1,h2,h3,h4⟩:=step;obtain ⟨out',q',g1,g2,g3⟩:=ih (j+1) out1 q1 n (by omega) (by omega) (by omega) h2 h3 h4;refine ⟨out',q',?_,g2,g3⟩
  rw[iter,h1]
  exact g1
theorem Dj.drop {M:Nat} {S:List Int} {W:Nat} {b:Lg} {cur:Int} {j:Nat} {out:List Lg} {h h':List It} {y:It} (d:Dj r s M S W b cur j out h) (hc:cur∉S) (hp:(y::h').Perm h) (hh:Hp h') (hmin: ∀z∈h,kle y z)
  (hst:lab out y.value.node≠y.value.leg):Dj r s M S W y.value.leg cur j out h':=by
 have hmem: ∀z,z∈h'→z∈h:=fun z hz=>hp.mem_iff.1 (List.mem_cons_of_mem _ hz);have hy:y∈h:=hp.mem_iff.1 List.mem_cons_self;have hby:=(d.it y hy).2.2.1;refine { d with hp:=hh,lenh:= ?_,it:=fun z hz=> ?_,nd:= ?_,pend:=fun n h0 h1 h2 h3=> ?_,dn:=fun n hn=>⟨(d.dn n hn).1,Lg.le_trans (d.dn n hn).2 hby⟩,st:=fun z hz=>d.st z (hmem z hz),bs:= ?_ }
 ·have:=d.lenh;have h2:=hp.length_eq;rw[List.length_cons] at h2;omega
 ·have h2:=d.it z (hmem z hz);exact ⟨h2.1,h2.2.1,hmin z (hmem z hz),h2.2.2.2⟩
 ·have h2:=((hp.map fun y=>(y.value.node,y.value.leg)).nodup_iff).2 d.nd
  rw[List.map_cons,List.nodup_cons] at h2
  exact h2.2
 ·obtain ⟨z,hz,h5,h6⟩:=d.pend n h0 h1 h2 h3;rcases List.mem_cons.1 (hp.mem_iff.2 hz) with h7 | h7
  ·subst h7;exact absurd (by rw[h5];exact h6.symm) hst
  ·exact ⟨z,h7,h5,h6⟩
 ·have:=d.bs;unfold Lg.le at hby;omega
theorem Dj.enter {M:Nat} {S:List Int} {W:Nat} {b:Lg} {out:List Lg} {h h':List It} {y:It} (hr:OkR r) (d:Dj r s M S W b (-1) 0 out h) (hp:(y::h').Perm h) (hh:Hp h') (hmin: ∀z∈h,kle y z)
  (hst:lab out y.value.node=y.value.leg):y.value.node∉S∧Dj r s (M-1) (y.value.node::S) (W+1) y.value.leg y.value.node 0 out h':=by
 have hmem: ∀z,z∈h'→z∈h:=fun z hz=>hp.mem_iff.1 (List.mem_cons_of_mem _ hz);have hy:y∈h:=hp.mem_iff.1 List.mem_cons_self;have hyi:=d.it y hy;have hby:=hyi.2.2.1;have hnS:y.value.node∉S:=fun hm=>by
  have:=d.st y hy hm
  rw[hst] at this
  exact Lg.lt_irrefl this
 have hnd:=((hp.map fun y=>(y.value.node,y.value.leg)).nodup_iff).2 d.nd
 rw[List.map_cons,List.nodup_cons] at hnd
 refine ⟨hnS,{ len:=d.len,hp:=hh,lenh:= ?_,it:=fun z hz=> ?_,nd:=hnd.2,lb:=fun n h0 h1=> ?_,src:=d.src,pend:=fun n h0 h1 h2 h3=> ?_,sn:=List.nodup_cons.2 ⟨hnS,d.sn⟩,sr:=fun n hn=> ?_,dn:=fun n hn=> ?_,st:=fun z hz hzS=> ?_,bs:= ?_,edge:=fun n hn x hx hf=> ?_ }⟩
 ·have:=d.lenh;have h2:=hp.length_eq;rw[List.length_cons] at h2;omega
 ·have h2:=d.it z (hmem z hz);exact ⟨h2.1,h2.2.1,hmin z (hmem z hz),h2.2.2.2⟩
 ·rcases d.lb n h0 h1 with h2 | ⟨k,h2,h3⟩
  ·exact .inl h2
  ·exact .inr ⟨k,by omega,h3⟩
 ·obtain ⟨z,hz,h5,h6⟩:=d.pend n h0 h1 (fun e=>h2 (List.mem_cons_of_mem _ e)) h3;rcases List.mem_cons.1 (hp.mem_iff.2 hz) with h7 | h7
  ·subst h7;exact absurd (by rw[←h5];exact List.mem_cons_self) h2
  ·exact ⟨z,h7,h5,h6⟩
 ·rcases List.mem_cons.1 hn with h1 | h1
  ·subst h1;exact ⟨hyi.1,hyi.2.1⟩
  ·exact d.sr n h1
 ·rcases List.mem_cons.1 hn with h1 | h1
  ·subst h1;exact ⟨hyi.2.2.2.1,by rw[hst];exact Lg.le_refl _⟩
  ·exact ⟨(d.dn n h1).1,Lg.le_trans (d.dn n h1).2 hby⟩
 ·rcases List.mem_cons.1 hzS with h1 | h1
  ·have h2:=(d.it z (hmem z hz)).2.2.2.2;refine Lg.lt_of_le_ne h2 fun e=>hnd.1 ?_
   rw[h1,hst] at e
   exact List.mem_map.2 ⟨z,hz,by rw[h1,←e]⟩
  ·exact d.st z (hmem z hz) h1
 ·have:=d.bs;unfold Lg.le at hby;omega
 ·rcases List.mem_cons.1 hn with h1 | h1
  ·subst h1
   rw[if_pos rfl] at hx
   simp at hx
  ·have hne:n≠y.value.node:=fun e=>hnS (e▸h1)
   rw[if_neg hne] at hx
   refine d.edge n h1 x ?_ hf
   rw[if_neg (by have:=(d.sr n h1).1;omega)]
   exact hx
theorem Dj.leave {M:Nat} {S:List Int} {W:Nat} {b:Lg} {cur:Int} {out:List Lg} {h:List It} (d:Dj r s M S W b cur r.Edges.length out h):Dj r s M S W b (-1) 0 out h:=by
 refine { d with edge:=fun n hn x hx hf=>d.edge n hn x ?_ hf }
 rw[if_neg (by have:=(d.sr n hn).1;omega)] at hx
 split
 ·rw[List.take_length];exact hx
 ·exact hx
theorem Qje {S:List Int} (hr:OkR r) (h1:S.Nodup) (h2: ∀n∈S,0≤n∧n<r.Nodes):S.length≤64:=by
 have:=Vs (m:=(List.range 64).map fun k:Nat=>(k:Int)) h1 fun n hn=>by
  have h3:=h2 n hn;have h4:=hr.n2;exact List.mem_map.2 ⟨n.toNat,List.mem_range.2 (by omega),by omega⟩
 simpa using this
theorem QfL {F:Nat} (hF:40000≤F) (hr:OkR r) (hs:0≤s∧s<r.Nodes): ∀(m:Nat) (n:Nat) (S:List Int) (b:Lg) (out:List Lg) (q:Qu),514*(64-S.length)+q.heap.length≤m→m<n→Dj r s (1+512*S.length) S S.length b (-1) 0 out q.heap →
  ∃out',iter (Y4 F r) n (out,q)=some out'∧ ∃S' b',Dj r s (1+512*S'.length) S' S'.length b' (-1) 0 out' []:=by
 intro m
 induction m using Nat.strongRecOn with
 | ind m ih =>
  intro n S b out q hm hn hD;obtain ⟨n,rfl⟩: ∃f,n=f+1:=⟨n-1,by omega⟩
  have hS:=Qje hr hD.sn hD.sr;have hlh:=hD.lenh
  by_cases hq:q.heap=[]
  ·refine ⟨out,?_,S,b,by rw[←hq];exact hD⟩
   rw[iter]
   simp only[Y4,oun]
   rw[QiM F q hq]
   rfl
  ·obtain ⟨y,q',h1,h2,h3,h4⟩:=Qjk (F:=F) (q:=q) (by omega) (by omega) hD.okH hD.hp hq;have hy:y∈q.heap:=h2.mem_iff.1 List.mem_cons_self;have hyi:=hD.it y hy;have hlen:=hD.len;have hql:=h2.length_eq
   rw[List.length_cons] at hql
   have hget:QM out y.value.node=some (lab out y.value.node):=Ww hyi.1 (by omega)
   by_cases hst:lab out y.value.node=y.value.leg
   ·obtain ⟨hnS,hE⟩:=hD.enter hr h2 h3 h4 hst;have hS2:=Qje hr hE.sn hE.sr
    rw[List.length_cons] at hS2
    obtain ⟨k,hk1,hk2⟩: ∃k,k+1≤S.length+1∧Wk r s k y.value.node (lab out y.value.node):=by
     obtain ⟨k,h5,h6,_⟩:=QaX hr (hD.lb _ hyi.1 hyi.2.1) (Qb9 hyi.2.2.2.1);exact ⟨k,by omega,h6⟩
    have hE':Dj r s (q'.heap.length+0) (y.value.node::S) (S.length+1) y.value.leg y.value.node 0 out q'.heap:={ hE with lenh:=Nat.le_refl _ }
    obtain ⟨out',q2,g1,g2,g3⟩:=Qgn (F:=F) (y:=y.value) (M0:=q'.heap.length) hr hs List.mem_cons_self rfl rfl (by omega) (by omega) (by omega) r.Edges.length 0 out q' (((r.Edges.length:Nat):Int).toNat+1) (by omega) (by omega) (by omega) hst ⟨k,hk1,hk2⟩ hE';have hel:=hr.el;have g6:=g3.lenh;have g5:Dj r s (1+512*(y.value.node::S).length) (y.value.node::S) (y.value.node::S).length y.value.leg (-1) 0 out' q2.heap:=by
     refine { g3.leave with lenh:= ?_ }
     rw[List.length_cons]
     omega
    obtain ⟨out2,k1,k2⟩:=ih (514*(64-(y.value.node::S).length)+q2.heap.length) (by rw[List.length_cons];omega) n (y.value.node::S) y.value.leg out' q2 (Nat.le_refl _) (by rw[List.length_cons];omega) g5;refine ⟨out2,?_,k2⟩
    rw[iter]
    simp only[Y4,oun,h1,Option.bind_some,Bool.not_true,cond_false,hget,hst,decide_true]
    rw[show (0:Int)=((0:Nat):Int) from rfl,g1]
    exact k1
   ·have hE:=hD.drop (by intro hm;have:=hD.sr _ hm;omega) h2 h3 h4 hst;obtain ⟨out',k1,k2⟩:=ih (514*(64-S.length)+q'.heap.length) (by omega) n S y.value.leg out q' (Nat.le_refl _) (by omega) hE;refine ⟨out',?_,k2⟩
    rw[iter]
    simp only[Y4,oun,h1,Option.bind_some,Bool.not_true,cond_false,hget]
    rw[show decide (lab out y.value.node=y.value.leg)=false by simpa using hst]
    simp only[Bool.not_false,cond_true,Option.bind_some,QT]
    exact k1
structure IsL (r:Rd_) (s:Int) (out:List Lg):Prop where
 len:((out.length:Nat):Int)=r.Nodes
 lb: ∀n,0≤n→n<r.Nodes→lab out n=noL∨ ∃k,k≤out.length∧Wk r s k n (lab out n)
 best: ∀k n l,Wk r s k n l→0≤(lab out n).Secs∧Lg.le (lab out n) l
theorem Dj.legs {S:List Int} {b:Lg} {out:List Lg} {M:Nat} (hr:OkR r) (hs:0≤s∧s<r.Nodes) (d:Dj r s M S S.length b (-1) 0 out []):IsL r s out:=by
 have hlen:=d.len;have hS:S.length≤out.length:=by
  have:=Vs (m:=(List.range out.length).map fun k:Nat=>(k:Int)) d.sn fun n hn=>by
   have h3:=d.sr n hn;exact List.mem_map.2 ⟨n.toNat,List.mem_range.2 (by omega),by omega⟩
  simpa using this
 refine ⟨hlen,fun n h0 h1=> ?_,fun k n l hw=> ?_⟩
 ·rcases d.lb n h0 h1 with h2 | ⟨k,h2,h3⟩
  ·exact .inl h2
  ·exact .inr ⟨k,by omega,h3⟩
 ·have hin: ∀n,0≤n→n<r.Nodes→0≤(lab out n).Secs→n∈S:=fun n h0 h1 h2=>by
   by_cases h3:n∈S
   ·exact h3
   ·obtain ⟨y,hy,_⟩:=d.pend n h0 h1 h3 (Qb9 h2);cases hy
  induction hw with
  | nil=>rw[d.src];exact ⟨Int.le_refl _,Lg.le_refl _⟩
  | cons h hx ha ih =>
   rename_i k a l x
   have hnode:=h.node hr hs;have hS:=hin a hnode.1 hnode.2 ih.1;have h2:=d.edge a hS x (by rw[if_neg (by omega)];exact hx) ha;exact ⟨h2.1,Lg.le_trans h2.2 (QbX ih.2)⟩
theorem QeF {n:Nat} {i:Int}:lab (List.replicate n noL) i=noL:=by
 unfold lab QM
 split
 ·rw[List.getElem?_replicate];split<;>rfl
 ·rfl
theorem QeH {a b:List Lg} (h:a.length=b.length) (h2: ∀n:Nat,n<a.length→lab a n=lab b n):a=b:=by
 apply List.ext_getElem?;intro i;rcases Nat.lt_or_ge i a.length with hi | hi
 ·have h3:=h2 i hi;have h4:=Ww (out:=a) (n:=(i:Int)) (by omega) (by omega);have h5:=Ww (out:=b) (n:=(i:Int)) (by omega) (by omega)
  rw[Qs] at h4 h5
  rw[h4,h5,h3]
 ·rw[List.getElem?_eq_none hi,List.getElem?_eq_none (by omega)]
theorem IsL.unique {a b:List Lg} (hr:OkR r) (ha:IsL r s a) (hb:IsL r s b):a=b:=by
 have h1:=ha.len;have h2:=hb.len;refine QeH (by omega) fun n hn=> ?_;rcases ha.lb n (by omega) (by omega) with h3 | ⟨k,_,h3⟩<;>rcases hb.lb n (by omega) (by omega) with h4 | ⟨k',_,h4⟩
 ·rw[h3,h4]
 ·have h5:=ha.best _ _ _ h4
  rw[h3] at h5;exact absurd h5.1 (by decide)
 ·have h5:=hb.best _ _ _ h3
  rw[h4] at h5;exact absurd h5.1 (by decide)
 ·exact Lg.antisymm (ha.best _ _ _ h4).2 (hb.best _ _ _ h3).2
theorem Qem {F:Nat} (hF:40000≤F) (hr:OkR r) (hs:0≤s∧s<r.Nodes): ∃out,Ja F r s=some out∧IsL r s out:=by
 have h1:=hr.n1;have h2:=hr.n2;have hmk:WL (⟨0,0⟩:Lg) r.Nodes=some (List.replicate r.Nodes.toNat ⟨0,0⟩):=by
  unfold WL
  rw[if_pos (by omega)]
 have hl1:iter (Y2 (List.replicate r.Nodes.toNat ⟨0,0⟩)) ((((List.replicate r.Nodes.toNat (⟨0,0⟩:Lg)).length:Nat):Int).toNat+1) (List.replicate r.Nodes.toNat ⟨0,0⟩,0)=some (List.replicate r.Nodes.toNat noL):=by
  have hN:r.Nodes.toNat≤64:=by omega
  generalize r.Nodes.toNat=N at *
  have:=QbJ (body:=Y2 (List.replicate N ⟨0,0⟩)) (List.replicate N (⟨0,0⟩:Lg)) (fun k=>List.replicate k noL++List.replicate (N-k) (⟨0,0⟩:Lg)) (fun m k=>(m,k)) (fun _ _=>none) (List.replicate N noL) (by simp;omega) (fun k x hx _=> ?_) (fun _=>by simp[Y2,oun]) ((((List.replicate N (⟨0,0⟩:Lg)).length:Nat):Int).toNat+1) (by simp)
  ·rw[Jn _ _ (fun _ _ _=>rfl)] at this
   simpa using this
  ·have hk:=QF hx;have hk2:((k:Int)<(((List.replicate N (⟨0,0⟩:Lg)).length:Nat):Int)):=by omega
   rw[List.length_replicate] at hk
   simp only[Y2,oun,hk2,decide_true,cond_true,W1,Option.bind_some]
   obtain ⟨z,hz⟩: ∃z,QM (List.replicate k noL++List.replicate (N-k) (⟨0,0⟩:Lg)) (k:Int)=some z:=QgM (by omega) (by simp;omega)
   rw[hz]
   simp only[Option.bind_some,Qds]
   congr 3
   unfold Zw
   rw[Int.toNat_natCast,show N-k=(N-(k+1))+1 by omega,List.replicate_succ,List.set_append_right _ _ (by simp),List.length_replicate,Nat.sub_self,List.set_cons_zero,List.replicate_succ',List.append_assoc]
   rfl
 have hlenR:((((List.replicate r.Nodes.toNat noL).length:Nat)):Int)=r.Nodes:=by simp;omega
 obtain ⟨q,hq1,hq2,hq3⟩:=QgC (F:=F) (q:=⟨[],0⟩) ⟨s,⟨0,0⟩⟩ (by simp;omega) (by simp) (by intro y hy;cases hy) (Int.le_refl _) (by intro k a b _ ha;simp at ha);have hset: ∀n,0≤n→lab (Zw (List.replicate r.Nodes.toNat noL) s ⟨0,0⟩) n=if n=s then ⟨0,0⟩ else noL:=fun n hn=>by
  rw[QaR hs.1 (by omega) hn,QeF]
 have hmem: ∀y,y∈q.heap↔y=⟨⟨s,⟨0,0⟩⟩,0⟩:=fun y=>by rw[hq2.mem_iff];simp
 have hD:Dj r s (1+512*([]:List Int).length) [] ([]:List Int).length ⟨0,0⟩ (-1) 0 (Zw (List.replicate r.Nodes.toNat noL) s ⟨0,0⟩) q.heap:=by
  refine { len:=by rw[QbR];exact hlenR,hp:=hq3,lenh:=by rw[hq2.length_eq];simp,it:=fun y hy=> ?_,nd:= ?_,lb:=fun n h0 h3=> ?_,src:=by rw[hset s hs.1,if_pos rfl],pend:=fun n h0 h3 h4 h5=> ?_,sn:=List.nodup_nil,sr:=(fun n hn=>by cases hn),dn:=(fun n hn=>by cases hn),st:=(fun y hy h=>by cases h),bs:=Int.le_refl _,edge:=(fun n hn=>by cases hn) }
  ·rw[(hmem y).1 hy]
   simp only[]
   rw[hset s hs.1,if_pos rfl]
   exact ⟨hs.1,hs.2,Lg.le_refl _,Int.le_refl _,Lg.le_refl _⟩
  ·rw[(hq2.map _).nodup_iff];simp
  ·rw[hset n h0]
   by_cases h4:n=s
   ·rw[if_pos h4,h4];exact .inr ⟨0,Nat.le_refl _,.nil⟩
   ·rw[if_neg h4];exact .inl rfl
  ·rw[hset n h0] at h5 ⊢
   by_cases h6:n=s
   ·rw[if_pos h6];exact ⟨_,(hmem _).2 rfl,h6.symm,rfl⟩
   ·rw[if_neg h6] at h5;exact absurd rfl h5
 obtain ⟨out,k1,S',b',k2⟩:=QfL hF hr hs (514*64+q.heap.length) F [] ⟨0,0⟩ _ q (by simp) (by rw[hq2.length_eq];simp;omega) hD;refine ⟨out,?_,k2.legs hr hs⟩;unfold Ja
 rw[hmk]
 simp only[Option.bind_some]
 rw[hl1]
 simp only[Option.bind_some,ZO]
 rw[Ww hs.1 (by omega)]
 simp only[Option.bind_some]
 rw[hq1]
 simp only[Option.bind_some,k1]
end Go.Proofs.Ytilbengnjgglhaa
namespace Go.Proofs.Ytilbengnjgglhaa
open Go.RowKit
set_option linter.unusedSimpArgs false
set_option linter.unusedVariables false
variable {r:Rd_} {s:Int}
structure Bf (r:Rd_) (s:Int) (t k:Nat) (out:List Lg):Prop where
 len:((out.length:Nat):Int)=r.Nodes
 lb: ∀n,0≤n→n<r.Nodes→lab out n=noL∨ ∃k,k≤t∧Wk r s k n (lab out n)
 best: ∀j n l,j≤k→Wk r s j n l→0≤(lab out n).Secs∧Lg.le (lab out n) l
theorem Qgh {a b:Lg} (h:0≤a.Secs):Zy a b=some (decide (b.Secs<0)||decide (Lg.lt a b)):=by
 unfold Zy
 by_cases h1:b.Secs<0
 ·simp[h1,h]
 ·by_cases h2:a.Secs<b.Secs
  ·simp[h1,h2,Lg.lt,show ¬a.Secs<0 by omega]
  ·by_cases h3:a.Secs=b.Secs
   ·simp[h1,h2,h3,Lg.lt,show ¬b.Secs<0 by omega]
   ·simp[h1,h2,h3,Lg.lt,show ¬a.Secs<0 by omega]
theorem Bf.better {t k:Nat} {out:List Lg} {b:Int} {l:Lg} (d:Bf r s t k out) (h0:0≤b) (h1:b<r.Nodes) (hw: ∃j,j≤t+1∧Wk r s j b l) (hl:0≤l.Secs) (hb:(lab out b).Secs<0∨Lg.lt l (lab out b)) :
  Bf r s (t+1) k (Zw out b l)∧ ∀n,0≤n→0≤(lab out n).Secs→0≤(lab (Zw out b l) n).Secs∧Lg.le (lab (Zw out b l) n) (lab out n):=by
 have hlen:=d.len;have hset: ∀n,0≤n→lab (Zw out b l) n=if n=b then l else lab out n:=fun n hn=>QaR h0 (by omega) hn
 have himp: ∀n,0≤n→0≤(lab out n).Secs→0≤(lab (Zw out b l) n).Secs∧Lg.le (lab (Zw out b l) n) (lab out n):=fun n hn h2=>by
  rw[hset n hn]
  by_cases h3:n=b
  ·subst h3
   rw[if_pos rfl]
   rcases hb with h4 | h4
   ·omega
   ·exact ⟨hl,Lg.le_of_lt h4⟩
  ·rw[if_neg h3];exact ⟨h2,Lg.le_refl _⟩
 refine ⟨⟨by rw[QbR];exact hlen,fun n hn hn2=> ?_,fun j n l' hj hw'=> ?_⟩,himp⟩
 ·rw[hset n hn]
  by_cases h3:n=b
  ·subst h3;rw[if_pos rfl];exact .inr hw
  ·rw[if_neg h3]
   rcases d.lb n hn hn2 with h4 | ⟨j,h4,h5⟩
   ·exact .inl h4
   ·exact .inr ⟨j,by omega,h5⟩
 ·have h2:=d.best j n l' hj hw'
  by_cases hn:0≤n
  ·have h3:=himp n hn h2.1;exact ⟨h3.1,Lg.le_trans h3.2 h2.2⟩
  ·have:lab out n=noL:=by unfold lab QM;rw[if_neg hn];rfl
   rw[this] at h2
   exact absurd h2.1 (by decide)
theorem Bf.more {t t' k:Nat} {out:List Lg} (d:Bf r s t k out) (h:t≤t'):Bf r s t' k out :=
 ⟨d.len,fun n h0 h1=>by
  rcases d.lb n h0 h1 with h4 | ⟨j,h4,h5⟩
  ·exact .inl h4
  ·exact .inr ⟨j,by omega,h5⟩,d.best⟩
theorem Qgp (hr:OkR r) (hs:0≤s∧s<r.Nodes) {k:Nat}: ∀(d j:Nat) (t:Nat) (out:List Lg) (n:Nat),r.Edges.length-j=d→j≤r.Edges.length→d<n→t+d≤90000→Bf r s t k out →
   (∀x∈r.Edges.take j,∀i l,i≤k→Wk r s i x.From l→0≤(lab out x.To).Secs∧Lg.le (lab out x.To) (Zl l x)) →
   ∃out',iter (YS r) n (out,(j:Int))=some out'∧Bf r s (t+d) (k+1) out':=by
 intro d
 induction d with
 | zero =>
  intro j t out n hd hj hn ht hB hE;obtain ⟨n,rfl⟩: ∃f,n=f+1:=⟨n-1,by omega⟩
  obtain rfl:j=r.Edges.length:=by omega
  refine ⟨out,?_,hB.len,hB.lb,fun i m l hi hw=> ?_⟩
  ·rw[iter]
   simp only[YS,oun]
   rw[show decide (((r.Edges.length:Nat):Int)<((r.Edges.length:Nat):Int))=false by simp]
   rfl
  ·rcases Nat.lt_or_ge k i with h1 | h1
   ·obtain rfl:i=k+1:=by omega
    rw[List.take_length] at hE
    cases hw with
    | cons h hx ha=>subst ha;exact hE _ hx _ _ (Nat.le_refl _) h
   ·exact hB.best i m l h1 hw
 | succ d ih =>
  intro j t out n hd hj hn ht hB hE;obtain ⟨n,rfl⟩: ∃f,n=f+1:=⟨n-1,by omega⟩
  have hjl:j<r.Edges.length:=by omega
  have hx:r.Edges[j]? =some r.Edges[j]:=List.getElem?_eq_getElem hjl
  generalize r.Edges[j]=x at hx
  have hxm:=List.mem_of_getElem? hx;have hok:=hr.ed x hxm;unfold JS at hok;have hel:=hr.el;have hlen:=hB.len;have hto:QM out x.To=some (lab out x.To):=Ww (by omega) (by omega);have hfrom:QM out x.From=some (lab out x.From):=Ww (by omega) (by omega);have step: ∃out1,YS r (out,(j:Int))=some (.inl (out1,((j+1:Nat):Int)))∧Bf r s (t+1) k out1 ∧
    (∀n,0≤n→0≤(lab out n).Secs→0≤(lab out1 n).Secs∧Lg.le (lab out1 n) (lab out n))∧ ∀i l,i≤k→Wk r s i x.From l→0≤(lab out1 x.To).Secs∧Lg.le (lab out1 x.To) (Zl l x):=by
   simp only[YS,oun]
   rw[show decide ((j:Int)<((r.Edges.length:Nat):Int))=true by simp;omega]
   simp only[cond_true,Qs,hx,Option.bind_some,hfrom,hto]
   rw[Ji (by omega)]
   by_cases hf:0≤(lab out x.From).Secs
   ·simp only[hf,decide_true,cond_true]
    obtain ⟨i0,h1,h2,_⟩:=QaX hr (hB.lb x.From (by omega) (by omega)) (Qb9 hf);have hal:WE (lab out x.From) ⟨x.Secs,x.Meters⟩=some (Zl (lab out x.From) x):=by
     have:=Qe6 hr hxm h2 (by omega);exact this
    rw[hal]
    simp only[Option.bind_some]
    have hls:0≤(Zl (lab out x.From) x).Secs:=by unfold Zl;simp only[];omega
    have hbe:Zy ⟨(Zl (lab out x.From) x).Secs,(Zl (lab out x.From) x).Meters⟩ (lab out x.To)=_:=Qgh hls
    rw[hbe]
    simp only[Option.bind_some]
    cases hb:(decide ((lab out x.To).Secs<0)||decide (Lg.lt (Zl (lab out x.From) x) (lab out x.To))) with
    | true =>
     have hb':(lab out x.To).Secs<0∨Lg.lt (Zl (lab out x.From) x) (lab out x.To):=by simpa using hb
     have hB2:=hB.better (b:=x.To) (l:=Zl (lab out x.From) x) (by omega) (by omega) ⟨i0+1,by omega,.cons h2 hxm rfl⟩ hls hb';refine ⟨Zw out x.To (Zl (lab out x.From) x),?_,hB2.1,hB2.2,fun i l hi hw=> ?_⟩
     ·rw[show (⟨(Zl (lab out x.From) x).Secs,(Zl (lab out x.From) x).Meters⟩:Lg)=Zl (lab out x.From) x from rfl] at *
      simp only[hb,cond_true,Option.bind_some]
     ·rw[QaR (by omega) (by omega) (by omega),if_pos rfl]
      exact ⟨hls,QbX (hB.best i _ l hi hw).2⟩
    | false =>
     refine ⟨out,?_,hB.more (by omega),fun n _ h=>⟨h,Lg.le_refl _⟩,fun i l hi hw=> ?_⟩
     ·rw[show (⟨(Zl (lab out x.From) x).Secs,(Zl (lab out x.From) x).Meters⟩:Lg)=Zl (lab out x.From) x from rfl] at *
      simp only[hb,cond_false,Option.bind_some]
     ·simp only[Bool.or_eq_false_iff,decide_eq_false_iff_not] at hb
      exact ⟨by omega,Lg.le_trans (Lg.le_of_not_lt hb.2) (QbX (hB.best i _ l hi hw).2)⟩
   ·simp only[show decide (0≤(lab out x.From).Secs)=false by simpa using hf,cond_false,Option.bind_some]
    refine ⟨out,rfl,hB.more (by omega),fun n _ h=>⟨h,Lg.le_refl _⟩,fun i l hi hw=> ?_⟩;exact absurd (hB.best i _ l hi hw).1 hf
  obtain ⟨out1,h1,h2,h3,h4⟩:=step;obtain ⟨out',g1,g2⟩:=ih (j+1) (t+1) out1 n (by omega) (by omega) (by omega) (by omega) h2 (fun y hy i l hi hw=>by
   rcases VA hx hy with h5 | h5
   ·have h6:=hE y h5 i l hi hw;have hyk:=hr.ed y (List.mem_of_mem_take h5);unfold JS at hyk;have h7:=h3 y.To (by omega) h6.1;exact ⟨h7.1,Lg.le_trans h7.2 h6.2⟩
   ·subst h5;exact h4 i l hi hw)
  refine ⟨out',?_,by rw[show t+(d+1)=t+1+d by omega];exact g2⟩
  rw[iter,h1]
  exact g1
theorem QjY (hr:OkR r) (hs:0≤s∧s<r.Nodes): ∀(d k:Nat) (out:List Lg) (n:Nat),((k+d:Nat):Int)=r.Nodes→d<n→Bf r s (512*k) k out →
  ∃out',iter (Zn r) n (out,(k:Int))=some out'∧Bf r s (512*(k+d)) (k+d) out':=by
 intro d
 induction d with
 | zero =>
  intro k out n hk hn hB;obtain ⟨n,rfl⟩: ∃f,n=f+1:=⟨n-1,by omega⟩
  refine ⟨out,?_,hB⟩
  rw[iter]
  simp only[Zn,oun]
  rw[show decide ((k:Int)<r.Nodes)=false by simp;omega]
  rfl
 | succ d ih =>
  intro k out n hk hn hB;obtain ⟨n,rfl⟩: ∃f,n=f+1:=⟨n-1,by omega⟩
  have hel:=hr.el;have h2:=hr.n2;obtain ⟨out1,h3,h4⟩:=Qgp hr hs (k:=k) r.Edges.length 0 (512*k) out (((r.Edges.length:Nat):Int).toNat+1) (by omega) (by omega) (by omega) (by omega) hB (by intro x hx;simp at hx);obtain ⟨out',g1,g2⟩:=ih (k+1) out1 n (by omega) (by omega) (h4.more (by omega));refine ⟨out',?_,by rw[show k+(d+1)=k+1+d by omega];exact g2⟩
  rw[iter]
  simp only[Zn,oun]
  rw[show decide ((k:Int)<r.Nodes)=true by simp;omega]
  simp only[cond_true]
  rw[show (0:Int)=((0:Nat):Int) from rfl,h3]
  simp only[Option.bind_some,QT]
  rw[Ji (by omega)]
  exact g1
theorem Qin (hr:OkR r) (hc:Vm r=0) (hs:0≤s∧s<r.Nodes): ∃out,YX r s=some (out,0)∧IsL r s out:=by
 have h1:=hr.n1;have h2:=hr.n2;obtain ⟨L,_,hL⟩:=Qem (F:=40000) (Nat.le_refl _) hr hs;have hmk:WL (⟨0,0⟩:Lg) r.Nodes=some (List.replicate r.Nodes.toNat ⟨0,0⟩):=by
  unfold WL
  rw[if_pos (by omega)]
 have hl1:iter (YR (List.replicate r.Nodes.toNat ⟨0,0⟩)) ((((List.replicate r.Nodes.toNat (⟨0,0⟩:Lg)).length:Nat):Int).toNat+1) (List.replicate r.Nodes.toNat ⟨0,0⟩,0)=some (List.replicate r.Nodes.toNat noL):=by
  have hN:r.Nodes.toNat≤64:=by omega
  generalize r.Nodes.toNat=N at *
  have:=QbJ (body:=YR (List.replicate N ⟨0,0⟩)) (List.replicate N (⟨0,0⟩:Lg)) (fun k=>List.replicate k noL++List.replicate (N-k) (⟨0,0⟩:Lg)) (fun m k=>(m,k)) (fun _ _=>none) (List.replicate N noL) (by simp;omega) (fun k x hx _=> ?_) (fun _=>by simp[YR,oun]) ((((List.replicate N (⟨0,0⟩:Lg)).length:Nat):Int).toNat+1) (by simp)
  ·rw[Jn _ _ (fun _ _ _=>rfl)] at this
   simpa using this
  ·have hk:=QF hx;have hk2:((k:Int)<(((List.replicate N (⟨0,0⟩:Lg)).length:Nat):Int)):=by omega
   rw[List.length_replicate] at hk
   simp only[YR,oun,hk2,decide_true,cond_true,Qs]
   rw[List.getElem?_append_right (by simp),List.length_replicate,Nat.sub_self,List.getElem?_replicate,if_pos (by omega)]
   simp only[Option.bind_some,Qds]
   congr 3
   unfold Zw
   rw[Int.toNat_natCast,show N-k=(N-(k+1))+1 by omega,List.replicate_succ,List.set_append_right _ _ (by simp),List.length_replicate,Nat.sub_self,List.set_cons_zero,List.replicate_succ',List.append_assoc]
   rfl
 have hlenR:((((List.replicate r.Nodes.toNat noL).length:Nat)):Int)=r.Nodes:=by simp;omega
 have hset: ∀n,0≤n→lab (Zw (List.replicate r.Nodes.toNat noL) s ⟨0,0⟩) n=if n=s then ⟨0,0⟩ else noL:=fun n hn=>by
  rw[QaR hs.1 (by omega) hn,QeF]
 have hB:Bf r s (512*0) 0 (Zw (List.replicate r.Nodes.toNat noL) s ⟨0,0⟩):=by
  refine ⟨by rw[QbR];exact hlenR,fun n h0 h3=> ?_,fun j n l hj hw=> ?_⟩
  ·rw[hset n h0]
   by_cases h4:n=s
   ·rw[if_pos h4,h4];exact .inr ⟨0,Nat.le_refl _,.nil⟩
   ·rw[if_neg h4];exact .inl rfl
  ·cases hw with
   | nil=>rw[hset s hs.1,if_pos rfl];exact ⟨Int.le_refl _,Lg.le_refl _⟩
   | cons=>omega
 obtain ⟨out,k1,k2⟩:=QjY hr hs r.Nodes.toNat 0 _ (r.Nodes.toNat+1) (by omega) (by omega) hB;refine ⟨out,?_,k2.len,fun n h0 h3=> ?_,fun k n l hw=> ?_⟩
 ·unfold YX
  rw[Jt _ (by have:=hr.el;omega),hc]
  simp only[Option.bind_some,decide_true,Bool.not_true,cond_false,WM]
  rw[show decide ((0:Int)≤s)=true by simp;exact hs.1,show decide (s<r.Nodes)=true by simp;exact hs.2]
  simp only[cond_true,Option.bind_some,Bool.not_true,cond_false,hmk,hl1]
  rw[Ww hs.1 (by omega),QeF]
  simp only[Option.bind_some]
  rw[show ((Zw (List.replicate r.Nodes.toNat noL) s ⟨0,noL.Meters⟩,(0:Int)))=(Zw (List.replicate r.Nodes.toNat noL) s ⟨0,0⟩,((0:Nat):Int)) from rfl,k1]
  rfl
 ·have hb:=hL.lb n h0 h3;rcases k2.lb n h0 h3 with h4 | ⟨j,h4,h5⟩
  ·exact .inl h4
  ·
   have h6:=hL.best _ _ _ h5;rcases hb with h7 | ⟨i,h7,h8⟩
   ·rw[h7] at h6;exact absurd h6.1 (by decide)
   ·have h9:=k2.best i n _ (by have:=hL.len;omega) h8;have:=k2.len;have:=hL.len;exact .inr ⟨i,by omega,(Lg.antisymm h9.2 h6.2)▸h8⟩
 ·have h6:=hL.best _ _ _ hw;have hn:=hw.node hr hs;obtain ⟨i,h7,h8,_⟩:=QaX hr (hL.lb n hn.1 hn.2) (Qb9 h6.1);have h9:=k2.best i n _ (by have:=hL.len;omega) h8;exact ⟨h9.1,Lg.le_trans h9.2 h6.2⟩
theorem Qhl (hc:Vm r=0) (hs:0≤s∧s<r.Nodes): ∃L,IsL r s L∧(∀F,40000≤F→W0 F r s=some (L,0))∧YX r s=some (L,0):=by
 have hr:=OkR.of hc;obtain ⟨L,h1,h2⟩:=Qin hr hc hs;refine ⟨L,h2,fun F hF=> ?_,h1⟩;obtain ⟨L',h3,h4⟩:=Qem hF hr hs
 rw[h4.unique hr h2] at h3
 unfold W0
 rw[Qa5 _ (by have:=hr.el;omega),hc]
 simp only[Option.bind_some,decide_true,Bool.not_true,cond_false,Yv]
 rw[show (decide (s<0)||decide (r.Nodes≤s))=false by simp;omega]
 simp only[cond_false,h3,Option.bind_some]
end Go.Proofs.Ytilbengnjgglhaa
namespace Go.Proofs.Ytilbengnjgglhaa
open Go.RowKit
set_option linter.unusedSimpArgs false
set_option linter.unusedVariables false
abbrev Pr:=Qc
abbrev Ve:=Qk
abbrev De:=Qh
abbrev Vi:=Qy
structure OkV (n:Int) (v:Ve):Prop where
 d0:0≤v.Depot
 d1:v.Depot<n
 s0:0≤v.Shift.From
 s1:v.Shift.From<v.Shift.To
 s2:v.Shift.To≤86400
 g0:1≤v.Grams
 g1:v.Grams≤1073741824
 k0:1≤v.Kinds
 k1:v.Kinds<65536
structure OkD (n:Int) (d:De):Prop where
 n0:0≤d.Node
 n1:d.Node<n
 k0:0≤d.Kind
 k1:d.Kind<16
 g0:0≤d.Grams
 g1:d.Grams≤1073741824
 w0:0≤d.When.From
 w1:d.When.From≤d.When.To
 w2:d.When.To≤86400
 s0:0≤d.Service
 s1:d.Service≤3600
structure OkP (p:Pr):Prop where
 road:Vm p.Road=0
 ve: ∀v∈p.Vehicles,OkV p.Road.Nodes v
 de: ∀d∈p.Demands,OkD p.Road.Nodes d
 dl:p.Demands.length≤32
 u0:0≤p.Unload
 u1:p.Unload<p.Road.Nodes
 us0:0≤p.UnloadSecs
 us1:p.UnloadSecs≤7200
theorem Qic {v:Ve} {n:Int} (h:QN v n 16=some 0):OkV n v:=by
 unfold QN at h;obtain ⟨b,hb,h⟩:=Qg h
 simp only[Yv,Option.bind_some,JW (show (0:Int)≤16∧(16:Int)≤64 by decide)] at h
 rw[show w64 (1*2^(16:Int).toNat)=65536 by decide] at h
 cases b with
 | false=>cases h
 | true =>
  simp only[Bool.not_true,cond_false] at h
  cases h1:(decide (v.Depot<0)||decide (n≤v.Depot))<;>rw[h1] at h
  ·cases h2:(decide (v.Shift.From<0)||(decide (v.Shift.To≤v.Shift.From)||decide (86400<v.Shift.To)))<;>rw[h2] at h
   ·cases h3:(decide (v.Grams<1)||decide (1073741824<v.Grams))<;>rw[h3] at h
    ·cases h4:(decide (v.Kinds<1)||decide (65536≤v.Kinds))<;>rw[h4] at h
     ·simp only[Bool.or_eq_false_iff,decide_eq_false_iff_not] at h1 h2 h3 h4
      exact ⟨by omega,by omega,by omega,by omega,by omega,by omega,by omega,by omega,by omega⟩
     ·cases h
    ·cases h
   ·cases h
  ·cases h
theorem Qgk {l:List Ve} {n:Int} (h:Q6 l n 16=some 0): ∀v∈l,OkV n v:=by
 by_cases hl:(16:Int)<((l.length:Nat):Int)
 ·unfold Q6 at h
  simp only[Yv,Option.bind_some,hl,decide_true,cond_true] at h
  cases h1:(decide (n<1)||(decide (64<n)||(decide ((16:Int)<1)||decide ((16:Int)<16))))<;>rw[h1] at h
  ·rw[show decide (((l.length:Nat):Int)=0)=false by simp;intro e;rw[e] at hl;exact absurd hl (by decide)] at h
   cases h
  ·cases h
 ·have e1:=YG (body:=QA l n 16) l (fun _ x=>bif decide ((QN x n 16).getD 0=0) then none else some (.inr ((QN x n 16).getD 0))) (.inl ():Unit⊕Int) (by omega) (fun k x hx=>by
   have hk:=QF hx;obtain ⟨e,he⟩:=QbN x n;have hk2:((k:Int)<((l.length:Nat):Int)):=by omega
   simp only[QA,hk2,decide_true,cond_true,Qs,hx,Option.bind_some,he,Option.getD_some]
   cases decide (e=0)<;>rfl) (by simp[QA]) (((l.length:Nat):Int).toNat+1) (by simp)
  unfold Q6 at h
  rw[e1] at h
  rcases WQ (step:=fun (_:Nat) (x:Ve)=>bif decide ((QN x n 16).getD 0=0) then none else some (.inr ((QN x n 16).getD 0):Unit⊕Int)) (fin:= .inl ()) l 0 with ⟨h1,_⟩ | ⟨i,x,o,h1,h2,h3,_⟩
  ·intro v hv;obtain ⟨i,hi⟩:=List.getElem?_of_mem hv;have:=h1 i v hi;obtain ⟨e,he⟩:=QbN v n
   rw[he,Option.getD_some] at this
   by_cases h0:e=0
   ·subst h0;exact Qic he
   ·rw[show decide (e=0)=false by simpa using h0] at this;cases this
  ·rw[h3] at h
   obtain ⟨e,he⟩:=QbN x n
   rw[he,Option.getD_some] at h2
   by_cases h0:e=0
   ·subst h0;cases h2
   ·rw[show decide (e=0)=false by simpa using h0] at h2
    injection h2 with h2
    subst h2
    simp only[Yv,Option.bind_some,QT] at h
    generalize (decide (n<1)||_)=a at h
    generalize decide (((l.length:Nat):Int)=0)=b at h
    generalize decide ((16:Int)<((l.length:Nat):Int))=c at h
    cases a<;>cases b<;>cases c<;>simp at h<;>exact absurd h h0
theorem Qgl {l:List De} {n:Int} (h:Q7 l n 16=some 0):(∀d∈l,OkD n d)∧l.length≤32:=by
 unfold Q7 at h
 by_cases hl:(32:Int)<((l.length:Nat):Int)
 ·simp only[hl,decide_true,cond_true] at h
  cases h
 ·refine ⟨?_,by omega⟩;have e1:=YG (body:=QG l n 16) l (fun _ x=>bif (decide (x.Container<0)||(decide (256≤x.Container)||(decide (x.Node<0)||(decide (n≤x.Node)||(decide (x.Kind<0)||decide (16≤x.Kind)))))) then some (.inr 7) else
    bif (decide (x.Grams<0)||(decide (1073741824<x.Grams)||(decide (x.When.From<0)||(decide (x.When.To<x.When.From)||(decide (86400<x.When.To)||(decide (x.Service<0)||decide (3600<x.Service))))))) then some (.inr 1) else none) (.inl ():Unit⊕Int) (by omega) (fun k x hx=>by
   have hk:=QF hx;have hk2:((k:Int)<((l.length:Nat):Int)):=by omega
   simp only[QG,hk2,decide_true,cond_true,Qs,hx,Option.bind_some,Yv]
   generalize (decide (x.Container<0)||_)=a
   generalize (decide (x.Grams<0)||_)=b
   cases a<;>cases b<;>rfl) (by simp[QG]) (((l.length:Nat):Int).toNat+1) (by simp)
  rw[e1] at h
  rcases WQ (step:=fun (_:Nat) (x:De)=>bif (decide (x.Container<0)||(decide (256≤x.Container)||(decide (x.Node<0)||(decide (n≤x.Node)||(decide (x.Kind<0)||decide (16≤x.Kind)))))) then some (.inr 7:Unit⊕Int) else
    bif (decide (x.Grams<0)||(decide (1073741824<x.Grams)||(decide (x.When.From<0)||(decide (x.When.To<x.When.From)||(decide (86400<x.When.To)||(decide (x.Service<0)||decide (3600<x.Service))))))) then some (.inr 1) else none) (fin:= .inl ()) l 0 with ⟨h1,_⟩ | ⟨i,x,o,h1,h2,h3,_⟩
  ·intro v hv;obtain ⟨i,hi⟩:=List.getElem?_of_mem hv;have:=h1 i v hi
   simp only[cond_eq_ite,Bool.or_eq_true,decide_eq_true_eq] at this
   split at this
   ·cases this
   ·split at this
    ·cases this
    ·exact ⟨by omega,by omega,by omega,by omega,by omega,by omega,by omega,by omega,by omega,by omega,by omega⟩
  ·rw[h3] at h
   simp only[cond_eq_ite] at h2
   split at h2
   ·injection h2 with h2;subst h2
    simp only[hl,decide_false,cond_false,Option.bind_some,QT] at h
    cases h
   ·split at h2
    ·injection h2 with h2;subst h2
     simp only[hl,decide_false,cond_false,Option.bind_some,QT] at h
     cases h
    ·cases h2
theorem OkP.of {p:Pr} (hn:p.Road.Edges.length≤600) (h:Qj p=some 0):OkP p:=by
 unfold Qj at h
 rw[Jt _ hn] at h
 simp only[Option.bind_some,Yv] at h
 by_cases h1:Vm p.Road=0
 ·simp only[h1,decide_true,Bool.not_true,cond_false] at h
  obtain ⟨e2,he2,h⟩:=Qg h
  by_cases h2:e2=0
  ·subst h2
   simp only[decide_true,Bool.not_true,cond_false] at h
   obtain ⟨e3,he3,h⟩:=Qg h
   by_cases h3:e3=0
   ·subst h3
    simp only[decide_true,Bool.not_true,cond_false] at h
    obtain ⟨g1,g2⟩:=Qgl he3;cases h4:(decide (p.Unload<0)||decide (p.Road.Nodes≤p.Unload))<;>rw[h4] at h
    ·cases h5:(decide (p.UnloadSecs<0)||decide (7200<p.UnloadSecs))<;>rw[h5] at h
     ·simp only[Bool.or_eq_false_iff,decide_eq_false_iff_not] at h4 h5
      exact ⟨h1,Qgk he2,g1,g2,by omega,by omega,by omega,by omega⟩
     ·cases h
    ·cases h
   ·rw[show decide (e3=0)=false by simpa using h3] at h
    simp only[Bool.not_false,cond_true,Option.some.injEq] at h
    exact absurd h h3
  ·rw[show decide (e2=0)=false by simpa using h2] at h
   simp only[Bool.not_false,cond_true,Option.some.injEq] at h
   exact absurd h h2
 ·rw[show decide (Vm p.Road=0)=false by simpa using h1] at h
  simp only[Bool.not_false,cond_true,Option.some.injEq] at h
  exact absurd h h1
def Qas (p:Pr) (a:Int):List Lg:=match YX p.Road a with | some (L,_)=>L | none=>[]
def Yh (p:Pr) (a b:Int):Lg:=lab (Qas p a) b
theorem QaS {p:Pr} (hp:OkP p) {a:Int} (ha:0≤a∧a<p.Road.Nodes):IsL p.Road a (Qas p a)∧YX p.Road a=some (Qas p a,0)∧ ∀F,40000≤F→W0 F p.Road a=some (Qas p a,0):=by
 obtain ⟨L,h1,h2,h3⟩:=Qhl hp.road ha;have:Qas p a=L:=by unfold Qas;rw[h3]
 rw[this]
 exact ⟨h1,h3,h2⟩
theorem Zh {p:Pr} (hp:OkP p) {a b:Int} (ha:0≤a∧a<p.Road.Nodes) (hb:0≤b∧b<p.Road.Nodes):(Yh p a b=noL∨0≤(Yh p a b).Secs)∧ -1≤(Yh p a b).Secs∧(Yh p a b).Secs≤6400000∧0≤(Yh p a b).Meters∧(Yh p a b).Meters≤6400000:=by
 obtain ⟨h1,_⟩:=QaS hp ha;have hr:=OkR.of hp.road;have h2:=hr.n2;have h3:=h1.len;rcases h1.lb b hb.1 hb.2 with h4 | ⟨k,h4,h5⟩
 ·unfold Yh
  rw[h4]
  exact ⟨.inl rfl,by decide,by decide,by decide,by decide⟩
 ·have h6:=h5.bound hr;unfold Yh;exact ⟨.inr (by omega),by omega,by omega,by omega,by omega⟩
theorem QcS {p:Pr} (hp:OkP p) {a b:Int} (ha:0≤a∧a<p.Road.Nodes) (hb:0≤b∧b<p.Road.Nodes):Zv p a b=some (Yh p a b):=by
 obtain ⟨h1,h2,_⟩:=QaS hp ha;have h3:=h1.len;unfold Zv
 rw[h2]
 simp only[Option.bind_some,oun,Yv,decide_true,Bool.not_true,Bool.false_or]
 rw[show (decide (b<0)||decide ((((Qas p a).length:Nat):Int)≤b))=false by simp;omega]
 simp only[cond_false]
 rw[Ww hb.1 (by omega)]
 rfl
def okC (p:Pr) (m:List (Int×List Lg)):Prop:= ∀n L,JR n m=some L→L=Qas p n
theorem Qgb {F:Nat} (hF:40000≤F) {w:Ql} (hp:OkP w.p) (hc:okC w.p w.legs) {b:Int} (ha:0≤w.place.node∧w.place.node<w.p.Road.Nodes) (hb:0≤b∧b<w.p.Road.Nodes) :
  ∃m,Je F w b=some (Yh w.p w.place.node b,decide (0≤(Yh w.p w.place.node b).Secs),⟨w.place,w.p,w.v,m,w.visits⟩)∧okC w.p m:=by
 obtain ⟨h1,_,h2⟩:=QaS hp ha;have h3:=h1.len;have hg:QM (Qas w.p w.place.node) b=some (Yh w.p w.place.node b):=Ww hb.1 (by omega);unfold Je;cases hm:JR w.place.node w.legs with
 | none =>
  refine ⟨VI w.place.node (Qas w.p w.place.node) w.legs,?_,fun n L hL=> ?_⟩
  ·simp only[Option.isSome_none,Bool.not_false,cond_true,h2 F hF,Option.bind_some,oun,hg]
  ·by_cases hn:n=w.place.node
   ·subst hn
    rw[Qdp] at hL
    injection hL with hL;exact hL.symm
   ·rw[QeK hn] at hL
    exact hc n L hL
 | some L =>
  have:=hc _ _ hm;subst this;refine ⟨w.legs,?_,hc⟩
  simp only[Option.isSome_some,Bool.not_true,cond_false,Option.bind_some,oun,Option.getD_some,hg]
def Qf0 (v:Ve) (k:Int):Bool:=decide ((v.Kinds/2^k.toNat)%2=1)
theorem Qko {x:Int} (h0:0≤x) (h1:x<65536):Qha .i64 x 1=x%2:=by
 obtain ⟨n,rfl⟩: ∃n:Nat,x=n:=⟨x.toNat,by omega⟩
 unfold Qha;have e1:(BitVec.ofInt IntKind.i64.bits (n:Int) &&& BitVec.ofInt IntKind.i64.bits 1).toNat=n%2:=by
  rw[BitVec.toNat_and]
  have e2:(BitVec.ofInt IntKind.i64.bits (n:Int)).toNat=n:=by
   rw[BitVec.toNat_ofInt]
   show (((n:Int)%((2^64:Nat):Int)).toNat)=n
   omega
  have e3:(BitVec.ofInt IntKind.i64.bits 1).toNat=1:=by decide
  rw[e2,e3,Nat.and_one_is_mod]
 rw[e1]
 have:IntKind.i64.wrap ((n%2:Nat):Int)=w64 ((n%2:Nat):Int):=rfl
 rw[this,Ye (by omega) (by omega)]
 omega
theorem QkE {v:Ve} {n:Int} (hv:OkV n v) (k:Nat):0≤v.Kinds/2^k∧v.Kinds/2^k<65536:=by
 have h0:=hv.k0;have h1:=hv.k1;have h2:(0:Int)<2^k:=Int.pow_pos (by decide);refine ⟨Int.ediv_nonneg (by omega) (by omega),?_⟩;have:v.Kinds/2^k≤v.Kinds:=Int.ediv_le_self _ (by omega)
 omega
theorem QcV {v:Ve} {n:Int} (hv:OkV n v) {k:Int} (h0:0≤k) (h1:k<16):Jc v k=some (Qf0 v k)∧Z3 v k=some (Qf0 v k):=by
 have h2:=QkE hv k.toNat;have h3:=hv.k0;have h4:=hv.k1
 constructor
 ·unfold Jc Qf0
  rw[show decide (0≤k)=true by simpa using h0,show decide (k<16)=true by simpa using h1]
  simp only[cond_true,JW (show 0≤k∧k≤64 by omega),Option.bind_some,Qko h2.1 h2.2]
 ·unfold Z3 Qf0
  simp only[Yv,Option.bind_some]
  rw[show (decide (k<0)||decide (16≤k))=false by simp;omega]
  simp only[cond_false,JW (show 0≤k∧k≤64 by omega),Option.bind_some]
  have e1:IntKind.u64.wrap v.Kinds=v.Kinds:=by
   show v.Kinds%18446744073709551616=v.Kinds
   omega
  rw[e1,Int.tmod_eq_emod_of_nonneg h2.1]
end Go.Proofs.Ytilbengnjgglhaa
namespace Go.Proofs.Ytilbengnjgglhaa
open Go.RowKit
set_option linter.unusedSimpArgs false
set_option linter.unusedVariables false
theorem Qck (L:List Int) (hn:L.length≤1000) (s:Int):Yu L s=some (decide (s∈L)):=by
 unfold Yu Jy;have:=YG (body:=Zk L s) L (fun k y=>bif decide (s=y) then some (.inr (k:Int)) else none) (.inl ():Unit⊕Int) (by omega) (fun k y hy=> ?_) (by simp[Zk]) (((L.length:Nat):Int).toNat+1) (by simp)
 ·rw[this]
  have ha:L.any (fun y=>decide (s=y))=decide (s∈L):=by
   rw[Bool.eq_iff_iff]
   simp only[List.any_eq_true,decide_eq_true_eq]
   exact ⟨fun ⟨y,h1,h2⟩=>h2▸h1,fun h=>⟨s,h,rfl⟩⟩
  rw[←ha]
  rcases QgE (fun y:Int=>decide (s=y)) L 0 with ⟨h1,h2⟩ | ⟨j,h1,h2⟩
  ·rw[h1,h2];rfl
  ·rw[h1,h2]
   simp only[Option.bind_some,QT]
   simp
 ·have hk:=QF hy;have hk2:((k:Int)<(L.length:Nat)):=by omega
  simp only[Zk,hk2,decide_true,cond_true,Qs,hy,Option.bind_some]
  cases decide (s=y)<;>rfl
def JC (p:Pr) (v:Ve) (pre:List Int) (x:Vi) (s:Int):Vi⊕Int :=
 if s= -1 then
  if (Yh p x.Node p.Unload).Secs<0 then .inr 22
  else .inl ⟨s,p.Unload,x.Leave+(Yh p x.Node p.Unload).Secs,x.Leave+(Yh p x.Node p.Unload).Secs,x.Leave+(Yh p x.Node p.Unload).Secs+p.UnloadSecs,0⟩
 else if s<0∨((p.Demands.length:Nat):Int)≤s then .inr 7
 else if s∈pre then .inr 6
 else match p.Demands[s.toNat]? with
  | none=> .inr 7
  | some d =>
   if Qf0 v d.Kind=false then .inr 21
   else if (Yh p x.Node d.Node).Secs<0 then .inr 22
   else if d.When.To≤max (x.Leave+(Yh p x.Node d.Node).Secs) d.When.From then .inr 19
   else if v.Grams<x.Load+d.Grams then .inr 20
   else .inl ⟨s,d.Node,x.Leave+(Yh p x.Node d.Node).Secs,max (x.Leave+(Yh p x.Node d.Node).Secs) d.When.From,max (x.Leave+(Yh p x.Node d.Node).Secs) d.When.From+d.Service,x.Load+d.Grams⟩
structure InV (p:Pr) (v:Ve) (k:Nat) (x:Vi):Prop where
 n0:0≤x.Node
 n1:x.Node<p.Road.Nodes
 t0:0≤x.Leave
 t1:x.Leave≤100000+k*7000000
 l0:0≤x.Load
 l1:x.Load≤v.Grams
theorem QaH {p:Pr} {v:Ve} (hp:OkP p) (hv:OkV p.Road.Nodes v) {k:Nat} {x y:Vi} {pre:List Int} {s:Int} (h:InV p v k x) (hs:JC p v pre x s= .inl y) :
  InV p v (k+1) y∧0≤(Yh p x.Node y.Node).Secs∧y.Stop=s:=by
 have hu:=Zh hp ⟨h.n0,h.n1⟩ ⟨hp.u0,hp.u1⟩;have h1:=h.t0;have h2:=h.t1;have h3:=h.l0;have h4:=h.l1;have hus0:=hp.us0;have hus1:=hp.us1;have hg:=hv.g0;unfold JC at hs
 split at hs
 ·split at hs
  ·cases hs
  ·injection hs with hs;subst hs
   refine ⟨⟨hp.u0,hp.u1,by simp only[];omega,by simp only[];omega,Int.le_refl _,by simp only[];omega⟩,by simp only[];omega,rfl⟩
 ·split at hs
  ·cases hs
  ·split at hs
   ·cases hs
   ·split at hs
    ·cases hs
    ·rename_i d hd
     have hd2:=hp.de d (List.mem_of_getElem? hd);have hl:=Zh hp ⟨h.n0,h.n1⟩ ⟨hd2.n0,hd2.n1⟩;have a1:=hd2.g0;have a2:=hd2.w0;have a3:=hd2.w1;have a4:=hd2.w2;have a5:=hd2.s0;have a6:=hd2.s1
     split at hs
     ·cases hs
     ·split at hs
      ·cases hs
      ·split at hs
       ·cases hs
       ·split at hs
        ·cases hs
        ·injection hs with hs;subst hs
         refine ⟨⟨hd2.n0,hd2.n1,by simp only[];omega,by simp only[];omega,by simp only[];omega,by simp only[];omega⟩,by simp only[];omega,rfl⟩
theorem Qen {p:Pr} {v:Ve} {x:Vi} {pre:List Int} {s e:Int} (hs:JC p v pre x s= .inr e):e≠0:=by
 unfold JC at hs
 repeat' split at hs
 all_goals first | (cases hs;done) | (injection hs with hs;subst hs;decide)
theorem Qir (stops:List Int) (i:Nat) (hi:i≤stops.length) (hn:stops.length≤1000) (s:Int):iter (YL stops (i:Int) s) ((i:Int).toNat+1) 0=some (bif decide (s∈stops.take i) then .inr 6 else .inl ()):=by
 have:=YG (body:=YL stops (i:Int) s) (stops.take i) (fun _ y=>bif decide (y=s) then some (.inr 6) else none) (.inl ():Unit⊕Int) (by simp;omega) (fun k y hy=> ?_) (by rw[ZH hi];simp[YL]) ((i:Int).toNat+1) (by rw[ZH hi];omega)
 ·rw[this,QjH]
  have ha:(stops.take i).any (fun y=>decide (y=s))=decide (s∈stops.take i):=by
   rw[Bool.eq_iff_iff]
   simp only[List.any_eq_true,decide_eq_true_eq]
   exact ⟨fun ⟨y,h1,h2⟩=>h2▸h1,fun h=>⟨s,h,rfl⟩⟩
  rw[ha]
 ·have hk:=QF hy
  rw[ZH hi] at hk
  rw[List.getElem?_take,if_pos hk] at hy
  have hk2:((k:Int)<(i:Int)):=by omega
  simp only[YL,hk2,decide_true,cond_true,Qs,hy,Option.bind_some]
  cases decide (y=s)<;>rfl
theorem Qip {p:Pr} {v:Ve} (hp:OkP p) (hv:OkV p.Road.Nodes v) {t:Qf} (hn:t.Stops.length≤40) {k:Nat} {s:Int} (hk:t.Stops[k]? =some s) {x:Vi} (hx:InV p v k x) (out:List Vi) (ho:out.length≤1000) :
  Yp p t v (x.Stop,x.Node,x.Arrive,x.Start,x.Leave,x.Load,out,(k:Int))=match JC p v (t.Stops.take k) x s with
   | .inl y=>some (.inl (y.Stop,y.Node,y.Arrive,y.Start,y.Leave,y.Load,out++[y],((k+1:Nat):Int)))
   | .inr e=>some (.inr (.inr ([],e,(k:Int)))):=by
 have hkl:=QF hk;have hk2:((k:Int)<((t.Stops.length:Nat):Int)):=by omega
 have h1:=hx.t0;have h2:=hx.t1;have h3:=hx.l0;have h4:=hx.l1;have hg:=hv.g1;have happ: ∀y,VT out [y]=some (out++[y]):=fun y=>appO_eq (by simp;omega)
 simp only[Yp,oun,hk2,decide_true,cond_true,Qs,hk,Option.bind_some,Ji (show k<9223372036854775807 by omega)]
 unfold WF JC
 simp only[Qs,hk,Option.bind_some]
 by_cases hs:s= -1
 ·subst hs;have hu:=Zh hp ⟨hx.n0,hx.n1⟩ ⟨hp.u0,hp.u1⟩;have hus0:=hp.us0;have hus1:=hp.us1
  simp only[decide_true,cond_true,if_true,Option.bind_some]
  unfold Js
  rw[show decide ((0:Int)≤ -1)=false by decide]
  simp only[cond_false,Option.bind_some]
  rw[QcS hp ⟨hx.n0,hx.n1⟩ ⟨hp.u0,hp.u1⟩]
  simp only[Option.bind_some]
  by_cases hl:(Yh p x.Node p.Unload).Secs<0
  ·simp only[hl,decide_true,cond_true,if_true,Option.bind_some,oun]
   rfl
  ·rw[if_neg hl]
   simp only[hl,decide_false,cond_false,show decide ((-1:Int)<0)=true by decide,cond_true,Option.bind_some,oun,decide_true,Bool.not_true]
   rw[Ye (n:=x.Leave+(Yh p x.Node p.Unload).Secs) (by omega) (by omega),Ye (by omega) (by omega),happ]
   rfl
 ·simp only[show decide (s= -1)=false by simpa using hs,cond_false,if_neg hs,Yv,Option.bind_some]
  by_cases h7:s<0∨((p.Demands.length:Nat):Int)≤s
  ·rw[if_pos h7,show (decide (s<0)||decide (((p.Demands.length:Nat):Int)≤s))=true by simpa using h7]
   simp only[cond_true,Option.bind_some,show decide ((7:Int)=0)=false by decide,cond_false,oun,Bool.not_false]
  ·rw[if_neg h7,show (decide (s<0)||decide (((p.Demands.length:Nat):Int)≤s))=false by simpa using h7]
   simp only[cond_false]
   rw[Qir _ _ (Nat.le_of_lt hkl) (by omega)]
   by_cases h6:s∈t.Stops.take k
   ·rw[if_pos h6]
    simp only[h6,decide_true,cond_true,Option.bind_some,QT,show decide ((6:Int)=0)=false by decide,cond_false,oun,Bool.not_false]
   ·rw[if_neg h6]
    obtain ⟨i,rfl⟩: ∃i:Nat,s=i:=⟨s.toNat,by omega⟩
    have hd:p.Demands[i]? =some p.Demands[i]:=List.getElem?_eq_getElem (by omega)
    generalize p.Demands[i]=d at hd
    have hd2:=hp.de d (List.mem_of_getElem? hd);have hl:=Zh hp ⟨hx.n0,hx.n1⟩ ⟨hd2.n0,hd2.n1⟩;have a1:=hd2.g0;have a2:=hd2.w0;have a3:=hd2.w1;have a4:=hd2.w2;have a5:=hd2.s0;have a6:=hd2.s1;have a7:=hd2.g1
    simp only[h6,decide_false,cond_false,Option.bind_some,QT,Qs,hd,Int.toNat_natCast,(QcV hv hd2.k0 hd2.k1).2]
    cases hc:Qf0 v d.Kind with
    | false=>simp only[Bool.not_false,cond_true,Option.bind_some,show decide ((21:Int)=0)=false by decide,cond_false,oun,if_true]
    | true =>
     simp only[Bool.not_true,cond_false,Option.bind_some,decide_true,cond_true,Bool.true_eq_false,if_false]
     unfold Js
     rw[show decide ((0:Int)≤(i:Int))=true by simp]
     simp only[cond_true,Qs,hd,Option.bind_some]
     rw[QcS hp ⟨hx.n0,hx.n1⟩ ⟨hd2.n0,hd2.n1⟩]
     simp only[Option.bind_some]
     by_cases hl2:(Yh p x.Node d.Node).Secs<0
     ·rw[if_pos hl2]
      simp only[hl2,decide_true,cond_true,Option.bind_some,oun,show decide ((22:Int)=0)=false by decide,Bool.not_false]
     ·rw[if_neg hl2]
      simp only[hl2,decide_false,cond_false,show decide ((i:Int)<0)=false by simp,Option.bind_some]
      rw[Ye (n:=x.Leave+(Yh p x.Node d.Node).Secs) (by omega) (by omega),Ye (n:=x.Load+d.Grams) (by omega) (by omega)]
      by_cases hw:d.When.To≤max (x.Leave+(Yh p x.Node d.Node).Secs) d.When.From
      ·rw[if_pos hw]
       simp only[hw,decide_true,cond_true,Option.bind_some,oun,show decide ((19:Int)=0)=false by decide,Bool.not_false]
      ·rw[if_neg hw]
       by_cases hgr:v.Grams<x.Load+d.Grams
       ·rw[if_pos hgr]
        simp only[hw,hgr,decide_true,decide_false,cond_true,cond_false,Option.bind_some,oun,show decide ((20:Int)=0)=false by decide,Bool.not_false]
       ·rw[if_neg hgr]
        rw[Ye (n:=max (x.Leave+(Yh p x.Node d.Node).Secs) d.When.From+d.Service) (by omega) (by omega)]
        simp only[hw,hgr,decide_false,cond_false,Option.bind_some,oun,decide_true,Bool.not_true,happ]
end Go.Proofs.Ytilbengnjgglhaa
