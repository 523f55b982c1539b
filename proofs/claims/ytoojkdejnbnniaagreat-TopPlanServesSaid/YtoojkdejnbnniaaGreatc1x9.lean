/- TopPlanServes: for every input the given law returns true, and its arguments read as before. No condition. -/
import Derived.Test.YtoojkdejnbnniaaGreatc1x2
import Derived.Test.YtoojkdejnbnniaaGreatc1x3
namespace Go.Proofs.YtoojkdejnbnniaaGreat
set_option linter.unusedSimpArgs false
set_option linter.unusedVariables false
theorem QgO {τ ρ:Type} {body:τ→Option (τ⊕ρ)} (I:Nat→τ→ρ→Prop)
  (h: ∀n t o,I n t o→(∃t' n',body t=some (.inl t')∧n'<n∧I n' t' o)∨body t=some (.inr o)): ∀(fuel n:Nat) (t:τ) (o:ρ),I n t o→n<fuel→iter body fuel t=some o
 | 0,_,_,_,_,hm=>by omega
 | f+1,n,t,o,hI,hm=>by
  rcases h n t o hI with ⟨t',n',h1,h2,h3⟩ | h1
  ·simp only[iter,h1,Option.bind_some,Qy]
   exact QgO I h f n' t' o h3 (by omega)
  ·simp only[iter,h1,Option.bind_some,Qy]
theorem Qhl {σ ρ:Type} {body:σ→Option (σ⊕ρ)}: ∀{n m:Nat} {s:σ} {r:ρ},iter body n s=some r→n≤m→iter body m s=some r
 | 0,_,_,_,h,_=>by cases h
 | n+1,0,_,_,_,hm=>by omega
 | n+1,m+1,s,r,h,hm=>by
  simp only[iter] at h ⊢
  cases hb:body s with
  | none=>rw[hb] at h;cases h
  | some q =>
   rw[hb] at h
   cases q with
   | inl s'=>exact Qhl (n:=n) (m:=m) h (by omega)
   | inr r'=>exact h
theorem Qm {α:Type} (xs:List α) (k:Nat):getI xs (k:Int)=xs[k]? :=by simp[getI]
theorem Qob {α:Type} {xs:List α} {k:Nat} (h:k<xs.length):getI xs (k:Int)=some xs[k]:=by rw[Qm];simp[h]
theorem Yb {n:Int} (h1: -9223372036854775808≤n) (h2:n≤9223372036854775807):w64 n=n:=Qrt h1 h2
theorem VE {k:Nat} (h:k<9223372036854775807):w64 ((k:Int)+1)=((k+1:Nat):Int):=by rw[Yb (by omega) (by omega)];omega
theorem Yi {α:Type} {xs ys:List α} (h:xs.length+ys.length≤1000000):ZO xs ys=some (xs++ys):=by simp[ZO,h]
theorem Qal {p:Prop} [Decidable p] (h:p):Wd p=some ():=by simp[Wd,h]
def each {α σ ρ:Type} (step:σ→α→σ⊕ρ) (fin:σ→ρ):List α→σ→ρ
 | [],s=>fin s
 | x::r,s=>match step s x with
  | .inl s'=>each step fin r s'
  | .inr o=>o
def ZL {τ ρ:Type} (o:Option ρ) (t:τ):τ⊕ρ:=match o with
 | none=> .inl t
 | some r=> .inr r
@[simp] theorem Qrn {τ ρ:Type} (t:τ):ZL (none:Option ρ) t= .inl t:=rfl
@[simp] theorem Qro {τ ρ:Type} (r:ρ) (t:τ):ZL (some r) t= .inr r:=rfl
def Qrf {σ τ ρ:Type} (f:σ→τ) (q:σ⊕ρ):τ⊕ρ:=match q with
 | .inl s=> .inl (f s)
 | .inr r=> .inr r
@[simp] theorem QrV {σ τ ρ:Type} (f:σ→τ) (s:σ):Qrf f (.inl s:σ⊕ρ)= .inl (f s):=rfl
@[simp] theorem QrW {σ τ ρ:Type} (f:σ→τ) (r:ρ):Qrf f (.inr r:σ⊕ρ)= .inr r:=rfl
theorem Qj1 {α σ τ ρ:Type} (xs:List α) (mk:σ→Int→τ) {body:τ→Option (τ⊕ρ)} (step:σ→α→σ⊕ρ) (fin:σ→ρ) (I:σ→Nat→Prop) (hn:xs.length<9223372036854775807)
  (hb: ∀(k:Nat) (x:α) (s:σ),xs[k]? =some x→I s k→body (mk s (k:Int))=some (Qrf (fun s'=>mk s' (w64 ((k:Int)+1))) (step s x))∧ ∀s',step s x= .inl s'→I s' (k+1))
  (hf: ∀s,I s xs.length→body (mk s (xs.length:Int))=some (.inr (fin s))): ∀(n:Nat) (s:σ),I s 0→xs.length<n→iter body n (mk s 0)=some (each step fin xs s):=by
 intro n s hs hlt;refine QgO (fun m t o=> ∃(s:σ) (k:Nat),t=mk s k∧m=xs.length-k∧k≤xs.length∧I s k∧each step fin (xs.drop k) s=o) ?_ n xs.length (mk s 0) _ ⟨s,0,rfl,by simp,Nat.zero_le _,hs,by simp⟩ hlt;rintro m _ o ⟨s,k,rfl,rfl,hk,hI,ho⟩;rcases Nat.lt_or_ge k xs.length with hlt | hge
 ·obtain ⟨h1,h2⟩:=hb k xs[k] s (by simp[hlt]) hI
  rw[List.drop_eq_getElem_cons hlt,each] at ho
  cases hs:step s xs[k] with
  | inl s' =>
   rw[hs] at h1 ho
   exact .inl ⟨_,xs.length-(k+1),h1,by omega,s',k+1,by rw[VE (by omega)],rfl,hlt,h2 s' hs,ho⟩
  | inr o' =>
   rw[hs] at h1 ho
   exact .inr (by rw[h1];exact congrArg (fun z=>some (Sum.inr z)) ho)
 ·obtain rfl:k=xs.length:=by omega
  rw[List.drop_length] at ho
  exact .inr (by rw[hf s hI];exact congrArg (fun z=>some (Sum.inr z)) ho)
def first {α ρ:Type} (step:α→Option ρ) (fin:ρ):List α→ρ
 | []=>fin
 | x::r=>match step x with
  | none=>first step fin r
  | some o=>o
theorem QcS {α ρ:Type} (xs:List α) {body:Int→Option (Int⊕ρ)} (step:α→Option ρ) (fin:ρ) (hn:xs.length<9223372036854775807)
  (hb: ∀(k:Nat) (x:α),xs[k]? =some x→body (k:Int)=some (ZL (step x) (w64 ((k:Int)+1))))
  (hf:body (xs.length:Int)=some (.inr fin)): ∀(n:Nat),xs.length<n→iter body n 0=some (first step fin xs):=by
 intro n hlt;have:=Qj1 xs (fun (_:Unit) k=>k) (body:=body) (fun _ x=>ZL (step x) ()) (fun _=>fin) (fun _ _=>True) hn
  (fun k x s hx _=>⟨by rw[hb k x hx];cases step x<;>rfl,fun _ _=>trivial⟩) (fun _ _=>hf) n () trivial hlt
 rw[this]
 congr 1
 clear this hb hf hlt hn
 induction xs with
 | nil=>rfl
 | cons x r ih =>
  simp only[each,first]
  cases step x<;>simp[ih]
end Go.Proofs.YtoojkdejnbnniaaGreat
namespace Go.Proofs.YtoojkdejnbnniaaGreat
set_option linter.unusedSimpArgs false
set_option linter.unusedVariables false
theorem Qp {α:Type} {l:List α} {k:Nat} {x:α} (h:l[k]? =some x):k<l.length:=by
 rcases Nat.lt_or_ge k l.length with h2 | h2
 ·exact h2
 ·rw[List.getElem?_eq_none h2] at h;cases h
theorem Qnu {α:Type} {l:List α} {i:Int} (h0:0≤i) (h1:i<(l.length:Nat)): ∃x,getI l i=some x:=by
 obtain ⟨k,rfl⟩: ∃k:Nat,i=k:=⟨i.toNat,by omega⟩
 exact ⟨_,Qob (by omega)⟩
def YI {α ρ:Type} (step:Nat→α→Option ρ) (fin:ρ):Nat→List α→ρ
 | _,[]=>fin
 | k,x::r=>match step k x with
  | none=>YI step fin (k+1) r
  | some o=>o
theorem YL {α ρ:Type} (xs:List α) {body:Int→Option (Int⊕ρ)} (step:Nat→α→Option ρ) (fin:ρ) (hn:xs.length<9223372036854775807)
  (hb: ∀(k:Nat) (x:α),xs[k]? =some x→body (k:Int)=some (ZL (step k x) (w64 ((k:Int)+1))))
  (hf:body (xs.length:Int)=some (.inr fin)): ∀(n:Nat),xs.length<n→iter body n 0=some (YI step fin 0 xs):=by
 intro n hlt;refine QgO (fun m t o=> ∃k:Nat,t=(k:Int)∧m=xs.length-k∧k≤xs.length∧YI step fin k (xs.drop k)=o) ?_ n xs.length 0 _ ⟨0,rfl,by simp,Nat.zero_le _,by simp⟩ hlt;rintro m _ o ⟨k,rfl,rfl,hk,ho⟩;rcases Nat.lt_or_ge k xs.length with hlt | hge
 ·have h1:=hb k xs[k] (by simp[hlt])
  rw[List.drop_eq_getElem_cons hlt,YI] at ho
  cases hs:step k xs[k] with
  | none =>
   rw[hs] at h1 ho
   exact .inl ⟨_,xs.length-(k+1),h1,by omega,k+1,by rw[VE (by omega)],rfl,hlt,ho⟩
  | some r =>
   rw[hs] at h1 ho
   exact .inr (by rw[h1];exact congrArg (fun z=>some (Sum.inr z)) ho)
 ·obtain rfl:k=xs.length:=by omega
  rw[List.drop_length] at ho
  exact .inr (by rw[hf];exact congrArg (fun z=>some (Sum.inr z)) ho)
theorem QK {α ρ:Type} {step:Nat→α→Option ρ} {fin:ρ}: ∀(l:List α) (k:Nat),(∀(i:Nat) (x:α),l[i]? =some x→step (k+i) x=none)→YI step fin k l=fin
 | [],_,_=>rfl
 | x::l,k,h=>by
  have h0:=h 0 x rfl
  rw[Nat.add_zero] at h0
  simp only[YI,h0]
  exact QK l (k+1) fun i y hy=>by
   have:=h (i+1) y (by simpa using hy)
   rwa [show k+(i+1)=k+1+i by omega] at this
theorem YD {α σ τ ρ:Type} (xs:List α) (st:Nat→σ) (mk:σ→Int→τ) {body:τ→Option (τ⊕ρ)} (step:Nat→α→Option ρ) (fin:ρ) (hn:xs.length<9223372036854775807)
  (hb: ∀(k:Nat) (x:α),xs[k]? =some x→(∀(j:Nat) (y:α),j<k→xs[j]? =some y→step j y=none)→body (mk (st k) (k:Int))=some (ZL (step k x) (mk (st (k+1)) (w64 ((k:Int)+1)))))
  (hf:(∀(j:Nat) (y:α),xs[j]? =some y→step j y=none)→body (mk (st xs.length) (xs.length:Int))=some (.inr fin)): ∀(n:Nat),xs.length<n→iter body n (mk (st 0) 0)=some (YI step fin 0 xs):=by
 intro n hlt;refine QgO (fun m t o=> ∃k:Nat,t=mk (st k) (k:Int)∧m=xs.length-k∧k≤xs.length∧(∀(j:Nat) (y:α),j<k→xs[j]? =some y→step j y=none)∧YI step fin k (xs.drop k)=o) ?_ n xs.length _ _ ⟨0,rfl,by simp,Nat.zero_le _,fun j y hj=>absurd hj (Nat.not_lt_zero _),by simp⟩ hlt;rintro m _ o ⟨k,rfl,rfl,hk,hno,ho⟩;rcases Nat.lt_or_ge k xs.length with hlt | hge
 ·have h1:=hb k xs[k] (by simp[hlt]) hno
  rw[List.drop_eq_getElem_cons hlt,YI] at ho
  cases hs:step k xs[k] with
  | none =>
   rw[hs] at h1 ho
   refine .inl ⟨_,xs.length-(k+1),h1,by omega,k+1,by rw[VE (by omega)],rfl,hlt,fun j y hj hy=> ?_,ho⟩;rcases Nat.lt_or_ge j k with h | h
   ·exact hno j y h hy
   ·obtain rfl:j=k:=by omega
    rw[List.getElem?_eq_getElem hlt] at hy
    injection hy with hy;rw[←hy];exact hs
  | some r =>
   rw[hs] at h1 ho
   exact .inr (by rw[h1];exact congrArg (fun z=>some (Sum.inr z)) ho)
 ·obtain rfl:k=xs.length:=by omega
  rw[List.drop_length] at ho
  exact .inr (by rw[hf fun j y hy=>hno j y (Qp hy) hy];exact congrArg (fun z=>some (Sum.inr z)) ho)
theorem YF {α:Type} {l:List α} {k:Nat} {x:α} (hx:l[k]? =some x):l.take (k+1)=l.take k++[x]:=by rw[List.take_add_one,hx];rfl
theorem Yf {α:Type} {l:List α} {k:Nat} (h:k≤l.length):(l.take k).length=k:=by simp;omega
def QbU {α:Type} (f:α→Int) (l:List α):Int:=(l.map f).sum
@[simp] theorem Qrv {α:Type} (f:α→Int):QbU f []=0:=rfl
@[simp] theorem Qjn {α:Type} (f:α→Int) (x:α) (l:List α):QbU f (x::l)=f x+QbU f l:=by simp[QbU]
theorem QcD {α:Type} (f:α→Int): ∀(a b:List α),QbU f (a++b)=QbU f a+QbU f b
 | [],b=>by simp
 | x::a,b=>by simp only[List.cons_append,Qjn,QcD f a b];omega
theorem QhO {α:Type} {f:α→Int} {B:Int}: ∀{l:List α},(∀x∈l,0≤f x∧f x≤B)→0≤QbU f l∧QbU f l≤l.length*B
 | [],_=>by simp
 | x::l,h=>by
  have h1:=h x (by simp);have h2:=QhO (l:=l) fun y hy=>h y (by simp[hy])
  rw[Qjn,List.length_cons]
  have:((l.length+1:Nat):Int)*B=l.length*B+B:=by rw[Int.natCast_add,Int.add_mul];simp
  rw[this]
  omega
theorem Qi2 {β:Type} {k:Int} {v:β} (m:List (Int×β)):Qar k (Qcx k v m)=some v:=by
 induction m with
 | nil=>simp[Qcx,Qar]
 | cons p m ih =>
  obtain ⟨a,b⟩:=p
  by_cases h:a=k
  ·simp[Qcx,Qar,h]
  ·simp[Qcx,Qar,h,ih]
theorem QkN {β:Type} {k j:Int} {v:β} (h:j≠k) (m:List (Int×β)):Qar j (Qcx k v m)=Qar j m:=by
 induction m with
 | nil=>simp[Qcx,Qar];omega
 | cons p m ih =>
  obtain ⟨a,b⟩:=p
  by_cases h2:a=k
  ·subst h2;simp[Qcx,Qar,Ne.symm h]
  ·by_cases h3:a=j
   ·subst h3;simp[Qcx,Qar,h]
   ·simp[Qcx,Qar,h2,h3,ih]
theorem Qcw {α ρ:Type} {step:Nat→α→Option ρ} {fin:ρ}: ∀(l:List α) (k:Nat),
  ((∀(i:Nat) (x:α),l[i]? =some x→step (k+i) x=none)∧YI step fin k l=fin) ∨
  (∃(i:Nat) (x:α) (o:ρ),l[i]? =some x∧step (k+i) x=some o∧YI step fin k l=o∧ ∀(j:Nat) (y:α),j<i→l[j]? =some y→step (k+j) y=none)
 | [],k=> .inl ⟨fun i x h=>by simp at h,rfl⟩
 | x::l,k=>by
  cases hs:step k x with
  | some o=>exact .inr ⟨0,x,o,rfl,hs,by simp[YI,hs],fun j y hj=>absurd hj (Nat.not_lt_zero _)⟩
  | none =>
   have hf:YI step fin k (x::l)=YI step fin (k+1) l:=by simp[YI,hs]
   rw[hf]
   rcases Qcw (step:=step) (fin:=fin) l (k+1) with ⟨h1,h2⟩ | ⟨i,y,o,h1,h2,h3,h4⟩
   ·refine .inl ⟨fun i y hy=> ?_,h2⟩;cases i with
    | zero=>simp at hy;subst hy;simpa using hs
    | succ i=>have:=h1 i y (by simpa using hy);rwa [show k+1+i=k+(i+1) by omega] at this
   ·refine .inr ⟨i+1,y,o,by simpa using h1,by rwa [show k+1+i=k+(i+1) by omega] at h2,h3,fun j z hj hz=> ?_⟩;cases j with
    | zero=>simp at hz;subst hz;simpa using hs
    | succ j=>have:=h4 j z (by omega) (by simpa using hz);rwa [show k+1+j=k+(j+1) by omega] at this
theorem Qds {α:Type} [DecidableEq α]: ∀{l m:List α},l.Nodup→(∀x∈l,x∈m)→l.length≤m.length
 | [],_,_,_=>Nat.zero_le _
 | x::l,m,hn,h=>by
  rw[List.nodup_cons] at hn
  have hx:=h x (by simp);have:=Qds (l:=l) (m:=m.erase x) hn.2 fun y hy=>(List.mem_erase_of_ne (fun e=>hn.1 (by rw[←e];exact hy))).2 (h y (by simp[hy]))
  rw[List.length_erase_of_mem hx] at this
  have:0<m.length:=List.length_pos_of_mem hx
  simp only[List.length_cons]
  omega
end Go.Proofs.YtoojkdejnbnniaaGreat
namespace Go.Proofs.YtoojkdejnbnniaaGreat
open Go.RowKit
set_option linter.unusedSimpArgs false
set_option linter.unusedVariables false
theorem YO (a b:Bool):(bif a then some true else some b)=some (a||b):=by cases a<;>rfl
theorem QoM (a b:Bool):(bif a then some b else some false)=some (a&&b):=by cases a<;>rfl
def Qbf (r:QR) (x:Jm):Prop:=0≤x.From∧x.From<r.Nodes∧0≤x.To∧x.To<r.Nodes∧x.From≠x.To∧1≤x.Meters∧x.Meters≤100000∧1≤x.Secs∧x.Secs≤100000
def QdH (r:QR) (x:Jm):Option (Unit⊕Int) :=
 bif (decide (x.From<0)||(decide (r.Nodes≤x.From)||(decide (x.To<0)||decide (r.Nodes≤x.To)))) then some (.inr 7)
 else bif (decide (x.From=x.To)||(decide (x.Meters<1)||(decide (100000<x.Meters)||(decide (x.Secs<1)||decide (100000<x.Secs))))) then some (.inr 1) else none
theorem Qmu {r:QR} {x:Jm} (h:QdH r x=none):Qbf r x:=by
 unfold QdH at h
 simp only[cond_eq_ite,Bool.or_eq_true,decide_eq_true_eq] at h
 split at h
 ·cases h
 ·split at h
  ·cases h
  ·unfold Qbf;omega
theorem Qmv {r:QR} {x:Jm} {o:Unit⊕Int} (h:QdH r x=some o): ∃e,o= .inr e∧e≠0:=by
 unfold QdH at h
 simp only[cond_eq_ite] at h
 split at h
 ·injection h with h;exact ⟨7,h.symm,by decide⟩
 ·split at h
  ·injection h with h;exact ⟨1,h.symm,by decide⟩
  ·cases h
theorem Qi8 (r:QR) (hn:r.Edges.length≤600) (n:Nat) (h:r.Edges.length<n):iter (YQ r) n 0=some (YI (fun _ x=>QdH r x) (.inl ()) 0 r.Edges):=by
 refine YL r.Edges (fun _ x=>QdH r x) (.inl ()) (by omega) (fun k x hx=> ?_) (by simp[YQ]) n h;have hk:=Qp hx;have hk2:((k:Int)<(r.Edges.length:Nat)):=by omega
 simp only[YQ,hk2,decide_true,cond_true,Qm,hx,Option.bind_some,YO,QdH]
 generalize (decide (x.From<0)||_)=a
 generalize (decide (x.From=x.To)||_)=b
 cases a<;>cases b<;>rfl
theorem QmG (r:QR) (hn:r.Edges.length≤600):QbF r=some ⟨r.Nodes,r.Edges.map fun x=>⟨x.From,x.To⟩⟩:=by
 unfold QbF;have:=YD (body:=Qah r) r.Edges (fun k=>(r.Edges.take k).map fun x=>(⟨x.From,x.To⟩:ZP)) (fun m k=>(m,k)) (fun _ _=>none) (r.Edges.map fun x=>(⟨x.From,x.To⟩:ZP)) (by omega) (fun k x hx _=> ?_) (fun _=>by simp[Qah,oun]) (((r.Edges.length:Nat):Int).toNat+1) (by simp)
 ·rw[show ((r.Edges.take 0).map fun x=>(⟨x.From,x.To⟩:ZP))=[] by simp] at this
  rw[this,QK _ _ (fun _ _ _=>rfl)]
  rfl
 ·have hk:=Qp hx;have hk2:((k:Int)<(r.Edges.length:Nat)):=by omega
  simp only[Qah,oun,hk2,decide_true,cond_true,Qm,hx,Option.bind_some]
  rw[Yi (by simp;omega)]
  simp[YF hx,ZL]
theorem Qo2 (r:QR) (hn:r.Edges.length≤512) (h1:1≤r.Nodes) (h2:r.Nodes≤64) (ho: ∀x∈r.Edges,Qbf r x):Qb9 ⟨r.Nodes,r.Edges.map fun x=>⟨x.From,x.To⟩⟩=some 0:=by
 unfold Qb9;have:=YL (body:=QaF ⟨r.Nodes,r.Edges.map fun x=>⟨x.From,x.To⟩⟩) (r.Edges.map fun x=>(⟨x.From,x.To⟩:ZP)) (fun _ _=>none) (.inl ():Unit⊕Int) (by simp;omega) (fun k x hx=> ?_) (by simp[QaF]) ((((r.Edges.map fun x=>(⟨x.From,x.To⟩:ZP)).length:Nat):Int).toNat+1) (by simp)
 ·rw[QK _ _ (fun _ _ _=>rfl)] at this
  simp only[YO,Option.bind_some]
  rw[show (decide (r.Nodes<0)||decide (64<r.Nodes))=false by simp;omega]
  simp only[cond_false]
  rw[show decide ((512:Int)<(((r.Edges.map fun x=>(⟨x.From,x.To⟩:ZP)).length:Nat):Int))=false by simp;omega]
  simp only[cond_false,this,Option.bind_some,Qy]
 ·have hk:=Qp hx;have hk2:((k:Int)<((r.Edges.map fun x=>(⟨x.From,x.To⟩:ZP)).length:Nat)):=by omega
  obtain ⟨y,hy,rfl⟩: ∃y,r.Edges[k]? =some y∧(⟨y.From,y.To⟩:ZP)=x:=by
   rw[List.getElem?_map] at hx
   cases hq:r.Edges[k]? with
   | none=>rw[hq] at hx;cases hx
   | some y=>rw[hq] at hx;injection hx with hx;exact ⟨y,rfl,hx⟩
  have hok:=ho y (List.mem_of_getElem? hy)
  simp only[QaF,hk2,decide_true,cond_true,Qm,hx,Option.bind_some,YO]
  unfold Qbf at hok
  rw[show (decide (y.From<0)||(decide (r.Nodes≤y.From)||(decide (y.To<0)||decide (r.Nodes≤y.To))))=false by simp;omega]
  rfl
def Qdj (r:QR):Int:=bif (decide (r.Nodes<1)||decide (64<r.Nodes)) then 1 else bif decide ((512:Int)<(r.Edges.length:Nat)) then 8 else
 match YI (fun _ x=>QdH r x) (.inl ()) 0 r.Edges with | .inl _=>0 | .inr e=>e
theorem QaN (r:QR) (hn:r.Edges.length≤600):Jd r=some (Qdj r):=by
 unfold Jd Qdj
 simp only[YO,Option.bind_some]
 rw[Qi8 r hn _ (by simp)]
 generalize (decide (r.Nodes<1)||_)=a
 generalize decide ((512:Int)<(r.Edges.length:Nat))=b
 generalize YI (fun _ x=>QdH r x) (.inl ()) 0 r.Edges=o
 cases a<;>cases b<;>cases o<;>rfl
theorem Qjd {r:QR} (h:Qdj r=0):1≤r.Nodes∧r.Nodes≤64∧r.Edges.length≤512∧ ∀x∈r.Edges,Qbf r x:=by
 unfold Qdj at h
 simp only[cond_eq_ite,Bool.or_eq_true,decide_eq_true_eq] at h
 split at h
 ·cases h
 ·split at h
  ·cases h
  ·refine ⟨by omega,by omega,by omega,fun x hx=> ?_⟩;obtain ⟨i,hi⟩:=List.getElem?_of_mem hx;rcases Qcw (step:=fun _ x=>QdH r x) (fin:=(.inl ():Unit⊕Int)) r.Edges 0 with ⟨h1,_⟩ | ⟨j,y,o,h1,h2,h3,_⟩
   ·exact Qmu (h1 i x hi)
   ·rw[h3] at h
    obtain ⟨e,rfl,he⟩:=Qmv h2;exact absurd h he
theorem QfM (r:QR) (hn:r.Edges.length≤600):Qbg r=some (Qdj r):=by
 by_cases hz:Qdj r=0
 ·obtain ⟨h1,h2,h3,h4⟩:=Qjd hz;unfold Qbg
  rw[hz]
  have e1:Qb5 r=YQ r:=rfl
  rw[e1,Qi8 r hn _ (by simp)]
  simp only[YO,Option.bind_some]
  rw[show (decide (r.Nodes<1)||decide (64<r.Nodes))=false by simp;omega]
  simp only[cond_false]
  rw[show decide ((512:Int)<(r.Edges.length:Nat))=false by simp;omega]
  simp only[cond_false]
  have:YI (fun _ x=>QdH r x) (.inl ():Unit⊕Int) 0 r.Edges= .inl ():=by
   refine QK _ _ fun i x hx=> ?_;have:=h4 x (List.mem_of_getElem? hx);unfold Qbf at this;unfold QdH
   rw[show (decide (x.From<0)||(decide (r.Nodes≤x.From)||(decide (x.To<0)||decide (r.Nodes≤x.To))))=false by simp;omega,show (decide (x.From=x.To)||(decide (x.Meters<1)||(decide (100000<x.Meters)||(decide (x.Secs<1)||decide (100000<x.Secs)))))=false by simp;omega]
   rfl
  rw[this]
  simp only[Qy,QmG r hn,Option.bind_some,Qo2 r h3 h1 h2 h4]
 ·have h:=QaN r hn;unfold Qbg;have e1:Qb5 r=YQ r:=rfl
  rw[e1,Qi8 r hn _ (by simp)]
  unfold Qdj at hz ⊢
  simp only[YO,Option.bind_some]
  generalize (decide (r.Nodes<1)||_)=a at *
  generalize decide ((512:Int)<(r.Edges.length:Nat))=b at *
  generalize YI (fun _ x=>QdH r x) (.inl ()) 0 r.Edges=o at *
  cases a<;>cases b<;>cases o<;>first | rfl | exact absurd rfl hz
end Go.Proofs.YtoojkdejnbnniaaGreat
namespace Go.Proofs.YtoojkdejnbnniaaGreat
open Go.RowKit
set_option linter.unusedSimpArgs false
set_option linter.unusedVariables false
theorem Qj4 (c:Int):QaP c=YM c:=by
 unfold QaP YM
 generalize decide (97≤c)=a
 generalize decide (c≤122)=b
 generalize decide (65≤c)=d
 generalize decide (c≤90)=e
 cases a<;>cases b<;>cases d<;>cases e<;>rfl
theorem Qdg (c:Int): ∃b,YM c=some b:=by
 unfold YM
 generalize decide (97≤c)=a
 generalize decide (c≤122)=b
 generalize decide (65≤c)=d
 generalize decide (c≤90)=e
 cases a<;>cases b<;>cases d<;>cases e<;>exact ⟨_,rfl⟩
theorem Qk8 (s:ByteArray):QbB s=QU s:=by
 funext i
 simp only[QbB,QU,Qj4]
theorem Qia {s:ByteArray} {k:Nat} (h:k<s.size): ∃b,QiU s (k:Int)=some b:=by
 unfold QiU
 rw[if_pos (by omega)]
 simp[h]
theorem Qkt (s:ByteArray) (hs:s.size≤32): ∀(m k:Nat),k+m=s.size→ ∃o,iter (QU s) (m+1) (k:Int)=some o
 | 0,k,h=>by
  refine ⟨.inl (),?_⟩
  simp only[iter,QU]
  rw[show decide ((k:Int)<((s.size:Nat):Int))=false by simp;omega]
  rfl
 | m+1,k,h=>by
  obtain ⟨b,hb⟩:=Qia (s:=s) (k:=k) (by omega);obtain ⟨q,hq⟩:=Qdg b;obtain ⟨o,ho⟩:=Qkt s hs m (k+1) (by omega);have hbody:(∃z,QU s (k:Int)=some (.inr z))∨QU s (k:Int)=some (.inl ((k+1:Nat):Int)):=by
   simp only[QU]
   rw[show decide ((k:Int)<((s.size:Nat):Int))=true by simp;omega]
   simp only[cond_true,hb,Option.bind_some,hq,VE (show k<9223372036854775807 by omega)]
   generalize decide (b<48)=c1
   generalize decide (b=45)=c2
   generalize decide (b=95)=c3
   generalize decide (b=46)=c4
   generalize decide (57<b)=c5
   cases q<;>cases c1<;>cases c2<;>cases c3<;>cases c4<;>cases c5<;>first | exact .inr rfl | exact .inl ⟨_,rfl⟩
  rcases hbody with ⟨z,hz⟩ | hz
  ·exact ⟨z,by rw[iter,hz];rfl⟩
  ·exact ⟨o,by rw[iter,hz];exact ho⟩
theorem Qgu {F:Nat} (hF:33≤F) (s:ByteArray):Qbo F s=YG s:=by
 unfold Qbo YG
 simp only[Qj4,Qk8]
 by_cases h1:((s.size:Nat):Int)<1
 ·simp only[h1,decide_true,cond_true,Option.bind_some]
 ·by_cases h2:(32:Int)<((s.size:Nat):Int)
  ·simp only[h1,h2,decide_true,decide_false,cond_true,cond_false,Option.bind_some]
  ·obtain ⟨b,hb⟩:=Qia (s:=s) (k:=0) (by omega);obtain ⟨q,hq⟩:=Qdg b;have hb':QiU s 0=some b:=hb
   simp only[h1,h2,decide_false,cond_false,hb',Option.bind_some,hq]
   cases q with
   | false=>rfl
   | true =>
    simp only[Bool.not_true,cond_false]
    obtain ⟨o,ho⟩:=Qkt s (by omega) (s.size-1) 1 (by omega)
    rw[show ((1:Nat):Int)=1 from rfl] at ho
    rw[Qhl ho (by omega)]
    have e2:iter (QU s) (((s.size:Nat):Int).toNat+1) 0=some o:=by
     rw[iter]
     have:QU s 0=some (.inl 1):=by
      simp only[QU]
      rw[show decide ((0:Int)<((s.size:Nat):Int))=true by simp;omega]
      simp only[cond_true,hb',Option.bind_some,hq,Bool.not_true,cond_false]
      rfl
     rw[this]
     exact Qhl ho (by simp;omega)
    rw[e2]
theorem Qlt {F:Nat} (hF:33≤F) (v:QD) (n m:Int):Qbb F v n m=Ye v n m:=by
 unfold Qbb Ye
 rw[Qgu hF]
theorem Qle {α ρ:Type} (p:α→Bool) (o fin:ρ): ∀(l:List α) (k:Nat),YI (fun _ y=>bif p y then some o else none) fin k l=bif l.any p then o else fin
 | [],_=>rfl
 | x::l,k=>by
  simp only[YI,List.any_cons]
  cases p x
  ·simpa using Qle p o fin l (k+1)
  ·rfl
theorem Qlf {α:Type} (p:α→Bool): ∀(l:List α) (k:Nat),(YI (fun (k:Nat) y=>bif p y then some (.inr (k:Int)) else none) (.inl ():Unit⊕Int) k l= .inl ()∧l.any p=false) ∨
  ∃j:Nat,YI (fun (k:Nat) y=>bif p y then some (.inr (k:Int)) else none) (.inl ():Unit⊕Int) k l= .inr (j:Int)∧l.any p=true
 | [],_=> .inl ⟨rfl,rfl⟩
 | x::l,k=>by
  simp only[YI,List.any_cons]
  cases p x
  ·simpa using Qlf p l (k+1)
  ·exact .inr ⟨k,rfl,rfl⟩
def Qfh {α β:Type} [DecidableEq β] (f:α→β) (l:List α) (k:Nat) (x:α):Option (Unit⊕Int):=bif (l.take k).any (fun y=>decide (f x=f y)) then some (.inr 6) else none
theorem Qrh {α β:Type} [DecidableEq β] (f:α→β) (l:List α) (hn:l.length<1000000) {b2:Int→Int→Option (Int⊕(Unit⊕Int))} {b3:Int→Option (Int⊕(Unit⊕Int))}
  (h2: ∀(i k:Nat) (x y:α),l[i]? =some x→l[k]? =some y→k<i→b2 i k=some (bif decide (f x=f y) then .inr (.inr 6) else .inl (w64 ((k:Int)+1))))
  (h2f: ∀i:Nat,b2 i i=some (.inr (.inl ())))
  (h3: ∀i:Nat,i<l.length→b3 i=Option.bind (Option.bind (iter (b2 i) ((i:Int).toNat+1) 0) (fun o_=>Qy o_ (fun _=>some (.inl ())) (fun rv=>some (.inr rv)))) (fun o_=>Qy o_ (fun _:Unit=>some (.inl (w64 ((i:Int)+1)))) (fun rv=>some (.inr (.inr rv)))))
  (h3f:b3 (l.length:Nat)=some (.inr (.inl ()))):iter b3 (((l.length:Nat):Int).toNat+1) 0=some (YI (Qfh f l) (.inl ()) 0 l):=by
 refine YL l (Qfh f l) (.inl ()) (by omega) (fun i x hx=> ?_) h3f _ (by simp);have hi:=Qp hx
 rw[h3 i hi]
 have:=YL (body:=b2 i) (l.take i) (fun _ y=>bif decide (f x=f y) then some (.inr 6) else none) (.inl ():Unit⊕Int) (by simp;omega) (fun k y hy=> ?_) (by rw[Yf (Nat.le_of_lt hi)];exact h2f i) ((i:Int).toNat+1) (by rw[Yf (Nat.le_of_lt hi)];omega)
 ·rw[this,Qle]
  unfold Qfh
  generalize (l.take i).any _=b
  cases b<;>rfl
 ·have hk:=Qp hy
  rw[Yf (Nat.le_of_lt hi)] at hk
  rw[List.getElem?_take,if_pos hk] at hy
  rw[h2 i k x y hx hy hk]
  cases decide (f x=f y)<;>rfl
def QpN (l:List QD):List (ByteArray×Bool):=l.foldl (fun m x=>Qji x.ID true m) []
theorem Qki {β:Type} (k j:ByteArray) (v:β): ∀(m:List (ByteArray×β)),Qdv j (Qji k v m)=if k=j then some v else Qdv j m
 | []=>by simp[Qji,Qdv]
 | p::m=>by
  simp only[Qji]
  by_cases h:p.1=k
  ·subst h
   by_cases h2:p.1=j<;>simp[Qdv,h2]
  ·by_cases h2:p.1=j
   ·have: ¬k=j:=fun e=>h (by rw[h2,e])
    rw[if_neg h,if_neg this]
    simp[Qdv,h2]
   ·simp[Qdv,h,h2,Qki k j v m]
theorem Qoq (l:List QD) (id:ByteArray): ∀(m:List (ByteArray×Bool)),(Qdv id (l.foldl (fun m x=>Qji x.ID true m) m)).getD false=(l.any (fun y=>decide (id=y.ID))||(Qdv id m).getD false):=by
 induction l with
 | nil=>intro m;simp
 | cons x l ih =>
  intro m
  rw[List.foldl_cons,ih,List.any_cons,Qki]
  by_cases h:x.ID=id
  ·simp[h]
  ·have: ¬id=x.ID:=fun e=>h e.symm
   simp[h,this]
theorem Qjt (l:List QD) (hn:l.length≤16):iter (W4 l) (((l.length:Nat):Int).toNat+1) ([],0)=some (YI (Qfh (·.ID) l) (.inl ()) 0 l):=by
 refine YD (body:=W4 l) l (fun k=>QpN (l.take k)) (fun m k=>(m,k)) (Qfh (·.ID) l) (.inl ()) (by omega) (fun k x hx _=> ?_) (fun _=>by simp[W4,oun]) _ (by simp);have hk:=Qp hx;have hk2:((k:Int)<(l.length:Nat)):=by omega
 simp only[W4,oun,hk2,decide_true,cond_true,Qm,hx,Option.bind_some]
 rw[QpN,Qoq,YF hx]
 simp only[Qdv,Option.getD_none,Bool.or_false,Qfh,QpN,List.foldl_append,List.foldl_cons,List.foldl_nil]
 generalize (l.take k).any _=b
 cases b<;>rfl
theorem Qd1 {F:Nat} (hF:33≤F) (l:List QD) (n m:Int):Qap F l n m=Yn l n m:=by
 unfold Qap Yn;have e1:W3 F l n m=QV l n m:=by
  funext i
  simp only[W3,QV,Qlt hF]
 rw[e1]
 by_cases h:(16:Int)<((l.length:Nat):Int)
 ·simp only[h,decide_true,cond_true]
 ·have e3:=Qrh (·.ID) l (by omega) (b2:=Je l) (b3:=Jf l) (fun i k x y hx hy hk=>by
    have:((k:Int)<(i:Int)):=by omega
    simp only[Je,this,decide_true,cond_true,Qm,hx,hy,Option.bind_some]
    cases decide (x.ID=y.ID)<;>rfl) (fun i=>by simp[Je]) (fun i hi=>by
    have:((i:Int)<((l.length:Nat):Int)):=by omega
    simp only[Jf,this,decide_true,cond_true]) (by simp[Jf])
  rw[e3,Qjt l (by omega)]
theorem Qoz (n a b:Int):Zx n a b=some (decide (a≤n)&&decide (n≤b)):=by
 unfold Zx
 rw[QoM]
 rfl
theorem Qkz (l:List Qt) (n m:Int):Qbd l n m=Q4 l n m:=by
 funext i
 simp only[Qbd,Q4]
 cases decide (i<((l.length:Nat):Int)) with
 | false=>rfl
 | true =>
  simp only[cond_true]
  cases getI l i with
  | none=>rfl
  | some x =>
   simp only[Option.bind_some,Qd6,Qoz,YO,Bool.not_and]
   have e1:(!decide (0≤x.Container)|| !decide (x.Container≤255))=(decide (x.Container<0)||decide (256≤x.Container)):=by
    rw[Bool.eq_iff_iff];simp;omega
   have e2:(!decide (0≤x.Grams)|| !decide (x.Grams≤1073741824))=(decide (x.Grams<0)||decide (1073741824<x.Grams)):=by
    rw[Bool.eq_iff_iff];simp
   have e3:(!decide (0≤x.Service)|| !decide (x.Service≤3600))=(decide (x.Service<0)||decide (3600<x.Service)):=by
    rw[Bool.eq_iff_iff];simp
   rw[e1,e2,e3]
   have key: ∀(a b c d:Bool),(bif a||b then some true else some (c||d))=some (a||(b||(c||d))):=by intro a b c d;cases a<;>cases b<;>rfl
   simp only[YO,Bool.or_assoc]
   generalize (decide (x.Container<0)||_)=a
   generalize (decide (x.Grams<0)||_)=b
   cases a<;>cases b<;>rfl
theorem QhY (L:List Qt) (hn:L.length≤32) (x:Qt):YS L x=some (L.any fun y=>decide (x.Container=y.Container)):=by
 unfold YS Jk;have:=YL (body:=YT L x) L (fun k y=>bif decide (x.Container=y.Container) then some (.inr (k:Int)) else none) (.inl ():Unit⊕Int) (by omega) (fun k y hy=> ?_) (by simp[YT]) (((L.length:Nat):Int).toNat+1) (by simp)
 ·rw[this]
  rcases Qlf (fun y:Qt=>decide (x.Container=y.Container)) L 0 with ⟨h1,h2⟩ | ⟨j,h1,h2⟩
  ·rw[h1,h2];rfl
  ·rw[h1,h2]
   simp only[Option.bind_some,Qy]
   simp
 ·have hk:=Qp hy;have hk2:((k:Int)<(L.length:Nat)):=by omega
  simp only[YT,hk2,decide_true,cond_true,Qm,hy,Option.bind_some,Qby]
  rw[show decide (y.Container=x.Container)=decide (x.Container=y.Container) by rw[Bool.eq_iff_iff];simp[eq_comm]]
  cases decide (x.Container=y.Container)<;>rfl
theorem Qan {α:Type} {l:List α} {k:Nat} (h:k≤l.length):WL l 0 (k:Int)=some (l.take k):=by
 unfold WL
 rw[if_pos ⟨by omega,by omega,by omega⟩]
 simp
theorem QhW (l:List Qt) (n m:Int):Qbx l n m=Yo l n m:=by
 unfold Qbx Yo
 rw[Qkz]
 by_cases h:(32:Int)<((l.length:Nat):Int)
 ·simp only[h,decide_true,cond_true]
 ·have e3:=Qrh (·.Container) l (by omega) (b2:=Yu l) (b3:=Yv l) (fun i k x y hx hy hk=>by
    have:((k:Int)<(i:Int)):=by omega
    simp only[Yu,this,decide_true,cond_true,Qm,hx,hy,Option.bind_some]
    cases decide (x.Container=y.Container)<;>rfl) (fun i=>by simp[Yu]) (fun i hi=>by
    have:((i:Int)<((l.length:Nat):Int)):=by omega
    simp only[Yv,this,decide_true,cond_true]) (by simp[Yv])
  have e4:iter (Qag l) (((l.length:Nat):Int).toNat+1) 0=some (YI (Qfh (·.Container) l) (.inl ()) 0 l):=by
   refine YL l (Qfh (·.Container) l) (.inl ()) (by omega) (fun k x hx=> ?_) (by simp[Qag]) _ (by simp);have hk:=Qp hx;have hk2:((k:Int)<(l.length:Nat)):=by omega
   simp only[Qag,hk2,decide_true,cond_true,Qm,hx,Option.bind_some,Qan (Nat.le_of_lt hk),Qfh]
   rw[QhY _ (by simp;omega)]
   simp only[Option.bind_some]
   generalize (l.take k).any _=b
   cases b<;>rfl
  rw[e3,e4]
theorem Zy {F:Nat} (hF:33≤F) (p:Qe) (hn:p.Road.Edges.length≤600):Qad F p=Qq p:=by
 unfold Qad Qq
 rw[QfM _ hn,QaN _ hn]
 simp only[Qd1 hF,QhW]
theorem Qgc {ρ:Type} {body:Int→Option (Int⊕ρ)} {N:Nat} (hN:N<1000000) (hb: ∀k:Nat,k<N→(∃r,body k=some (.inr r))∨body k=some (.inl ((k+1:Nat):Int))) (hf: ∃r,body (N:Nat)=some (.inr r)) :
  ∀(m k:Nat),k+m=N→ ∃o,iter body (m+1) (k:Int)=some o
 | 0,k,h=>by
  obtain ⟨r,hr⟩:=hf;obtain rfl:k=N:=by omega
  exact ⟨r,by rw[iter,hr];rfl⟩
 | m+1,k,h=>by
  rcases hb k (by omega) with ⟨r,hr⟩ | hr
  ·exact ⟨r,by rw[iter,hr];rfl⟩
  ·obtain ⟨o,ho⟩:=Qgc hN hb hf m (k+1) (by omega);exact ⟨o,by rw[iter,hr];exact ho⟩
theorem Qiz (l:List Qt) (n m:Int) (hn:l.length≤32): ∃o,iter (Q4 l n m) (((l.length:Nat):Int).toNat+1) 0=some o:=by
 obtain ⟨o,ho⟩:=Qgc (body:=Q4 l n m) (N:=l.length) (by omega) (fun k hk=>by
   obtain ⟨x,hx⟩: ∃x,l[k]? =some x:=⟨_,List.getElem?_eq_getElem hk⟩
   have hk2:((k:Int)<((l.length:Nat):Int)):=by omega
   simp only[Q4,hk2,decide_true,cond_true,Qm,hx,Option.bind_some,YO,VE (show k<9223372036854775807 by omega)]
   generalize (decide (x.Container<0)||_)=a
   generalize (decide (x.Grams<0)||_)=b
   cases a<;>cases b<;>first | exact .inr rfl | exact .inl ⟨_,rfl⟩) ⟨_,by simp[Q4];rfl⟩ l.length 0 (by omega)
 exact ⟨o,by simpa using ho⟩
theorem QgS (v:QD) (n:Int): ∃e,Ye v n 16=some e:=by
 unfold Ye;have hv: ∃b,YG v.ID=some b:=by
  unfold YG
  by_cases h1:((v.ID.size:Nat):Int)<1
  ·exact ⟨false,by simp only[h1,decide_true,cond_true,Option.bind_some]⟩
  ·by_cases h2:(32:Int)<((v.ID.size:Nat):Int)
   ·exact ⟨false,by simp only[h1,h2,decide_true,decide_false,cond_true,cond_false,Option.bind_some]⟩
   ·obtain ⟨b,hb⟩:=Qia (s:=v.ID) (k:=0) (by omega);obtain ⟨q,hq⟩:=Qdg b;have hb':QiU v.ID 0=some b:=hb;obtain ⟨o,ho⟩:=Qkt v.ID (by omega) v.ID.size 0 (by omega)
    simp only[h1,h2,decide_false,cond_false,hb',Option.bind_some,hq]
    rw[show (((v.ID.size:Nat):Int).toNat+1)=v.ID.size+1 by simp,show (0:Int)=((0:Nat):Int) from rfl,ho]
    cases q<;>cases o<;>exact ⟨_,rfl⟩
 obtain ⟨b,hb⟩:=hv
 rw[hb]
 simp only[Option.bind_some,YO,Qal (show (0:Int)≤16∧(16:Int)≤64 by decide)]
 generalize (decide (v.Depot<0)||_)=c1
 generalize (decide (v.Shift.From<0)||_)=c2
 generalize (decide (v.Grams<1)||_)=c3
 generalize (decide (v.Kinds<1)||_)=c4
 cases b<;>cases c1<;>cases c2<;>cases c3<;>cases c4<;>exact ⟨_,rfl⟩
theorem QmQ (l:List QD) (n:Int): ∃e,Yn l n 16=some e:=by
 by_cases h:(16:Int)<((l.length:Nat):Int)
 ·unfold Yn
  simp only[YO,Option.bind_some,h,decide_true,cond_true]
  generalize (decide (n<1)||_)=a
  generalize decide (((l.length:Nat):Int)=0)=b
  cases a<;>cases b<;>exact ⟨_,rfl⟩
 ·obtain ⟨o,ho⟩:=Qgc (body:=QV l n 16) (N:=l.length) (by omega) (fun k hk=>by
   obtain ⟨x,hx⟩: ∃x,l[k]? =some x:=⟨_,List.getElem?_eq_getElem hk⟩
   obtain ⟨e,he⟩:=QgS x n;have hk2:((k:Int)<((l.length:Nat):Int)):=by omega
   simp only[QV,hk2,decide_true,cond_true,Qm,hx,Option.bind_some,he,VE (show k<9223372036854775807 by omega)]
   cases decide (e=0)<;>first | exact .inr rfl | exact .inl ⟨_,rfl⟩) ⟨_,by simp[QV];rfl⟩ l.length 0 (by omega)
  have h2:=Qd1 (F:=33) (Nat.le_refl _) l n 16
  rw[←h2]
  unfold Qap;have e1:W3 33 l n 16=QV l n 16:=by
   funext i
   simp only[W3,QV,Qlt (F:=33) (Nat.le_refl _)]
  rw[e1,Qjt l (by omega),show (((l.length:Nat):Int).toNat+1)=l.length+1 by simp,show (0:Int)=((0:Nat):Int) from rfl,ho]
  simp only[YO,Option.bind_some,h,decide_false,cond_false]
  generalize (decide (n<1)||_)=a
  generalize decide (((l.length:Nat):Int)=((0:Nat):Int))=b
  generalize YI (Qfh (·.ID) l) (.inl ()) 0 l=q
  cases a<;>cases b<;>cases o<;>cases q<;>exact ⟨_,rfl⟩
theorem QmT (p:Qe) (hn:p.Road.Edges.length≤600): ∃e,Qq p=some e:=by
 unfold Qq
 rw[QaN _ hn]
 obtain ⟨e2,he2⟩:=QmQ p.Vehicles p.Road.Nodes;have he3: ∃e,Yo p.Demands p.Road.Nodes 16=some e:=by
  by_cases h:(32:Int)<((p.Demands.length:Nat):Int)
  ·exact ⟨8,by unfold Yo;simp only[h,decide_true,cond_true]⟩
  ·obtain ⟨o,ho⟩:=Qiz p.Demands p.Road.Nodes 16 (by omega);unfold Yo;have e3:=Qrh (·.Container) p.Demands (by omega) (b2:=Yu p.Demands) (b3:=Yv p.Demands) (fun i k x y hx hy hk=>by
    have:((k:Int)<(i:Int)):=by omega
    simp only[Yu,this,decide_true,cond_true,Qm,hx,hy,Option.bind_some]
    cases decide (x.Container=y.Container)<;>rfl) (fun i=>by simp[Yu]) (fun i hi=>by
    have:((i:Int)<((p.Demands.length:Nat):Int)):=by omega
    simp only[Yv,this,decide_true,cond_true]) (by simp[Yv])
   rw[ho,e3]
   simp only[h,decide_false,cond_false,Option.bind_some]
   generalize YI (Qfh (·.Container) p.Demands) (.inl ()) 0 p.Demands=q
   cases o<;>cases q<;>exact ⟨_,rfl⟩
 obtain ⟨e3,he3⟩:=he3
 simp only[he2,he3,Option.bind_some,YO]
 generalize decide (Qdj p.Road=0)=a
 generalize decide (e2=0)=b
 generalize decide (e3=0)=c
 generalize (decide (p.Unload<0)||_)=d
 generalize (decide (p.UnloadSecs<0)||_)=f
 cases a<;>cases b<;>cases c<;>cases d<;>cases f<;>exact ⟨_,rfl⟩
end Go.Proofs.YtoojkdejnbnniaaGreat
namespace Go.Proofs.YtoojkdejnbnniaaGreat
open Go.RowKit
set_option linter.unusedSimpArgs false
set_option linter.unusedVariables false
abbrev It:=QM
abbrev Qu:=Qf
abbrev Lg:=Qr
def Lg.lt (a b:Lg):Prop:=a.Secs<b.Secs∨(a.Secs=b.Secs∧a.Meters<b.Meters)
def Lg.le (a b:Lg):Prop:=a.Secs<b.Secs∨(a.Secs=b.Secs∧a.Meters≤b.Meters)
instance (a b:Lg):Decidable (Lg.lt a b):=by unfold Lg.lt;infer_instance
instance (a b:Lg):Decidable (Lg.le a b):=by unfold Lg.le;infer_instance
theorem Lg.le_of_not_lt {a b:Lg} (h: ¬Lg.lt a b):Lg.le b a:=by unfold Lg.lt at h;unfold Lg.le;omega
theorem Lg.le_of_lt {a b:Lg} (h:Lg.lt a b):Lg.le a b:=by unfold Lg.lt at h;unfold Lg.le;omega
theorem Lg.le_refl (a:Lg):Lg.le a a:=by unfold Lg.le;omega
theorem Lg.le_trans {a b c:Lg} (h:Lg.le a b) (h2:Lg.le b c):Lg.le a c:=by unfold Lg.le at *;omega
abbrev noL:Lg:=⟨-1,0⟩
theorem QjN (a b:Lg):Qbp a b=some (decide (b=noL)||decide (Lg.lt a b)):=by
 unfold Qbp QcK
 simp only[Option.bind_some]
 by_cases h:b=noL
 ·simp[h]
 ·by_cases h1:a.Secs<b.Secs
  ·simp[h,h1,Lg.lt]
  ·by_cases h2:a.Secs=b.Secs
   ·simp[h,h1,h2,Lg.lt]
   ·simp[h,h1,h2,Lg.lt]
def okI (x:It):Prop:=0≤x.value.leg.Secs
theorem Qnx {a b:Q6} (hb:0≤b.leg.Secs):Qam a b=some (decide (Lg.lt a.leg b.leg)):=by
 unfold Qam
 rw[QjN]
 have hn:b.leg≠noL:=by intro e;rw[e] at hb;exact absurd hb (by decide)
 by_cases h:a.leg=b.leg
 ·rw[h]
  simp[Lg.lt]
 ·simp[h,hn]
def bef (x y:It):Bool:=decide (Lg.lt x.value.leg y.value.leg)||(decide (x.n<y.n)&& !decide (Lg.lt y.value.leg x.value.leg))
theorem Qmm {x y:It} (h:bef x y=true):Lg.le x.value.leg y.value.leg:=by
 simp only[bef,Bool.or_eq_true,Bool.and_eq_true,decide_eq_true_eq,Bool.not_eq_true',decide_eq_false_iff_not] at h
 rcases h with h | ⟨_,h⟩
 ·exact Lg.le_of_lt h
 ·exact Lg.le_of_not_lt h
theorem Qku {x y:It} (h:bef x y=false):Lg.le y.value.leg x.value.leg:=by
 simp only[bef,Bool.or_eq_false_iff,decide_eq_false_iff_not] at h
 exact Lg.le_of_not_lt h.1
theorem QjM {q:Qu} {i k:Nat} {x y:It} (hx:q.heap[i]? =some x) (hy:q.heap[k]? =some y) (h1:okI x) (h2:okI y):Zb q i k=some (bef x y):=by
 unfold Zb
 simp only[Qm,hx,hy,Option.bind_some,oun]
 rw[Qnx (a:=⟨x.value.node,⟨x.value.leg.Secs,x.value.leg.Meters⟩⟩) (b:=⟨y.value.node,⟨y.value.leg.Secs,y.value.leg.Meters⟩⟩) h2,Qnx (a:=⟨y.value.node,⟨y.value.leg.Secs,y.value.leg.Meters⟩⟩) (b:=⟨x.value.node,⟨x.value.leg.Secs,x.value.leg.Meters⟩⟩) h1]
 simp only[Option.bind_some]
 unfold bef;cases decide (Lg.lt x.value.leg y.value.leg)<;>cases decide (x.n<y.n)<;>rfl
def swp (h:List It) (i k:Nat):List It:=match h[i]?,h[k]? with
 | some x,some y=>(h.set i y).set k x
 | _,_=>h
theorem Qk2 {q:Qu} {i k:Nat} (hi:i<q.heap.length) (hk:k<q.heap.length):YZ q i k=some ⟨swp q.heap i k,q.count⟩:=by
 unfold YZ swp
 simp only[Qm,List.getElem?_eq_getElem hi,List.getElem?_eq_getElem hk,Option.bind_some,Yk,Int.toNat_natCast]
 rw[List.getElem?_eq_getElem (by simpa using hk)]
 rfl
theorem Qb0 (h:List It) (i k:Nat):(swp h i k).length=h.length:=by unfold swp;split<;>simp
theorem Qjo {h:List It} {i k:Nat} (hi:i<h.length) (hk:k<h.length):(swp h i k).Perm h:=by
 unfold swp
 simp only[List.getElem?_eq_getElem hi,List.getElem?_eq_getElem hk]
 exact List.set_set_perm hi hk
theorem Qep {h:List It} {i k:Nat} (hi:i<h.length) (hk:k<h.length) (j:Nat):(swp h i k)[j]? =if j=k then h[i]? else if j=i then h[k]? else h[j]? :=by
 unfold swp
 simp only[List.getElem?_eq_getElem hi,List.getElem?_eq_getElem hk]
 rw[List.getElem?_set,List.getElem?_set]
 simp only[List.length_set]
 by_cases h1:k=j
 ·subst h1;simp[hk]
 ·have h1': ¬j=k:=fun e=>h1 e.symm
  by_cases h2:i=j
  ·subst h2;simp[h1,h1',hi]
  ·have h2': ¬j=i:=fun e=>h2 e.symm
   simp[h1,h2,h1',h2']
end Go.Proofs.YtoojkdejnbnniaaGreat
namespace Go.Proofs.YtoojkdejnbnniaaGreat
open Go.RowKit
set_option linter.unusedSimpArgs false
set_option linter.unusedVariables false
abbrev kle (x y:It):Prop:=Lg.le x.value.leg y.value.leg
def okH (h:List It):Prop:= ∀x∈h,okI x
theorem okH.get {h:List It} (ho:okH h) {k:Nat} {x:It} (hx:h[k]? =some x):okI x:=ho x (List.mem_of_getElem? hx)
theorem okH.perm {h h':List It} (ho:okH h) (hp:h'.Perm h):okH h':=fun x hx=>ho x (hp.mem_iff.1 hx)
def Hp (h:List It):Prop:= ∀(k:Nat) (x y:It),1≤k→h[k]? =some x→h[(k-1)/2]? =some y→kle y x
theorem Hp.root {h:List It} (hh:Hp h) {r:It} (hr:h[0]? =some r): ∀(k:Nat) (x:It),h[k]? =some x→kle r x:=by
 intro k
 induction k using Nat.strongRecOn with
 | ind k ih =>
  intro x hx;rcases Nat.eq_zero_or_pos k with rfl | hk
  ·rw[hr] at hx;injection hx with hx;subst hx;exact Lg.le_refl _
  ·have hlt:=Qp hx;have hy:h[(k-1)/2]? =some h[(k-1)/2]:=List.getElem?_eq_getElem (by omega);exact Lg.le_trans (ih _ (by omega) _ hy) (hh k x _ hk hx hy)
def HpU (h:List It) (i:Nat):Prop:=(∀(k:Nat) (x y:It),1≤k→k≠i→h[k]? =some x→h[(k-1)/2]? =some y→kle y x) ∧
 ∀(c:Nat) (x y:It),1≤i→1≤c→(c-1)/2=i→h[c]? =some x→h[(i-1)/2]? =some y→kle y x
def HpD (h:List It) (i:Nat):Prop:=(∀(k:Nat) (x y:It),1≤k→(k-1)/2≠i→h[k]? =some x→h[(k-1)/2]? =some y→kle y x) ∧
 ∀(c:Nat) (x y:It),1≤i→1≤c→(c-1)/2=i→h[c]? =some x→h[(i-1)/2]? =some y→kle y x
theorem HpU.step {h:List It} {i:Nat} (hi:1≤i) (hl:i<h.length) (hu:HpU h i) {x y:It} (hx:h[i]? =some x) (hy:h[(i-1)/2]? =some y) (hle:kle x y):HpU (swp h i ((i-1)/2)) ((i-1)/2):=by
 have hp:(i-1)/2<h.length:=by omega
 generalize hpe:(i-1)/2=p at *
 refine ⟨fun k a b hk hkp ha hb=> ?_,fun c a b h1 hc hcp ha hb=> ?_⟩
 ·rw[Qep hl hp] at ha hb
  rw[if_neg hkp] at ha
  by_cases hki:k=i
  ·subst hki
   rw[if_pos rfl] at ha
   rw[hpe,if_pos rfl] at hb
   rw[hy] at ha;rw[hx] at hb
   injection ha with ha;injection hb with hb
   subst ha;subst hb;exact hle
  ·rw[if_neg hki] at ha
   by_cases h2:(k-1)/2=p
   ·rw[if_pos h2,hx] at hb
    injection hb with hb;subst hb
    exact Lg.le_trans hle (hu.1 k a y hk hki ha (by rw[h2];exact hy))
   ·rw[if_neg h2] at hb
    by_cases h3:(k-1)/2=i
    ·rw[if_pos h3] at hb
     exact hu.2 k a b hi hk h3 ha (by rw[hpe];exact hb)
    ·rw[if_neg h3] at hb
     exact hu.1 k a b hk hki ha hb
 ·rw[Qep hl hp] at ha hb
  rw[if_neg (by omega),if_neg (by omega)] at hb
  have hpp:kle b y:=hu.1 p y b h1 (by omega) hy hb
  by_cases hci:c=i
  ·subst hci
   rw[if_neg (by omega),if_pos rfl,hy] at ha
   injection ha with ha;subst ha
   exact hpp
  ·rw[if_neg (by omega),if_neg hci] at ha
   exact Lg.le_trans hpp (hu.1 c a y hc hci ha (by rw[hcp];exact hy))
theorem HpU.zero {h:List It} (hu:HpU h 0):Hp h:=fun k x y hk hx hy=>hu.1 k x y hk (by omega) hx hy
theorem HpU.stop {h:List It} {i:Nat} (hu:HpU h i) {x y:It} (hx:h[i]? =some x) (hy:h[(i-1)/2]? =some y) (hle:kle y x):Hp h:=by
 intro k a b hk ha hb
 by_cases hki:k=i
 ·subst hki
  rw[hx] at ha;rw[hy] at hb
  injection ha with ha;injection hb with hb
  subst ha;subst hb;exact hle
 ·exact hu.1 k a b hk hki ha hb
theorem HpD.step {h:List It} {i n:Nat} (hl:n<h.length) (hn:n=2*i+1∨n=2*i+2) (hd:HpD h i) {x y:It} (hx:h[n]? =some x) (hy:h[i]? =some y) (hmin: ∀(j:Nat) (z:It),(j=i∨j=2*i+1∨j=2*i+2)→h[j]? =some z→kle x z):HpD (swp h i n) n:=by
 have hi:i<h.length:=by omega
 refine ⟨fun k a b hk hkp ha hb=> ?_,fun c a b h1 hc hcp ha hb=> ?_⟩
 ·rw[Qep hi hl] at ha hb
  rw[if_neg hkp] at hb
  by_cases h2:(k-1)/2=i
  ·rw[if_pos h2,hx] at hb
   injection hb with hb;subst hb
   by_cases hkn:k=n
   ·rw[if_pos hkn] at ha
    exact hmin i a (.inl rfl) ha
   ·rw[if_neg hkn,if_neg (by omega)] at ha
    exact hmin k a (by omega) ha
  ·rw[if_neg h2] at hb
   by_cases hki:k=i
   ·subst hki
    rw[if_neg (by omega),if_pos rfl] at ha
    exact hd.2 n a b hk (by omega) (by omega) ha hb
   ·rw[if_neg (by omega),if_neg hki] at ha
    exact hd.1 k a b hk h2 ha hb
 ·rw[Qep hi hl] at ha hb
  have h3:(n-1)/2=i:=by omega
  rw[h3,if_neg (by omega),if_pos rfl,hx] at hb
  injection hb with hb;subst hb
  rw[if_neg (by omega),if_neg (by omega)] at ha
  exact hd.1 c a x hc (by omega) ha (by rw[hcp];exact hx)
theorem HpD.stop {h:List It} {i:Nat} (hd:HpD h i) {y:It} (hy:h[i]? =some y) (hmin: ∀(j:Nat) (z:It),(j=i∨j=2*i+1∨j=2*i+2)→h[j]? =some z→kle y z):Hp h:=by
 intro k a b hk ha hb
 by_cases h2:(k-1)/2=i
 ·rw[h2,hy] at hb
  injection hb with hb;subst hb
  exact hmin k a (by omega) ha
 ·exact hd.1 k a b hk h2 ha hb
theorem Qrm {i:Nat} (h1:1≤i) (h2:i<1000000000):w64 (Int.tdiv (w64 ((i:Int)-1)) 2)=(((i-1)/2:Nat):Int):=by
 rw[Yb (n:=(i:Int)-1) (by omega) (by omega),Int.tdiv_eq_ediv_of_nonneg (by omega),Yb (by omega) (by omega)]
 omega
theorem QnT: ∀(i:Nat) (F:Nat) (h:List It) (c:Int),i<F→i<h.length→h.length<1000000000→okH h→HpU h i →
  ∃h',(iter YW F (⟨h,c⟩,(i:Int))=some (.inl ⟨h',c⟩)∨iter YW F (⟨h,c⟩,(i:Int))=some (.inr ⟨h',c⟩))∧h'.Perm h∧Hp h':=by
 intro i
 induction i using Nat.strongRecOn with
 | ind i ih =>
  intro F h c hF hl hb ho hu;obtain ⟨F,rfl⟩: ∃f,F=f+1:=⟨F-1,by omega⟩
  rcases Nat.eq_zero_or_pos i with rfl | hi
  ·exact ⟨h,.inl (by rw[iter];rfl),.refl _,hu.zero⟩
  ·have hx:h[i]? =some h[i]:=List.getElem?_eq_getElem hl;have hp:(i-1)/2<h.length:=by omega
   have hy:h[(i-1)/2]? =some h[(i-1)/2]:=List.getElem?_eq_getElem hp
   generalize h[i]=x at hx
   generalize h[(i-1)/2]=y at hy
   have hbody:YW (⟨h,c⟩,(i:Int))=if bef x y=true then some (.inl (⟨swp h i ((i-1)/2),c⟩,(((i-1)/2:Nat):Int))) else some (.inr (.inr ⟨h,c⟩)):=by
    simp only[YW,oun]
    rw[show decide ((0:Int)<(i:Int))=true by simp;omega]
    simp only[cond_true,Qrm hi (by omega)]
    rw[QjM hx hy (ho.get hx) (ho.get hy)]
    simp only[Option.bind_some]
    cases bef x y with
    | false=>rfl
    | true =>
     simp only[Bool.not_true,cond_false]
     rw[Qk2 hl hp]
     rfl
   rw[iter,hbody]
   cases hbe:bef x y with
   | false=>exact ⟨h,.inr rfl,.refl _,hu.stop hx hy (Qku hbe)⟩
   | true =>
    have hpm:=Qjo hl hp;obtain ⟨h',h1,h2,h3⟩:=ih ((i-1)/2) (by omega) F (swp h i ((i-1)/2)) c (by omega) (by rw[Qb0];exact hp) (by rw[Qb0];exact hb) (ho.perm hpm) (hu.step hi hl hx hy (Qmm hbe));exact ⟨h',h1,h2.trans hpm,h3⟩
theorem Qng {F:Nat} {q:Qu} (x:Q6) (hF:q.heap.length<F) (hl:q.heap.length<1000000) (ho:okH q.heap) (hx:0≤x.leg.Secs) (hh:Hp q.heap) :
  ∃q',Zz F q x=some q'∧q'.heap.Perm (q.heap++[⟨x,q.count⟩])∧Hp q'.heap:=by
 unfold Zz
 rw[Yi (by simp;omega)]
 simp only[Option.bind_some]
 have e1:w64 (((((q.heap++[⟨x,q.count⟩]:List It).length:Nat):Int))-1)=((q.heap.length:Nat):Int):=by
  rw[List.length_append,List.length_singleton,Yb (by omega) (by omega)];omega
 rw[e1]
 obtain ⟨h',h1,h2,h3⟩:=QnT q.heap.length F (q.heap++[⟨x,q.count⟩]) (w64 (q.count+1)) hF (by simp) (by simp;omega) (by
   intro y hy;rcases List.mem_append.1 hy with hy | hy
   ·exact ho y hy
   ·rw[List.mem_singleton.1 hy];exact hx) ⟨fun k a b hk hkn ha hb=>by
   have hka:=Qp ha
   rw[List.length_append,List.length_singleton] at hka
   rw[List.getElem?_append_left (by omega)] at ha hb
   exact hh k a b hk ha hb,fun c a b _ hc hcp ha _=>by
   have hka:=Qp ha
   rw[List.length_append,List.length_singleton] at hka
   omega⟩
 rcases h1 with h1 | h1
 ·exact ⟨⟨h',_⟩,by rw[h1];rfl,h2,h3⟩
 ·exact ⟨⟨h',_⟩,by rw[h1];rfl,h2,h3⟩
theorem Qht {h:List It} {c:Int} {i n k:Nat} (hb:h.length<1000000000) (hi:i<h.length) (ho:okH h) {y:It} (hy:h[n]? =some y) :
  pqueue_Queue_stop_sink_l1 (i:Int) (h,c,(n:Int),(k:Int))=match h[k]? with
   | some x=>if k≤2*i+2 then some (.inl (h,c,((if bef x y=true then k else n:Nat):Int),w64 ((k:Int)+1))) else some (.inr (h,c,(n:Int)))
   | none=>some (.inr (h,c,(n:Int))):=by
 simp only[pqueue_Queue_stop_sink_l1,oun]
 have e1:w64 (w64 (2*(i:Int))+2)=((2*i+2:Nat):Int):=by
  rw[Yb (n:=2*(i:Int)) (by omega) (by omega),Yb (by omega) (by omega)];omega
 rw[e1]
 cases hx:h[k]? with
 | none =>
  have hk:h.length≤k:=List.getElem?_eq_none_iff.1 hx
  rw[show decide ((k:Int)<((h.length:Nat):Int))=false by simp;omega]
  cases decide ((k:Int)≤((2*i+2:Nat):Int))<;>rfl
 | some x =>
  have hk:=Qp hx
  rw[show decide ((k:Int)<((h.length:Nat):Int))=true by simp;omega]
  by_cases h2:k≤2*i+2
  ·rw[show decide ((k:Int)≤((2*i+2:Nat):Int))=true by simp only[decide_eq_true_eq];omega]
   simp only[cond_true,Option.bind_some,if_pos h2]
   rw[QjM (q:=⟨h,c⟩) hx hy (ho.get hx) (ho.get hy)]
   simp only[Option.bind_some]
   cases bef x y<;>rfl
  ·rw[show decide ((k:Int)≤((2*i+2:Nat):Int))=false by simp only[decide_eq_false_iff_not];omega]
   simp only[cond_false,Option.bind_some,if_neg h2]
theorem Qou {F:Nat} {h:List It} {c:Int} {i:Nat} (hF:3≤F) (hb:h.length<1000000000) (hi:i<h.length) (ho:okH h) :
  ∃(n:Nat) (x:It),iter (pqueue_Queue_stop_sink_l1 (i:Int)) F (h,c,(i:Int),w64 (w64 (2*(i:Int))+1))=some (h,c,(n:Int))∧(n=i∨n=2*i+1∨n=2*i+2)∧h[n]? =some x ∧
   ∀(j:Nat) (z:It),(j=i∨j=2*i+1∨j=2*i+2)→h[j]? =some z→kle x z:=by
 obtain ⟨F,rfl⟩: ∃f,F=f+3:=⟨F-3,by omega⟩
 have e1:w64 (w64 (2*(i:Int))+1)=((2*i+1:Nat):Int):=by
  rw[Yb (n:=2*(i:Int)) (by omega) (by omega),Yb (by omega) (by omega)];omega
 have hy:h[i]? =some h[i]:=List.getElem?_eq_getElem hi
 generalize h[i]=y at hy
 rw[e1,iter,Qht hb hi ho hy]
 cases hx:h[2*i+1]? with
 | none =>
  have hk:h.length≤2*i+1:=List.getElem?_eq_none_iff.1 hx;refine ⟨i,y,rfl,.inl rfl,hy,fun j z hj hz=> ?_⟩;have:=Qp hz;obtain rfl:j=i:=by omega
  rw[hy] at hz;injection hz with hz;subst hz;exact Lg.le_refl _
 | some x =>
  simp only[show 2*i+1≤2*i+2 by omega,if_true,Option.bind_some,Qy]
  rw[VE (by omega)]
  obtain ⟨n1,x1,hn1,hx1,hle1,hle2,hin⟩: ∃(n1:Nat) (x1:It),(if bef x y=true then 2*i+1 else i)=n1∧h[n1]? =some x1∧kle x1 y∧kle x1 x∧(n1=i∨n1=2*i+1):=by
   cases hbe:bef x y with
   | true=>exact ⟨2*i+1,x,rfl,hx,Qmm hbe,Lg.le_refl _,.inr rfl⟩
   | false=>exact ⟨i,y,rfl,hy,Lg.le_refl _,Qku hbe,.inl rfl⟩
  rw[hn1,iter,Qht hb hi ho hx1]
  cases hx2:h[2*i+1+1]? with
  | none =>
   have hk:h.length≤2*i+2:=List.getElem?_eq_none_iff.1 hx2;refine ⟨n1,x1,rfl,by omega,hx1,fun j z hj hz=> ?_⟩;have:=Qp hz;rcases hj with rfl | rfl | rfl
   ·rw[hy] at hz;injection hz with hz;subst hz;exact hle1
   ·rw[hx] at hz;injection hz with hz;subst hz;exact hle2
   ·omega
  | some x2 =>
   simp only[show 2*i+1+1≤2*i+2 by omega,if_true,Option.bind_some,Qy]
   rw[VE (by omega)]
   obtain ⟨n2,z2,hn2,hz2,hle3,hle4,hin2⟩: ∃(n2:Nat) (z2:It),(if bef x2 x1=true then 2*i+1+1 else n1)=n2∧h[n2]? =some z2∧kle z2 x1∧kle z2 x2∧(n2=n1∨n2=2*i+2):=by
    cases hbe:bef x2 x1 with
    | true=>exact ⟨2*i+2,x2,rfl,hx2,Qmm hbe,Lg.le_refl _,.inr rfl⟩
    | false=>exact ⟨n1,x1,rfl,hx1,Lg.le_refl _,Qku hbe,.inl rfl⟩
   rw[hn2,iter,Qht hb hi ho hz2]
   have hfin:(match h[2*i+1+1+1]? with
     | some x=>if 2*i+1+1+1≤2*i+2 then some (.inl (h,c,((if bef x z2=true then 2*i+1+1+1 else n2:Nat):Int),w64 (((2*i+1+1+1:Nat):Int)+1))) else some (.inr (h,c,(n2:Int)))
     | none=>some (.inr (h,c,(n2:Int))):Option ((List It×Int×Int×Int)⊕(List It×Int×Int)))=some (.inr (h,c,(n2:Int))):=by
    cases h[2*i+1+1+1]? with
    | none=>rfl
    | some w=>simp only[];rw[if_neg (by omega)]
   rw[hfin]
   refine ⟨n2,z2,rfl,by omega,hz2,fun j z hj hz=> ?_⟩;rcases hj with rfl | rfl | rfl
   ·rw[hy] at hz;injection hz with hz;subst hz;exact Lg.le_trans hle3 hle1
   ·rw[hx] at hz;injection hz with hz;subst hz;exact Lg.le_trans hle3 hle2
   ·rw[hx2] at hz;injection hz with hz;subst hz;exact hle4
theorem Qot {F:Nat} (hF3:3≤F): ∀(d:Nat) (i:Nat) (n:Nat) (h:List It) (c:Int),h.length-i≤d→d<n→i<h.length→h.length<1000000000→okH h→HpD h i →
  ∃h',iter (YX F) n (h,c,(i:Int))=some ⟨h',c⟩∧h'.Perm h∧Hp h':=by
 intro d
 induction d with
 | zero=>intro i n h c hd _ hl;omega
 | succ d ih =>
  intro i n h c hd hn hl hb ho hh;obtain ⟨n,rfl⟩: ∃f,n=f+1:=⟨n-1,by omega⟩
  obtain ⟨m,x,h1,h2,h3,h4⟩:=Qou (c:=c) hF3 hb hl ho;have hml:=Qp h3;have hy:h[i]? =some h[i]:=List.getElem?_eq_getElem hl
  generalize h[i]=y at hy
  by_cases hmi:m=i
  ·subst hmi;refine ⟨h,?_,.refl _,hh.stop h3 h4⟩
   rw[iter]
   simp only[YX,oun,h1,Option.bind_some,decide_true,cond_true,Qy]
  ·have hpm:=Qjo hl hml;obtain ⟨h',g1,g2,g3⟩:=ih m n (swp h i m) c (by rw[Qb0];omega) (by omega) (by rw[Qb0];exact hml) (by rw[Qb0];exact hb) (ho.perm hpm) (hh.step hml (by omega) h3 hy h4);refine ⟨h',?_,g2.trans hpm,g3⟩
   rw[iter]
   simp only[YX,oun,h1,Option.bind_some]
   rw[show decide (((m:Nat):Int)=((i:Nat):Int))=false by simp only[decide_eq_false_iff_not];omega]
   simp only[cond_false]
   rw[Qk2 (q:=⟨h,c⟩) hl hml]
   simp only[Option.bind_some,Qy]
   exact g1
theorem Qm4 {F:Nat} (hF:3≤F) (c:Int):YY F ⟨[],c⟩=some ⟨[],c⟩:=by
 obtain ⟨F,rfl⟩: ∃f,F=f+3:=⟨F-3,by omega⟩
 unfold YY
 rw[iter]
 simp only[YX,oun]
 rw[iter]
 rfl
theorem Qp0 (F:Nat) (q:Qu) (h:q.heap=[]):Zg F q=some (⟨0,⟨0,0⟩⟩,false,q):=by
 unfold Zg Jq JT
 rw[h]
 rfl
theorem QqH {F:Nat} {q:Qu} (hF:q.heap.length+3≤F) (hb:q.heap.length<1000000000) (ho:okH q.heap) (hh:Hp q.heap) (hne:q.heap≠[]) :
  ∃(x:It) (q':Qu),Zg F q=some (x.value,true,q')∧(x::q'.heap).Perm q.heap∧Hp q'.heap∧ ∀y∈q.heap,kle x y:=by
 have hpos:0<q.heap.length:=List.length_pos_iff.2 hne;have hx:q.heap[0]? =some q.heap[0]:=List.getElem?_eq_getElem hpos
 generalize q.heap[0]=x at hx
 have hmin: ∀y∈q.heap,kle x y:=fun y hy=>by
  obtain ⟨k,hk⟩:=List.getElem?_of_mem hy;exact hh.root hx k y hk
 have hx':getI q.heap 0=some x:=by simpa [getI] using hx
 have e0:w64 (((q.heap.length:Nat):Int)-1)=((q.heap.length-1:Nat):Int):=by rw[Yb (by omega) (by omega)];omega
 have hlast:q.heap.length-1<q.heap.length:=by omega
 obtain ⟨s,hs⟩: ∃s,swp q.heap 0 (q.heap.length-1)=s:=⟨_,rfl⟩
 have hsl:s.length=q.heap.length:=by rw[←hs,Qb0]
 have hsp:s.Perm q.heap:=by rw[←hs];exact Qjo hpos hlast
 have hsx:s[q.heap.length-1]? =some x:=by rw[←hs,Qep hpos hlast,if_pos rfl];exact hx
 have htake:s=s.take (q.heap.length-1)++[x]:=by
  conv=>lhs;rw[←List.take_append_drop (q.heap.length-1) s]
  congr 1
  rw[List.drop_eq_getElem_cons (by omega)]
  rw[List.getElem?_eq_getElem (by omega)] at hsx
  injection hsx with hsx
  rw[hsx,List.drop_of_length_le (by omega)]
 have hperm:(x::s.take (q.heap.length-1)).Perm q.heap:=by
  refine List.Perm.trans ?_ hsp
  conv=>rhs;rw[htake]
  exact (List.perm_append_comm (l₁:=[x]) (l₂:=s.take (q.heap.length-1)))
 have hclr: ∀z:It,WL (QfZ s ((q.heap.length-1:Nat):Int) z) 0 ((q.heap.length-1:Nat):Int)=some (s.take (q.heap.length-1)):=by
  intro z
  rw[Qan (by rw[Qdf];omega)]
  unfold QfZ
  rw[Int.toNat_natCast,List.take_append_of_le_length (by simp;omega),List.take_take,Nat.min_self]
 have hsub: ∃l,WL s ((q.heap.length-1:Nat):Int) ((s.length:Nat):Int)=some l:=by
  unfold WL;exact ⟨_,if_pos ⟨by omega,by omega,by omega⟩⟩
 obtain ⟨l,hl⟩:=hsub;have hsw:=Qk2 (q:=q) hpos hlast
 rw[hs] at hsw
 have main: ∃h',YY F ⟨s.take (q.heap.length-1),q.count⟩=some ⟨h',q.count⟩∧h'.Perm (s.take (q.heap.length-1))∧Hp h':=by
  by_cases h1:q.heap.length=1
  ·rw[show s.take (q.heap.length-1)=[] by rw[h1];rfl]
   exact ⟨[],Qm4 (by omega) _,.refl _,fun k a b _ ha=>by simp at ha⟩
  ·have htl:(s.take (q.heap.length-1)).length=q.heap.length-1:=by rw[List.length_take];omega
   have ho2:okH (s.take (q.heap.length-1)):=fun y hy=>ho y (hperm.mem_iff.1 (List.mem_cons_of_mem _ hy));obtain ⟨h',g1,g2,g3⟩:=Qot (F:=F) (by omega) (q.heap.length) 0 F (s.take (q.heap.length-1)) q.count (by omega) (by omega) (by omega) (by omega) ho2 ⟨fun k a b hk hkp ha hb=>by
    have hk2:=Qp ha
    rw[htl] at hk2
    rw[List.getElem?_take,if_pos hk2,←hs,Qep hpos hlast,if_neg (by omega),if_neg (by omega)] at ha
    rw[List.getElem?_take,if_pos (by omega),←hs,Qep hpos hlast,if_neg (by omega),if_neg (by omega)] at hb
    exact hh k a b hk ha hb,fun _ _ _ h0=>by omega⟩
   refine ⟨h',?_,g2,g3⟩;unfold YY
   rw[show (0:Int)=((0:Nat):Int) from rfl,g1]
   rfl
 obtain ⟨h',g1,g2,g3⟩:=main;refine ⟨x,⟨h',q.count⟩,?_,(List.Perm.cons x g2).trans hperm,g3,hmin⟩;unfold Zg Jq JT
 simp only[Option.bind_some]
 rw[show decide (((q.heap.length:Nat):Int)=0)=false by simp only[decide_eq_false_iff_not];omega]
 simp only[cond_false,hx',Option.bind_some,oun,Bool.not_true,e0]
 rw[show (0:Int)=((0:Nat):Int) from rfl,hsw]
 simp only[Option.bind_some,hl]
 rw[show ((0:Nat):Int)=(0:Int) from rfl,hclr]
 simp only[Option.bind_some,g1]
end Go.Proofs.YtoojkdejnbnniaaGreat
namespace Go.Proofs.YtoojkdejnbnniaaGreat
open Go.RowKit
set_option linter.unusedSimpArgs false
set_option linter.unusedVariables false
abbrev Ed:=Jm
abbrev Rd_:=QR
structure OkR (r:Rd_):Prop where
 n1:1≤r.Nodes
 n2:r.Nodes≤64
 el:r.Edges.length≤512
 ed: ∀x∈r.Edges,Qbf r x
theorem OkR.of {r:Rd_} (h:Qdj r=0):OkR r:=let ⟨a,b,c,d⟩:=Qjd h;⟨a,b,c,d⟩
def WM (l:Lg) (x:Ed):Lg:=⟨l.Secs+x.Secs,l.Meters+x.Meters⟩
theorem Qqb {l:Lg} {x:Ed} (h:1≤x.Secs):Lg.lt l (WM l x):=by unfold Lg.lt WM;simp only[];omega
theorem Qg9 {a b:Lg} {x:Ed} (h:Lg.le a b):Lg.le (WM a x) (WM b x):=by unfold Lg.le WM at *;simp only[];omega
theorem Lg.lt_irrefl {a:Lg}: ¬Lg.lt a a:=by unfold Lg.lt;omega
theorem Lg.lt_of_lt_le {a b c:Lg} (h:Lg.lt a b) (h2:Lg.le b c):Lg.lt a c:=by unfold Lg.lt Lg.le at *;omega
theorem Lg.lt_of_le_lt {a b c:Lg} (h:Lg.le a b) (h2:Lg.lt b c):Lg.lt a c:=by unfold Lg.lt Lg.le at *;omega
theorem Lg.lt_of_le_ne {a b:Lg} (h:Lg.le a b) (h2:a≠b):Lg.lt a b:=by
 cases a;cases b;unfold Lg.lt Lg.le at *
 simp only[ne_eq,Qr.mk.injEq] at *
 omega
theorem Lg.antisymm {a b:Lg} (h:Lg.le a b) (h2:Lg.le b a):a=b:=by
 cases a;cases b;unfold Lg.le at *
 simp only[Qr.mk.injEq] at *
 omega
inductive Wk (r:Rd_) (s:Int):Nat→Int→Lg→Prop
 | nil:Wk r s 0 s ⟨0,0⟩
 | cons {k:Nat} {a:Int} {l:Lg} {x:Ed} (h:Wk r s k a l) (hx:x∈r.Edges) (ha:x.From=a):Wk r s (k+1) x.To (WM l x)
theorem Wk.bound {r:Rd_} {s:Int} (hr:OkR r): ∀{k:Nat} {n:Int} {l:Lg},Wk r s k n l→0≤l.Secs∧l.Secs≤k*100000∧0≤l.Meters∧l.Meters≤k*100000
 | _,_,_,.nil=>by simp
 | _,_,_,.cons h hx ha=>by
  have h1:=h.bound hr;have h2:=hr.ed _ hx;unfold Qbf at h2;unfold WM
  simp only[]
  omega
theorem Wk.node {r:Rd_} {s:Int} (hr:OkR r) (hs:0≤s∧s<r.Nodes): ∀{k:Nat} {n:Int} {l:Lg},Wk r s k n l→0≤n∧n<r.Nodes
 | _,_,_,.nil=>hs
 | _,_,_,.cons h hx ha=>by
  have h2:=hr.ed _ hx;unfold Qbf at h2
  omega
def lab (out:List Lg) (n:Int):Lg:=(getI out n).getD noL
theorem Qb4 {out:List Lg} {n:Int} (h0:0≤n) (h1:n<(out.length:Nat)):getI out n=some (lab out n):=by
 obtain ⟨x,hx⟩:=Qnu h0 h1;unfold lab
 rw[hx];rfl
theorem Qfv {out:List Lg} {b n:Int} {l:Lg} (h0:0≤b) (h1:b<(out.length:Nat)) (hn:0≤n):lab (Yk out b l) n=if n=b then l else lab out n:=by
 unfold lab Yk getI
 simp only[hn,if_true]
 rw[List.getElem?_set]
 by_cases h:n=b
 ·subst h
  simp only[if_true]
  rw[if_pos (by omega)];rfl
 ·rw[if_neg h,if_neg (by omega)]
theorem QgZ (out:List Lg) (b:Int) (l:Lg):(Yk out b l).length=out.length:=by simp[Yk]
structure Dj (r:Rd_) (s:Int) (M:Nat) (S:List Int) (W:Nat) (b:Lg) (cur:Int) (j:Nat) (out:List Lg) (h:List It):Prop where
 len:((out.length:Nat):Int)=r.Nodes
 hp:Hp h
 lenh:h.length≤M
 it: ∀y∈h,0≤y.value.node∧y.value.node<r.Nodes∧Lg.le b y.value.leg∧0≤(lab out y.value.node).Secs∧Lg.le (lab out y.value.node) y.value.leg
 nd:(h.map fun y=>(y.value.node,y.value.leg)).Nodup
 lb: ∀n,0≤n→n<r.Nodes→lab out n=noL∨ ∃k,k≤W∧Wk r s k n (lab out n)
 src:lab out s=⟨0,0⟩
 pend: ∀n,0≤n→n<r.Nodes→n∉S→lab out n≠noL→ ∃y∈h,y.value.node=n∧y.value.leg=lab out n
 sn:S.Nodup
 sr: ∀n∈S,0≤n∧n<r.Nodes
 dn: ∀n∈S,0≤(lab out n).Secs∧Lg.le (lab out n) b
 st: ∀y∈h,y.value.node∈S→Lg.lt (lab out y.value.node) y.value.leg
 bs:0≤b.Secs
 edge: ∀n∈S,∀x∈(if n=cur then r.Edges.take j else r.Edges),x.From=n→0≤(lab out x.To).Secs∧Lg.le (lab out x.To) (WM (lab out n) x)
theorem Dj.okH {r:Rd_} {s:Int} {M:Nat} {S:List Int} {W:Nat} {b:Lg} {cur:Int} {j:Nat} {out:List Lg} {h:List It} (d:Dj r s M S W b cur j out h):okH h:=fun y hy=>by
 have h1:=d.it y hy;have h2:=d.bs;unfold okI;have h3:=h1.2.2.1;unfold Lg.le at h3
 omega
theorem Qho {l:Lg} (h:0≤l.Secs):l≠noL:=by intro e;rw[e] at h;exact absurd h (by decide)
theorem QfC {r:Rd_} {s:Int} {W:Nat} (hr:OkR r) {l:Lg} {n:Int} (h:l=noL∨ ∃k,k≤W∧Wk r s k n l) (hne:l≠noL): ∃k,k≤W∧Wk r s k n l∧0≤l.Secs:=by
 rcases h with h | ⟨k,h1,h2⟩
 ·exact absurd h hne
 ·exact ⟨k,h1,h2,(h2.bound hr).1⟩
theorem Qdz {α:Type} {l:List α} {j:Nat} {x y:α} (hx:l[j]? =some x) (hy:y∈l.take (j+1)):y∈l.take j∨y=x:=by
 rw[YF hx] at hy
 rcases List.mem_append.1 hy with h | h
 ·exact .inl h
 ·exact .inr (List.mem_singleton.1 h)
theorem Dj.skip {r:Rd_} {s:Int} {M:Nat} {S:List Int} {W:Nat} {b:Lg} {cur:Int} {j:Nat} {out:List Lg} {h:List It} {x:Ed} (d:Dj r s M S W b cur j out h) (hx:r.Edges[j]? =some x)
  (hc:x.From=cur→0≤(lab out x.To).Secs∧Lg.le (lab out x.To) (WM (lab out cur) x)):Dj r s (M+1) S W b cur (j+1) out h:=by
 refine { d with lenh:=by have:=d.lenh;omega,edge:=fun n hn y hy hf=> ?_ }
 by_cases hnc:n=cur
 ·rw[if_pos hnc] at hy
  rcases Qdz hx hy with h1 | h1
  ·exact d.edge n hn y (by rw[if_pos hnc];exact h1) hf
  ·subst h1
   rw[hnc]
   exact hc (by rw[hf,hnc])
 ·rw[if_neg hnc] at hy
  exact d.edge n hn y (by rw[if_neg hnc];exact hy) hf
theorem Dj.take {r:Rd_} {s:Int} {M:Nat} {S:List Int} {W:Nat} {b:Lg} {cur:Int} {j:Nat} {out:List Lg} {h h':List It} {x:Ed} {c:Int} (hr:OkR r) (hs:0≤s∧s<r.Nodes) (d:Dj r s M S W b cur j out h) (hx:r.Edges[j]? =some x)
  (hcur:lab out cur=b) (hcs:cur∈S) (hf:x.From=cur) (hk: ∃k,k+1≤W∧Wk r s k cur (lab out cur)) (hb:lab out x.To=noL∨Lg.lt (WM b x) (lab out x.To))
  (hp:h'.Perm (h++[⟨⟨x.To,WM b x⟩,c⟩])) (hh:Hp h'):Dj r s (M+1) S W b cur (j+1) (Yk out x.To (WM b x)) h':=by
 have hok:=hr.ed x (List.mem_of_getElem? hx);unfold Qbf at hok;have hlen:=d.len;have hto0:0≤x.To:=by omega
 have hto1:x.To<((out.length:Nat):Int):=by omega
 have hbx:Lg.lt b (WM b x):=Qqb (by omega);have hset: ∀n,0≤n→lab (Yk out x.To (WM b x)) n=if n=x.To then WM b x else lab out n:=fun n hn=>Qfv hto0 hto1 hn
 have hself:lab (Yk out x.To (WM b x)) x.To=WM b x:=by rw[hset _ hto0,if_pos rfl]
 have hbs:=d.bs;have hxs:0≤(WM b x).Secs:=by unfold WM;simp only[];omega
 have hnS:x.To∉S:=fun hm=>by
  have h1:=d.dn _ hm;rcases hb with h2 | h2
  ·rw[h2] at h1;exact absurd h1.1 (by decide)
  ·exact Lg.lt_irrefl (Lg.lt_of_lt_le (Lg.lt_of_lt_le (Lg.lt_of_le_lt h1.2 hbx) (Lg.le_of_lt h2)) (Lg.le_refl _))
 have hne: ∀n∈S,n≠x.To:=fun n hn e=>hnS (e▸hn);have hold: ∀n∈S,lab (Yk out x.To (WM b x)) n=lab out n:=fun n hn=>by rw[hset _ (d.sr n hn).1,if_neg (hne n hn)]
 have hsrc:s≠x.To:=fun e=>by
  have h1:=d.src
  rw[e] at h1
  rcases hb with h2 | h2
  ·rw[h1] at h2;cases h2
  ·rw[h1] at h2
   unfold Lg.lt WM at h2
   simp only[] at h2
   omega
 have hmem: ∀y,y∈h'↔y∈h∨y=⟨⟨x.To,WM b x⟩,c⟩:=fun y=>by rw[hp.mem_iff];simp
 have himp: ∀n,0≤n→0≤(lab out n).Secs→0≤(lab (Yk out x.To (WM b x)) n).Secs∧Lg.le (lab (Yk out x.To (WM b x)) n) (lab out n):=fun n hn h0=>by
  rw[hset n hn]
  by_cases h1:n=x.To
  ·subst h1
   rw[if_pos rfl]
   rcases hb with h2 | h2
   ·rw[h2] at h0;exact absurd h0 (by decide)
   ·exact ⟨hxs,Lg.le_of_lt h2⟩
  ·rw[if_neg h1];exact ⟨h0,Lg.le_refl _⟩
 refine { len:=by rw[QgZ];exact hlen,hp:=hh,lenh:= ?_,it:= ?_,nd:= ?_,lb:= ?_,src:= ?_,pend:= ?_,sn:=d.sn,sr:=d.sr,dn:= ?_,st:= ?_,bs:=d.bs,edge:= ?_ }
 ·rw[hp.length_eq,List.length_append,List.length_singleton];have:=d.lenh;omega
 ·intro y hy;rcases (hmem y).1 hy with h1 | h1
  ·have h2:=d.it y h1;have h3:=himp _ h2.1 h2.2.2.2.1;exact ⟨h2.1,h2.2.1,h2.2.2.1,h3.1,Lg.le_trans h3.2 h2.2.2.2.2⟩
  ·subst h1
   simp only[]
   rw[hself]
   exact ⟨hto0,by omega,Lg.le_of_lt hbx,hxs,Lg.le_refl _⟩
 ·rw[(hp.map _).nodup_iff,List.map_append,List.nodup_append]
  refine ⟨d.nd,by simp,fun p hp1 q hq=> ?_⟩
  simp only[List.map_cons,List.map_nil,List.mem_singleton] at hq
  subst hq;obtain ⟨y,hy,rfl⟩:=List.mem_map.1 hp1;intro e;injection e with e1 e2
  have h2:=d.it y hy
  rw[e1,e2] at h2
  rcases hb with h3 | h3
  ·rw[h3] at h2;exact absurd h2.2.2.2.1 (by decide)
  ·exact Lg.lt_irrefl (Lg.lt_of_lt_le h3 h2.2.2.2.2)
 ·intro n h0 h1
  rw[hset n h0]
  by_cases h2:n=x.To
  ·subst h2
   rw[if_pos rfl]
   obtain ⟨k,hk1,hk2⟩:=hk;refine .inr ⟨k+1,hk1,?_⟩
   rw[←hcur]
   exact .cons hk2 (List.mem_of_getElem? hx) hf
  ·rw[if_neg h2];exact d.lb n h0 h1
 ·rw[hset s hs.1,if_neg hsrc];exact d.src
 ·intro n h0 h1 h2 h3
  rw[hset n h0] at h3 ⊢
  by_cases h4:n=x.To
  ·rw[if_pos h4]
   exact ⟨_,(hmem _).2 (.inr rfl),h4.symm,rfl⟩
  ·rw[if_neg h4] at h3 ⊢
   obtain ⟨y,hy,h5⟩:=d.pend n h0 h1 h2 h3;exact ⟨y,(hmem y).2 (.inl hy),h5⟩
 ·intro n hn
  rw[hold n hn];exact d.dn n hn
 ·intro y hy hyS;rcases (hmem y).1 hy with h1 | h1
  ·rw[hold _ hyS];exact d.st y h1 hyS
  ·subst h1;exact absurd hyS hnS
 ·intro n hn y hy hfy;have hyE:y∈r.Edges:=by
   split at hy
   ·exact List.mem_of_mem_take hy
   ·exact hy
  have hyok:=hr.ed y hyE;unfold Qbf at hyok;have h5:(y=x∧n=cur)∨y∈(if n=cur then r.Edges.take j else r.Edges):=by
   by_cases hnc:n=cur
   ·rw[if_pos hnc] at hy ⊢
    rcases Qdz hx hy with h1 | h1
    ·exact .inr h1
    ·exact .inl ⟨h1,hnc⟩
   ·rw[if_neg hnc] at hy ⊢
    exact .inr hy
  rw[hold n hn]
  rcases h5 with ⟨rfl,rfl⟩ | h5
  ·rw[hself,hcur];exact ⟨hxs,Lg.le_refl _⟩
  ·have h6:=d.edge n hn y h5 hfy;have h7:=himp y.To (by omega) h6.1;exact ⟨h7.1,Lg.le_trans h7.2 h6.2⟩
end Go.Proofs.YtoojkdejnbnniaaGreat
namespace Go.Proofs.YtoojkdejnbnniaaGreat
open Go.RowKit
set_option linter.unusedSimpArgs false
set_option linter.unusedVariables false
variable {r:Rd_} {s:Int}
theorem Qla {l:Lg} {x:Ed} (hr:OkR r) (hx:x∈r.Edges) {k:Nat} {n:Int} (hw:Wk r s k n l) (hk:k≤100000):QcY l x=some (WM l x):=by
 have h1:=hw.bound hr;have h2:=hr.ed x hx;unfold Qbf at h2;unfold QcY WM
 rw[Yb (by omega) (by omega),Yb (by omega) (by omega)]
theorem QmU {F:Nat} {S:List Int} {W:Nat} {b:Lg} {cur:Int} {y:Q6} (hr:OkR r) (hs:0≤s∧s<r.Nodes) (hcs:cur∈S) (hyn:y.node=cur) (hyl:y.leg=b) (hW:W≤64) {M0:Nat} (hM:M0+600≤F) (hM2:M0≤100000) :
  ∀(d j:Nat) (out:List Lg) (q:Qu) (n:Nat),r.Edges.length-j=d→j≤r.Edges.length→d<n→lab out cur=b→(∃k,k+1≤W∧Wk r s k cur (lab out cur))→Dj r s (M0+j) S W b cur j out q.heap →
   ∃out' q',iter (JD F r y) n (out,q,(j:Int))=some (out',q')∧lab out' cur=b∧Dj r s (M0+r.Edges.length) S W b cur r.Edges.length out' q'.heap:=by
 intro d
 induction d with
 | zero =>
  intro j out q n hd hj hn hl hk hD;obtain ⟨n,rfl⟩: ∃f,n=f+1:=⟨n-1,by omega⟩
  obtain rfl:j=r.Edges.length:=by omega
  refine ⟨out,q,?_,hl,hD⟩
  rw[iter]
  simp only[JD,oun]
  rw[show decide (((r.Edges.length:Nat):Int)<((r.Edges.length:Nat):Int))=false by simp]
  rfl
 | succ d ih =>
  intro j out q n hd hj hn hl hk hD;obtain ⟨n,rfl⟩: ∃f,n=f+1:=⟨n-1,by omega⟩
  have hjl:j<r.Edges.length:=by omega
  have hx:r.Edges[j]? =some r.Edges[j]:=List.getElem?_eq_getElem hjl
  generalize r.Edges[j]=x at hx
  have hxm:=List.mem_of_getElem? hx;have hok:=hr.ed x hxm;unfold Qbf at hok;have hel:=hr.el;have hlen:=hD.len;have hto:getI out x.To=some (lab out x.To):=Qb4 (by omega) (by omega);have step:(∃out1 q1,JD F r y (out,q,(j:Int))=some (.inl (out1,q1,((j+1:Nat):Int)))∧lab out1 cur=b∧(∃k,k+1≤W∧Wk r s k cur (lab out1 cur))∧Dj r s (M0+(j+1)) S W b cur (j+1) out1 q1.heap):=by
   simp only[JD,oun]
   rw[show decide ((j:Int)<((r.Edges.length:Nat):Int))=true by simp;omega]
   simp only[cond_true,Qm,hx,Option.bind_some,Qcz,hyn,hyl]
   rw[VE (by omega)]
   by_cases hf:x.From=cur
   ·simp only[hf,decide_true,Bool.not_true,cond_false]
    obtain ⟨k,hk1,hk2⟩:=hk;have hk3:=hk2
    rw[hl] at hk3
    rw[Qla hr hxm hk3 (by omega)]
    simp only[Option.bind_some,hto,QjN]
    cases hb:(decide (lab out x.To=noL)||decide (Lg.lt (WM b x) (lab out x.To))) with
    | true =>
     simp only[cond_true]
     have hb':lab out x.To=noL∨Lg.lt (WM b x) (lab out x.To):=by simpa using hb
     have hbnd:=hk3.bound hr;have hlh:=hD.lenh;obtain ⟨q1,hq1,hq2,hq3⟩:=Qng (F:=F) (q:=q) ⟨x.To,WM b x⟩ (by omega) (by omega) hD.okH (by unfold WM;simp only[];omega) hD.hp
     rw[hq1]
     simp only[Option.bind_some]
     have hD2:=hD.take hr hs hx hl hcs hf ⟨k,hk1,hk2⟩ hb' hq2 hq3;have hne:cur≠x.To:=fun e=>by omega
     have hl2:lab (Yk out x.To (WM b x)) cur=lab out cur:=by rw[Qfv (by omega) (by omega) (hD.sr cur hcs).1,if_neg hne]
     exact ⟨_,q1,rfl,by rw[hl2];exact hl,⟨k,hk1,by rw[hl2];exact hk2⟩,hD2⟩
    | false =>
     simp only[cond_false]
     refine ⟨out,q,rfl,hl,⟨k,hk1,hk2⟩,hD.skip hx fun _=> ?_⟩
     simp only[Bool.or_eq_false_iff,decide_eq_false_iff_not] at hb
     obtain ⟨k2,_,_,h5⟩:=QfC hr (hD.lb x.To (by omega) (by omega)) hb.1
     rw[hl]
     exact ⟨h5,Lg.le_of_not_lt hb.2⟩
   ·simp only[show decide (x.From=cur)=false by simpa using hf,Bool.not_false,cond_true,Option.bind_some]
    exact ⟨out,q,rfl,hl,hk,hD.skip hx fun e=>absurd e hf⟩
  obtain ⟨out1,q1,h1,h2,h3,h4⟩:=step;obtain ⟨out',q',g1,g2,g3⟩:=ih (j+1) out1 q1 n (by omega) (by omega) (by omega) h2 h3 h4;refine ⟨out',q',?_,g2,g3⟩
  rw[iter,h1]
  exact g1
theorem Dj.drop {M:Nat} {S:List Int} {W:Nat} {b:Lg} {cur:Int} {j:Nat} {out:List Lg} {h h':List It} {y:It} (d:Dj r s M S W b cur j out h) (hc:cur∉S) (hp:(y::h').Perm h) (hh:Hp h') (hmin: ∀z∈h,kle y z)
  (hst:lab out y.value.node≠y.value.leg):Dj r s M S W y.value.leg cur j out h':=by
 have hmem: ∀z,z∈h'→z∈h:=fun z hz=>hp.mem_iff.1 (List.mem_cons_of_mem _ hz);have hy:y∈h:=hp.mem_iff.1 List.mem_cons_self;have hby:=(d.it y hy).2.2.1;refine { d with hp:=hh,lenh:= ?_,it:=fun z hz=> ?_,nd:= ?_,pend:=fun n h0 h1 h2 h3=> ?_,dn:=fun n hn=>⟨(d.dn n hn).1,Lg.le_trans (d.dn n hn).2 hby⟩,st:=fun z hz=>d.st z (hmem z hz),bs:= ?_ }
 ·have:=d.lenh;have h2:=hp.length_eq;rw[List.length_cons] at h2;omega
 ·have h2:=d.it z (hmem z hz);exact ⟨h2.1,h2.2.1,hmin z (hmem z hz),h2.2.2.2⟩
 ·have h2:=((hp.map fun y=>(y.value.node,y.value.leg)).nodup_iff).2 d.nd
  rw[List.map_cons,List.nodup_cons] at h2
  exact h2.2
 ·obtain ⟨z,hz,h5,h6⟩:=d.pend n h0 h1 h2 h3;rcases List.mem_cons.1 (hp.mem_iff.2 hz) with h7 | h7
  ·subst h7;exact absurd (by rw[h5];exact h6.symm) hst
  ·exact ⟨z,h7,h5,h6⟩
 ·have:=d.bs;unfold Lg.le at hby;omega
theorem Dj.enter {M:Nat} {S:List Int} {W:Nat} {b:Lg} {out:List Lg} {h h':List It} {y:It} (hr:OkR r) (d:Dj r s M S W b (-1) 0 out h) (hp:(y::h').Perm h) (hh:Hp h') (hmin: ∀z∈h,kle y z)
  (hst:lab out y.value.node=y.value.leg):y.value.node∉S∧Dj r s (M-1) (y.value.node::S) (W+1) y.value.leg y.value.node 0 out h':=by
 have hmem: ∀z,z∈h'→z∈h:=fun z hz=>hp.mem_iff.1 (List.mem_cons_of_mem _ hz);have hy:y∈h:=hp.mem_iff.1 List.mem_cons_self;have hyi:=d.it y hy;have hby:=hyi.2.2.1;have hnS:y.value.node∉S:=fun hm=>by
  have:=d.st y hy hm
  rw[hst] at this
  exact Lg.lt_irrefl this
 have hnd:=((hp.map fun y=>(y.value.node,y.value.leg)).nodup_iff).2 d.nd
 rw[List.map_cons,List.nodup_cons] at hnd
 refine ⟨hnS,{ len:=d.len,hp:=hh,lenh:= ?_,it:=fun z hz=> ?_,nd:=hnd.2,lb:=fun n h0 h1=> ?_,src:=d.src,pend:=fun n h0 h1 h2 h3=> ?_,sn:=List.nodup_cons.2 ⟨hnS,d.sn⟩,sr:=fun n hn=> ?_,dn:=fun n hn=> ?_,st:=fun z hz hzS=> ?_,bs:= ?_,edge:=fun n hn x hx hf=> ?_ }⟩
 ·have:=d.lenh;have h2:=hp.length_eq;rw[List.length_cons] at h2;omega
 ·have h2:=d.it z (hmem z hz);exact ⟨h2.1,h2.2.1,hmin z (hmem z hz),h2.2.2.2⟩
 ·rcases d.lb n h0 h1 with h2 | ⟨k,h2,h3⟩
  ·exact .inl h2
  ·exact .inr ⟨k,by omega,h3⟩
 ·obtain ⟨z,hz,h5,h6⟩:=d.pend n h0 h1 (fun e=>h2 (List.mem_cons_of_mem _ e)) h3;rcases List.mem_cons.1 (hp.mem_iff.2 hz) with h7 | h7
  ·subst h7;exact absurd (by rw[←h5];exact List.mem_cons_self) h2
  ·exact ⟨z,h7,h5,h6⟩
 ·rcases List.mem_cons.1 hn with h1 | h1
  ·subst h1;exact ⟨hyi.1,hyi.2.1⟩
  ·exact d.sr n h1
 ·rcases List.mem_cons.1 hn with h1 | h1
  ·subst h1;exact ⟨hyi.2.2.2.1,by rw[hst];exact Lg.le_refl _⟩
  ·exact ⟨(d.dn n h1).1,Lg.le_trans (d.dn n h1).2 hby⟩
 ·rcases List.mem_cons.1 hzS with h1 | h1
  ·have h2:=(d.it z (hmem z hz)).2.2.2.2;refine Lg.lt_of_le_ne h2 fun e=>hnd.1 ?_
   rw[h1,hst] at e
   exact List.mem_map.2 ⟨z,hz,by rw[h1,←e]⟩
  ·exact d.st z (hmem z hz) h1
 ·have:=d.bs;unfold Lg.le at hby;omega
 ·rcases List.mem_cons.1 hn with h1 | h1
  ·subst h1
   rw[if_pos rfl] at hx
   simp at hx
  ·have hne:n≠y.value.node:=fun e=>hnS (e▸h1)
   rw[if_neg hne] at hx
   refine d.edge n h1 x ?_ hf
   rw[if_neg (by have:=(d.sr n h1).1;omega)]
   exact hx
theorem Dj.leave {M:Nat} {S:List Int} {W:Nat} {b:Lg} {cur:Int} {out:List Lg} {h:List It} (d:Dj r s M S W b cur r.Edges.length out h):Dj r s M S W b (-1) 0 out h:=by
 refine { d with edge:=fun n hn x hx hf=>d.edge n hn x ?_ hf }
 rw[if_neg (by have:=(d.sr n hn).1;omega)] at hx
 split
 ·rw[List.take_length];exact hx
 ·exact hx
theorem QqA {S:List Int} (hr:OkR r) (h1:S.Nodup) (h2: ∀n∈S,0≤n∧n<r.Nodes):S.length≤64:=by
 have:=Qds (m:=(List.range 64).map fun k:Nat=>(k:Int)) h1 fun n hn=>by
  have h3:=h2 n hn;have h4:=hr.n2;exact List.mem_map.2 ⟨n.toNat,List.mem_range.2 (by omega),by omega⟩
 simpa using this
theorem QlY {F:Nat} (hF:40000≤F) (hr:OkR r) (hs:0≤s∧s<r.Nodes): ∀(m:Nat) (n:Nat) (S:List Int) (b:Lg) (out:List Lg) (q:Qu),514*(64-S.length)+q.heap.length≤m→m<n→Dj r s (1+512*S.length) S S.length b (-1) 0 out q.heap →
  ∃out',iter (JE F r) n (out,q)=some out'∧ ∃S' b',Dj r s (1+512*S'.length) S' S'.length b' (-1) 0 out' []:=by
 intro m
 induction m using Nat.strongRecOn with
 | ind m ih =>
  intro n S b out q hm hn hD;obtain ⟨n,rfl⟩: ∃f,n=f+1:=⟨n-1,by omega⟩
  have hS:=QqA hr hD.sn hD.sr;have hlh:=hD.lenh
  by_cases hq:q.heap=[]
  ·refine ⟨out,?_,S,b,by rw[←hq];exact hD⟩
   rw[iter]
   simp only[JE,oun]
   rw[Qp0 F q hq]
   rfl
  ·obtain ⟨y,q',h1,h2,h3,h4⟩:=QqH (F:=F) (q:=q) (by omega) (by omega) hD.okH hD.hp hq;have hy:y∈q.heap:=h2.mem_iff.1 List.mem_cons_self;have hyi:=hD.it y hy;have hlen:=hD.len;have hql:=h2.length_eq
   rw[List.length_cons] at hql
   have hget:getI out y.value.node=some (lab out y.value.node):=Qb4 hyi.1 (by omega)
   by_cases hst:lab out y.value.node=y.value.leg
   ·obtain ⟨hnS,hE⟩:=hD.enter hr h2 h3 h4 hst;have hS2:=QqA hr hE.sn hE.sr
    rw[List.length_cons] at hS2
    obtain ⟨k,hk1,hk2⟩: ∃k,k+1≤S.length+1∧Wk r s k y.value.node (lab out y.value.node):=by
     obtain ⟨k,h5,h6,_⟩:=QfC hr (hD.lb _ hyi.1 hyi.2.1) (Qho hyi.2.2.2.1);exact ⟨k,by omega,h6⟩
    have hE':Dj r s (q'.heap.length+0) (y.value.node::S) (S.length+1) y.value.leg y.value.node 0 out q'.heap:={ hE with lenh:=Nat.le_refl _ }
    obtain ⟨out',q2,g1,g2,g3⟩:=QmU (F:=F) (y:=y.value) (M0:=q'.heap.length) hr hs List.mem_cons_self rfl rfl (by omega) (by omega) (by omega) r.Edges.length 0 out q' (((r.Edges.length:Nat):Int).toNat+1) (by omega) (by omega) (by omega) hst ⟨k,hk1,hk2⟩ hE';have hel:=hr.el;have g6:=g3.lenh;have g5:Dj r s (1+512*(y.value.node::S).length) (y.value.node::S) (y.value.node::S).length y.value.leg (-1) 0 out' q2.heap:=by
     refine { g3.leave with lenh:= ?_ }
     rw[List.length_cons]
     omega
    obtain ⟨out2,k1,k2⟩:=ih (514*(64-(y.value.node::S).length)+q2.heap.length) (by rw[List.length_cons];omega) n (y.value.node::S) y.value.leg out' q2 (Nat.le_refl _) (by rw[List.length_cons];omega) g5;refine ⟨out2,?_,k2⟩
    rw[iter]
    simp only[JE,oun,h1,Option.bind_some,Bool.not_true,cond_false,hget,hst,decide_true]
    rw[show (0:Int)=((0:Nat):Int) from rfl,g1]
    exact k1
   ·have hE:=hD.drop (by intro hm;have:=hD.sr _ hm;omega) h2 h3 h4 hst;obtain ⟨out',k1,k2⟩:=ih (514*(64-S.length)+q'.heap.length) (by omega) n S y.value.leg out q' (Nat.le_refl _) (by omega) hE;refine ⟨out',?_,k2⟩
    rw[iter]
    simp only[JE,oun,h1,Option.bind_some,Bool.not_true,cond_false,hget]
    rw[show decide (lab out y.value.node=y.value.leg)=false by simpa using hst]
    simp only[Bool.not_false,cond_true,Option.bind_some,Qy]
    exact k1
structure IsL (r:Rd_) (s:Int) (out:List Lg):Prop where
 len:((out.length:Nat):Int)=r.Nodes
 lb: ∀n,0≤n→n<r.Nodes→lab out n=noL∨ ∃k,k≤out.length∧Wk r s k n (lab out n)
 best: ∀k n l,Wk r s k n l→0≤(lab out n).Secs∧Lg.le (lab out n) l
theorem Dj.legs {S:List Int} {b:Lg} {out:List Lg} {M:Nat} (hr:OkR r) (hs:0≤s∧s<r.Nodes) (d:Dj r s M S S.length b (-1) 0 out []):IsL r s out:=by
 have hlen:=d.len;have hS:S.length≤out.length:=by
  have:=Qds (m:=(List.range out.length).map fun k:Nat=>(k:Int)) d.sn fun n hn=>by
   have h3:=d.sr n hn;exact List.mem_map.2 ⟨n.toNat,List.mem_range.2 (by omega),by omega⟩
  simpa using this
 refine ⟨hlen,fun n h0 h1=> ?_,fun k n l hw=> ?_⟩
 ·rcases d.lb n h0 h1 with h2 | ⟨k,h2,h3⟩
  ·exact .inl h2
  ·exact .inr ⟨k,by omega,h3⟩
 ·have hin: ∀n,0≤n→n<r.Nodes→0≤(lab out n).Secs→n∈S:=fun n h0 h1 h2=>by
   by_cases h3:n∈S
   ·exact h3
   ·obtain ⟨y,hy,_⟩:=d.pend n h0 h1 h3 (Qho h2);cases hy
  induction hw with
  | nil=>rw[d.src];exact ⟨Int.le_refl _,Lg.le_refl _⟩
  | cons h hx ha ih =>
   rename_i k a l x
   have hnode:=h.node hr hs;have hS:=hin a hnode.1 hnode.2 ih.1;have h2:=d.edge a hS x (by rw[if_neg (by omega)];exact hx) ha;exact ⟨h2.1,Lg.le_trans h2.2 (Qg9 ih.2)⟩
theorem QkI {n:Nat} {i:Int}:lab (List.replicate n noL) i=noL:=by
 unfold lab getI
 split
 ·rw[List.getElem?_replicate];split<;>rfl
 ·rfl
theorem QkK {a b:List Lg} (h:a.length=b.length) (h2: ∀n:Nat,n<a.length→lab a n=lab b n):a=b:=by
 apply List.ext_getElem?;intro i;rcases Nat.lt_or_ge i a.length with hi | hi
 ·have h3:=h2 i hi;have h4:=Qb4 (out:=a) (n:=(i:Int)) (by omega) (by omega);have h5:=Qb4 (out:=b) (n:=(i:Int)) (by omega) (by omega)
  rw[Qm] at h4 h5
  rw[h4,h5,h3]
 ·rw[List.getElem?_eq_none hi,List.getElem?_eq_none (by omega)]
theorem IsL.unique {a b:List Lg} (hr:OkR r) (ha:IsL r s a) (hb:IsL r s b):a=b:=by
 have h1:=ha.len;have h2:=hb.len;refine QkK (by omega) fun n hn=> ?_;rcases ha.lb n (by omega) (by omega) with h3 | ⟨k,_,h3⟩<;>rcases hb.lb n (by omega) (by omega) with h4 | ⟨k',_,h4⟩
 ·rw[h3,h4]
 ·have h5:=ha.best _ _ _ h4
  rw[h3] at h5;exact absurd h5.1 (by decide)
 ·have h5:=hb.best _ _ _ h3
  rw[h4] at h5;exact absurd h5.1 (by decide)
 ·exact Lg.antisymm (ha.best _ _ _ h4).2 (hb.best _ _ _ h3).2
theorem Qkj {F:Nat} (hF:40000≤F) (hr:OkR r) (hs:0≤s∧s<r.Nodes): ∃out,VU F r s=some out∧IsL r s out:=by
 have h1:=hr.n1;have h2:=hr.n2;have hmk:Qca (⟨0,0⟩:Lg) r.Nodes=some (List.replicate r.Nodes.toNat ⟨0,0⟩):=by
  unfold Qca
  rw[if_pos (by omega)]
 have hl1:iter (JC (List.replicate r.Nodes.toNat ⟨0,0⟩)) ((((List.replicate r.Nodes.toNat (⟨0,0⟩:Lg)).length:Nat):Int).toNat+1) (List.replicate r.Nodes.toNat ⟨0,0⟩,0)=some (List.replicate r.Nodes.toNat noL):=by
  have hN:r.Nodes.toNat≤64:=by omega
  generalize r.Nodes.toNat=N at *
  have:=YD (body:=JC (List.replicate N ⟨0,0⟩)) (List.replicate N (⟨0,0⟩:Lg)) (fun k=>List.replicate k noL++List.replicate (N-k) (⟨0,0⟩:Lg)) (fun m k=>(m,k)) (fun _ _=>none) (List.replicate N noL) (by simp;omega) (fun k x hx _=> ?_) (fun _=>by simp[JC,oun]) ((((List.replicate N (⟨0,0⟩:Lg)).length:Nat):Int).toNat+1) (by simp)
  ·rw[QK _ _ (fun _ _ _=>rfl)] at this
   simpa using this
  ·have hk:=Qp hx;have hk2:((k:Int)<(((List.replicate N (⟨0,0⟩:Lg)).length:Nat):Int)):=by omega
   rw[List.length_replicate] at hk
   simp only[JC,oun,hk2,decide_true,cond_true,QcK,Option.bind_some]
   obtain ⟨z,hz⟩: ∃z,getI (List.replicate k noL++List.replicate (N-k) (⟨0,0⟩:Lg)) (k:Int)=some z:=Qnu (by omega) (by simp;omega)
   rw[hz]
   simp only[Option.bind_some,ZL]
   congr 3
   unfold Yk
   rw[Int.toNat_natCast,show N-k=(N-(k+1))+1 by omega,List.replicate_succ,List.set_append_right _ _ (by simp),List.length_replicate,Nat.sub_self,List.set_cons_zero,List.replicate_succ',List.append_assoc]
   rfl
 have hlenR:((((List.replicate r.Nodes.toNat noL).length:Nat)):Int)=r.Nodes:=by simp;omega
 obtain ⟨q,hq1,hq2,hq3⟩:=Qng (F:=F) (q:=⟨[],0⟩) ⟨s,⟨0,0⟩⟩ (by simp;omega) (by simp) (by intro y hy;cases hy) (Int.le_refl _) (by intro k a b _ ha;simp at ha);have hset: ∀n,0≤n→lab (Yk (List.replicate r.Nodes.toNat noL) s ⟨0,0⟩) n=if n=s then ⟨0,0⟩ else noL:=fun n hn=>by
  rw[Qfv hs.1 (by omega) hn,QkI]
 have hmem: ∀y,y∈q.heap↔y=⟨⟨s,⟨0,0⟩⟩,0⟩:=fun y=>by rw[hq2.mem_iff];simp
 have hD:Dj r s (1+512*([]:List Int).length) [] ([]:List Int).length ⟨0,0⟩ (-1) 0 (Yk (List.replicate r.Nodes.toNat noL) s ⟨0,0⟩) q.heap:=by
  refine { len:=by rw[QgZ];exact hlenR,hp:=hq3,lenh:=by rw[hq2.length_eq];simp,it:=fun y hy=> ?_,nd:= ?_,lb:=fun n h0 h3=> ?_,src:=by rw[hset s hs.1,if_pos rfl],pend:=fun n h0 h3 h4 h5=> ?_,sn:=List.nodup_nil,sr:=(fun n hn=>by cases hn),dn:=(fun n hn=>by cases hn),st:=(fun y hy h=>by cases h),bs:=Int.le_refl _,edge:=(fun n hn=>by cases hn) }
  ·rw[(hmem y).1 hy]
   simp only[]
   rw[hset s hs.1,if_pos rfl]
   exact ⟨hs.1,hs.2,Lg.le_refl _,Int.le_refl _,Lg.le_refl _⟩
  ·rw[(hq2.map _).nodup_iff];simp
  ·rw[hset n h0]
   by_cases h4:n=s
   ·rw[if_pos h4,h4];exact .inr ⟨0,Nat.le_refl _,.nil⟩
   ·rw[if_neg h4];exact .inl rfl
  ·rw[hset n h0] at h5 ⊢
   by_cases h6:n=s
   ·rw[if_pos h6];exact ⟨_,(hmem _).2 rfl,h6.symm,rfl⟩
   ·rw[if_neg h6] at h5;exact absurd rfl h5
 obtain ⟨out,k1,S',b',k2⟩:=QlY hF hr hs (514*64+q.heap.length) F [] ⟨0,0⟩ _ q (by simp) (by rw[hq2.length_eq];simp;omega) hD;refine ⟨out,?_,k2.legs hr hs⟩;unfold VU
 rw[hmk]
 simp only[Option.bind_some]
 rw[hl1]
 simp only[Option.bind_some,Vy]
 rw[Qb4 hs.1 (by omega)]
 simp only[Option.bind_some]
 rw[hq1]
 simp only[Option.bind_some,k1]
end Go.Proofs.YtoojkdejnbnniaaGreat
namespace Go.Proofs.YtoojkdejnbnniaaGreat
open Go.RowKit
set_option linter.unusedSimpArgs false
set_option linter.unusedVariables false
variable {r:Rd_} {s:Int}
structure Bf (r:Rd_) (s:Int) (t k:Nat) (out:List Lg):Prop where
 len:((out.length:Nat):Int)=r.Nodes
 lb: ∀n,0≤n→n<r.Nodes→lab out n=noL∨ ∃k,k≤t∧Wk r s k n (lab out n)
 best: ∀j n l,j≤k→Wk r s j n l→0≤(lab out n).Secs∧Lg.le (lab out n) l
theorem QmN {a b:Lg} (h:0≤a.Secs):Vh a b=some (decide (b.Secs<0)||decide (Lg.lt a b)):=by
 unfold Vh
 by_cases h1:b.Secs<0
 ·simp[h1,h]
 ·by_cases h2:a.Secs<b.Secs
  ·simp[h1,h2,Lg.lt,show ¬a.Secs<0 by omega]
  ·by_cases h3:a.Secs=b.Secs
   ·simp[h1,h2,h3,Lg.lt,show ¬b.Secs<0 by omega]
   ·simp[h1,h2,h3,Lg.lt,show ¬a.Secs<0 by omega]
theorem Bf.better {t k:Nat} {out:List Lg} {b:Int} {l:Lg} (d:Bf r s t k out) (h0:0≤b) (h1:b<r.Nodes) (hw: ∃j,j≤t+1∧Wk r s j b l) (hl:0≤l.Secs) (hb:(lab out b).Secs<0∨Lg.lt l (lab out b)) :
  Bf r s (t+1) k (Yk out b l)∧ ∀n,0≤n→0≤(lab out n).Secs→0≤(lab (Yk out b l) n).Secs∧Lg.le (lab (Yk out b l) n) (lab out n):=by
 have hlen:=d.len;have hset: ∀n,0≤n→lab (Yk out b l) n=if n=b then l else lab out n:=fun n hn=>Qfv h0 (by omega) hn
 have himp: ∀n,0≤n→0≤(lab out n).Secs→0≤(lab (Yk out b l) n).Secs∧Lg.le (lab (Yk out b l) n) (lab out n):=fun n hn h2=>by
  rw[hset n hn]
  by_cases h3:n=b
  ·subst h3
   rw[if_pos rfl]
   rcases hb with h4 | h4
   ·omega
   ·exact ⟨hl,Lg.le_of_lt h4⟩
  ·rw[if_neg h3];exact ⟨h2,Lg.le_refl _⟩
 refine ⟨⟨by rw[QgZ];exact hlen,fun n hn hn2=> ?_,fun j n l' hj hw'=> ?_⟩,himp⟩
 ·rw[hset n hn]
  by_cases h3:n=b
  ·subst h3;rw[if_pos rfl];exact .inr hw
  ·rw[if_neg h3]
   rcases d.lb n hn hn2 with h4 | ⟨j,h4,h5⟩
   ·exact .inl h4
   ·exact .inr ⟨j,by omega,h5⟩
 ·have h2:=d.best j n l' hj hw'
  by_cases hn:0≤n
  ·have h3:=himp n hn h2.1;exact ⟨h3.1,Lg.le_trans h3.2 h2.2⟩
  ·have:lab out n=noL:=by unfold lab getI;rw[if_neg hn];rfl
   rw[this] at h2
   exact absurd h2.1 (by decide)
theorem Bf.more {t t' k:Nat} {out:List Lg} (d:Bf r s t k out) (h:t≤t'):Bf r s t' k out :=
 ⟨d.len,fun n h0 h1=>by
  rcases d.lb n h0 h1 with h4 | ⟨j,h4,h5⟩
  ·exact .inl h4
  ·exact .inr ⟨j,by omega,h5⟩,d.best⟩
theorem QmX (hr:OkR r) (hs:0≤s∧s<r.Nodes) {k:Nat}: ∀(d j:Nat) (t:Nat) (out:List Lg) (n:Nat),r.Edges.length-j=d→j≤r.Edges.length→d<n→t+d≤90000→Bf r s t k out →
   (∀x∈r.Edges.take j,∀i l,i≤k→Wk r s i x.From l→0≤(lab out x.To).Secs∧Lg.le (lab out x.To) (WM l x)) →
   ∃out',iter (Jt r) n (out,(j:Int))=some out'∧Bf r s (t+d) (k+1) out':=by
 intro d
 induction d with
 | zero =>
  intro j t out n hd hj hn ht hB hE;obtain ⟨n,rfl⟩: ∃f,n=f+1:=⟨n-1,by omega⟩
  obtain rfl:j=r.Edges.length:=by omega
  refine ⟨out,?_,hB.len,hB.lb,fun i m l hi hw=> ?_⟩
  ·rw[iter]
   simp only[Jt,oun]
   rw[show decide (((r.Edges.length:Nat):Int)<((r.Edges.length:Nat):Int))=false by simp]
   rfl
  ·rcases Nat.lt_or_ge k i with h1 | h1
   ·obtain rfl:i=k+1:=by omega
    rw[List.take_length] at hE
    cases hw with
    | cons h hx ha=>subst ha;exact hE _ hx _ _ (Nat.le_refl _) h
   ·exact hB.best i m l h1 hw
 | succ d ih =>
  intro j t out n hd hj hn ht hB hE;obtain ⟨n,rfl⟩: ∃f,n=f+1:=⟨n-1,by omega⟩
  have hjl:j<r.Edges.length:=by omega
  have hx:r.Edges[j]? =some r.Edges[j]:=List.getElem?_eq_getElem hjl
  generalize r.Edges[j]=x at hx
  have hxm:=List.mem_of_getElem? hx;have hok:=hr.ed x hxm;unfold Qbf at hok;have hel:=hr.el;have hlen:=hB.len;have hto:getI out x.To=some (lab out x.To):=Qb4 (by omega) (by omega);have hfrom:getI out x.From=some (lab out x.From):=Qb4 (by omega) (by omega);have step: ∃out1,Jt r (out,(j:Int))=some (.inl (out1,((j+1:Nat):Int)))∧Bf r s (t+1) k out1 ∧
    (∀n,0≤n→0≤(lab out n).Secs→0≤(lab out1 n).Secs∧Lg.le (lab out1 n) (lab out n))∧ ∀i l,i≤k→Wk r s i x.From l→0≤(lab out1 x.To).Secs∧Lg.le (lab out1 x.To) (WM l x):=by
   simp only[Jt,oun]
   rw[show decide ((j:Int)<((r.Edges.length:Nat):Int))=true by simp;omega]
   simp only[cond_true,Qm,hx,Option.bind_some,hfrom,hto]
   rw[VE (by omega)]
   by_cases hf:0≤(lab out x.From).Secs
   ·simp only[hf,decide_true,cond_true]
    obtain ⟨i0,h1,h2,_⟩:=QfC hr (hB.lb x.From (by omega) (by omega)) (Qho hf);have hal:Qcc (lab out x.From) ⟨x.Secs,x.Meters⟩=some (WM (lab out x.From) x):=by
     have:=Qla hr hxm h2 (by omega);exact this
    rw[hal]
    simp only[Option.bind_some]
    have hls:0≤(WM (lab out x.From) x).Secs:=by unfold WM;simp only[];omega
    have hbe:Vh ⟨(WM (lab out x.From) x).Secs,(WM (lab out x.From) x).Meters⟩ (lab out x.To)=_:=QmN hls
    rw[hbe]
    simp only[Option.bind_some]
    cases hb:(decide ((lab out x.To).Secs<0)||decide (Lg.lt (WM (lab out x.From) x) (lab out x.To))) with
    | true =>
     have hb':(lab out x.To).Secs<0∨Lg.lt (WM (lab out x.From) x) (lab out x.To):=by simpa using hb
     have hB2:=hB.better (b:=x.To) (l:=WM (lab out x.From) x) (by omega) (by omega) ⟨i0+1,by omega,.cons h2 hxm rfl⟩ hls hb';refine ⟨Yk out x.To (WM (lab out x.From) x),?_,hB2.1,hB2.2,fun i l hi hw=> ?_⟩
     ·rw[show (⟨(WM (lab out x.From) x).Secs,(WM (lab out x.From) x).Meters⟩:Lg)=WM (lab out x.From) x from rfl] at *
      simp only[hb,cond_true,Option.bind_some]
     ·rw[Qfv (by omega) (by omega) (by omega),if_pos rfl]
      exact ⟨hls,Qg9 (hB.best i _ l hi hw).2⟩
    | false =>
     refine ⟨out,?_,hB.more (by omega),fun n _ h=>⟨h,Lg.le_refl _⟩,fun i l hi hw=> ?_⟩
     ·rw[show (⟨(WM (lab out x.From) x).Secs,(WM (lab out x.From) x).Meters⟩:Lg)=WM (lab out x.From) x from rfl] at *
      simp only[hb,cond_false,Option.bind_some]
     ·simp only[Bool.or_eq_false_iff,decide_eq_false_iff_not] at hb
      exact ⟨by omega,Lg.le_trans (Lg.le_of_not_lt hb.2) (Qg9 (hB.best i _ l hi hw).2)⟩
   ·simp only[show decide (0≤(lab out x.From).Secs)=false by simpa using hf,cond_false,Option.bind_some]
    refine ⟨out,rfl,hB.more (by omega),fun n _ h=>⟨h,Lg.le_refl _⟩,fun i l hi hw=> ?_⟩;exact absurd (hB.best i _ l hi hw).1 hf
  obtain ⟨out1,h1,h2,h3,h4⟩:=step;obtain ⟨out',g1,g2⟩:=ih (j+1) (t+1) out1 n (by omega) (by omega) (by omega) (by omega) h2 (fun y hy i l hi hw=>by
   rcases Qdz hx hy with h5 | h5
   ·have h6:=hE y h5 i l hi hw;have hyk:=hr.ed y (List.mem_of_mem_take h5);unfold Qbf at hyk;have h7:=h3 y.To (by omega) h6.1;exact ⟨h7.1,Lg.le_trans h7.2 h6.2⟩
   ·subst h5;exact h4 i l hi hw)
  refine ⟨out',?_,by rw[show t+(d+1)=t+1+d by omega];exact g2⟩
  rw[iter,h1]
  exact g1
theorem Qrs (hr:OkR r) (hs:0≤s∧s<r.Nodes): ∀(d k:Nat) (out:List Lg) (n:Nat),((k+d:Nat):Int)=r.Nodes→d<n→Bf r s (512*k) k out →
  ∃out',iter (WN r) n (out,(k:Int))=some out'∧Bf r s (512*(k+d)) (k+d) out':=by
 intro d
 induction d with
 | zero =>
  intro k out n hk hn hB;obtain ⟨n,rfl⟩: ∃f,n=f+1:=⟨n-1,by omega⟩
  refine ⟨out,?_,hB⟩
  rw[iter]
  simp only[WN,oun]
  rw[show decide ((k:Int)<r.Nodes)=false by simp;omega]
  rfl
 | succ d ih =>
  intro k out n hk hn hB;obtain ⟨n,rfl⟩: ∃f,n=f+1:=⟨n-1,by omega⟩
  have hel:=hr.el;have h2:=hr.n2;obtain ⟨out1,h3,h4⟩:=QmX hr hs (k:=k) r.Edges.length 0 (512*k) out (((r.Edges.length:Nat):Int).toNat+1) (by omega) (by omega) (by omega) (by omega) hB (by intro x hx;simp at hx);obtain ⟨out',g1,g2⟩:=ih (k+1) out1 n (by omega) (by omega) (h4.more (by omega));refine ⟨out',?_,by rw[show k+(d+1)=k+1+d by omega];exact g2⟩
  rw[iter]
  simp only[WN,oun]
  rw[show decide ((k:Int)<r.Nodes)=true by simp;omega]
  simp only[cond_true]
  rw[show (0:Int)=((0:Nat):Int) from rfl,h3]
  simp only[Option.bind_some,Qy]
  rw[VE (by omega)]
  exact g1
theorem QpA (hr:OkR r) (hc:Qdj r=0) (hs:0≤s∧s<r.Nodes): ∃out,JB r s=some (out,0)∧IsL r s out:=by
 have h1:=hr.n1;have h2:=hr.n2;obtain ⟨L,_,hL⟩:=Qkj (F:=40000) (Nat.le_refl _) hr hs;have hmk:Qca (⟨0,0⟩:Lg) r.Nodes=some (List.replicate r.Nodes.toNat ⟨0,0⟩):=by
  unfold Qca
  rw[if_pos (by omega)]
 have hl1:iter (Js (List.replicate r.Nodes.toNat ⟨0,0⟩)) ((((List.replicate r.Nodes.toNat (⟨0,0⟩:Lg)).length:Nat):Int).toNat+1) (List.replicate r.Nodes.toNat ⟨0,0⟩,0)=some (List.replicate r.Nodes.toNat noL):=by
  have hN:r.Nodes.toNat≤64:=by omega
  generalize r.Nodes.toNat=N at *
  have:=YD (body:=Js (List.replicate N ⟨0,0⟩)) (List.replicate N (⟨0,0⟩:Lg)) (fun k=>List.replicate k noL++List.replicate (N-k) (⟨0,0⟩:Lg)) (fun m k=>(m,k)) (fun _ _=>none) (List.replicate N noL) (by simp;omega) (fun k x hx _=> ?_) (fun _=>by simp[Js,oun]) ((((List.replicate N (⟨0,0⟩:Lg)).length:Nat):Int).toNat+1) (by simp)
  ·rw[QK _ _ (fun _ _ _=>rfl)] at this
   simpa using this
  ·have hk:=Qp hx;have hk2:((k:Int)<(((List.replicate N (⟨0,0⟩:Lg)).length:Nat):Int)):=by omega
   rw[List.length_replicate] at hk
   simp only[Js,oun,hk2,decide_true,cond_true,Qm]
   rw[List.getElem?_append_right (by simp),List.length_replicate,Nat.sub_self,List.getElem?_replicate,if_pos (by omega)]
   simp only[Option.bind_some,ZL]
   congr 3
   unfold Yk
   rw[Int.toNat_natCast,show N-k=(N-(k+1))+1 by omega,List.replicate_succ,List.set_append_right _ _ (by simp),List.length_replicate,Nat.sub_self,List.set_cons_zero,List.replicate_succ',List.append_assoc]
   rfl
 have hlenR:((((List.replicate r.Nodes.toNat noL).length:Nat)):Int)=r.Nodes:=by simp;omega
 have hset: ∀n,0≤n→lab (Yk (List.replicate r.Nodes.toNat noL) s ⟨0,0⟩) n=if n=s then ⟨0,0⟩ else noL:=fun n hn=>by
  rw[Qfv hs.1 (by omega) hn,QkI]
 have hB:Bf r s (512*0) 0 (Yk (List.replicate r.Nodes.toNat noL) s ⟨0,0⟩):=by
  refine ⟨by rw[QgZ];exact hlenR,fun n h0 h3=> ?_,fun j n l hj hw=> ?_⟩
  ·rw[hset n h0]
   by_cases h4:n=s
   ·rw[if_pos h4,h4];exact .inr ⟨0,Nat.le_refl _,.nil⟩
   ·rw[if_neg h4];exact .inl rfl
  ·cases hw with
   | nil=>rw[hset s hs.1,if_pos rfl];exact ⟨Int.le_refl _,Lg.le_refl _⟩
   | cons=>omega
 obtain ⟨out,k1,k2⟩:=Qrs hr hs r.Nodes.toNat 0 _ (r.Nodes.toNat+1) (by omega) (by omega) hB;refine ⟨out,?_,k2.len,fun n h0 h3=> ?_,fun k n l hw=> ?_⟩
 ·unfold JB
  rw[QaN _ (by have:=hr.el;omega),hc]
  simp only[Option.bind_some,decide_true,Bool.not_true,cond_false,Qcr]
  rw[show decide ((0:Int)≤s)=true by simp;exact hs.1,show decide (s<r.Nodes)=true by simp;exact hs.2]
  simp only[cond_true,Option.bind_some,Bool.not_true,cond_false,hmk,hl1]
  rw[Qb4 hs.1 (by omega),QkI]
  simp only[Option.bind_some]
  rw[show ((Yk (List.replicate r.Nodes.toNat noL) s ⟨0,noL.Meters⟩,(0:Int)))=(Yk (List.replicate r.Nodes.toNat noL) s ⟨0,0⟩,((0:Nat):Int)) from rfl,k1]
  rfl
 ·have hb:=hL.lb n h0 h3;rcases k2.lb n h0 h3 with h4 | ⟨j,h4,h5⟩
  ·exact .inl h4
  ·
   have h6:=hL.best _ _ _ h5;rcases hb with h7 | ⟨i,h7,h8⟩
   ·rw[h7] at h6;exact absurd h6.1 (by decide)
   ·have h9:=k2.best i n _ (by have:=hL.len;omega) h8;have:=k2.len;have:=hL.len;exact .inr ⟨i,by omega,(Lg.antisymm h9.2 h6.2)▸h8⟩
 ·have h6:=hL.best _ _ _ hw;have hn:=hw.node hr hs;obtain ⟨i,h7,h8,_⟩:=QfC hr (hL.lb n hn.1 hn.2) (Qho h6.1);have h9:=k2.best i n _ (by have:=hL.len;omega) h8;exact ⟨h9.1,Lg.le_trans h9.2 h6.2⟩
theorem Qof (hc:Qdj r=0) (hs:0≤s∧s<r.Nodes): ∃L,IsL r s L∧(∀F,40000≤F→QcJ F r s=some (L,0))∧JB r s=some (L,0):=by
 have hr:=OkR.of hc;obtain ⟨L,h1,h2⟩:=QpA hr hc hs;refine ⟨L,h2,fun F hF=> ?_,h1⟩;obtain ⟨L',h3,h4⟩:=Qkj hF hr hs
 rw[h4.unique hr h2] at h3
 unfold QcJ
 rw[QfM _ (by have:=hr.el;omega),hc]
 simp only[Option.bind_some,decide_true,Bool.not_true,cond_false,YO]
 rw[show (decide (s<0)||decide (r.Nodes≤s))=false by simp;omega]
 simp only[cond_false,h3,Option.bind_some]
end Go.Proofs.YtoojkdejnbnniaaGreat
