/- TopSalesFees: for every input the given law returns true, and its arguments read as before. No condition. -/
import Derived.Test.Ytfdjjdhnfaklbaac1x3
import Derived.Test.Ytfdjjdhnfaklbaac1x2
import Derived.Test.Ytfdjjdhnfaklbaac1x1
import Derived.Maps.RangeRun
namespace Go.Proofs.Ytfdjjdhnfaklbaa
open Go.RowKit
set_option linter.unusedSimpArgs false
set_option linter.unusedVariables false
abbrev Els:=List (Addr×List Value)
def Vx (n:Nat) (dst:Option Tmp) (v:Value) (fr:Fr) (k:Fr→Out):Out:=match dst with
 | none=>k fr
 | some d=>Wp (Nat.blt d n) (k ((d,v)::fr))
def Qf0:List (Nat×Bool)→Nat→Option Bool
 | [],_=>none
 | (s,v)::r,t=>bif Nat.beq s t then some v else Qf0 r t
def QgB (kn:List (Nat×Bool)) (fr:Fr) (d:Nat) (a b:List Value) (k:Bool→List Value→List Value→Out):Out:=match ZP fr d with
 | some (.bool z)=>(match Qf0 kn d with | some t=>k t (.bool z::a) (.bool t::b) | none=> .bad)
 | _=> .bad
def gdO (kn:List (Nat×Bool)) (all:List Oper) (fr:Fr) (g:Option (Nat×Bool)) (a b:List Value) (yes no:List Value→List Value→Out):Out:=match g with
 | none=>yes a b
 | some (j,w)=>match QaE all j with
  | some d=>(match ZP fr d with
   | some (.bool z)=>(match Qf0 kn d with
    | some true=>(match w with | true=>yes (.bool z::a) (.bool true::b) | false=>no (.bool z::a) (.bool true::b))
    | some false=>(match w with | true=>no (.bool z::a) (.bool false::b) | false=>yes (.bool z::a) (.bool false::b))
    | none=> .bad)
   | some (.tuple _)=>no a b
   | _=> .bad)
  | none=> .bad
def Wz:List Seg→Nat→Option Seg
 | [],_=>none
 | s::_,0=>some s
 | _::r,n+1=>Wz r n
def QcX:List Seg→Nat→Seg→List Seg
 | [],_,_=>[]
 | _::r,0,t=>t::r
 | s::r,n+1,t=>s::QcX r n t
def QgL:Els→Nat→Option (Addr×List Value)
 | [],_=>none
 | s::_,0=>some s
 | _::r,n+1=>QgL r n
def QeP (i:TyI) (off:Nat) (cs:List Value) (k:Value→Out):Out:=match QbP i.u with
 | true=>Qdc off cs fun d=>QdN i.size d fun vs=>k (.agg ⟨vs⟩)
 | false=>Qf5 off cs k
def QeD (T:TT) (els:Els) (L:List Seg) (t:TypeId) (v:Value) (h:Nat) (a b:List Value) (k:Value→List Value→List Value→Out):Out:=match v with
 | .pointer (some ad)=>tyK T t fun i=>(match Nat.blt h 64 with
  | true=>(match ad with
   | ⟨g,off,none⟩=>(match Wz L h with
    | some ((g',.cells ⟨cs⟩ _ _)::_)=>QeP i off cs fun u=>k u (.map (some g)::a) (.map (some g')::b)
    | _=> .bad)
   | _=> .bad)
  | false=>(match QgL els (h/64-1) with
   | some (ad',cs)=>QeP i (h%64) cs fun u=>(match Nat.beq (h%64) 0 with
    | true=>k u (.pointer (some ad)::a) (.pointer (some ad')::b)
    | false=>k u (.pointer (some ad)::a) (.pointer (some (ad'.add (h%64)))::b))
   | none=> .bad))
 | _=> .bad
def QgM:List Value→Bool
 | []=>true
 | v::r=>match v.oneCell' with | true=>QgM r | false=>false
def Qeg (T:TT) (L:List Seg) (t:TypeId) (p v:Value) (h:Nat) (a b:List Value) (k:List Seg→List Value→List Value→Out):Out:=match p with
 | .pointer (some ⟨g,off,none⟩)=>tyK T t fun i=>QcD v fun vs=>Wp (Nat.beq vs.length i.size) (Wp (QgM vs) (Wp (Nat.blt 0 i.size) (match Wz L h with
  | some ((g',.cells ⟨cs⟩ e (0,0))::r)=>Qgj cs off vs fun cs'=>k (QcX L h ((g',.cells ⟨cs'⟩ e (0,0))::r)) (.map (some g)::a) (.map (some g')::b)
  | _=> .bad)))
 | _=> .bad
def nz (b:Int):Bool:=match b with | .ofNat (_+1)=>true | .negSucc _=>true | _=>false
def rdO (T:TT) (n:Nat) (kn:List (Nat×Bool)) (els:Els) (hs:List Nat) (fr:Fr) (L:List Seg) (op:Op) (dst:Option Tmp) (a b:List Value) (k:List Nat→Fr→List Value→List Value→Out):Out:=match op with
 | .load t x=>(match hs with
  | h::hs=>evK fr x fun v=>QeD T els L t v h a b fun u a b=>Vx n dst u fr fun fr=>k hs fr a b
  | []=> .bad)
 | .pick (.tmp d) x y=>QgB kn fr d a b fun t a b=>(match t with
  | true=>evK fr x fun v=>Vx n dst v fr fun fr=>k hs fr a b
  | false=>evK fr y fun v=>Vx n dst v fr fun fr=>k hs fr a b)
 | .binOp .quo t x y yt=>(match hs with
  | _::hs=>evK fr x fun u=>evK fr y fun w=>Qbt u w fun kd p q=>Wp (nz q) (Vx n dst (.int kd (kd.wrap (p.tdiv q))) fr fun fr=>k hs fr a b)
  | []=> .bad)
 | .binOp .rem t x y yt=>(match hs with
  | _::hs=>evK fr x fun u=>evK fr y fun w=>Qbt u w fun kd p q=>Wp (nz q) (Vx n dst (.int kd (p.tmod q)) fr fun fr=>k hs fr a b)
  | []=> .bad)
 | op=>opV T fr op fun v=>Vx n dst v fr fun fr=>k hs fr a b
def QhH (c:Code):Bool:=match c with | .loop _=>true | _=>false
def QfI (kn:List (Nat×Bool)) (c:Code) (s:List MIt) (fr:Fr) (a b:List Value) (k:List MIt→List Value→List Value→Out):Out:=match c with
 | .skip=>k s a b
 | .seq x y=>k (.code x:: .code y::s) a b
 | .region _ ⟨ops⟩ false=>k (.ops ops ops::s) a b
 | .cond (.tmp d) x y=>QgB kn fr d a b fun t a b=>(match t with | true=>k (.code x::s) a b | false=>k (.code y::s) a b)
 | .cond (.const (.bool true)) x _=>k (.code x::s) a b
 | .cond (.const (.bool false)) _ y=>k (.code y::s) a b
 | .block i c=>(match QhH c with | true=> .bad | false=>k (.code c:: .blk i::s) a b)
 | .exit i=>(match Qae i s with | some s'=>k s' a b | none=> .bad)
 | .scope c=>k (.code c::s) a b
 | .label _=>k s a b
 | _=> .bad
def Qeu (s:List MIt) (els:Els):Els:=match s with | .pln _ _ _ _ _::_=>[] | .plp _ _ _ _ _ _ _::_=>[] | _=>els
def Qha (T:TT) (n:Nat) (kn:List (Nat×Bool)) (els:Els) (hs:List Nat) (s:List MIt) (fr:Fr) (L:List Seg) (a b:List Value)
  (k:Els→List Nat→List MIt→Fr→List Seg→List Value→List Value→Out):Out:=match s with
 | .ops all (o::r)::s=>gdO kn all fr o.guard a b
   (fun a b=>match o.op with
    | .store t x y=>(match hs with
     | h::hs=>evK fr x fun p=>evK fr y fun v=>Qeg T L t p v h a b fun L a b=>Vx n o.dst undef fr fun fr=>k [] hs (.ops all r::s) fr L a b
     | []=> .bad)
    | op=>rdO T n kn els hs fr L op o.dst a b fun hs fr a b=>k els hs (.ops all r::s) fr L a b)
   (fun a b=>Vx n o.dst undef fr fun fr=>k els hs (.ops all r::s) fr L a b)
 | .ops _ []::s=>k (Qeu s els) hs s fr L a b
 | .blk _::s=>k (Qeu s els) hs s fr L a b
 | .code c::s=>QfI kn c s fr a b fun s a b=>k (Qeu s els) hs s fr L a b
 | .pln all l ((true,i)::pl) μ0 keep::s=>(match Zw all i with
  | some o=>gdO kn all fr o.guard a b (fun a b=>rdO T n kn els hs fr keep o.op o.dst a b fun hs fr a b=>k els hs (.pln all (l.set i true) pl μ0 keep::s) fr L a b)
    (fun a b=>Vx n o.dst undef fr fun fr=>k els hs (.pln all (l.set i true) pl μ0 keep::s) fr L a b)
  | none=> .bad)
 | .pln all l ((false,i)::pl) μ0 keep::s=>(match Zw all i with
  | some o=>gdO kn all fr o.guard a b (fun _ _=> .bad) (fun a b=>Vx n o.dst undef fr fun fr=>k els hs (.pln all (l.set i true) pl μ0 keep::s) fr L a b)
  | none=> .bad)
 | .pln _ _ [] _ _::s=>k [] hs s fr L a b
 | .plp all l ((true,i)::pl) m l1 μ0 keep::s=>(match Zw all i with
  | some o=>gdO kn all fr o.guard a b (fun a b=>rdO T n kn els hs fr keep o.op o.dst a b fun hs fr a b=>k els hs (.plp all (l.set i true) pl m l1 μ0 keep::s) fr L a b)
    (fun a b=>Vx n o.dst undef fr fun fr=>k els hs (.plp all (l.set i true) pl m l1 μ0 keep::s) fr L a b)
  | none=> .bad)
 | _=> .bad
def QaQ (T:TT) (n:Nat) (kn:List (Nat×Bool)):Nat→Els→List Nat→List MIt→Fr→List Seg→List Value→List Value→Out
 | 0,_,_,s,fr,L,a,b=> .ok s fr L a b
 | m+1,els,hs,s,fr,L,a,b=>Qha T n kn els hs s fr L a b (QaQ T n kn m)
def cxM (s:List MIt) (μ:Gh):Gh:=match s with | .pln _ _ _ μ0 _::_=>μ0 | .plp _ _ _ _ _ μ0 _::_=>μ0 | _=>μ
def cxL (s:List MIt) (L:List Seg):List Seg:=match s with | .pln _ _ _ _ keep::_=>keep | .plp _ _ _ _ _ _ keep::_=>keep | _=>L
theorem QaW {μ:Gh} {L:List Seg} {els:Els} (h: ∀p∈els,Yp μ L p.1 p.2) (s:List MIt): ∀p∈Qeu s els,Yp (cxM s μ) (cxL s L) p.1 p.2:=by
 cases s with
 | nil=>exact h
 | cons i s=>cases i<;>first | exact h | (intro p hp;cases hp)
def Qay (μ:Gh) (L:List Seg) (els:Els):Prop:= ∀p∈els,Yp μ L p.1 p.2
section
variable {fr:Fr} {o:Out} {a b:List Value}
theorem Zl {N:NN} {dst:Option Tmp} {v:Value} {k:Fr→Out} (h:Vx N.n dst v fr k=o) (ho:o≠ .bad): ∃fr',k fr'=o∧ ∀kk:Fr→Prop,kk fr'→YM N dst v fr kk:=by
 cases dst with
 | none=>exact ⟨fr,h,fun kk hk=>hk⟩
 | some d=>obtain ⟨h1,h2⟩:=Yi h ho;exact ⟨_,h2,fun kk hk=>Qd h1 hk⟩
theorem Qb4 {kn:List (Nat×Bool)} {d:Nat} {k:Bool→List Value→List Value→Out} (h:QgB kn fr d a b k=o) (ho:o≠ .bad): ∃z t,ZP fr d=some (.bool z)∧k t (.bool z::a) (.bool t::b)=o:=by
 unfold QgB at h
 split at h
 ·split at h
  ·exact ⟨_,_,by assumption,h⟩
  ·exact absurd h.symm ho
 ·exact absurd h.symm ho
theorem ZN {z t:Bool} (h:Value.bool z::a= .bool t::b):z=t∧a=b:=by
 injection h with h1 h2;injection h1 with h1;exact ⟨h1,h2⟩
theorem V7 {kn:List (Nat×Bool)} {all:List Oper} {g:Option (Nat×Bool)} {yes no:List Value→List Value→Out} (h:gdO kn all fr g a b yes no=o) (ho:o≠ .bad) :
  ∃a' b',(a'=b'→a=b)∧((yes a' b'=o∧ ∀y n:Prop,a'=b'→y→Y8 all fr g y n)∨(no a' b'=o∧ ∀y n:Prop,a'=b'→n→Y8 all fr g y n)):=by
 unfold gdO at h
 split at h
 ·exact ⟨a,b,id,.inl ⟨h,fun y n _ hy=>hy⟩⟩
 ·rename_i j w
  split at h
  ·rename_i d hd
   split at h
   ·rename_i z hz
    split at h
    ·refine ⟨.bool z::a,.bool true::b,fun e=>(ZN e).2,?_⟩;cases w with
     | true=>exact .inl ⟨h,fun y n e hy=>by simp only[Y8,hd,hz,(ZN e).1];exact hy⟩
     | false=>exact .inr ⟨h,fun y n e hy=>by simp only[Y8,hd,hz,(ZN e).1];exact hy⟩
    ·refine ⟨.bool z::a,.bool false::b,fun e=>(ZN e).2,?_⟩;cases w with
     | true=>exact .inr ⟨h,fun y n e hy=>by simp only[Y8,hd,hz,(ZN e).1];exact hy⟩
     | false=>exact .inl ⟨h,fun y n e hy=>by simp only[Y8,hd,hz,(ZN e).1];exact hy⟩
    ·exact absurd h.symm ho
   ·rename_i hz
    exact ⟨a,b,id,.inr ⟨h,fun y n _ hy=>by simp only[Y8,hd,hz];exact hy⟩⟩
   ·exact absurd h.symm ho
  ·exact absurd h.symm ho
theorem Qab: ∀(L:List Seg) (i:Nat),Wz L i=L[i]?
 | [],i=>by simp[Wz]
 | s::r,0=>by simp[Wz]
 | s::r,i+1=>by simp[Wz,Qab r i]
theorem QaV: ∀(L:List Seg) (i:Nat) (t:Seg),QcX L i t=L.set i t
 | [],i,t=>by simp[QcX]
 | s::r,0,t=>by simp[QcX]
 | s::r,i+1,t=>by simp[QcX,QaV r i t]
theorem Qdy: ∀{els:Els} {i:Nat} {p:Addr×List Value},QgL els i=some p→p∈els
 | [],i,p,h=>by cases h
 | s::r,0,p,h=>by simp only[QgL,Option.some.injEq] at h;simp[h]
 | s::r,i+1,p,h=>by simp[Qdy (els:=r) h]
variable {T:TT} {P:Program} {μ:Gh} {L:List Seg}
theorem QbM {i:TyI} {off:Nat} {cs:List Value} {k:Value→Out} (h:QeP i off cs k=o) (ho:o≠ .bad) :
  ∃u,k u=o∧ ∀{t:TypeId} {x:Operand} {ad:Addr} (kk:Value→Prop),evV fr x=some (.pointer (some ad))→T t=some i→(∀j v,(cs.drop off)[j]? =some v→ZQ μ L (ad.add j) v)→kk u→vcR P T (.load t x) fr μ L kk:=by
 unfold QeP at h
 split at h
 ·rename_i hag
  have h1:=VH h ho;obtain ⟨h2,h3⟩:=VW h1 ho;refine ⟨_,h2,fun kk hx hT hc hk=>We hx hT hag rfl (Ex.mk _ ⟨h3,fun j v hj=>hc j v ?_⟩ hk)⟩
  rw[List.getElem?_take] at hj
  split at hj
  ·exact hj
  ·cases hj
 ·rename_i hag
  obtain ⟨v,h1,h2⟩:=Vr h ho;refine ⟨v,h2,fun kk hx hT hc hk=>Z3 hx hT hag (Ex.mk v ?_ hk)⟩;have:=hc 0 v (by rw[List.getElem?_drop];simpa using h1)
  rwa [Addr.add_zero'] at this
theorem QcO {g g':Nat} (h:Value.map (some g)::a= .map (some g')::b):g=g'∧a=b:=by
 injection h with h1 h2;injection h1 with h1;injection h1 with h1;exact ⟨h1,h2⟩
theorem QcS {g g':Addr} (h:Value.pointer (some g)::a= .pointer (some g')::b):g=g'∧a=b:=by
 injection h with h1 h2;injection h1 with h1;injection h1 with h1;exact ⟨h1,h2⟩
theorem Qbx {els:Els} {t:TypeId} {v:Value} {h:Nat} {x:Operand} {k:Value→List Value→List Value→Out} (hr:QeD T els L t v h a b k=o) (ho:o≠ .bad) (hx:evV fr x=some v) (hel:Qay μ L els) :
  ∃u a' b',(a'=b'→a=b)∧k u a' b'=o∧ ∀kk:Value→Prop,a'=b'→kk u→vcR P T (.load t x) fr μ L kk:=by
 unfold QeD at hr
 split at hr
 ·rename_i ad
  obtain ⟨i,hT,hr⟩:=ZL hr ho
  split at hr
  ·split at hr
   ·rename_i g off
    split at hr
    ·rename_i g' cs e f r hL
     rw[Qab] at hL
     obtain ⟨u,h1,h2⟩:=QbM (fr:=fr) (T:=T) (P:=P) (μ:=μ) (L:=L) hr ho;refine ⟨u,_,_,fun e=>(QcO e).2,h1,fun kk e hk=>h2 kk hx hT (fun j v hj=> ?_) hk⟩;obtain ⟨rfl,_⟩:=QcO e
     rw[J1]
     refine ZQ.seg h 0 hL rfl ?_
     rw[List.getElem?_drop] at hj
     exact hj
    ·exact absurd hr.symm ho
   ·exact absurd hr.symm ho
  ·split at hr
   ·rename_i ad' cs he
    obtain ⟨u,h1,h2⟩:=QbM (fr:=fr) (T:=T) (P:=P) (μ:=μ) (L:=L) hr ho;have hc:Yp μ L ad' cs:=hel _ (Qdy he)
    split at h1
    ·rename_i hz
     have hz:=Nat.eq_of_beq_eq_true hz;refine ⟨u,_,_,fun e=>(QcS e).2,h1,fun kk e hk=>h2 kk hx hT (fun j v hj=> ?_) hk⟩;obtain ⟨rfl,_⟩:=QcS e
     rw[hz] at hj
     exact hc j v (by simpa using hj)
    ·refine ⟨u,_,_,fun e=>(QcS e).2,h1,fun kk e hk=>h2 kk hx hT (fun j v hj=> ?_) hk⟩;obtain ⟨rfl,_⟩:=QcS e
     rw[Addr.add_add']
     refine hc _ v ?_
     rw[List.getElem?_drop] at hj
     exact hj
   ·exact absurd hr.symm ho
 ·exact absurd hr.symm ho
theorem Qck: ∀{vs:List Value},QgM vs=true→vs.all (·.oneCell')=true
 | [],_=>rfl
 | v::r,h=>by
  unfold QgM at h
  split at h
  ·rename_i h1;simp only[List.all_cons,h1,Qck h,Bool.and_self]
  ·cases h
theorem QdH {t:TypeId} {p v:Value} {h:Nat} {x y:Operand} {ty:TypeId} {k:List Seg→List Value→List Value→Out} (hr:Qeg T L t p v h a b k=o) (ho:o≠ .bad) (hx:evV fr x=some p) (hy:evV fr y=some v) :
  ∃L' a' b',(a'=b'→a=b)∧k L' a' b'=o∧ ∀kk:Value→Gh→List Seg→Prop,a'=b'→kk undef μ L'→vcO P T (.store t x y) ty fr μ L kk:=by
 unfold Qeg at hr
 split at hr
 ·rename_i g off
  obtain ⟨i,hT,hr⟩:=ZL hr ho;have hr:=Qaz hr ho;obtain ⟨h1,hr⟩:=Yi hr ho;obtain ⟨h2,hr⟩:=Yi hr ho;obtain ⟨h3,hr⟩:=Yi hr ho;have h1:=Nat.eq_of_beq_eq_true h1;have h3:0<i.size:=by simpa [Nat.blt_eq] using h3
  split at hr
  ·rename_i g' cs e r hL
   rw[Qab] at hL
   obtain ⟨h4,h5⟩:=Vt hr ho;refine ⟨_,_,_,fun e=>(QcO e).2,h4,fun kk e hk=> ?_⟩;obtain ⟨rfl,_⟩:=QcO e;refine Qv hx hy hT (by simpa using h1) (Qck h2) rfl (Ex.mk _ (Vw.seg h 0 hL rfl ?_) ?_)
   ·have:=h5 (by intro e;rw[e] at h1;simp at h1;omega)
    simpa using this
   ·rw[QaV] at hk
    exact hk
  ·exact absurd hr.symm ho
 ·exact absurd hr.symm ho
theorem QeF {q:Int} (h:nz q=true):q≠0:=by
 cases q with
 | ofNat n =>
  cases n with
  | zero=>cases h
  | succ n=>exact fun e=>Nat.succ_ne_zero n (Int.ofNat.inj e)
 | negSucc n=>intro e;cases e
theorem QbC {N:NN} {kn:List (Nat×Bool)} {els:Els} {hs:List Nat} {op:Op} {dst:Option Tmp} {k:List Nat→Fr→List Value→List Value→Out} (hr:rdO T N.n kn els hs fr L op dst a b k=o) (ho:o≠ .bad) (hel:Qay μ L els) :
  ∃hs' fr' a' b',(a'=b'→a=b)∧k hs' fr' a' b'=o∧Qdp op=true∧ ∀kk:Fr→Prop,a'=b'→kk fr'→vcR P T op fr μ L fun v=>YM N dst v fr kk:=by
 unfold rdO at hr
 split at hr
 ·split at hr
  ·obtain ⟨v,h1,hr⟩:=Yd hr ho;obtain ⟨u,a',b',h2,hr,h3⟩:=Qbx (P:=P) (μ:=μ) hr ho h1 hel;obtain ⟨fr',h4,h5⟩:=Zl hr ho;exact ⟨_,fr',a',b',h2,h4,rfl,fun kk e hk=>h3 _ e (h5 kk hk)⟩
  ·exact absurd hr.symm ho
 ·obtain ⟨z,t,hz,hr⟩:=Qb4 hr ho;cases t with
  | true =>
   obtain ⟨v,h1,hr⟩:=Yd hr ho;obtain ⟨fr',h4,h5⟩:=Zl hr ho;exact ⟨_,fr',_,_,fun e=>(ZN e).2,h4,rfl,fun kk e hk=>QfA (by rw[←(ZN e).1];exact hz) h1 (h5 kk hk)⟩
  | false =>
   obtain ⟨v,h1,hr⟩:=Yd hr ho;obtain ⟨fr',h4,h5⟩:=Zl hr ho;exact ⟨_,fr',_,_,fun e=>(ZN e).2,h4,rfl,fun kk e hk=>Qfz (by rw[←(ZN e).1];exact hz) h1 (h5 kk hk)⟩
 ·split at hr
  ·obtain ⟨u,h1,hr⟩:=Yd hr ho;obtain ⟨w,h2,hr⟩:=Yd hr ho;obtain ⟨kd,p,q,e1_,e2_,hr2⟩:=Qao hr ho;subst e1_ e2_;obtain ⟨h3,hr3⟩:=Yi hr2 ho;obtain ⟨fr',h4,h5⟩:=Zl hr3 ho;exact ⟨_,fr',_,_,id,h4,rfl,fun kk e hk=>Qep h1 h2 ⟨QeF h3,h5 kk hk⟩⟩
  ·exact absurd hr.symm ho
 ·split at hr
  ·obtain ⟨u,h1,hr⟩:=Yd hr ho;obtain ⟨w,h2,hr⟩:=Yd hr ho;obtain ⟨kd,p,q,e1_,e2_,hr2⟩:=Qao hr ho;subst e1_ e2_;obtain ⟨h3,hr3⟩:=Yi hr2 ho;obtain ⟨fr',h4,h5⟩:=Zl hr3 ho;exact ⟨_,fr',_,_,id,h4,rfl,fun kk e hk=>Qg4 h1 h2 ⟨QeF h3,h5 kk hk⟩⟩
  ·exact absurd hr.symm ho
 ·obtain ⟨v,h1,h2,h3⟩:=Qf6 (P:=P) (μ:=μ) (L:=L) hr ho;obtain ⟨fr',h4,h5⟩:=Zl h1 ho;exact ⟨_,fr',_,_,id,h4,h2,fun kk _ hk=>h3 _ (h5 kk hk)⟩
theorem QdY {N:NN} {R:QH} {kn:List (Nat×Bool)} (hT:TOk P T) {c:Code} {s:List MIt} {k:List MIt→List Value→List Value→Out} (hr:QfI kn c s fr a b k=o) (ho:o≠ .bad) :
  ∃s' a' b',(a'=b'→a=b)∧k s' a' b'=o∧(a'=b'→KS P N R s' fr μ L→KS P N R (.code c::s) fr μ L):=by
 unfold QfI at hr
 split at hr
 ·exact ⟨_,_,_,id,hr,fun _ h=>WP.skip h⟩
 ·exact ⟨_,_,_,id,hr,fun _ h=>WP.seq h⟩
 ·exact ⟨_,_,_,id,hr,fun _ h=>WP.regionS h⟩
 ·obtain ⟨z,t,hz,hr⟩:=Qb4 hr ho;cases t with
  | true=>exact ⟨_,_,_,fun e=>(ZN e).2,hr,fun e h=>V0 (by rw[←(ZN e).1];exact hz) h⟩
  | false=>exact ⟨_,_,_,fun e=>(ZN e).2,hr,fun e h=>VZ (by rw[←(ZN e).1];exact hz) h⟩
 ·exact ⟨_,_,_,id,hr,fun _ h=>V0 rfl h⟩
 ·exact ⟨_,_,_,id,hr,fun _ h=>VZ rfl h⟩
 ·split at hr
  ·exact absurd hr.symm ho
  ·exact ⟨_,_,_,id,hr,fun _ h=>WP.block h⟩
 ·split at hr
  ·exact ⟨_,_,_,id,hr,fun _ h=>WP.exit (ZT (by assumption) h)⟩
  ·exact absurd hr.symm ho
 ·exact ⟨_,_,_,id,hr,fun _ h=>WP.scope h⟩
 ·exact ⟨_,_,_,id,hr,fun _ h=>WP.label h⟩
 ·exact absurd hr.symm ho
theorem Qcm {N:NN} {R:QH} {kn:List (Nat×Bool)} (hT:TOk P T) {s':List MIt} {fr':Fr} {L':List Seg} {e1 e2:List Value}: ∀(m:Nat) (els:Els) (hs:List Nat) (s:List MIt) (fr:Fr) (L:List Seg) (a b:List Value),
  QaQ T N.n kn m els hs s fr L a b= .ok s' fr' L' e1 e2→e1=e2→Qay (cxM s μ) (cxL s L) els→a=b∧(KS P N R s' fr' μ L'→KS P N R s fr μ L)
 | 0,els,hs,s,fr,L,a,b,h,e,_=>by
  injection h with h1 h2 h3 h4 h5
  subst h1 h2 h3 h4 h5;exact ⟨e,id⟩
 | m+1,els,hs,s,fr,L,a,b,h,e,hel=>by
  have ih:=fun els hs s fr L a b (h:QaQ T N.n kn m els hs s fr L a b= .ok s' fr' L' e1 e2)=>Qcm (R:=R) hT m els hs s fr L a b h e;have ho:Out.ok s' fr' L' e1 e2≠ .bad:=by simp
  simp only[QaQ] at h
  unfold Qha at h
  split at h
  ·rename_i all op r s
   obtain ⟨a',b',h1,h2⟩:=V7 h ho;rcases h2 with ⟨h2,h3⟩ | ⟨h2,h3⟩
   ·split at h2
    ·rename_i t x y hop
     split at h2
     ·obtain ⟨p,h4,h2⟩:=Yd h2 ho;obtain ⟨v,h5,h2⟩:=Yd h2 ho;obtain ⟨L2,a2,b2,h6,h2,h7⟩:=QdH (P:=P) (μ:=μ) (ty:=op.type) h2 ho h4 h5;obtain ⟨fr2,h8,h9⟩:=Zl h2 ho;obtain ⟨h10,h11⟩:=ih _ _ _ _ _ _ _ h8 (fun p hp=>by cases hp);refine ⟨h1 (h6 h10),fun hk=> ?_⟩;refine JU.cons hT (h3 _ _ (h6 h10) ?_)
      rw[hop]
      exact h7 _ h10 (h9 _ (h11 hk))
     ·exact absurd h2.symm ho
    ·obtain ⟨hs2,fr2,a2,b2,h4,h5,h6,h7⟩:=QbC (P:=P) (μ:=μ) h2 ho hel;obtain ⟨h8,h9⟩:=ih _ _ _ _ _ _ _ h5 hel;exact ⟨h1 (h4 h8),fun hk=>JU.cons hT (h3 _ _ (h4 h8) (Zu h6 (h7 _ h8 (h9 hk))))⟩
   ·obtain ⟨fr2,h4,h5⟩:=Zl h2 ho;obtain ⟨h6,h7⟩:=ih _ _ _ _ _ _ _ h4 hel;exact ⟨h1 h6,fun hk=>JU.cons hT (h3 _ _ h6 (h5 _ (h7 hk)))⟩
  ·obtain ⟨h1,h2⟩:=ih _ _ _ _ _ _ _ h (QaW hel _);exact ⟨h1,fun hk=>JU.nil (h2 hk)⟩
  ·obtain ⟨h1,h2⟩:=ih _ _ _ _ _ _ _ h (QaW hel _);exact ⟨h1,h2⟩
  ·obtain ⟨s2,a',b',h1,h2,h3⟩:=QdY (R:=R) (μ:=μ) (L:=L) hT h ho;obtain ⟨h4,h5⟩:=ih _ _ _ _ _ _ _ h2 (QaW hel _);exact ⟨h1 h4,fun hk=>h3 h4 (h5 hk)⟩
  ·rename_i all l i pl μ0 keep s
   split at h
   ·rename_i op hi
    obtain ⟨a',b',h1,h2⟩:=V7 h ho;rcases h2 with ⟨h2,h3⟩ | ⟨h2,h3⟩
    ·obtain ⟨hs2,fr2,a2,b2,h4,h5,h6,h7⟩:=QbC (P:=P) (μ:=μ0) h2 ho hel;obtain ⟨h8,h9⟩:=ih _ _ _ _ _ _ _ h5 hel;exact ⟨h1 (h4 h8),fun hk=>W2.t hT hi (h3 _ _ (h4 h8) (h7 _ h8 (h9 hk)))⟩
    ·obtain ⟨fr2,h4,h5⟩:=Zl h2 ho;obtain ⟨h6,h7⟩:=ih _ _ _ _ _ _ _ h4 hel;exact ⟨h1 h6,fun hk=>W2.t hT hi (h3 _ _ h6 (h5 _ (h7 hk)))⟩
   ·exact absurd h.symm ho
  ·rename_i all l i pl μ0 keep s
   split at h
   ·rename_i op hi
    obtain ⟨a',b',h1,h2⟩:=V7 h ho;rcases h2 with ⟨h2,h3⟩ | ⟨h2,h3⟩
    ·exact absurd h2.symm ho
    ·obtain ⟨fr2,h4,h5⟩:=Zl h2 ho;obtain ⟨h6,h7⟩:=ih _ _ _ _ _ _ _ h4 hel;exact ⟨h1 h6,fun hk=>W2.f hT hi (h3 _ _ h6 (h5 _ (h7 hk)))⟩
   ·exact absurd h.symm ho
  ·obtain ⟨h1,h2⟩:=ih _ _ _ _ _ _ _ h (fun p hp=>by cases hp);exact ⟨h1,fun hk=>W2.nil (h2 hk)⟩
  ·rename_i all l i pl m2 l1 μ0 keep s
   split at h
   ·rename_i op hi
    obtain ⟨a',b',h1,h2⟩:=V7 h ho;rcases h2 with ⟨h2,h3⟩ | ⟨h2,h3⟩
    ·obtain ⟨hs2,fr2,a2,b2,h4,h5,h6,h7⟩:=QbC (P:=P) (μ:=μ0) h2 ho hel;obtain ⟨h8,h9⟩:=ih _ _ _ _ _ _ _ h5 hel;exact ⟨h1 (h4 h8),fun hk=>Qai.t hT hi (h3 _ _ (h4 h8) (h7 _ h8 (h9 hk)))⟩
    ·obtain ⟨fr2,h4,h5⟩:=Zl h2 ho;obtain ⟨h6,h7⟩:=ih _ _ _ _ _ _ _ h4 hel;exact ⟨h1 h6,fun hk=>Qai.t hT hi (h3 _ _ h6 (h5 _ (h7 hk)))⟩
   ·exact absurd h.symm ho
  ·exact absurd h.symm ho
end
end Go.Proofs.Ytfdjjdhnfaklbaa
namespace Go.Proofs.Ytfdjjdhnfaklbaa
open Go.RowKit
set_option linter.unusedSimpArgs false
set_option linter.unusedVariables false
section
variable {N:NN} {R:QH} {fr:Fr} {μ:Gh} {L:List Seg} {s s':List MIt} {fr':Fr} {L':List Seg} {e:List Value} {dst:Option Tmp} {v:Value}
theorem Z1 {a:Addr} {cs:List Value} (h:Yp μ L a cs):Qay μ L [(a,cs)]:=fun p hp=>by simp only[List.mem_singleton] at hp;subst hp;exact h
theorem Z2 {a:Addr} {cs:List Value} {r:Els} (h:Yp μ L a cs) (hr:Qay μ L r):Qay μ L ((a,cs)::r):=fun p hp=>by
 rcases List.mem_cons.1 hp with rfl | hp
 ·exact h
 ·exact hr p hp
def knF:List Nat→List (Nat×Bool)
 | []=>[]
 | x::r=>(x,false)::knF r
def knT:List Nat→List Nat→List (Nat×Bool)
 | [],b=>knF b
 | x::r,b=>(x,true)::knT r b
theorem G3 (m:Nat) (ka kb hs:List Nat) {els:Els} (hel:Qay (cxM s μ) (cxL s L) els) (h:QaQ Tt N.n (knT ka kb) m els hs s fr L [] []= .ok s' fr' L' e e) (k:KS Try.prog N R s' fr' μ L'):KS Try.prog N R s fr μ L :=
 (Qcm Qh m els hs s fr L [] [] h rfl hel).2 k
theorem G2 (m:Nat) (ka kb hs:List Nat) (h:QaQ Tt N.n (knT ka kb) m [] hs s fr L [] []= .ok s' fr' L' e e) (k:KS Try.prog N R s' fr' μ L'):KS Try.prog N R s fr μ L:=G3 m ka kb hs (fun p hp=>by cases hp) h k
theorem G1 (m:Nat) (hs:List Nat) (h:QaQ Tt N.n [] m [] hs s fr L [] []= .ok s' fr' L' e e) (k:KS Try.prog N R s' fr' μ L'):KS Try.prog N R s fr μ L:=G2 m [] [] hs h k
theorem G0 (m:Nat) (h:QaQ Tt N.n [] m [] [] s fr L [] []= .ok s' fr' L' e e) (k:KS Try.prog N R s' fr' μ L'):KS Try.prog N R s fr μ L:=G2 m [] [] [] h k
theorem Q3 (m:Nat) (ka kb hs:List Nat) {els:Els} (hel:Qay (cxM s μ) (cxL s L) els) (h:Vx N.n dst v fr (fun f=>QaQ Tt N.n (knT ka kb) m els hs s f L [] [])= .ok s' fr' L' e e) (k:KS Try.prog N R s' fr' μ L'):YM N dst v fr fun f=>KS Try.prog N R s f μ L:=by
 obtain ⟨f,h1,h2⟩:=Zl h (by simp);exact h2 _ (G3 m ka kb hs hel h1 k)
theorem Q2 (m:Nat) (ka kb hs:List Nat) (h:Vx N.n dst v fr (fun f=>QaQ Tt N.n (knT ka kb) m [] hs s f L [] [])= .ok s' fr' L' e e) (k:KS Try.prog N R s' fr' μ L'):YM N dst v fr fun f=>KS Try.prog N R s f μ L:=Q3 m ka kb hs (fun p hp=>by cases hp) h k
theorem Q1 (m:Nat) (hs:List Nat) (h:Vx N.n dst v fr (fun f=>QaQ Tt N.n [] m [] hs s f L [] [])= .ok s' fr' L' e e) (k:KS Try.prog N R s' fr' μ L'):YM N dst v fr fun f=>KS Try.prog N R s f μ L:=Q2 m [] [] hs h k
theorem Q0 (m:Nat) (h:Vx N.n dst v fr (fun f=>QaQ Tt N.n [] m [] [] s f L [] [])= .ok s' fr' L' e e) (k:KS Try.prog N R s' fr' μ L'):YM N dst v fr fun f=>KS Try.prog N R s f μ L:=Q2 m [] [] [] h k
def gdB (all:List Oper) (fr:Fr) (g:Option (Nat×Bool)):Bool:=match g with
 | none=>true
 | some (j,w)=>match QaE all j with
  | some d=>(match ZP fr d with | some (.bool true)=>w | some (.bool false)=> !w | _=>false)
  | none=>false
theorem Wv {all:List Oper} {g:Option (Nat×Bool)} (h:gdB all fr g=true) {y n:Prop} (hy:y):Y8 all fr g y n:=by
 unfold gdB at h
 split at h
 ·exact hy
 ·rename_i j w
  split at h
  ·rename_i d hd
   split at h
   ·rename_i hl;subst h;simp only[Y8,hd,hl];exact hy
   ·rename_i hl;have:w=false:=by simpa using h
    subst this;simp only[Y8,hd,hl];exact hy
   ·cases h
  ·cases h
def hdO (s:List MIt) (fr:Fr):Option (Bool×Oper×List MIt):=match s with
 | .ops all (o::r)::s=>(match gdB all fr o.guard with | true=>some (true,o,.ops all r::s) | false=>none)
 | .pln all l ((b,i)::pl) μ0 keep::s=>(match Zw all i with
  | some o=>(match gdB all fr o.guard with | true=>some (b,o,.pln all (l.set i true) pl μ0 keep::s) | false=>none)
  | none=>none)
 | .plp all l ((b,i)::pl) n l1 μ0 keep::s=>(match Zw all i with
  | some o=>(match gdB all fr o.guard with | true=>some (b,o,.plp all (l.set i true) pl n l1 μ0 keep::s) | false=>none)
  | none=>none)
 | _=>none
abbrev kpt (s:List MIt) (L:List Seg) (X:Prop):Prop:=match s with
 | .pln _ _ _ _ keep::_=>Qb keep L∧X
 | .plp _ _ _ _ _ _ keep::_=>Qb keep L∧X
 | _=>X
theorem Rdo {o:Oper} (h:hdO s fr=some (true,o,s')) (hr:Qdp o.op=true) (k:vcR Try.prog Tt o.op fr (cxM s μ) (cxL s L) fun v=>YM N o.dst v fr fun f=>KS Try.prog N R s' f μ L):KS Try.prog N R s fr μ L:=by
 unfold hdO at h
 split at h
 ·split at h
  ·rename_i hg
   simp only[Option.some.injEq,Prod.mk.injEq] at h
   obtain ⟨_,rfl,rfl⟩:=h;exact JU.cons Qh (Wv hg (Zu hr k))
  ·cases h
 ·split at h
  ·rename_i ho
   split at h
   ·rename_i hg
    simp only[Option.some.injEq,Prod.mk.injEq] at h
    obtain ⟨rfl,rfl,rfl⟩:=h;exact W2.t Qh ho (Wv hg k)
   ·cases h
  ·cases h
 ·split at h
  ·rename_i ho
   split at h
   ·rename_i hg
    simp only[Option.some.injEq,Prod.mk.injEq] at h
    obtain ⟨rfl,rfl,rfl⟩:=h;exact Qai.t Qh ho (Wv hg k)
   ·cases h
  ·cases h
 ·cases h
def hdS (s:List MIt) (fr:Fr):Option (Oper×List MIt):=match s with
 | .ops all (o::r)::s=>(match gdB all fr o.guard with | true=>some (o,.ops all r::s) | false=>none)
 | .pln all l ((false,i)::pl) μ0 keep::s=>(match Zw all i with
  | some o=>(match gdB all fr o.guard with | true=>some (o,.pln all (l.set i true) pl μ0 keep::s) | false=>none)
  | none=>none)
 | .plp all l ((false,i)::pl) n l1 μ0 keep::s=>(match Zw all i with
  | some o=>(match gdB all fr o.guard with | true=>some (o,.plp all (l.set i true) pl n l1 μ0 keep::s) | false=>none)
  | none=>none)
 | _=>none
theorem So {o:Oper} (h:hdS s fr=some (o,s')) (k:vcO Try.prog Tt o.op o.type fr μ L fun v μ' L'=>kpt s L' (YM N o.dst v fr fun f=>KS Try.prog N R s' f μ' L')):KS Try.prog N R s fr μ L:=by
 unfold hdS at h
 split at h
 ·split at h
  ·rename_i hg
   simp only[Option.some.injEq,Prod.mk.injEq] at h
   obtain ⟨rfl,rfl⟩:=h;exact JU.cons Qh (Wv hg k)
  ·cases h
 ·split at h
  ·rename_i ho
   split at h
   ·rename_i hg
    simp only[Option.some.injEq,Prod.mk.injEq] at h
    obtain ⟨rfl,rfl⟩:=h;exact W2.f Qh ho (Wv hg k)
   ·cases h
  ·cases h
 ·split at h
  ·rename_i ho
   split at h
   ·rename_i hg
    simp only[Option.some.injEq,Prod.mk.injEq] at h
    obtain ⟨rfl,rfl⟩:=h;exact Qai.f Qh ho (Wv hg k)
   ·cases h
  ·cases h
 ·cases h
def QgW:List MIt→Bool
 | []=>true
 | .code _::_=>true
 | .ops _ _::_=>true
 | .pln _ _ _ _ _::_=>true
 | .plp _ _ _ _ _ _ _::_=>true
 | .blk _::s=>QgW s
 | .cut _::_=>false
theorem KS.frm {F:Fr}: ∀{s:List MIt},QgW s=true→Qe F fr→KS Try.prog N R s F μ L→KS Try.prog N R s fr μ L
 | [],_,hF,h=>fun a w ha hw=>h a w (ha.sub hF) hw
 | .code _::_,_,hF,h=>fun a w ha hw=>h a w (ha.sub hF) hw
 | .ops _ _::_,_,hF,h=>fun a w Q ha hw hQ=>h a w Q (ha.sub hF) hw hQ
 | .pln _ _ _ _ _::_,_,hF,h=>fun h1 h2 h3 h4 a w Q ha hw hQ=>h h1 h2 h3 h4 a w Q (ha.sub hF) hw hQ
 | .plp _ _ _ _ _ _ _::_,_,hF,h=>fun h1 h2 h3 h4 a w Q ha hw hQ=>h h1 h2 h3 h4 a w Q (ha.sub hF) hw hQ
 | .blk _::s,hb,hF,h=>KS.frm (s:=s) hb hF h
 | .cut _::_,hb,_,_=>by cases hb
def QdA:List MIt→Bool
 | []=>true
 | .code _::_=>true
 | .ops _ _::_=>true
 | .blk _::s=>QdA s
 | _=>false
theorem KS.upd: ∀{s:List MIt},QdA s=true→Upd μ L (fun μ' L'=>KS Try.prog N R s fr μ' L')→KS Try.prog N R s fr μ L
 | [],_,h=>fun a w ha hw=>by
  obtain ⟨μ1,L1,h1,h2,h3⟩:=h w hw;obtain ⟨f,μ2,L2,h4,h5,h6,h7⟩:=h3 a w ha h2;exact ⟨f,μ2,L2,h4,h1.trans h5,h6,h7⟩
 | .code _::_,_,h=>WP.upd h
 | .ops _ _::_,_,h=>fun a w Q ha hw hQ=>by
  obtain ⟨μ1,L1,h1,h2,h3⟩:=h w hw;exact h3 a w Q ha h2 fun fr2 μ2 L2 a2 w2 hm=>hQ fr2 μ2 L2 a2 w2 (h1.trans hm)
 | .blk _::s,hb,h=>KS.upd (s:=s) hb h
 | .pln _ _ _ _ _::_,hb,_=>by cases hb
 | .plp _ _ _ _ _ _ _::_,hb,_=>by cases hb
 | .cut _::_,hb,_=>by cases hb
theorem KS.seg {L2:List Seg} (hs:Qc L2 L) (hb:QdA s=true) (h:KS Try.prog N R s fr μ L2):KS Try.prog N R s fr μ L:=KS.upd hb fun w hw=>⟨μ,L2,Gh.le.refl _,hs w μ hw,h⟩
theorem QeN: ∀{s:List MIt},QdA s=true→QgW s=true
 | [],_=>rfl
 | .code _::_,_=>rfl
 | .ops _ _::_,_=>rfl
 | .blk _::s,h=>QeN (s:=s) h
theorem Att {F:Fr} {L2:List Seg} (hF:Qe F fr) (hs:Qc L2 L) (hb:QdA s=true) (h:KS Try.prog N R s F μ L2):KS Try.prog N R s fr μ L:=KS.frm (QeN hb) hF (KS.seg hs hb h)
theorem Qdr {d:Nat} {u:Value} (hl:ZP fr d=some u):Qe ((d,u)::fr) fr:=fun t v hv=>by
 rw[Wx] at hv
 split at hv
 ·rename_i hd;simp only at hd;subst hd;rw[hl];exact hv
 ·exact hv
theorem Br {β:Type} {z:Bool} {A B r:Option β} (h:(bif z then A else B)=r) (d:Nat) (hl:ZP fr d=some (.bool z)) (hb:QgW s=true)
  (ht:z=true→A=r→KS Try.prog N R s ((d,.bool true)::fr) μ L) (hf:z=false→B=r→KS Try.prog N R s ((d,.bool false)::fr) μ L):KS Try.prog N R s fr μ L:=by
 cases z with
 | true=>exact KS.frm hb (Qdr hl) (ht rfl h)
 | false=>exact KS.frm hb (Qdr hl) (hf rfl h)
end
end Go.Proofs.Ytfdjjdhnfaklbaa
namespace Go.Proofs.Ytfdjjdhnfaklbaa
open Go.RowKit
set_option linter.unusedSimpArgs false
set_option linter.unusedVariables false
def ixs:List Nat:=[0,1,2,3,4,5,6,7,8,9,10,11,12,13,14,15]
def QeZ:List Nat→List Value→(Fr→Out)→Out
 | _,[],k=>k []
 | [],_::_,_=> .bad
 | i::is,v::r,k=>QeZ is r fun f=>k ((i,v)::f)
def nfF:Fr→(Fr→Out)→Out
 | [],k=>k []
 | (t,v)::r,k=>nfF r fun f=>k ((t,v)::f)
def nfL:Nat→List Seg→(List Seg→Out)→Out
 | 0,L,k=>k L
 | _+1,[],k=>k []
 | n+1,s::r,k=>nfL n r fun l=>k (s::l)
def Qik (vs:List Value) (a b:List Value):Out:=match vs with
 | [v]=> .ok [] [(0,v)] [] a b
 | vs=> .ok [] [(0,.tuple ⟨vs⟩)] [] a b
def Qfb (T:TT) (L:List Seg) (fr:Fr):List ResultVar→List Nat→List Value→List Value→(List Value→List Value→List Value→Out)→Out
 | [],_,a,b,k=>k [] a b
 | .tmp t::r,hs,a,b,k=>(match ZP fr t with | some v=>Qfb T L fr r hs a b fun vs a b=>k (v::vs) a b | none=> .bad)
 | .cell p t::r,hs,a,b,k=>(match ZP fr p,hs with | some v,h::hs=>QeD T [] L t v h a b fun u a b=>Qfb T L fr r hs a b fun vs a b=>k (u::vs) a b | _,_=> .bad)
theorem Qb3 {o:Out} (ho:o≠ .bad): ∀(m i:Nat) (args:List Value) (k:Fr→Out),QeZ (List.range' i m) args k=o→k ((args.zipIdx i).map fun p=>(p.2,p.1))=o
 | _,i,[],k,h=>by cases ‹Nat› <;>simpa [QeZ] using h
 | 0,i,v::r,k,h=>absurd h.symm ho
 | m+1,i,v::r,k,h=>by
  have:=Qb3 ho m (i+1) r _ (by simpa [List.range'_succ,QeZ] using h)
  simpa using this
theorem Qdw: ∀(F:Fr) (k:Fr→Out),nfF F k=k F
 | [],k=>rfl
 | (t,v)::r,k=>Qdw r _
theorem Wy: ∀(n:Nat) (L:List Seg) (k:List Seg→Out),nfL n L k=k L
 | 0,L,k=>by cases L<;>rfl
 | n+1,[],k=>rfl
 | n+1,s::r,k=>Wy n r _
section
variable {o:Out} {T:TT} {fr:Fr} {μ:Gh} {L:List Seg}
theorem Qar: ∀{rs:List ResultVar} {hs:List Nat} {a b:List Value} {k:List Value→List Value→List Value→Out} {e:List Value},Qfb T L fr rs hs a b k=o→o≠ .bad →
  ∃vs a' b',(a'=b'→a=b)∧k vs a' b'=o∧ ∀kk:List Value→Prop,a'=b'→kk vs→Wc T rs fr μ L kk
 | [],hs,a,b,k,e,h,ho=>⟨[],a,b,id,h,fun kk _ hk=>hk⟩
 | .tmp t::r,hs,a,b,k,e,h,ho=>by
  unfold Qfb at h
  split at h
  ·rename_i v hv
   obtain ⟨vs,a',b',h1,h2,h3⟩:=Qar (e:=e) h ho;exact ⟨v::vs,a',b',h1,h2,fun kk e hk=>QfB hv (h3 _ e hk)⟩
  ·exact absurd h.symm ho
 | .cell p t::r,hs,a,b,k,e,h,ho=>by
  unfold Qfb at h
  split at h
  ·rename_i v h0 hs hv
   have hx:evV fr (.tmp p)=some v:=hv;obtain ⟨u,a',b',h1,h2,h3⟩:=Qbx (P:=default) (μ:=μ) (fr:=fr) (x:= .tmp p) h ho hx (fun p hp=>by cases hp);obtain ⟨vs,a2,b2,h4,h5,h6⟩:=Qar (e:=e) h2 ho;refine ⟨u::vs,a2,b2,fun e=>h1 (h4 e),h5,fun kk e hk=> ?_⟩;have h7:ev fr (.tmp p) fun v=>Va T μ L t v fun u=>Wc T r fr μ L fun vs=>kk (u::vs):=h3 (fun u=>Wc T r fr μ L fun vs=>kk (u::vs)) (h4 e) (h6 _ e hk);exact h7
  ·exact absurd h.symm ho
end
section
variable {N:NN} {R:QH} {fr:Fr} {μ:Gh} {L:List Seg} {s s':List MIt} {fr':Fr} {L':List Seg} {e:List Value} {dst:Option Tmp} {v:Value}
def RK (rs:List ResultVar) (Rv:Value→Gh→List Seg→Prop):QH:=fun fr μ L=>Wc Tt rs fr μ L fun vs=>Upd μ L (Rv (QcT vs))
theorem FnS {f:FuncId} {fn:Func} {c:Code} {args:List Value} {n:Nat} {Rv:Value→Gh→List Seg→Prop} (hf:Try.prog.funcs[f]? =some fn) (hnm:(fn.name== "runtime.NumGoroutine")=false) (hb:fn.body=some c) (hn:fn.ntmps=n) (hl:Nat.ble args.length n=true)
  (ha:QeZ ixs args (fun F=> .ok [] F [] [] [])= .ok [] fr [] [] []) (k:KS Try.prog ⟨n,[],none⟩ (RK fn.results.toList Rv) [.code c] fr μ L):Fn Try.prog f args μ L Rv:=by
 have e1:=Qb3 (by simp) 16 0 args _ (show QeZ (List.range' 0 16) args _=_ from ha);injection e1 with _ e1 _ _ _
 subst e1;refine Fn.of_body Qh hf hnm hb hn (Nat.le_of_ble_eq_true hl) ?_;intro a w ha hw;refine Code.wpIn_mono (fun e a' w' hl=> ?_) (k a w ha hw);cases e with
 | normal =>
  obtain ⟨f1,μ1,L1,h1,h2,h3,h4⟩:=hl;obtain ⟨f2,μ2,L2,h5,h6,h7,h8⟩:=h4 a' w' h1 h3;exact ⟨f2,μ2,L2,h5,h2.trans h6,h7,h8⟩
 | ret =>
  obtain ⟨f1,μ1,L1,h1,h2,h3,h4⟩:=hl;obtain ⟨f2,μ2,L2,h5,h6,h7,h8⟩:=h4 a' w' h1 h3;exact ⟨f2,μ2,L2,h5,h2.trans h6,h7,h8⟩
 | _=>exact hl
variable {rs:List ResultVar} {Rv:Value→Gh→List Seg→Prop}
def QgQ:List MIt→Bool
 | []=>true
 | .code .ret::_=>true
 | .blk _::s=>QgQ s
 | .ops _ []::s=>QgQ s
 | _=>false
theorem KS.ret (h:R fr μ L) (s:List MIt):QgQ s=true→KS Try.prog N R s fr μ L:=by
 induction s with
 | nil=>exact fun _=>KEn.done h
 | cons i s ih =>
  cases i with
  | code c=>cases c<;>first | exact fun _=>WP.ret (KEn.done h) | exact fun hb=>by cases hb
  | blk i=>exact ih
  | ops all r =>
   cases r with
   | nil=>exact fun hb=>JU.nil (ih hb)
   | cons o r=>exact fun hb=>by cases hb
  | pln=>exact fun hb=>by cases hb
  | plp=>exact fun hb=>by cases hb
  | cut=>exact fun hb=>by cases hb
theorem Rt (hs:List Nat) (hb:QgQ s=true) (h:Qfb Tt L fr rs hs [] [] Qik= .ok [] [(0,v)] [] e e) (k:Upd μ L (Rv v)):KS Try.prog N (RK rs Rv) s fr μ L:=by
 refine KS.ret ?_ s hb;unfold RK;obtain ⟨vs,a',b',h1,h2,h3⟩:=Qar (μ:=μ) (e:=e) h (by simp);unfold Qik at h2
 split at h2
 ·injection h2 with _ h2 _ h4 h5
  injection h2 with h2 _
  injection h2 with _ h2
  subst h2 h4;exact h3 _ h5.symm k
 ·rename_i hn
  injection h2 with _ h2 _ h4 h5
  injection h2 with h2 _
  injection h2 with _ h2
  subst h2 h4;refine h3 _ h5.symm ?_;have:QcT vs= .tuple vs.toArray:=by
   match vs,hn with
   | [],_=>rfl
   | [v],hn=>exact absurd rfl (hn v)
   | _::_::_,_=>rfl
  rw[this];exact k
def Qe6 (L:List Seg) (i:Nat):Option Seg:=bif Nat.blt i 64 then Wz L i else none
theorem QeE {L:List Seg} {i:Nat} {s:Seg} (h:Qe6 L i=some s):L[i]? =some s:=by
 unfold Qe6 at h;cases hb:Nat.blt i 64 with
 | true=>rw[hb] at h;rw[←Qab];exact h
 | false=>rw[hb] at h;cases h
def Qa6:List Nat→List Seg→Seg×List Seg
 | [],L=>([],L)
 | [i],L=>match Qe6 L i with
  | some s=>(s,QcX L i [])
  | none=>([],L)
 | i::j::r,L=>match Qe6 L i with
  | some s=>(s++(Qa6 (j::r) (QcX L i [])).1,(Qa6 (j::r) (QcX L i [])).2)
  | none=>Qa6 (j::r) L
def QcL:List (List Nat)→Nat→List Seg→List Seg
 | [],k,L=>L.drop k
 | g::r,k,L=>(Qa6 g L).1::QcL r k (Qa6 g L).2
theorem Qaj: ∀(g:List Nat) (L:List Seg),L.flatten.Perm ((Qa6 g L).1++(Qa6 g L).2.flatten)
 | [],L=>by simp[Qa6]
 | [i],L=>by
  unfold Qa6;cases hi:Qe6 L i with
  | none=>simp
  | some s =>
   have hi:=QeE hi;have h1:=ZF hi
   rw[←QaV] at h1
   simpa using h1
 | i::j::r,L=>by
  unfold Qa6;cases hi:Qe6 L i with
  | none=>exact Qaj (j::r) L
  | some s =>
   simp only
   have hi:=QeE hi;have h1:=ZF hi
   rw[←QaV] at h1
   refine h1.trans ?_
   simp only[List.flatten_cons,List.append_assoc]
   exact (Qaj (j::r) _).append_left s
theorem Qc.grp: ∀(gs:List (List Nat)) (k:Nat) (L:List Seg),Qc (QcL gs k L) L:=by
 intro gs k L w μ h;have key: ∀(gs:List (List Nat)) (L:List Seg),∃M,L.flatten.Perm ((QcL gs k L).flatten++M):=by
  intro gs
  induction gs with
  | nil=>intro L;exact ⟨(L.take k).flatten,by
                          simp only[QcL];conv=>lhs;rw[←List.take_append_drop k L,List.flatten_append]
                          exact List.perm_append_comm⟩
  | cons g r ih =>
   intro L;obtain ⟨M,hM⟩:=ih (Qa6 g L).2;refine ⟨M,(Qaj g L).trans ?_⟩
   simp only[QcL,List.flatten_cons,List.append_assoc]
   exact hM.append_left _
 obtain ⟨M,hM⟩:=key gs L;exact (h.perm (L':=[(QcL gs k L).flatten,M]) (by simpa using hM)).sub (by simp)
theorem Upd.gp {kk:Gh→List Seg→Prop} (gs:List (List Nat)) (k:Nat) (h:Upd μ (QcL gs k L) kk):Upd μ L kk:=fun w hw=>h w (Qc.grp gs k L w μ hw)
theorem Fn.gp {f:FuncId} {args:List Value} {Rv:Value→Gh→List Seg→Prop} {L2:List Seg} (gs:List (List Nat)) (k m:Nat) (hn:nfL m (QcL gs k L) (fun l=> .ok [] [] l [] [])= .ok [] [] L2 [] []) (h:Fn Try.prog f args μ L2 Rv):Fn Try.prog f args μ L Rv:=by
 rw[Wy] at hn
 injection hn with _ _ hn _ _
 subst hn;exact Fn.seg (Qc.grp gs k L) h
def Qbs:List Seg→Nat→List Seg→List Seg
 | [],_,_=>[]
 | _::r,0,xs=>xs++r
 | s::r,n+1,xs=>s::Qbs r n xs
theorem Qc.ins {xs:List Seg} {so:Seg} (hx:xs.flatten=so): ∀{L:List Seg} {i:Nat},Wz L i=some so→Qc (Qbs L i xs) L:=by
 intro L i hi w μ hw;have key: ∀{L:List Seg} {i:Nat},Wz L i=some so→(Qbs L i xs).flatten=L.flatten:=by
  intro L
  induction L with
  | nil=>intro i h;cases h
  | cons s r ih =>
   intro i h;cases i with
   | zero=>simp only[Wz,Option.some.injEq] at h;subst h;simp[Qbs,hx]
   | succ i=>simp only[Qbs,List.flatten_cons];rw[ih (by simpa [Wz] using h)]
 exact hw.perm (by rw[key hi])
theorem In {xs:List Seg} {so:Seg} {L2:List Seg} (hx:xs.flatten=so) (i m:Nat) (hb:QdA s=true) (hi:Wz L i=some so) (hn:nfL m (Qbs L i xs) (fun l=> .ok [] [] l [] [])= .ok [] [] L2 [] []) (h:KS Try.prog N R s fr μ L2):KS Try.prog N R s fr μ L:=by
 rw[Wy] at hn
 injection hn with _ _ hn _ _
 subst hn;exact KS.seg (Qc.ins hx hi) hb h
def Vk:Fr→List Nat
 | []=>[]
 | (t,_)::r=>t::Vk r
theorem Qcd {fr:Fr}: ∀{F:Fr},Qj (Vk F) fr=F→QeV F fr
 | [],_=>trivial
 | (t,v)::r,h=>by
  simp only[Vk,Qj] at h
  split at h
  ·rename_i u hu
   injection h with h1 h2
   injection h1 with _ h1
   subst h1;exact ⟨hu,Qcd h2⟩
  ·
   exfalso
   have key: ∀(ts:List Nat),(Qj ts fr).length≤ts.length:=by
    intro ts
    induction ts with
    | nil=>exact Nat.le_refl _
    | cons t ts ih =>
     simp only[Qj]
     split
     ·simp only[List.length_cons];omega
     ·simp only[List.length_cons];omega
   have h1:=key (Vk r);have h2: ∀F:Fr,(Vk F).length=F.length:=by
    intro F
    induction F with
    | nil=>rfl
    | cons p F ih=>obtain ⟨t,v⟩:=p;simp only[Vk,List.length_cons,ih]
   rw[h,h2] at h1
   simp only[List.length_cons] at h1
   omega
theorem fE {F fr:Fr} (h:Qj (Vk F) fr=F):Qe F fr:=Qe.of (Qcd h)
theorem sE {M L:List Seg} (idx:List (Option Nat)) (n:Nat) (h:QL idx n L=M):Qc M L:=by subst h;exact Qc.sel L idx n
theorem s0 {L:List Seg} (n:Nat):Qc (QL [] n L) L:=Qc.sel L [] n
theorem Ug {kk:Gh→List Seg→Prop} (gs:List (List Nat)) (k:Nat) (h:kk μ (QcL gs k L)):Upd μ L kk:=fun w hw=>⟨μ,_,Gh.le.refl _,Qc.grp gs k L w μ hw,h⟩
theorem Qe.tr {F G fr:Fr} (h:Qe F fr) (hg:Qj (Vk G) F=G):Qe G fr:=(fE hg).trans h
theorem Qc.tr {A M B:List Seg} (h:Qc M B) (hg:Qc A M):Qc A B:=hg.trans h
theorem Cd {c:Code} (h:WP Try.prog N c (KS Try.prog N R s) (BS Try.prog N R s) (KEn N R) fr μ L):KS Try.prog N R (.code c::s) fr μ L:=h
def drB (ops:List Oper) (plan:List (Bool×Nat)):Bool:=Nat.beq plan.length ops.length&&(Region.noSelect ops.toArray&&(Vf ops&&Vh ops plan (List.replicate ops.length false)))
theorem Dr {id:Nat} {ops:List Oper} (keep:List Seg) (hk:Qb keep L) (plan:List (Bool×Nat)) (hp:drB ops plan=true) (h:KS Try.prog N R (.pln ops (List.replicate ops.length false) plan μ keep::s) fr μ L):KS Try.prog N R (.code (.region id ops.toArray true)::s) fr μ L:=by
 unfold drB at hp
 simp only[Bool.and_eq_true] at hp
 exact WP.drawS QbO keep hk plan (Nat.eq_of_beq_eq_true hp.1) hp.2.1 hp.2.2.1 hp.2.2.2 h
def QhD:Nat→List Seg→List Seg
 | 0,L=>match L with | []=>[] | _::r=>r
 | n+1,L=>match L with | []=>[] | s::r=>s::QhD n r
def rmS:List Nat→List Seg→List Seg
 | [],L=>L
 | i::r,L=>rmS r (QhD i L)
theorem Qdb: ∀(n:Nat) (L:List Seg),∀x∈QhD n L,x∈L
 | 0,[],x,h=>h
 | 0,_::r,x,h=>List.mem_cons_of_mem _ h
 | n+1,[],x,h=>h
 | n+1,s::r,x,h=>by
  rcases List.mem_cons.1 h with rfl | h
  ·exact List.mem_cons_self
  ·exact List.mem_cons_of_mem _ (Qdb n r x h)
theorem QeH: ∀(idx:List Nat) (L:List Seg),∀x∈rmS idx L,x∈L
 | [],L,x,h=>h
 | i::r,L,x,h=>Qdb i L x (QeH r _ x h)
theorem Drk {id:Nat} {ops:List Oper} {keep:List Seg} (idx:List Nat) (m:Nat) (hn:nfL m (rmS idx L) (fun l=> .ok [] [] l [] [])= .ok [] [] keep [] []) (plan:List (Bool×Nat)) (hp:drB ops plan=true)
  (h:KS Try.prog N R (.pln ops (List.replicate ops.length false) plan μ keep::s) fr μ L):KS Try.prog N R (.code (.region id ops.toArray true)::s) fr μ L:=by
 rw[Wy] at hn
 injection hn with _ _ hn _ _
 exact Dr keep (Qb.of fun x hx=>QeH idx L x (by rw[hn];exact hx)) plan hp h
def Qf8:List Nat→Nat→List Seg→List Seg
 | [],n,L=>L.drop n
 | i::r,n,L=>(Wz L i).getD []::Qf8 r n L
theorem Kp {keep:List Seg} (idx:List Nat) (n:Nat) (h:Qf8 idx n L=keep):Qb keep L:=by
 subst h
 induction idx with
 | nil =>
  intro c hc;obtain ⟨x,h1,h2⟩:=List.mem_flatten.1 hc;exact List.mem_flatten.2 ⟨x,List.mem_of_mem_drop h1,h2⟩
 | cons i r ih =>
  intro c hc
  simp only[Qf8,List.flatten_cons,List.mem_append] at hc
  rcases hc with hc | hc
  ·cases hi:Wz L i with
   | none=>rw[hi] at hc;cases hc
   | some x =>
    rw[hi] at hc
    rw[Qab] at hi
    exact List.mem_flatten.2 ⟨x,List.mem_of_getElem? hi,hc⟩
  ·exact ih c hc
theorem Cut {ρ β:Type} {m:Option ρ} {f:ρ→Option β} {r:β} {c:Code} (h:Option.bind m f=some r) (M:Fr→List Seg→ρ→QH) (h1: ∀o,m=some o→f o=some r→KS Try.prog N R (.code c:: .cut (M fr L o)::s) fr μ L)
  (h2: ∀o fr' μ' L',f o=some r→μ.le μ'→M fr L o fr' μ' L'→KS Try.prog N R s fr' μ' L'):KS Try.prog N R (.code c::s) fr μ L:=by
 obtain ⟨o,ho,h⟩:=Qi h;exact WP.cutK (M fr L o) (h1 o ho h) fun fr' μ' L' hm hM=>h2 o fr' μ' L' h hm hM
theorem Atn {F F':Fr} {L2 L2':List Seg} (n:Nat) (hF:Qe F fr) (hs:Qc L2 L) (hb:QdA s=true) (hn:nfF F (fun f=>nfL n L2 fun l=> .ok [] f l [] [])= .ok [] F' L2' [] []) (h:KS Try.prog N R s F' μ L2'):KS Try.prog N R s fr μ L:=by
 rw[Qdw,Wy] at hn
 injection hn with _ h1 h2 _ _
 subst h1 h2;exact Att hF hs hb h
def QgP:List MIt→Option QH
 | .cut M::_=>some M
 | .blk _::s=>QgP s
 | .ops _ []::s=>QgP s
 | _=>none
theorem Ce {M:QH} (hb:QgP s=some M) (h:M fr μ L):KS Try.prog N R s fr μ L:=by
 induction s with
 | nil=>cases hb
 | cons i s ih =>
  cases i with
  | code c=>cases hb
  | blk i=>exact ih hb
  | ops all r =>
   cases r with
   | nil=>exact JU.nil (ih hb)
   | cons o r=>cases hb
  | pln=>cases hb
  | plp=>cases hb
  | cut M'=>simp only[QgP,Option.some.injEq] at hb;subst hb;exact h
theorem Lp {σ ρ:Type} {body:σ→Option (σ⊕ρ)} {n i:Nat} {s0:σ} {o:ρ} {c:Code} (h:iter body n s0=some o) (I:Fr→List Seg→σ→QH) (h0:I fr L s0 fr μ L)
  (round: ∀st q fr' μ' L',μ.le μ'→I fr L st fr' μ' L'→body st=some q→(∀r,q= .inr r→r=o)→KS Try.prog N R (.code c:: .cut (fun fr2 μ2 L2=> ∃st',q= .inl st'∧I fr L st' fr2 μ2 L2):: .blk i::s) fr' μ' L') :
  KS Try.prog N R (.code (.block i (.loop c))::s) fr μ L :=
 WP.block (WP.iter h (I fr L) h0 round)
inductive QhZ where
 | ok (o:Oper) (s:List MIt) (n:Nat) (vs:List Value)
 | bad
def clO (s:List MIt) (fr:Fr):QhZ:=match hdS s fr with
 | some (o,s')=>(match o.op with
  | .call ⟨.value f,args,_⟩=>(match evV fr f,Wl fr args.toList with
   | some (.func (.func g) ⟨fi⟩ ⟨ca⟩),some vs=> .ok o s' g (fi++(vs++ca))
   | _,_=> .bad)
  | _=> .bad)
 | none=> .bad
theorem Cl {o:Oper} {f:Nat} {args:List Value} (h:clO s fr= .ok o s' f args) (k:Fn Try.prog f args μ L fun v μ' L'=>kpt s L' (YM N o.dst v fr fun f=>KS Try.prog N R s' f μ' L')):KS Try.prog N R s fr μ L:=by
 unfold clO at h
 split at h
 ·rename_i o1 s1 h1
  split at h
  ·rename_i hop
   split at h
   ·rename_i hf hv
    injection h with e1 e2 e3 e4
    subst e1 e2 e3 e4;refine So h1 ?_
    rw[hop]
    exact Qhc hf hv (by simp) k
   ·cases h
  ·cases h
 ·cases h
def alO (s:List MIt) (fr:Fr):QhZ:=match hdS s fr with
 | some (o,s')=>(match o.op with
  | .alloc t=>(match Tt t with | some i=>(match i.zero.cells with | ⟨cs⟩=> .ok o s' t cs) | none=> .bad)
  | .box t x=>(match evV fr x with | some v=>(match v.cells with | ⟨cs⟩=> .ok o s' t cs) | none=> .bad)
  | _=> .bad)
 | none=> .bad
theorem Al {o:Oper} {t:Nat} {cs:List Value} (h:alO s fr= .ok o s' t cs) (k: ∀g,kpt s ([(g,.cells ⟨cs⟩ t)]::L) (YM N o.dst (.pointer (some ⟨g,0,none⟩)) fr fun f=>KS Try.prog N R s' f μ ([(g,.cells ⟨cs⟩ t)]::L))):KS Try.prog N R s fr μ L:=by
 unfold alO at h
 split at h
 ·rename_i o1 s1 h1
  split at h
  ·rename_i hop
   split at h
   ·rename_i hT
    split at h
    rename_i hz
    injection h with e1 e2 e3 e4
    subst e1 e2 e3 e4;refine So h1 ?_
    rw[hop]
    exact Zm hT hz k
   ·cases h
  ·rename_i hop
   split at h
   ·rename_i hv
    split at h
    rename_i hz
    injection h with e1 e2 e3 e4
    subst e1 e2 e3 e4;refine So h1 ?_
    rw[hop]
    exact QhY hv hz k
   ·cases h
  ·cases h
 ·cases h
inductive Qiv where
 | ok (o:Oper) (s:List MIt) (A:Option Addr) (len:Nat) (ix:Int) (sz:Nat)
 | bad
def ixO (s:List MIt) (fr:Fr):Qiv:=match hdO s fr with
 | some (true,o,s')=>(match o.op with
  | .indexAddr t x n=>(match evV fr x,evV fr n,Tt t with
   | some (.slice A len _),some (.int _ ix),some i=>(match i.u with
    | .slice e=>(match Tt e with | some ⟨_,sz,_,_,_⟩=> .ok o s' A len ix sz | none=> .bad)
    | _=> .bad)
   | _,_,_=> .bad)
  | _=> .bad)
 | _=> .bad
theorem Ix {α β:Type} {μ1:Gh} {L1:List Seg} {r:Rp α} {xs:List α} {ix:Int} {f:α→Option β} {res:β} {A:Option Addr} {o:Oper} {sz:Nat} (h:Option.bind (Qp xs ix) f=some res) (hR:Rds r μ1 L1 A xs) (hi:ixO s fr= .ok o s' A xs.length ix sz) (hz:r.sz=sz)
  (k: ∀x a cs,Qp xs ix=some x→r.rep μ1 x cs→Yp μ1 L1 (a.add (ix.toNat*sz)) cs→A=some a→f x=some res→YM N o.dst (.pointer (some (a.add (ix.toNat*sz)))) fr fun f=>KS Try.prog N R s' f μ L):KS Try.prog N R s fr μ L:=by
 subst hz;obtain ⟨x,hx,hh⟩:=Qi h;obtain ⟨a,cs,hA,hr,_,hc⟩:=Rds.getI hR hx;unfold ixO at hi
 split at hi
 ·rename_i o1 s1 h1
  split at hi
  ·rename_i hop
   split at hi
   ·rename_i hx1 hn1 hT1
    split at hi
    ·rename_i hu
     split at hi
     ·rename_i hT2
      injection hi with e1 e2 e3 e4 e5 e6
      subst e1 e2 e3 e4 e5;refine Rdo h1 (by rw[hop];rfl) ?_
      rw[hop]
      refine Y3 hx1 hn1 hT1 hu hT2 e6 ⟨(Qm hx).1,(Qm hx).2.1⟩ hA ?_;exact k x a cs hx hr hc hA hh
     ·cases hi
    ·cases hi
   ·cases hi
  ·cases hi
 ·cases hi
theorem IxN {α β:Type} {μ1:Gh} {L1:List Seg} {r:Rp α} {xs:List α} {ix:Int} {f:α→Option β} {res:β} {A:Option Addr} {o:Oper} {sz:Nat} {n:Nat} (hn:n=xs.length) (h:Option.bind (Qp xs ix) f=some res) (hR:Rds r μ1 L1 A xs) (hi:ixO s fr= .ok o s' A n ix sz) (hz:r.sz=sz)
  (k: ∀x a cs,Qp xs ix=some x→r.rep μ1 x cs→Yp μ1 L1 (a.add (ix.toNat*sz)) cs→A=some a→f x=some res→YM N o.dst (.pointer (some (a.add (ix.toNat*sz)))) fr fun f=>KS Try.prog N R s' f μ L):KS Try.prog N R s fr μ L:=by
 subst hn;exact Ix h hR hi hz k
theorem IxA {α β:Type} {all rest:List Oper} {s1:List MIt} {r:Rp α} {xs:List α} {ix:Int} {f:α→Option β} {res:β} {A:Option Addr} {o:Oper} {sz:Nat} (h:Option.bind (Qp xs ix) f=some res) (hR:Rds r μ L A xs) (hi:ixO (.ops all rest::s1) fr= .ok o s' A xs.length ix sz) (hz:r.sz=sz)
  (k: ∀x a cs,Qp xs ix=some x→r.rep μ x cs→Yp μ L (a.add (ix.toNat*sz)) cs→A=some a→f x=some res→YM N o.dst (.pointer (some (a.add (ix.toNat*sz)))) fr fun f=>KS Try.prog N R s' f μ L):KS Try.prog N R (.ops all rest::s1) fr μ L:=Ix h hR hi hz k
end
end Go.Proofs.Ytfdjjdhnfaklbaa
namespace Go.Proofs.Ytfdjjdhnfaklbaa
open Go.RowKit
set_option linter.unusedSimpArgs false
set_option linter.unusedVariables false
def Qij:Nat→Option (Nat⊕Unit)
 | 0=>some (.inr ())
 | n+1=>some (.inl n)
theorem Qc8: ∀n,iter Qij (n+1) n=some ()
 | 0=>rfl
 | n+1=>by
  show (Qij (n+1)).bind _=_
  exact Qc8 n
section
variable {κ β:Type} {ek:κ→Value} {enc:β→Value} {es:Array MapEntry} {c:Nat} {m:List (κ×β)}
structure JL (ek:κ→Value) (enc:β→Value) (es:Array MapEntry) (seen:Array Nat) (p:List (κ×β)) (n:Nat):Prop where
 ex: ∃d:List MapEntry,d.map (·.born)=seen.toList∧(∀e∈d,e∈es.toList)∧d.map (fun e=>(e.key,e.val))=p.map (fun q=>(ek q.1,enc q.2))∧seen.toList.Nodup∧n+d.length=es.size
theorem JL.init (hm:Y2 ek enc es c m):JL ek enc es #[] ([]:List (κ×β)) m.length:=⟨[],rfl,by simp,rfl,by simp,by simp[Y2.size hm]⟩
theorem JL.len {seen:Array Nat} {p:List (κ×β)} {n:Nat} (h:JL ek enc es seen p n) (hm:Y2 ek enc es c m):p.length+n=m.length:=by
 obtain ⟨d,h1,h2,h3,h4,h5⟩:=h.ex;have h6:=congrArg List.length h3
 simp at h6
 have:=Y2.size hm
 omega
theorem Y2.ent (hm:Y2 ek enc es c m):es.toList.map (fun e=>(e.key,e.val))=m.map (fun q=>(ek q.1,enc q.2)):=by
 have h:=JV.ps hm
 rw[List.map_map] at h
 exact h
theorem Y2.born (hm:Y2 ek enc es c m):(es.toList.map (·.born)).Nodup:=JV.born hm
theorem Y2.lt (hm:Y2 ek enc es c m): ∀e∈es.toList,e.born<c:=JV.lt hm
theorem JK {d:List MapEntry} (h:(d.map (·.born)).Nodup):d.Nodup:=by
 have h1:=List.pairwise_map.1 h;exact h1.imp fun hne e=>hne (by rw[e])
theorem QfH {l:List MapEntry} (h:(l.map (·.born)).Nodup) {x y:MapEntry} (hx:x∈l) (hy:y∈l) (e:x.born=y.born):x=y:=by
 obtain ⟨i,hi,rfl⟩:=List.mem_iff_getElem.1 hx;obtain ⟨j,hj,rfl⟩:=List.mem_iff_getElem.1 hy;have h1:(l.map (·.born))[i]? =(l.map (·.born))[j]? :=by simp[hi,hj,e]
 have:=(List.getElem?_inj (by simpa using hi) h).1 h1;subst this;rfl
theorem QaG {d:List MapEntry} {l:List MapEntry} (hl:(l.map (·.born)).Nodup) (hd: ∀e∈d,e∈l) {e:MapEntry} (he:e∈l) (hb:e.born∈d.map (·.born)):e∈d:=by
 obtain ⟨x,hx,h⟩:=List.mem_map.1 hb
 rw[←QfH hl (hd x hx) he h];exact hx
theorem JL.all (hm:Y2 ek enc es c m) {seen:Array Nat} {p:List (κ×β)} (h:JL ek enc es seen p 0) {e:MapEntry} (he:e∈es.toList):e.born∈seen.toList:=by
 obtain ⟨d,h1,h2,h3,h4,h5⟩:=h.ex
 rw[←h1]
 by_cases hx:e∈d
 ·exact List.mem_map.2 ⟨e,hx,rfl⟩
 ·have hn:(e::d).Nodup:=List.nodup_cons.2 ⟨hx,JK (by rw[h1];exact h4)⟩;have:=hn.length_le_of_subset (l₂:=es.toList) (by
   intro x hx;rcases List.mem_cons.1 hx with rfl | hx
   ·exact he
   ·exact h2 x hx)
  simp at this
  omega
theorem QaH {α β:Type} {f:α→β} (hf: ∀a b,f a=f b→a=b): ∀(p m:List α),(p.map f).Perm (m.map f)→p.Perm m
 | [],m,h=>by
  have:=h.length_eq
  simp at this
  cases m with
  | nil=>exact .refl _
  | cons a m=>simp at this
 | a::p,m,h=>by
  have h1:f a∈m.map f:=h.subset (by simp);obtain ⟨b,hb,e⟩:=List.mem_map.1 h1;have e2:b=a:=hf _ _ e
  rw[e2] at hb
  obtain ⟨m1,m2,rfl⟩:=List.append_of_mem hb;have h2:(p.map f).Perm ((m1++m2).map f):=by
   have h3:((m1++a::m2).map f).Perm (f a::(m1++m2).map f):=by
    have:=(List.perm_middle (a:=a) (l₁:=m1) (l₂:=m2)).map f
    simpa only[List.map_cons] using this
   exact (h.trans h3).cons_inv
  exact (List.Perm.cons a (QaH hf p _ h2)).trans List.perm_middle.symm
theorem JL.perm (hm:Y2 ek enc es c m) (hek: ∀a b,ek a=ek b→a=b) (hen: ∀a b,enc a=enc b→a=b) {seen:Array Nat} {p:List (κ×β)} (h:JL ek enc es seen p 0):p.Perm m:=by
 have hall:=fun e he=>h.all hm (e:=e) he;obtain ⟨d,h1,h2,h3,h4,h5⟩:=h.ex;have hd:d.Perm es.toList:=(List.perm_ext_iff_of_nodup (JK (by rw[h1];exact h4)) (JK hm.born)).2 fun e=>⟨h2 e,fun he=>QaG hm.born h2 he (by rw[h1];exact hall e he)⟩
 have h6:=hd.map fun e=>(e.key,e.val)
 rw[h3,hm.ent] at h6
 exact QaH (fun a b hab=>by
  obtain ⟨a1,a2⟩:=a;obtain ⟨b1,b2⟩:=b
  simp only[Prod.mk.injEq] at hab
  rw[hek _ _ hab.1,hen _ _ hab.2]) _ _ h6
variable {P:Program} {T:TT} {μ:Gh} {L:List Seg} {t kt et:TypeId} {it:TyI} {k:Value→Gh→List Seg→Prop}
theorem Qee (hT:TOk P T) (ht:T t=some it) (hu:it.u= .map kt et) (i:Nat) {g:Nat} (hi:L[i]? =some [(g,.map es c)]) (hk: ∀r,k (.pointer (some ⟨r,0,none⟩)) μ ([(r,.mapIter (some g) c #[] c)]::L)):QW P (Instr.range t (.map (some g))) μ L k:=by
 intro w hw;have hb:w.heap[g]? =some (.map es c):=hw.own (g,_) (List.mem_flatten.2 ⟨_,List.mem_of_getElem? hi,by simp⟩);refine ⟨.pointer (some ⟨w.heap.size,0,none⟩),_,μ,_,?_,Gh.le.refl _,hw.alloc (.mapIter (some g) c #[] c),hk _⟩
 simp[Instr.range,QN hT ht hu (by simp),MapKept.run_getObj_map hb]
theorem Qec (hm:Y2 ek enc es c m) {seen:Array Nat} {p:List (κ×β)} (hI:JL ek enc es seen p 0) (i j:Nat) {g r:Nat} {ty:TypeId} (hi:L[i]? =some [(g,.map es c)]) (hj:L[j]? =some [(r,.mapIter (some g) c seen c)]) (hk:k (.tuple #[.bool false]) μ L):QW P (Instr.next (.pointer (some ⟨r,0,none⟩)) false ty) μ L k:=by
 intro w hw;have hb:w.heap[g]? =some (.map es c):=hw.own (g,_) (List.mem_flatten.2 ⟨_,List.mem_of_getElem? hi,by simp⟩);have hr:w.heap[r]? =some (.mapIter (some g) c seen c):=hw.own (r,_) (List.mem_flatten.2 ⟨_,List.mem_of_getElem? hj,by simp⟩);rcases run_next_at (P:=P) w ty r g c c seen es c hr hb hm.lt (Nat.le_refl _) with ⟨_,h⟩ | ⟨e,he,_⟩
 ·exact ⟨_,w,μ,L,h,Gh.le.refl _,hw,hk⟩
 ·obtain ⟨h1,h2⟩:=mem_left he;have:=hI.all hm h1
  rw[show seen.contains e.born=true by simpa using this] at h2
  cases h2
theorem JL.step (hm:Y2 ek enc es c m) {seen:Array Nat} {p:List (κ×β)} {n:Nat} (hI:JL ek enc es seen p (n+1)) {e:MapEntry} (he:e∈es.toList) (hs:seen.contains e.born=false): ∃q,e.key=ek q.1∧e.val=enc q.2∧JL ek enc es (seen.push e.born) (p++[q]) n:=by
 obtain ⟨d,h1,h2,h3,h4,h5⟩:=hI.ex;have hq:(e.key,e.val)∈m.map (fun q=>(ek q.1,enc q.2)):=by rw[←hm.ent];exact List.mem_map.2 ⟨e,he,rfl⟩
 obtain ⟨q,_,hq⟩:=List.mem_map.1 hq;injection hq with q1 q2
 refine ⟨q,q1.symm,q2.symm,d++[e],by simp[h1],?_,by simp[h3,q1,q2],?_,by simp;omega⟩
 ·intro x hx;rcases List.mem_append.1 hx with hx | hx
  ·exact h2 x hx
  ·simp at hx;subst hx;exact he
 ·simp only[Array.toList_push]
  have hs':e.born∉seen.toList:=by simpa using hs
  exact List.nodup_append.2 ⟨h4,by simp,fun a ha b hb=>by simp at hb;subst hb;exact fun e=>hs' (e▸ha)⟩
theorem Qed (hm:Y2 ek enc es c m) {seen:Array Nat} {p:List (κ×β)} {n:Nat} (hI:JL ek enc es seen p (n+1)) (i j:Nat) {g r:Nat} {ty:TypeId} (hi:L[i]? =some [(g,.map es c)]) (hj:L[j]? =some [(r,.mapIter (some g) c seen c)])
  (hk: ∀q b,JL ek enc es (seen.push b) (p++[q]) n→k (.tuple #[.bool true,ek q.1,enc q.2]) μ (L.set j [(r,.mapIter (some g) c (seen.push b) c)])):QW P (Instr.next (.pointer (some ⟨r,0,none⟩)) false ty) μ L k:=by
 intro w hw;have hb:w.heap[g]? =some (.map es c):=hw.own (g,_) (List.mem_flatten.2 ⟨_,List.mem_of_getElem? hi,by simp⟩);have hr:w.heap[r]? =some (.mapIter (some g) c seen c):=hw.own (r,_) (List.mem_flatten.2 ⟨_,List.mem_of_getElem? hj,by simp⟩);rcases run_next_at (P:=P) w ty r g c c seen es c hr hb hm.lt (Nat.le_refl _) with ⟨h0,_⟩ | ⟨e,he,w1,hw1,h⟩
 ·exfalso
  have h1:=all_seen es seen h0;obtain ⟨d,h2,h3,_,h4,h5⟩:=hI.ex;have h6:=(JK hm.born).length_le_of_subset (l₂:=d) (fun e he=>QaG hm.born h3 he (by rw[h2];simpa using h1 e he))
  simp at h6
  omega
 ·obtain ⟨h1,h2⟩:=mem_left he;obtain ⟨q,q1,q2,hI'⟩:=hI.step hm h1 h2
  rw[q1,q2] at h
  have hw1':Inv w1 μ L:=by
   rcases hw1 with rfl | rfl
   ·exact hw
   ·exact hw.drew
  exact ⟨_,_,μ,_,h,Gh.le.refl _,hw1'.updObj hj (show [(r,Obj.mapIter (some g) c seen c)][0]? =some _ from rfl) (o':= .mapIter (some g) c (seen.push e.born) c),hk q e.born hI'⟩
theorem Qeb (hm:Y2 ek enc es c m) {seen:Array Nat} {p:List (κ×β)} {n b:Nat} {q:κ×β} (hI:JL ek enc es (seen.push b) (p++[q]) n) (i j:Nat) {g r:Nat} (hi:L[i]? =some [(g,.map es c)]) (hj:L[j]? =some [(r,.mapIter (some g) c (seen.push b) c)])
  (hk:k (.tuple #[ek q.1,enc q.2]) μ L):QW P (Instr.entry (.pointer (some ⟨r,0,none⟩))) μ L k:=by
 intro w hw;have hb:w.heap[g]? =some (.map es c):=hw.own (g,_) (List.mem_flatten.2 ⟨_,List.mem_of_getElem? hi,by simp⟩);have hr:w.heap[r]? =some (.mapIter (some g) c (seen.push b) c):=hw.own (r,_) (List.mem_flatten.2 ⟨_,List.mem_of_getElem? hj,by simp⟩);obtain ⟨d,h1,h2,h3,h4,h5⟩:=hI.ex;rcases List.eq_nil_or_concat d with rfl | ⟨d0,e,rfl⟩
 ·simp at h3
 ·simp at h1 h3
  obtain ⟨h3,h6,h7⟩:=h3;obtain ⟨h1,h8⟩:=h1;subst h8;refine ⟨_,w,μ,L,run_entry_at w r g c seen es c e hr hb (h2 e (by simp)) hm.born,Gh.le.refl _,hw,?_⟩
  rw[h6,h7];exact hk
end
section
variable {N:NN} {R:QH} {fr:Fr} {μ:Gh} {L:List Seg} {s:List MIt}
theorem Qit {α β:Type} {m:List α} {f:List α→Option β} {r:β} {c:Code} (h:QeW m f=some r) (M:Fr→List Seg→List α→QH) (h1:KS Try.prog N R (.code c:: .cut (fun f_ μ_ l_=> ∃p:List α,p.Perm m∧M fr L p f_ μ_ l_)::s) fr μ L)
  (h2: ∀p fr' μ' L',f p=some r→μ.le μ'→M fr L p fr' μ' L'→KS Try.prog N R s fr' μ' L'):KS Try.prog N R (.code c::s) fr μ L :=
 WP.cutK (fun f_ μ_ l_=> ∃p:List α,p.Perm m∧M fr L p f_ μ_ l_) h1 fun fr' μ' L' hm ⟨p,hp,hM⟩=>h2 p fr' μ' L' (QfE h hp) hm hM
end
end Go.Proofs.Ytfdjjdhnfaklbaa
namespace Go.Proofs.Ytfdjjdhnfaklbaa
open Go.RowKit
set_option linter.unusedSimpArgs false
set_option linter.unusedVariables false
section
variable {α:Type} {r:Rp α} {e:TypeId} {μ μ':Gh}
def JM (r:Rp α) (e:TypeId) (μ:Gh):List (Int×Option (List α))→List (Int×Value)→Seg→Prop
 | [],[],s=>s=[]
 | p::m,q::mv,s=>p.1=q.1∧(match p.2 with
  | none=>JM r e μ m mv s
  | some xs=> ∃ch s',s=ch++s'∧Own r e μ q.2 xs ch∧JM r e μ m mv s')
 | _,_,_=>False
theorem JM.mono (hm:μ.le μ'): ∀{m:List (Int×Option (List α))} {mv:List (Int×Value)} {s:Seg},JM r e μ m mv s→JM r e μ' m mv s
 | [],[],s,h=>h
 | (k,none)::m,q::mv,s,h=>⟨h.1,JM.mono hm h.2⟩
 | (k,some xs)::m,q::mv,s,h=>by
  obtain ⟨h1,ch,s',h2,h3,h4⟩:=h;exact ⟨h1,ch,s',h2,h3.mono hm,h4.mono hm⟩
 | [],q::mv,s,h=>h.elim
 | p::m,[],s,h=>by cases p with | mk a b=>cases b<;>exact h.elim
theorem JM.take (k:Int) {xs:List α}: ∀{m:List (Int×Option (List α))} {mv:List (Int×Value)} {s:Seg},JM r e μ m mv s→Z0 k m=some xs →
  ∃v ch s',(YY k mv).getD (.slice none 0 0)=v∧s.Perm (ch++s')∧Own r e μ v xs ch∧JM r e μ (W4 k m) mv s'
 | [],[],s,h,hx=>by
  cases hx;cases h;exact ⟨_,[],[],rfl,.refl _,Own.nil,rfl⟩
 | [],q::mv,s,h,_=>h.elim
 | p::m,[],s,h,_=>by cases p with | mk a b=>cases b<;>exact h.elim
 | (a,none)::m,q::mv,s,h,hx=>by
  obtain ⟨h1,h2⟩:=h
  by_cases ha:a=k
  ·simp[Z0,YY,ha] at hx
  ·have hx':Z0 k m=some xs:=by simpa [Z0,YY,ha] using hx
   obtain ⟨v,ch,s',e1,e2,e3,e4⟩:=JM.take k h2 hx';have hq: ¬q.1=k:=fun h=>ha (h1.trans h);refine ⟨v,ch,s',by simp only[YY,hq,if_false];exact e1,e2,e3,?_⟩
   simp only[W4,ha,if_false]
   exact ⟨h1,e4⟩
 | (a,some ys)::m,q::mv,s,h,hx=>by
  obtain ⟨h1,ch0,s0,rfl,h3,h4⟩:=h
  by_cases ha:a=k
  ·have hx':ys=xs:=by simpa [Z0,YY,ha] using hx
   subst hx';have hq:q.1=k:=h1.symm.trans ha;refine ⟨q.2,ch0,s0,by simp[YY,hq],.refl _,h3,?_⟩
   simp only[W4,ha,if_true]
   exact ⟨hq.symm,h4⟩
  ·have hx':Z0 k m=some xs:=by simpa [Z0,YY,ha] using hx
   obtain ⟨v,ch,s',e1,e2,e3,e4⟩:=JM.take k h4 hx';have hq: ¬q.1=k:=fun h=>ha (h1.trans h);refine ⟨v,ch,ch0++s',by simp only[YY,hq,if_false];exact e1,?_,e3,?_⟩
   ·have h5:=e2.append_left ch0;refine h5.trans ?_
    rw[←List.append_assoc,←List.append_assoc]
    exact List.perm_append_comm.append_right s'
   ·simp only[W4,ha,if_false]
    exact ⟨h1,ch0,s',rfl,h3,e4⟩
theorem JM.put (k:Int) {zs:List α} {v:Value} {ch:Seg} (hO:Own r e μ v zs ch): ∀{m:List (Int×Option (List α))} {mv:List (Int×Value)} {s:Seg},JM r e μ m mv s→(∀xs,YY k m≠some (some xs)) →
  ∃s2,(ch++s).Perm s2∧JM r e μ (Wb k (some zs) m) (Wb k v mv) s2
 | [],[],s,h,_=>by
  cases h;exact ⟨ch++[],by simp,rfl,ch,[],rfl,hO,rfl⟩
 | [],q::mv,s,h,_=>h.elim
 | p::m,[],s,h,_=>by cases p with | mk a b=>cases b<;>exact h.elim
 | (a,none)::m,q::mv,s,h,hx=>by
  obtain ⟨h1,h2⟩:=h
  by_cases ha:a=k
  ·have hq:q.1=k:=h1.symm.trans ha;refine ⟨ch++s,.refl _,?_⟩
   simp only[Wb,ha,hq,if_true]
   exact ⟨rfl,ch,s,rfl,hO,h2⟩
  ·have hq: ¬q.1=k:=fun h=>ha (h1.trans h);obtain ⟨s2,e1,e2⟩:=JM.put k hO h2 (fun xs=>by simpa [YY,ha] using hx xs);refine ⟨s2,e1,?_⟩
   simp only[Wb,ha,hq,if_false]
   exact ⟨h1,e2⟩
 | (a,some ys)::m,q::mv,s,h,hx=>by
  obtain ⟨h1,ch0,s0,rfl,h3,h4⟩:=h
  by_cases ha:a=k
  ·exact absurd (by simp[YY,ha]) (hx ys)
  ·have hq: ¬q.1=k:=fun h=>ha (h1.trans h);obtain ⟨s2,e1,e2⟩:=JM.put k hO h4 (fun xs=>by simpa [YY,ha] using hx xs);refine ⟨ch0++s2,?_,?_⟩
   ·refine List.Perm.trans ?_ (e1.append_left ch0)
    rw[←List.append_assoc,←List.append_assoc]
    exact List.perm_append_comm.append_right s0
   ·simp only[Wb,ha,hq,if_false]
    exact ⟨h1,ch0,s2,rfl,h3,e2⟩
variable {es:Array MapEntry} {c:Nat} {m:List (Int×Option (List α))} {so:Seg}
def W1 (r:Rp α) (e:TypeId) (μ:Gh) (es:Array MapEntry) (c:Nat) (m:List (Int×Option (List α))) (so:Seg):Prop :=
 ∃mv:List (Int×Value),Vv (fun v=>v) es c mv∧JM r e μ m mv so
theorem W1.nil:W1 r e μ #[] 0 [] []:=⟨[],Vv.nil,rfl⟩
theorem W1.mono (h:W1 r e μ es c m so) (hm:μ.le μ'):W1 r e μ' es c m so:=by
 obtain ⟨mv,h1,h2⟩:=h;exact ⟨mv,h1,h2.mono hm⟩
def LkW (es:Array MapEntry) (c:Nat) (k:Int) (v:Value):Prop:= ∃mv:List (Int×Value),Vv (fun v=>v) es c mv∧(YY k mv).getD (.slice none 0 0)=v
theorem W1.take (h:W1 r e μ es c m so) (x:Nat×Obj) {k:Int} {xs:List α} (hx:Z0 k m=some xs) :
  ∃A cc ch so',LkW es c k (.slice A xs.length cc)∧[ch,x::so'].flatten.Perm (x::so)∧Own r e μ (.slice A xs.length cc) xs ch∧W1 r e μ es c (W4 k m) so':=by
 obtain ⟨mv,h1,h2⟩:=h;obtain ⟨v,ch,s',e1,e2,e3,e4⟩:=h2.take k hx;obtain ⟨A,cc,rfl,_,_⟩:=e3.form;refine ⟨A,cc,ch,s',⟨mv,h1,e1⟩,?_,e3,mv,h1,e4⟩
 simp only[List.flatten_cons,List.flatten_nil,List.append_nil]
 exact List.perm_middle.trans (e2.symm.cons x)
theorem LkW.look {L:List Seg} {k:Int} {v:Value} (h:LkW es c k v) {g:Nat} (ho:Zn μ L g (.map es c)) :
  ∃b:Bool,∃es' c',Zn μ L g (.map es' c')∧Wg .i64 es'.toList∧((v,b):Value×Bool)=(match Wu k es'.toList with | some v=>(v,true) | none=>(.slice none 0 0,false)):=by
 obtain ⟨mv,h1,h2⟩:=h;obtain ⟨es',c',k1,k2,k3⟩:=h1.look ho (z:= .slice none 0 0) (zb:= .slice none 0 0) rfl k;refine ⟨(YY k mv).isSome,es',c',k1,k2,?_⟩
 rw[←h2];exact k3
theorem V5 {ch:Seg}: ∀{X:List Seg} {l:Nat},X[l]? =some ch→X.flatten.Perm (ch++(X.set l []).flatten)
 | [],l,h=>by simp at h
 | x::X,0,h=>by simp at h;subst h;simp
 | x::X,l+1,h=>by
  simp only[List.set_cons_succ,List.flatten_cons]
  have h1:=(V5 (X:=X) (l:=l) (by simpa using h)).append_left x;refine h1.trans ?_
  rw[←List.append_assoc,←List.append_assoc]
  exact List.perm_append_comm.append_right _
theorem Qgc {X:List Seg} {j l:Nat} {so ch s2:Seg} (hj:X[j]? =some so) (hl:X[l]? =some ch) (hjl:j≠l) (h:(ch++so).Perm s2):X.flatten.Perm ((X.set j s2).set l []).flatten:=by
 have h1:=V5 hj;have h2:=V5 (X:=X.set j []) (l:=l) (by rw[List.getElem?_set_ne hjl];exact hl);have hlt:j<X.length:=by
  rcases Nat.lt_or_ge j X.length with h | h
  ·exact h
  ·rw[List.getElem?_eq_none h] at hj;cases hj
 have h3:=V5 (X:=(X.set j s2).set l []) (l:=j) (ch:=s2) (by rw[List.getElem?_set_ne (Ne.symm hjl)];simp[hlt]);have e:((X.set j s2).set l []).set j []=(X.set j []).set l []:=by
  rw[List.set_comm _ _ (Ne.symm hjl),List.set_set]
 rw[e] at h3
 refine h1.trans (.trans (h2.append_left so) (.trans ?_ h3.symm))
 rw[←List.append_assoc]
 exact (List.perm_append_comm.trans h).append_right _
theorem Qc.insP {xs:List Seg} {so:Seg} (hx:xs.flatten.Perm so): ∀{L:List Seg} {i:Nat},Wz L i=some so→Qc (Qbs L i xs) L:=by
 intro L i hi w μ hw;have key: ∀{L:List Seg} {i:Nat},Wz L i=some so→(Qbs L i xs).flatten.Perm L.flatten:=by
  intro L
  induction L with
  | nil=>intro i h;cases h
  | cons s r ih =>
   intro i h;cases i with
   | zero=>simp only[Wz,Option.some.injEq] at h;subst h;simpa [Qbs] using hx.append_right _
   | succ i=>simp only[Qbs,List.flatten_cons];exact (ih (by simpa [Wz] using h)).append_left s
 exact hw.perm (key hi).symm
theorem InP {N:NN} {R:QH} {fr:Fr} {s:List MIt} {L:List Seg} {xs:List Seg} {so:Seg} {L2:List Seg} (hx:xs.flatten.Perm so) (i m:Nat) (hb:QdA s=true) (hi:Wz L i=some so) (hn:nfL m (Qbs L i xs) (fun l=> .ok [] [] l [] [])= .ok [] [] L2 [] []) (h:KS Try.prog N R s fr μ L2):KS Try.prog N R s fr μ L:=by
 rw[Wy] at hn
 injection hn with _ _ hn _ _
 subst hn;exact KS.seg (Qc.insP hx hi) hb h
variable {P:Program} {T:TT} {L:List Seg}
theorem Qcs (hT:TOk P T) {t kt et:TypeId} {it ik:TyI} (ht:T t=some it) (hu:it.u= .map kt et) (hkt:T kt=some ik) (hku:ik.u= .int .i64)
  (i l:Nat) {g:Nat} {n:Int} {zs:List α} {v:Value} {ch:Seg} {m0:List (Int×Option (List α))} {k:Gh→List Seg→Prop} (hi:L[i]? =some ((g,.map es c)::so)) (hl:L[l]? =some ch) (hil:(i==l)=false) (hm:W1 r e μ es c (W4 n m0) so) (hO:Own r e μ v zs ch)
  (hk: ∀es' c' so',W1 r e μ es' c' (Wb n (some zs) (W4 n m0)) so'→k μ ((L.set i ((g,.map es' c')::so')).set l [])):Ji P (Instr.mapUpdate t (.map (some g)) (.int .i64 n) v) μ L k:=by
 obtain ⟨mv,h1,h2⟩:=hm;obtain ⟨s2,e1,e2⟩:=h2.put n hO (Qci n m0);intro w hw;obtain ⟨w',μ',L',hr,hle,hw',es',c',hm',rfl,rfl⟩:=QdD (k:=fun μ' L'=> ∃es' c',JZ .i64 es' c' (Qap n v (mv.map fun p=>(p.1,p.2)))∧μ'=μ∧L'=L.set i ((g,.map es' c')::so)) hT ht hu hkt hku i 0 hi rfl h1 (fun es' c' h=>⟨es',c',h,rfl,rfl⟩) w hw;have hm2:Vv (fun v=>v) es' c' (Wb n v mv):=by
  have e:=Qdu (fun v:Value=>v) n v mv;unfold Vv
  rw[←e]
  exact hm'
 refine ⟨w',μ',_,hr,hle,?_,hk es' c' s2 ⟨_,hm2,e2⟩⟩;have hlt:i<L.length:=by
  rcases Nat.lt_or_ge i L.length with h | h
  ·exact h
  ·rw[List.getElem?_eq_none h] at hi;cases hi
 have hne:i≠l:=by simpa using hil
 refine hw'.perm ?_;have:=Qgc (X:=L.set i ((g,Obj.map es' c')::so)) (j:=i) (l:=l) (so:=(g,Obj.map es' c')::so) (ch:=ch) (s2:=(g,Obj.map es' c')::s2) (by simp[hlt]) (by rw[List.getElem?_set_ne hne];exact hl) hne (List.perm_middle.trans (e1.cons _))
 rw[List.set_set] at this
 exact this
end
end Go.Proofs.Ytfdjjdhnfaklbaa
