/- TopLeaseVend: for every input the given law returns true, and its arguments read as before. No condition. -/
import Derived.WalkKit
import Derived.OrdersHeld
import Derived.ChangeKeysEq
namespace Go.Proofs.Ytfdjjdhnfaklbaa
open Go.RowKit
set_option linter.unusedSimpArgs false
set_option linter.unusedVariables false
abbrev Qcc:=Nat×Obj
abbrev Seg:=List Qcc
structure Gh where
 mem:Nat→Option Obj
 os:Os
 out:Array (Nat×ByteArray)
 tape:Nat→Question→Nat
structure Gh.le (μ μ':Gh):Prop where
 mem: ∀b o,μ.mem b=some o→μ'.mem b=some o
 os:μ'.os=μ.os
 out:μ'.out=μ.out
 tape:μ'.tape=μ.tape
theorem Gh.le.refl (μ:Gh):μ.le μ:=⟨fun _ _ h=>h,rfl,rfl,rfl⟩
theorem Gh.le.trans {a b c:Gh} (h:a.le b) (k:b.le c):a.le c :=
 ⟨fun x o hx=>k.mem x o (h.mem x o hx),k.os.trans h.os,k.out.trans h.out,k.tape.trans h.tape⟩
structure Inv (w:World) (μ:Gh) (L:List Seg):Prop where
 os:w.os=μ.os
 out:w.output=μ.out
 tape:w.tape=μ.tape
 mem: ∀b o,μ.mem b=some o→w.heap[b]? =some o
 own: ∀c∈L.flatten,w.heap[c.1]? =some c.2
 sep: ∀c∈L.flatten,μ.mem c.1=none
 nd:(L.flatten.map (·.1)).Nodup
theorem Inv.drew {w:World} {μ:Gh} {L:List Seg} (h:Inv w μ L):Inv w.drew μ L :=
 ⟨h.os,h.out,h.tape,h.mem,h.own,h.sep,h.nd⟩
theorem QO {w:World} {b:Nat} {o:Obj} (h:w.heap[b]? =some o):b<w.heap.size:=by
 rcases Nat.lt_or_ge b w.heap.size with hlt | hge
 ·exact hlt
 ·rw[Array.getElem?_eq_none hge] at h;cases h
theorem Inv.alloc {w:World} {μ:Gh} {L:List Seg} (h:Inv w μ L) (o:Obj):Inv (w.alloc o) μ ([(w.heap.size,o)]::L):=by
 refine ⟨h.os,h.out,h.tape,fun b x hb=> ?_,fun c hc=> ?_,fun c hc=> ?_,?_⟩
 ·have:=h.mem b x hb
  rw[heap_alloc_old w o (QO this)];exact this
 ·simp only[List.flatten_cons,List.singleton_append,List.mem_cons] at hc
  rcases hc with rfl | hc
  ·exact heap_alloc_new w o
  ·have:=h.own c hc
   rw[heap_alloc_old w o (QO this)];exact this
 ·simp only[List.flatten_cons,List.singleton_append,List.mem_cons] at hc
  rcases hc with rfl | hc
  ·cases hm:μ.mem w.heap.size with
   | none=>rfl
   | some x=>have:=QO (h.mem _ _ hm);omega
  ·exact h.sep c hc
 ·simp only[List.flatten_cons,List.singleton_append,List.map_cons,List.nodup_cons]
  refine ⟨fun hm=> ?_,h.nd⟩;obtain ⟨c,hc,he⟩:=List.mem_map.1 hm;have:=QO (h.own c hc)
  omega
theorem Inv.perm {w:World} {μ:Gh} {L L':List Seg} (h:Inv w μ L) (hp:L.flatten.Perm L'.flatten):Inv w μ L' :=
 ⟨h.os,h.out,h.tape,h.mem,fun c hc=>h.own c (hp.mem_iff.2 hc),fun c hc=>h.sep c (hp.mem_iff.2 hc),(hp.map _).nodup_iff.1 h.nd⟩
theorem Inv.sub {w:World} {μ:Gh} {L L':List Seg} (h:Inv w μ L) (hp:L'.flatten.Sublist L.flatten):Inv w μ L' :=
 ⟨h.os,h.out,h.tape,h.mem,fun c hc=>h.own c (hp.subset hc),fun c hc=>h.sep c (hp.subset hc),(hp.map _).nodup h.nd⟩
theorem Inv.drop {w:World} {μ:Gh} {L:List Seg} {s:Seg} (h:Inv w μ (s::L)):Inv w μ L :=
 h.sub (by simp[List.flatten_cons])
def Gh.add (μ:Gh) (s:Seg):Gh:={ μ with mem:=fun b=>match s.find? (fun c=>c.1==b) with | some c=>some c.2 | none=>μ.mem b }
theorem Qbr {s:Seg} {b:Nat} (h: ∀c∈s,c.1≠b):s.find? (fun c=>c.1==b)=none:=by
 rw[List.find?_eq_none];intro c hc;simpa using h c hc
theorem Gh.le_add {μ:Gh} {s:Seg} (h: ∀c∈s,μ.mem c.1=none):μ.le (μ.add s):=by
 refine ⟨fun b o hb=> ?_,rfl,rfl,rfl⟩
 show (match s.find? (fun c=>c.1==b) with | some c=>some c.2 | none=>μ.mem b)=some o
 rw[Qbr fun c hc e=> ?_]
 ·exact hb
 ·have:=h c hc
  rw[e,hb] at this;cases this
theorem Qba {s:Seg} {c:Qcc} (hc:c∈s) (hn:(s.map (·.1)).Nodup):s.find? (fun d=>d.1==c.1)=some c:=by
 induction s with
 | nil=>cases hc
 | cons d s ih =>
  simp only[List.map_cons,List.nodup_cons] at hn
  by_cases hd:d.1=c.1
  ·rcases List.mem_cons.1 hc with rfl | hc
   ·simp
   ·exact absurd (List.mem_map.2 ⟨c,hc,hd.symm⟩) hn.1
  ·rcases List.mem_cons.1 hc with rfl | hc
   ·exact absurd rfl hd
   ·rw[List.find?_cons_of_neg (by simpa using hd)];exact ih hc hn.2
theorem Gh.add_at {μ:Gh} {s:Seg} {c:Qcc} (hc:c∈s) (hn:(s.map (·.1)).Nodup):(μ.add s).mem c.1=some c.2:=by
 show (match s.find? (fun d=>d.1==c.1) with | some c=>some c.2 | none=>μ.mem c.1)=some c.2
 rw[Qba hc hn]
theorem Inv.freeze {w:World} {μ:Gh} {L:List Seg} {s:Seg} (h:Inv w μ (s::L)):μ.le (μ.add s)∧Inv w (μ.add s) L:=by
 have hs: ∀c∈s,c∈(s::L).flatten:=fun c hc=>by simp[List.flatten_cons,hc]
 have hn:=h.nd
 simp only[List.flatten_cons,List.map_append,List.nodup_append] at hn
 refine ⟨Gh.le_add fun c hc=>h.sep c (hs c hc),h.os,h.out,h.tape,fun b o hb=> ?_,fun c hc=>h.own c (by simp[List.flatten_cons];exact .inr (by simpa using hc)),fun c hc=> ?_,hn.2.1⟩
 ·change (match s.find? (fun c=>c.1==b) with | some c=>some c.2 | none=>μ.mem b)=some o at hb
  cases hf:s.find? (fun c=>c.1==b) with
  | none=>rw[hf] at hb;exact h.mem b o hb
  | some c =>
   rw[hf] at hb
   have hc:=List.mem_of_find?_eq_some hf;have he:c.1=b:=by simpa using List.find?_some hf
   have:=h.own c (hs c hc)
   rw[he] at this;rw[this];exact hb
 ·change (match s.find? (fun d=>d.1==c.1) with | some c=>some c.2 | none=>μ.mem c.1)=none
  rw[Qbr fun d hd e=> ?_]
  ·exact h.sep c (by simp[List.flatten_cons];exact .inr (by simpa using hc))
  ·exact hn.2.2 d.1 (List.mem_map.2 ⟨d,hd,rfl⟩) c.1 (List.mem_map.2 ⟨c,hc,rfl⟩) e
theorem QcZ {L:List Seg} {i j:Nat} {s:Seg} {c:Qcc} (hi:L[i]? =some s) (hj:s[j]? =some c) :
  ∃A B,L.flatten=A++c::B∧ ∀c',(L.set i (s.set j c')).flatten=A++c'::B:=by
 induction L generalizing i with
 | nil=>simp at hi
 | cons t L ih =>
  cases i with
  | zero =>
   simp at hi;subst hi
   have hlt:j<t.length:=by
    rcases Nat.lt_or_ge j t.length with h | h
    ·exact h
    ·rw[List.getElem?_eq_none h] at hj;cases hj
   refine ⟨t.take j,t.drop (j+1)++L.flatten,?_,fun c'=> ?_⟩
   ·have he:t[j]=c:=by rw[List.getElem?_eq_getElem hlt] at hj;injection hj
    conv=>lhs;rw[List.flatten_cons,←List.take_append_drop j t,List.drop_eq_getElem_cons hlt,he]
    simp
   ·simp[List.set_eq_take_append_cons_drop,hlt]
  | succ i =>
   simp at hi
   obtain ⟨A,B,h1,h2⟩:=ih hi;exact ⟨t++A,B,by simp[h1],fun c'=>by simp[h2]⟩
theorem Inv.upd {w w':World} {μ:Gh} {L:List Seg} {i j:Nat} {s:Seg} {g:Nat} {o o':Obj} (h:Inv w μ L) (hi:L[i]? =some s) (hj:s[j]? =some (g,o))
  (hos:w'.os=w.os) (hout:w'.output=w.output) (htape:w'.tape=w.tape) (hg:w'.heap[g]? =some o') (hk: ∀k,k≠g→w'.heap[k]? =w.heap[k]?) :
  Inv w' μ (L.set i (s.set j (g,o'))):=by
 obtain ⟨A,B,h1,h2⟩:=QcZ hi hj;have hsep:=h.sep;have hown:=h.own;have hnd:=h.nd
 rw[h1] at hsep hown hnd
 simp only[List.map_append,List.map_cons,List.nodup_append,List.nodup_cons] at hnd
 have hne: ∀c,c∈A∨c∈B→c.1≠g:=by
  rintro c (hc | hc) e
  ·exact hnd.2.2 c.1 (List.mem_map.2 ⟨c,hc,rfl⟩) g (by simp) e
  ·exact hnd.2.1.1 (List.mem_map.2 ⟨c,hc,e⟩)
 have hmem: ∀c,c∈A++(g,o')::B→c=(g,o')∨c∈A∨c∈B:=by
  intro c hc
  simp only[List.mem_append,List.mem_cons] at hc
  rcases hc with h | h | h
  ·exact .inr (.inl h)
  ·exact .inl h
  ·exact .inr (.inr h)
 have hgm:μ.mem g=none:=hsep (g,o) (by simp);refine ⟨hos.trans h.os,hout.trans h.out,htape.trans h.tape,fun b x hb=> ?_,fun c hc=> ?_,fun c hc=> ?_,?_⟩
 ·rw[hk b (fun e=>by rw[e,hgm] at hb;cases hb)];exact h.mem b x hb
 ·rw[h2] at hc
  rcases hmem c hc with rfl | hc
  ·exact hg
  ·rw[hk _ (hne c hc)]
   exact hown c (by rcases hc with hc | hc<;>simp[hc])
 ·rw[h2] at hc
  rcases hmem c hc with rfl | hc
  ·exact hgm
  ·exact hsep c (by rcases hc with hc | hc<;>simp[hc])
 ·rw[h2]
  simp only[List.map_append,List.map_cons,List.nodup_append,List.nodup_cons]
  exact hnd
abbrev Fr:=List (Nat×Value)
def Zm:Fr→Nat→Option Value
 | [],_=>none
 | (s,v)::r,t=>bif Nat.beq s t then some v else Zm r t
theorem J3 (p:Nat×Value) (r:Fr) (t:Nat):Zm (p::r) t=if p.1=t then some p.2 else Zm r t:=by
 obtain ⟨s,v⟩:=p
 rw[Zm]
 by_cases h:s=t
 ·rw[if_pos h,h,Nat.beq_refl];rfl
 ·rw[if_neg h]
  cases hb:Nat.beq s t with
  | true=>exact absurd (Nat.eq_of_beq_eq_true hb) h
  | false=>rfl
structure NN where
 n:Nat
 ds:List Deferred
 rd:Option Nat
def fw (r:Option Nat):Fence:={ Fence.wide with round:=r }
structure Agr (N:NN) (fr:Fr) (a:Act):Prop where
 defers:a.defers=N.ds
 size:a.tmps.size=N.n
 get: ∀t v,Zm fr t=some v→a.tmps.getD t undef=v
theorem Agr.put {N:NN} {fr:Fr} {a:Act} (h:Agr N fr a) {d:Nat} (hd:d<N.n) (v:Value):Agr N ((d,v)::fr) (a.put (some d) v):=by
 refine ⟨h.defers,by simp[Act.put,h.size],fun t u hu=> ?_⟩
 simp only[J3] at hu
 by_cases hdt:d=t
 ·subst hdt
  rw[if_pos rfl] at hu
  injection hu with hu
  simp[Act.put,hu,h.size,hd]
 ·rw[if_neg hdt] at hu
  have:=h.get t u hu
  simp only[Array.getD_eq_getD_getElem?] at this ⊢
  simpa [Act.put,hdt] using this
theorem Agr.sub {N:NN} {fr fr':Fr} {a:Act} (h:Agr N fr a) (hs: ∀t v,Zm fr' t=some v→Zm fr t=some v):Agr N fr' a :=
 ⟨h.defers,h.size,fun t v hv=>h.get t v (hs t v hv)⟩
def evT (o:Option Value) (k:Value→Prop):Prop:=match o with | some v=>k v | none=>False
def ev (fr:Fr) (x:Operand) (k:Value→Prop):Prop:=match x with
 | .tmp t=>evT (Zm fr t) k
 | .const v=>k v
 | .global g=>k (.pointer (some ⟨g,0,none⟩))
 | .func f=>k (.func (.func f) #[] #[])
def evs (fr:Fr) (xs:List Operand) (k:List Value→Prop):Prop:=match xs with
 | []=>k []
 | x::xs=>ev fr x fun v=>evs fr xs fun vs=>k (v::vs)
def evo (fr:Fr) (x:Option Operand) (k:Option Value→Prop):Prop:=match x with
 | none=>k none
 | some x=>ev fr x fun v=>k (some v)
def evp (fr:Fr) (xs:List (Nat×Operand)) (k:List (Nat×Value)→Prop):Prop:=match xs with
 | []=>k []
 | x::xs=>ev fr x.2 fun v=>evp fr xs fun vs=>k ((x.1,v)::vs)
section
variable {N:NN} {fr:Fr} {a:Act}
theorem Qm (h:Agr N fr a) {x:Operand} {k:Value→Prop} (hk:ev fr x k):k (a.eval x):=by
 cases x with
 | tmp t =>
  simp only[ev] at hk
  cases hl:Zm fr t with
  | none=>rw[hl] at hk;exact hk.elim
  | some v =>
   rw[hl] at hk
   have:=h.get t v hl
   show k (a.tmps.getD t undef)
   rw[this];exact hk
 | const v=>exact hk
 | global g=>exact hk
 | func f=>exact hk
theorem J0 (h:Agr N fr a) {xs:List Operand}: ∀{k:List Value→Prop},evs fr xs k→k (xs.map a.eval):=by
 induction xs with
 | nil=>intro k hk;exact hk
 | cons x xs ih=>intro k hk;exact ih (k:=fun vs=>k (a.eval x::vs)) (Qm h hk)
theorem VE (h:Agr N fr a) {x:Option Operand} {k:Option Value→Prop} (hk:evo fr x k):k (x.map a.eval):=by
 cases x with
 | none=>exact hk
 | some x=>exact Qm h (k:=fun v=>k (some v)) hk
theorem Qbp (h:Agr N fr a) {xs:List (Nat×Operand)}: ∀{k:List (Nat×Value)→Prop},evp fr xs k→k (xs.map fun p=>(p.1,a.eval p.2)):=by
 induction xs with
 | nil=>intro k hk;exact hk
 | cons x xs ih=>intro k hk;exact ih (k:=fun vs=>k ((x.1,a.eval x.2)::vs)) (Qm h hk)
end
end Go.Proofs.Ytfdjjdhnfaklbaa
namespace Go.Proofs.Ytfdjjdhnfaklbaa
open Go.RowKit
set_option linter.unusedSimpArgs false
set_option linter.unusedVariables false
structure TyI where
 u:TypeDesc
 size:Nat
 bytes:Nat
 zero:Value
 flds:List (Option (Nat×Nat×Bool))
def Qa6:TypeDesc→Bool
 | .struct _=>true
 | .array _ _=>true
 | _=>false
def Qcv (P:Program) (f:Field):Option (Nat×Nat×Bool) :=
 match P.info? f.type,P.underlying f.type with
 | some i,some d=>some (f.offset,i.size,Qa6 d)
 | _,_=>none
def nrm:TypeDesc→TypeDesc
 | .struct _=> .struct #[]
 | d=>d
def tyi (P:Program) (t:TypeId):Option TyI :=
 match P.underlying t,P.info? t with
 | some u,some i =>
  match i.zero with
  | some z=>some { u:=nrm u,size:=i.size,bytes:=i.bytes,zero:=z,flds:=match u with | .struct fs=>fs.toList.map (Qcv P) | _=>[] }
  | none=>none
 | _,_=>none
abbrev TT:=TypeId→Option TyI
def TOk (P:Program) (T:TT):Prop:= ∀t i,T t=some i→tyi P t=some i
def Qb0:List (Nat×TyI)→TypeId→Option TyI
 | [],_=>none
 | (s,v)::r,t=>bif Nat.beq s t then some v else Qb0 r t
theorem TOk.ofList {P:Program} {l:List (Nat×TyI)} (h: ∀p∈l,tyi P p.1=some p.2):TOk P (Qb0 l):=by
 intro t i hi
 induction l with
 | nil=>cases hi
 | cons p r ih =>
  obtain ⟨s,v⟩:=p
  simp only[Qb0] at hi
  by_cases hp:s=t
  ·subst hp
   rw[Nat.beq_refl] at hi
   simp only[cond_true,Option.some.injEq] at hi
   rw[←hi];exact h (s,v) (by simp)
  ·have hb:Nat.beq s t=false:=by
    cases h:Nat.beq s t with
    | true=>exact absurd (Nat.eq_of_beq_eq_true h) hp
    | false=>rfl
   rw[hb] at hi
   exact ih (fun q hq=>h q (by simp[hq])) hi
theorem Jw {P:Program} {t:TypeId} {i:TyI} (h:tyi P t=some i) :
  ∃u,P.underlying t=some u∧i.u=nrm u∧(∃j,P.info? t=some j∧j.size=i.size∧j.bytes=i.bytes∧j.zero=some i.zero)∧(∀fs,u= .struct fs→i.flds=fs.toList.map (Qcv P)):=by
 unfold tyi at h;cases hu:P.underlying t with
 | none=>rw[hu] at h;cases h
 | some u =>
  cases hi:P.info? t with
  | none=>rw[hu,hi] at h;cases h
  | some j =>
   rw[hu,hi] at h
   simp only at h
   cases hz:j.zero with
   | none=>rw[hz] at h;cases h
   | some z =>
    rw[hz] at h
    simp only[Option.some.injEq] at h
    subst h;refine ⟨u,rfl,rfl,⟨j,rfl,rfl,rfl,hz⟩,fun fs hfs=> ?_⟩;subst hfs
    rfl
def Y8 (w:World) (μ:Gh) (L:List Seg):Prop :=
 (∀b o,μ.mem b=some o→w.heap[b]? =some o)∧ ∀c∈L.flatten,w.heap[c.1]? =some c.2
theorem Inv.holds {w:World} {μ:Gh} {L:List Seg} (h:Inv w μ L):Y8 w μ L:=⟨h.mem,h.own⟩
def YV (μ:Gh) (L:List Seg) (b:Nat) (o:Obj):Prop:=μ.mem b=some o∨(b,o)∈L.flatten
theorem Y8.obj {w:World} {μ:Gh} {L:List Seg} (h:Y8 w μ L) {b:Nat} {o:Obj} (ho:YV μ L b o):w.heap[b]? =some o:=by
 rcases ho with ho | ho
 ·exact h.1 b o ho
 ·exact h.2 _ ho
def Y7 (μ:Gh) (L:List Seg) (a:Addr) (v:Value):Prop :=
 a.spot=none∧ ∃cs e f,YV μ L a.block (.cells cs e f)∧cs[a.off]? =some v
def Yn (μ:Gh) (L:List Seg) (a:Addr) (vs:List Value):Prop:= ∀j v,vs[j]? =some v→Y7 μ L (a.add j) v
theorem Y8.cell {w:World} {μ:Gh} {L:List Seg} (h:Y8 w μ L) {a:Addr} {v:Value} (hc:Y7 μ L a v):w.cell? a=some v:=by
 obtain ⟨hs,cs,e,f,ho,hv⟩:=hc
 simp[World.cell?,h.obj ho,hs,hv]
theorem YV.mono {μ μ':Gh} {L L':List Seg} {b:Nat} {o:Obj} (h:YV μ L b o) (hm:μ.le μ') (hl: ∀c∈L.flatten,c∈L'.flatten):YV μ' L' b o :=
 h.imp (hm.mem b o) (hl _)
theorem Y7.mono {μ μ':Gh} {L L':List Seg} {a:Addr} {v:Value} (h:Y7 μ L a v) (hm:μ.le μ') (hl: ∀c∈L.flatten,c∈L'.flatten):Y7 μ' L' a v:=by
 obtain ⟨hs,cs,e,f,ho,hv⟩:=h;exact ⟨hs,cs,e,f,ho.mono hm hl,hv⟩
theorem Yn.mono {μ μ':Gh} {L L':List Seg} {a:Addr} {vs:List Value} (h:Yn μ L a vs) (hm:μ.le μ') (hl: ∀c∈L.flatten,c∈L'.flatten):Yn μ' L' a vs :=
 fun j v hj=>(h j v hj).mono hm hl
def Ex {α:Type} (Q:α→Prop) (k:α→Prop):Prop:= ∃x,Q x∧k x
theorem Ex.mk {α:Type} {Q:α→Prop} {k:α→Prop} (x:α) (h:Q x) (hk:k x):Ex Q k:=⟨x,h,hk⟩
def Vx (v:Value) (x y:Prop):Prop:=match v with | .bool true=>x | .bool false=>y | _=>False
def Qfw (v:Value) (k:Value→Prop):Prop:=match v with
 | .pointer (some a)=>k (.pointer (some a))
 | .func (.func f) fi ca=>k (.func (.func f) fi ca)
 | _=>False
def WL (T:TT) (μ:Gh) (L:List Seg) (t:TypeId) (v:Value) (k:Value→Prop):Prop :=
 match v with
 | .pointer (some a)=>match T t with
  | some i=>(match Qa6 i.u with
   | true=>Ex (fun vs:List Value=>vs.length=i.size∧Yn μ L a vs) fun vs=>k (.agg vs.toArray)
   | false=>Ex (Y7 μ L a) k)
  | none=>False
 | _=>False
def QbT (p:Prop) (k:Value→Prop):Prop:=(p→k (.bool true))∧(¬p→k (.bool false))
def orI (k:IntKind) (x y:Int):Int:=k.wrap ((BitVec.ofInt k.bits x ||| BitVec.ofInt k.bits y).toNat)
def QbX (op:BinOp) (kd:IntKind) (a b:Int) (k:Value→Prop):Prop:=match op with
 | .or=>k (.int kd (orI kd a b))
 | .add=>k (.int kd (kd.wrap (a+b)))
 | .sub=>k (.int kd (kd.wrap (a-b)))
 | .mul=>k (.int kd (kd.wrap (a*b)))
 | .quo=>b≠0∧k (.int kd (kd.wrap (a.tdiv b)))
 | .rem=>b≠0∧k (.int kd (a.tmod b))
 | .eql=>QbT (a=b) k
 | .neq=>QbT (a≠b) k
 | .lss=>QbT (a<b) k
 | .leq=>QbT (a≤b) k
 | .gtr=>QbT (b<a) k
 | .geq=>QbT (b≤a) k
 | _=>False
def ZN (P:Program) (s:Sem Value) (v:Value):Prop:= ∀w,s.run P w= .ok v w
def eqK (op:BinOp) (p:Prop) (k:Value→Prop):Prop:=match op with
 | .eql=>QbT p k
 | .neq=>QbT (¬p) k
 | _=>False
def QbJ:IntKind→IntKind→Prop→Prop
 | .i8,.i8,p=>p | .i16,.i16,p=>p | .i32,.i32,p=>p | .i64,.i64,p=>p
 | .u8,.u8,p=>p | .u16,.u16,p=>p | .u32,.u32,p=>p | .u64,.u64,p=>p
 | _,_,_=>False
def VY (d:TypeDesc):Bool:=match d with | .pointer _=>true | _=>false
def WJ (d:TypeDesc):Bool:=match d with | .slice _=>true | _=>false
def QgI (d:TypeDesc):Bool:=match d with | .map _ _=>true | _=>false
def Qgd (d:TypeDesc):Bool:=match d with | .string=>true | _=>false
def Qc2 (d:TypeDesc):Bool:=match d with | .bool=>true | _=>false
def Ww (T:TT) (t:TypeId) (f:TypeDesc→Bool) (p:Prop):Prop:=match T t with | some i=>(match f i.u with | true=>p | false=>False) | none=>False
def JD (P:Program) (T:TT) (op:BinOp) (t:TypeId) (x y:Value) (k:Value→Prop):Prop:=match x,y with
 | .int kd a,.int kd' b=>(match op with
  | .shl=>Ex (ZN P (Op.shift .shl kd a kd' b)) k
  | .shr=>Ex (ZN P (Op.shift .shr kd a kd' b)) k
  | .and=>QbJ kd kd' (Ex (ZN P (Op.intBits .and kd a b)) k)
  | op=>QbJ kd kd' (QbX op kd a b k))
 | .bool a,.bool b=>Ww T t Qc2 (eqK op (a=b) k)
 | .pointer p,.pointer none=>Ww T t VY (eqK op (p=none) k)
 | .slice p _ _,.slice none _ _=>Ww T t WJ (eqK op (p=none) k)
 | .agg xs,.agg ys=>Ex (ZN P (do eqGuard op t (.tmp 0) (.tmp 0) (.agg xs) (.agg ys);binOp op t (.agg xs) (.agg ys))) k
 | .string a,.string b=>Ex (ZN P (do eqGuard op t (.tmp 0) (.tmp 0) (.string a) (.string b);binOp op t (.string a) (.string b))) k
 | .func f fi ca,.nilFunc=>Ex (ZN P (do eqGuard op t (.tmp 0) (.tmp 0) (.func f fi ca) .nilFunc;binOp op t (.func f fi ca) .nilFunc)) k
 | _,_=>False
def unK (op:UnOp) (x:Value) (k:Value→Prop):Prop:=match op,x with
 | .not,.bool b=>k (.bool !b)
 | .neg,.int kd n=>k (.int kd (kd.wrap (0-n)))
 | _,_=>False
def Qd1 (d:TypeDesc) (k:IntKind→Prop):Prop:=match d with | .int kd=>k kd | _=>False
def Qcn (T:TT) (s d:TypeId) (x:Value) (k:Value→Prop):Prop:=match x with
 | .int _ n=>(match T s with
  | some _=>(match T d with | some i=>Qd1 i.u fun kd=>k (.int kd (kd.wrap n)) | none=>False)
  | none=>False)
 | _=>False
def Zq:List Value→Nat→List Value→List Value
 | cs,_,[]=>cs
 | cs,o,v::r=>Zq (cs.set o v) (o+1) r
def Jg (pl:Nat→Option (Nat×Nat)) (cells:List Value) (parts:List (Nat×Value)) (k:List Value→Prop):Prop:=match parts with
 | []=>k cells
 | p::r=>match pl p.1 with
  | some q=>p.2.cells.size=q.2∧q.1+q.2≤cells.length∧Jg pl (Zq cells q.1 p.2.cells.toList) r k
  | none=>False
def Qe1 (i:TyI) (n:Nat):Option (Nat×Nat):=match i.flds[n]? with | some (some x)=>some (x.1,x.2.1) | _=>none
def JC (d:TypeDesc):Bool:=match d with | .struct _=>true | _=>false
def Ve (T:TT) (t:TypeId) (vs:List (Nat×Value)) (k:Value→Prop):Prop:=match T t with
 | some i=>(match JC i.u with
  | true=>i.flds.all (·.isSome)=true∧Jg (Qe1 i) i.zero.cells.toList vs fun cs=>k (.agg cs.toArray)
  | false=>(match i.u with
   | .array _ e=>(match T e with
    | some j=>Jg (fun n=>some (n*j.size,j.size)) i.zero.cells.toList vs fun cs=>k (.agg cs.toArray)
    | none=>False)
   | _=>False))
 | none=>False
def faK (T:TT) (s:TypeId) (v:Value) (f:Nat) (k:Value→Prop):Prop:=match v with
 | .pointer (some a)=>(match T s with
  | some i=>(match JC i.u with
   | true=>(match i.flds[f]? with
    | some (some x)=>x.2.1≠0∧k (.pointer (some (a.add x.1)))
    | _=>False)
   | false=>False)
  | none=>False)
 | _=>False
def Vg (T:TT) (s:TypeId) (v:Value) (f:Nat) (k:Value→Prop):Prop:=match v with
 | .agg cs=>(match T s with
  | some i=>(match JC i.u with
   | true=>(match i.flds[f]? with
    | some (some x)=>(match x.2.2 with
     | true=>k (.agg (cs.extract x.1 (x.1+x.2.1)))
     | false=>Ex (fun u=>cs[x.1]? =some u) k)
    | _=>False)
   | false=>False)
  | none=>False)
 | _=>False
def VT (T:TT) (t:TypeId) (k:TypeId→TyI→Prop):Prop:=match T t with
 | some i=>(match i.u with
  | .slice e=>(match T e with | some j=>k e j | none=>False)
  | _=>False)
 | none=>False
def Qf3 (T:TT) (t:TypeId) (k:Nat→TypeId→TyI→Prop):Prop:=match T t with
 | some i=>(match i.u with
  | .array n e=>(match T e with | some j=>k n e j | none=>False)
  | _=>False)
 | none=>False
def iaK (T:TT) (t:TypeId) (x n:Value) (k:Value→Prop):Prop:=match x,n with
 | .pointer (some a),.int _ i=>Qf3 T t fun n _ j=>0≤i∧i<n∧k (.pointer (some (a.add (i.toNat*j.size))))
 | .slice A len _,.int _ i=>VT T t fun _ j=>0≤i∧i<len∧Ex (fun a=>A=some a) fun a=>k (.pointer (some (a.add (i.toNat*j.size))))
 | _,_=>False
def QeG (v:Value) (i:Nat) (k:Value→Prop):Prop:=match v with
 | .tuple vs=>(match vs[i]? with | some u=>k u | none=>False)
 | _=>False
def Qck (v:Option Value) (dflt y:Nat) (k:Nat→Prop):Prop:=match v with
 | none=>k dflt
 | some (.int _ i)=>0≤i∧i≤y∧k i.toNat
 | _=>False
def Wu (T:TT) (t:TypeId) (x:Value) (lo hi mx:Option Value) (k:Value→Prop):Prop:=match x,mx with
 | .slice A len cap,none=>VT T t fun _ j=>Qck hi len cap fun h=>Qck lo 0 h fun l =>
   k (.slice (if cap=l then A else A.map (·.add (l*j.size))) (h-l) (cap-l))
 | .slice A len cap,some (.int _ q)=>VT T t fun _ j=>0≤q∧q≤cap∧(match hi with
  | some hv=>Qck (some hv) len q.toNat fun h=>Qck lo 0 h fun l=>k (.slice (if q.toNat=l then A else A.map (·.add (l*j.size))) (h-l) (q.toNat-l))
  | none=>False)
 | .string s,none=>(match T t with
  | some i=>(match i.u with
   | .string=>Qck hi s.size s.size fun h=>Qck lo 0 h fun l=>k (.string (s.extract l h))
   | _=>False)
  | none=>False)
 | _,_=>False
def Qah (mx:Bool) (vs:List Value) (k:Value→Prop):Prop:=match vs with
 | [.int kd x,.int _ y]=>(match mx with
  | true=>k (.int kd (if y>x then y else x))
  | false=>k (.int kd (if y<x then y else x)))
 | _=>False
def Qfv (T:TT) (t:TypeId) (v:Value) (μ:Gh) (L:List Seg) (k:Value→Prop):Prop:=match v with
 | .slice _ n _=>Ww T t WJ (k (.int .i64 n))
 | .map none=>Ww T t QgI (k (.int .i64 0))
 | .map (some r)=>Ww T t QgI (Ex (fun es:Array MapEntry=> ∃c,YV μ L r (.map es c)) fun es=>k (.int .i64 es.size))
 | .string s=>Ww T t Qgd (k (.int .i64 s.size))
 | _=>False
def Qf6 (T:TT) (t:TypeId) (v:Value) (k:Value→Prop):Prop:=match v with
 | .slice _ _ c=>Ww T t WJ (k (.int .i64 c))
 | _=>False
def biK (T:TT) (b:Builtin) (tys:List TypeId) (vs:List Value) (μ:Gh) (L:List Seg) (k:Value→Prop):Prop:=match b,tys,vs with
 | .len,[t],[v]=>Qfv T t v μ L k
 | .cap,[t],[v]=>Qf6 T t v k
 | .min,_,vs=>Qah false vs k
 | .max,_,vs=>Qah true vs k
 | _,_,_=>False
def JR (n:Int):List MapEntry→Option Value
 | []=>none
 | e::es=>match e.key with
  | .int _ m=>if m=n then some e.val else JR n es
  | _=>none
def JE (kd:IntKind) (es:List MapEntry):Prop:= ∀e∈es,∃m,e.key= .int kd m
def okK (ok:Bool) (v:Value) (b:Bool):Value:=match ok with | true=> .tuple #[v,.bool b] | false=>v
def QaN (P:Program) (T:TT) (t:TypeId) (m key:Value) (ok:Bool) (μ:Gh) (L:List Seg) (k:Value→Prop):Prop:=match key with
 | .int kd n=>(match T t with
  | some i =>
        (match i.u with
   | .map kt et=>(match T kt with
    | some ik=>Qd1 ik.u fun kd'=>QbJ kd kd' (match T et with
     | some ie=>(match m with
      | .map none=>k (okK ok ie.zero false)
      | .map (some r)=>Ex (fun x:Value×Bool=> ∃es c,YV μ L r (.map es c)∧JE kd es.toList∧x=(match JR n es.toList with | some v=>(v,true) | none=>(ie.zero,false)))
        fun x=>k (okK ok x.1 x.2)
      | _=>False)
     | none=>False)
    | none=>False)
   | _=>False)
  | none=>False)
 | .string s=>Ex (fun v=> ∀w,Y8 w μ L→(Instr.lookup t m (.string s) ok).run P w= .ok v w) k
 | .agg cs=>Ex (fun v=> ∀w,Y8 w μ L→(Instr.lookup t m (.agg cs) ok).run P w= .ok v w) k
 | _=>False
def vcR (P:Program) (T:TT) (o:Op) (fr:Fr) (μ:Gh) (L:List Seg) (k:Value→Prop):Prop:=match o with
 | .move x=>ev fr x k
 | .assign x=>ev fr x k
 | .pick c a b=>ev fr c fun v=>Vx v (ev fr a k) (ev fr b k)
 | .load t a=>ev fr a fun v=>WL T μ L t v k
 | .nilCheck x=>ev fr x fun v=>Qfw v k
 | .binOp op t x y _=>ev fr x fun a=>ev fr y fun b=>JD P T op t a b k
 | .unOp op _ x=>ev fr x fun a=>unK op a k
 | .convert s d x=>ev fr x fun a=>Qcn T s d a k
 | .build t ps=>evp fr ps.toList fun vs=>Ve T t vs k
 | .fieldAddr s x f=>ev fr x fun v=>faK T s v f k
 | .field s x f=>ev fr x fun v=>Vg T s v f k
 | .indexAddr t x i=>ev fr x fun v=>ev fr i fun n=>iaK T t v n k
 | .extract x i=>ev fr x fun v=>QeG v i k
 | .makeFunc fn fi ca=>evs fr fi.toList fun a=>evs fr ca.toList fun b=>k (.func fn a.toArray b.toArray)
 | .slice t x lo hi mx=>ev fr x fun v=>evo fr lo fun l=>evo fr hi fun h=>evo fr mx fun m=>Wu T t v l h m k
 | .lookup t m i ok=>ev fr m fun v=>ev fr i fun n=>QaN P T t v n ok μ L k
 | .index t x i=>ev fr x fun v=>ev fr i fun n=>Ex (ZN P (Instr.index t v n)) k
 | .call c=>(match c.callee with
  | .builtin b=>evs fr c.args.toList fun vs=>biK T b c.argTypes.toList vs μ L k
  | _=>False)
 | _=>False
section
variable {P:Program} {T:TT} {w:World} {μ:Gh} {L:List Seg}
theorem Jr {p:Prop} {k:Value→Prop} (h:QbT p k) [Decidable p]:k (.bool (decide p)):=by
 by_cases hp:p
 ·rw[decide_eq_true hp];exact h.1 hp
 ·rw[decide_eq_false hp];exact h.2 hp
def Wg (P:Program) (μ:Gh) (L:List Seg) (s:Sem Value) (k:Value→Prop):Prop:= ∃v,k v∧ ∀w,Y8 w μ L→s.run P w= .ok v w
theorem QeW {u:TypeDesc} (h: ∀fs,nrm u≠ .struct fs):nrm u=u:=by
 cases u<;>first | rfl | exact absurd rfl (h _)
theorem QL {t:TypeId} {i:TyI} (hT:TOk P T) (h:T t=some i) {d:TypeDesc} (hd:i.u=d) (hs: ∀fs,d≠ .struct fs) (w:World):(underlying t).run P w= .ok d w:=by
 obtain ⟨u,h1,h2,_⟩:=Jw (hT t i h)
 rw[hd] at h2
 have:=QeW (u:=u) (by rw[←h2];exact hs)
 rw[h2,this]
 exact run_underlying h1 w
theorem Qb6 {t:TypeId} {i:TyI} (hT:TOk P T) (h:T t=some i) {fs:Array Field} (hd:i.u= .struct fs) :
  ∃fs,i.flds=fs.toList.map (Qcv P)∧ ∀w,(underlying t).run P w= .ok (.struct fs) w:=by
 obtain ⟨u,h1,h2,_,h3⟩:=Jw (hT t i h)
 rw[hd] at h2
 have: ∃fs,u= .struct fs:=by cases u<;>simp[nrm] at h2 ⊢
 obtain ⟨fs,rfl⟩:=this;exact ⟨fs,h3 fs rfl,fun w=>run_underlying h1 w⟩
theorem Jb {t:TypeId} {i:TyI} (hT:TOk P T) (h:T t=some i) (w:World):(sizeOf t).run P w= .ok i.size w:=by
 obtain ⟨_,_,_,⟨j,hj,hs,_,_⟩,_⟩:=Jw (hT t i h)
 simp[sizeOf,run_typeInfo w hj,hs]
theorem J8 {t:TypeId} {i:TyI} (hT:TOk P T) (h:T t=some i) (w:World):(zeroValue t).run P w= .ok i.zero w:=by
 obtain ⟨_,_,_,⟨j,hj,_,_,hz⟩,_⟩:=Jw (hT t i h)
 simp[zeroValue,run_typeInfo w hj,hz]
theorem Qd9 {t:TypeId} {i:TyI} (hT:TOk P T) (h:T t=some i): ∃j,P.info? t=some j∧j.bytes=i.bytes∧j.size=i.size∧j.zero=some i.zero:=by
 obtain ⟨_,_,_,⟨j,hj,hs,hb,hz⟩,_⟩:=Jw (hT t i h);exact ⟨j,hj,hb,hs,hz⟩
theorem Qdf {t:TypeId} {i:TyI} (hT:TOk P T) (h:T t=some i) {d:TypeDesc} (hd:i.u=d) (hs: ∀fs,d≠ .struct fs):P.underlying t=some d:=by
 obtain ⟨u,h1,h2,_⟩:=Jw (hT t i h)
 rw[hd] at h2
 have:=QeW (u:=u) (by rw[←h2];exact hs)
 rw[h2,this];exact h1
theorem QeA (u:TypeDesc):Qa6 (nrm u)=Qa6 u:=by cases u<;>rfl
theorem QdB {t:TypeId} {i:TyI} (hT:TOk P T) (h:T t=some i) (w:World):(isAgg t).run P w= .ok (Qa6 i.u) w:=by
 obtain ⟨u,h1,h2,_⟩:=Jw (hT t i h)
 simp only[isAgg,Sem.run_bind,run_underlying h1 w,Result.andThen_ok,h2,QeA]
 cases u<;>rfl
theorem QbI (hT:TOk P T) {t:TypeId} {v:Value} {k:Value→Prop} (h:WL T μ L t v k):Wg P μ L (Instr.loadAt t v) k:=by
 unfold WL at h
 split at h
 ·rename_i a
  split at h
  ·rename_i i hi
   split at h
   ·rename_i hag
    obtain ⟨vs,⟨hl,hc⟩,hk⟩:=h;refine ⟨_,hk,fun w hw=> ?_⟩;have hr:=run_loadCells_list (P:=P) (w:=w) a vs (fun j v hj=>hw.cell (hc j v hj))
    simp only[Instr.loadAt,Instr.sureAddr,loadVar,Sem.run_bind,Sem.run_pure,Result.andThen_ok,QdB hT hi,hag,if_true,Jb hT hi,←hl,hr]
   ·rename_i hag
    obtain ⟨u,hc,hk⟩:=h;refine ⟨_,hk,fun w hw=> ?_⟩
    simp[Instr.loadAt,Instr.sureAddr,loadVar,QdB hT hi,hag,hw.cell hc]
  ·exact h.elim
 ·exact h.elim
theorem Qk {s:Sem Value} {v:Value} {k:Value→Prop} (hk:k v) (h: ∀w,s.run P w= .ok v w):Wg P μ L s k:=⟨v,hk,fun w _=>h w⟩
theorem Qe6 (op:BinOp) (kd:IntKind) (a b:Int) {t:TypeId} {x y:Operand} {k:Value→Prop} (h:QbX op kd a b k) :
  Wg P μ L (do eqGuard op t x y (.int kd a) (.int kd b);binOp op t (.int kd a) (.int kd b)) k:=by
 cases op<;>simp only[QbX] at h
 case add=>exact Qk h fun w=>by simp[eqGuard,binOp,Op.intArith]
 case sub=>exact Qk h fun w=>by simp[eqGuard,binOp,Op.intArith]
 case mul=>exact Qk h fun w=>by simp[eqGuard,binOp,Op.intArith]
 case quo=>exact Qk h.2 fun w=>by simp[eqGuard,binOp,Op.intDiv,h.1]
 case rem=>exact Qk h.2 fun w=>by simp[eqGuard,binOp,Op.intDiv,h.1]
 case eql=>exact Qk (Jr h) fun w=>by simp[eqGuard,binOp,Op.intCmp,BEq.beq]
 case neq=>exact Qk (Jr h) fun w=>by simp[eqGuard,binOp,Op.intCmp,bne,BEq.beq]
 case lss=>exact Qk (Jr h) fun w=>by simp[eqGuard,binOp,Op.intCmp]
 case leq=>exact Qk (Jr h) fun w=>by simp[eqGuard,binOp,Op.intCmp]
 case gtr=>exact Qk (Jr h) fun w=>by simp[eqGuard,binOp,Op.intCmp]
 case geq=>exact Qk (Jr h) fun w=>by simp[eqGuard,binOp,Op.intCmp]
 case or=>exact Qk h fun w=>by simp[eqGuard,binOp,Op.intBits,orI]
theorem Vk {kd kd':IntKind} {p:Prop} (h:QbJ kd kd' p):kd=kd'∧p:=by
 cases kd<;>cases kd'<;>first | exact ⟨rfl,h⟩ | exact h.elim
theorem Zr {t:TypeId} {f:TypeDesc→Bool} {p:Prop} (h:Ww T t f p): ∃i,T t=some i∧f i.u=true∧p:=by
 unfold Ww at h
 split at h
 ·rename_i i hi
  split at h
  ·exact ⟨i,hi, ‹_›,h⟩
  ·exact h.elim
 ·exact h.elim
theorem Qaz {t:TypeId} {x y:Value} {b:Bool} (h: ∀d w,(Op.equalIn (d+1) t x y).run P w= .ok b w) (w:World):(Op.equal t x y).run P w= .ok b w:=h 9999 w
theorem Qb7 {op:BinOp} {t:TypeId} {x y:Value} {ox oy:Operand} {p:Prop} [Decidable p] {k:Value→Prop} (h:eqK op p k)
  (hg: ∀w,(eqGuard op t ox oy x y).run P w= .ok () w)
  (h1:binOp .eql t x y=(do pure (.bool (←Op.equal t x y)))) (h2:binOp .neq t x y=(do pure (.bool (!(←Op.equal t x y)))))
  (he: ∀w,(Op.equal t x y).run P w= .ok (decide p) w):Wg P μ L (do eqGuard op t ox oy x y;binOp op t x y) k:=by
 cases op<;>simp only[eqK] at h
 case eql=>exact Qk (Jr h) fun w=>by simp[hg,h1,he]
 case neq=>exact Qk (Jr h) fun w=>by simp[hg,h2,he]
theorem Qe3 (hT:TOk P T) {op:BinOp} {t:TypeId} {x y:Value} {ox oy:Operand} {k:Value→Prop} (h:JD P T op t x y k) :
  Wg P μ L (do eqGuard op t ox oy x y;binOp op t x y) k:=by
 unfold JD at h
 split at h
 ·rename_i kd a kd' b
  split at h
  ·obtain ⟨v,hv,hk⟩:=h;exact Qk hk fun w=>by simp[eqGuard,binOp,hv w]
  ·obtain ⟨v,hv,hk⟩:=h;exact Qk hk fun w=>by simp[eqGuard,binOp,hv w]
  ·obtain ⟨rfl,v,hv,hk⟩:=Vk h;exact Qk hk fun w=>by simp[eqGuard,binOp,hv w]
  ·obtain ⟨rfl,h'⟩:=Vk h;exact Qe6 _ _ _ _ h'
 ·rename_i a b
  obtain ⟨i,hi,hf,h⟩:=Zr h;have hd:i.u= .bool:=by revert hf;cases i.u<;>simp[Qc2]
  refine Qb7 h (fun w=>by simp[eqGuard]) rfl rfl (Qaz fun d w=> ?_)
  simp[Op.equalIn,QL hT hi hd (by simp),BEq.beq]
 ·rename_i p
  obtain ⟨i,hi,hf,h⟩:=Zr h;have hd: ∃e,i.u= .pointer e:=by revert hf;cases i.u<;>simp[VY]
  obtain ⟨e,hd⟩:=hd;refine Qb7 h (fun w=>by simp[eqGuard]) (by cases p<;>rfl) (by cases p<;>rfl) (Qaz fun d w=> ?_);cases p<;>simp[Op.equalIn,QL hT hi hd (by simp)]
 ·rename_i p n c n' c'
  obtain ⟨i,hi,hf,h⟩:=Zr h;have hd: ∃e,i.u= .slice e:=by revert hf;cases i.u<;>simp[WJ]
  obtain ⟨e,hd⟩:=hd;refine Qb7 h (fun w=>by simp[eqGuard]) rfl rfl (Qaz fun d w=> ?_);cases p<;>simp[Op.equalIn,QL hT hi hd (by simp)]
 ·rename_i xs ys
  obtain ⟨v,hv,hk⟩:=h;exact Qk hk fun w=>hv w
 ·rename_i a b
  obtain ⟨v,hv,hk⟩:=h;exact Qk hk fun w=>by have:=hv w;cases op<;>simpa [eqGuard] using this
 ·rename_i f fi ca
  obtain ⟨v,hv,hk⟩:=h;exact Qk hk fun w=>by have:=hv w;cases op<;>simpa [eqGuard] using this
 ·exact h.elim
end
end Go.Proofs.Ytfdjjdhnfaklbaa
namespace Go.Proofs.Ytfdjjdhnfaklbaa
open Go.RowKit
set_option linter.unusedSimpArgs false
set_option linter.unusedVariables false
section
variable {P:Program} {T:TT} {μ:Gh} {L:List Seg}
theorem QfF {op:UnOp} {x:Value} {k:Value→Prop} (h:unK op x k):Wg P μ L (Op.unary op x) k:=by
 unfold unK at h
 split at h
 ·exact Qk h fun w=>rfl
 ·exact Qk h fun w=>rfl
 ·exact h.elim
theorem Qea (hT:TOk P T) {s d:TypeId} {x:Value} {k:Value→Prop} (h:Qcn T s d x k):Wg P μ L (convert s d x) k:=by
 unfold Qcn at h
 split at h
 ·rename_i kd n
  split at h
  ·rename_i j hj
   split at h
   ·rename_i i hi
    unfold Qd1 at h
    split at h
    ·rename_i kd' hu
     obtain ⟨u,hu1,_⟩:=Jw (hT s j hj);exact Qk h fun w=>by simp[convert,QL hT hi hu (by simp),run_underlying hu1 w,Conv.intToInt]
    ·exact h.elim
   ·exact h.elim
  ·exact h.elim
 ·exact h.elim
theorem QaE (o:Nat): ∀(vs:List Value) (j:Nat) (cs:List Value),
  (((vs.zipIdx j).foldl (fun cs p=>cs.setIfInBounds (o+p.2) p.1) cs.toArray):Array Value)=(Zq cs (o+j) vs).toArray
 | [],_,_=>by simp[Zq]
 | v::r,j,cs=>by
  simp only[List.zipIdx_cons,List.foldl_cons,Zq,List.setIfInBounds_toArray]
  exact QaE o r (j+1) _
theorem Wl {pl:Nat→Option (Nat×Nat)} {k:List Value→Prop}: ∀(parts:List (Nat×Value)) (cells:List Value),Jg pl cells parts k →
  ∃cs,k cs∧Instr.fill pl cells.toArray parts=some cs.toArray
 | [],cells,h=>⟨cells,h,rfl⟩
 | p::r,cells,h=>by
  simp only[Jg] at h
  split at h
  ·rename_i q hq
   obtain ⟨h1,h2,h3⟩:=h;obtain ⟨cs,hk,hf⟩:=Wl r _ h3;refine ⟨cs,hk,?_⟩
   rw[←hf]
   obtain ⟨i,v⟩:=p
   simp only[Instr.fill]
   simp only at hq
   rw[hq]
   simp only at h1 h2 ⊢
   have h4:(decide (v.cells.size≠q.2)||decide (q.1+v.cells.size>cells.toArray.size))=false:=by simp[h1];exact h2
   have h5:=QaE q.1 v.cells.toList 0 cells
   rw[if_neg (by simpa using h4)]
   congr 1
   rw[←Array.toList_zipIdx,Array.foldl_toList] at h5
   exact h5
  ·exact h.elim
theorem Qa3 {d:TypeDesc} (h:JC d=true): ∃fs,d= .struct fs:=by
 cases d<;>simp[JC] at h ⊢
theorem QaD {P:Program} {f:Field} {x:Nat×Nat×Bool} (h:Qcv P f=some x) :
  ∃i d,P.info? f.type=some i∧P.underlying f.type=some d∧x=(f.offset,i.size,Qa6 d):=by
 unfold Qcv at h
 split at h
 ·rename_i i d hi hd
  injection h with h
  exact ⟨i,d,hi,hd,h.symm⟩
 ·cases h
theorem Qby (P:Program) (w:World) (g:Field→Sem (Nat×Nat)) (hg: ∀f i,P.info? f.type=some i→(g f).run P w= .ok (f.offset,i.size) w) :
  ∀(fs:List Field),(∀x∈fs.map (Qcv P),x.isSome=true)→(fs.mapM g).run P w= .ok ((fs.map (Qcv P)).filterMap fun x=>x.map fun y=>(y.1,y.2.1)) w
 | [],_=>rfl
 | f::fs,h=>by
  have h0:=h (Qcv P f) (by simp);obtain ⟨x,hx⟩:=Option.isSome_iff_exists.1 h0;obtain ⟨i,d,hi,hd,rfl⟩:=QaD hx;have ih:=Qby P w g hg fs (fun x hx=>h x (by simp only[List.map_cons,List.mem_cons];exact .inr hx))
  simp[List.mapM_cons,hg f i hi,ih,hx]
theorem Qa9 {l:List (Option (Nat×Nat×Bool))} (h: ∀x∈l,x.isSome=true) (n:Nat) :
  (l.filterMap fun x=>x.map fun y=>(y.1,y.2.1))[n]? =match l[n]? with | some (some x)=>some (x.1,x.2.1) | _=>none:=by
 induction l generalizing n with
 | nil=>simp
 | cons x l ih =>
  obtain ⟨y,rfl⟩:=Option.isSome_iff_exists.1 (h x (by simp));cases n with
  | zero=>simp
  | succ n=>simpa using ih (fun x hx=>h x (by simp[hx])) n
theorem Qc6 (hT:TOk P T) {t:TypeId} {vs:List (Nat×Value)} {k:Value→Prop} (h:Ve T t vs k):Wg P μ L (Instr.build t vs.toArray) k:=by
 unfold Ve at h
 split at h
 ·rename_i i hi
  split at h
  ·rename_i hs
   obtain ⟨fs0,hfs0⟩:=Qa3 hs;obtain ⟨hall,h⟩:=h;obtain ⟨fs,hfl,hru⟩:=Qb6 hT hi hfs0;have hall': ∀x∈i.flds,x.isSome=true:=by simpa using hall
   obtain ⟨cs,hk,hf⟩:=Wl _ _ h;refine Qk hk fun w=> ?_;have hm:=Qby P w (fun (f:Field)=>do pure (f.offset,←sizeOf f.type)) (fun f i hi=>by simp[sizeOf,run_typeInfo w hi]) fs.toList (by rw[←hfl];exact hall');have hm':(fs.mapM fun (f:Field)=>do pure (f.offset,←sizeOf f.type)).run P w= .ok (i.flds.filterMap fun (x:Option (Nat×Nat×Bool))=>x.map fun y=>(y.1,y.2.1)).toArray w:=by
    rw[Array.mapM_eq_mapM_toList,Sem.run_map,hm,hfl]
    rfl
   have hpl:(fun n=>(i.flds.filterMap fun (x:Option (Nat×Nat×Bool))=>x.map fun y=>(y.1,y.2.1)).toArray[n]?)=Qe1 i:=by
    funext n
    simp only[List.getElem?_toArray,Qa9 hall' n,Qe1]
    all_goals rfl
   simp only[Instr.build,Sem.run_bind,J8 hT hi,Result.andThen_ok,hru,hm',hpl]
   have hz:i.zero.cells.toList.toArray=i.zero.cells:=by simp
   rw[hz] at hf
   simp[hf]
  ·split at h
   ·rename_i n e hu
    split at h
    ·rename_i j hj
     obtain ⟨cs,hk,hf⟩:=Wl _ _ h;refine Qk hk fun w=> ?_;have hz:i.zero.cells.toList.toArray=i.zero.cells:=by simp
     rw[hz] at hf
     simp only[Instr.build,Sem.run_bind,J8 hT hi,Result.andThen_ok,QL hT hi hu (by simp),Jb hT hj]
     simp[hf]
    ·exact h.elim
   ·exact h.elim
 ·exact h.elim
theorem QfD (hT:TOk P T) {s:TypeId} {v:Value} {f:Nat} {k:Value→Prop} (h:faK T s v f k):Wg P μ L (Instr.fieldAt s v f) k:=by
 unfold faK at h
 split at h
 ·rename_i a
  split at h
  ·rename_i i hi
   split at h
   ·rename_i hs
    obtain ⟨fs0,hfs0⟩:=Qa3 hs;obtain ⟨fs,hfl,hru⟩:=Qb6 hT hi hfs0
    split at h
    ·rename_i x hx
     obtain ⟨hne,h⟩:=h
     rw[hfl] at hx
     simp only[List.getElem?_map,Option.map_eq_some_iff] at hx
     obtain ⟨fd,hfd,hfx⟩:=hx;obtain ⟨j,d,hj,hd,rfl⟩:=QaD hfx;refine Qk h fun w=> ?_;have hfd':fs[f]? =some fd:=by simpa using hfd
     simp only at hne
     simp[Instr.fieldAt,hru,hfd',Instr.sureAddr,fieldPlace,sizeOf,run_typeInfo w hj,hne]
    ·exact h.elim
   ·exact h.elim
  ·exact h.elim
 ·exact h.elim
theorem Qc7 (hT:TOk P T) {s:TypeId} {v:Value} {f:Nat} {k:Value→Prop} (h:Vg T s v f k):Wg P μ L (Instr.field s v f) k:=by
 unfold Vg at h
 split at h
 ·rename_i cs
  split at h
  ·rename_i i hi
   split at h
   ·rename_i hs
    obtain ⟨fs0,hfs0⟩:=Qa3 hs;obtain ⟨fs,hfl,hru⟩:=Qb6 hT hi hfs0
    split at h
    ·rename_i x hx
     rw[hfl] at hx
     simp only[List.getElem?_map,Option.map_eq_some_iff] at hx
     obtain ⟨fd,hfd,hfx⟩:=hx;obtain ⟨j,d,hj,hd,rfl⟩:=QaD hfx;have hfd':fs[f]? =some fd:=by simpa using hfd
     have hag: ∀w,(isAgg fd.type).run P w= .ok (Qa6 d) w:=fun w=>by
      simp only[isAgg,Sem.run_bind,run_underlying hd w,Result.andThen_ok]
      cases d<;>rfl
     simp only at h
     split at h
     ·rename_i ha
      exact Qk h fun w=>by simp[Instr.field,hru,hfd',asAgg,part,hag,ha,sizeOf,run_typeInfo w hj]
     ·rename_i ha
      obtain ⟨u,hu,h⟩:=h;exact Qk h fun w=>by simp[Instr.field,hru,hfd',asAgg,part,hag,ha,hu]
    ·exact h.elim
   ·exact h.elim
  ·exact h.elim
 ·exact h.elim
theorem Wk {t:TypeId} {k:TypeId→TyI→Prop} (h:VT T t k): ∃i e j,T t=some i∧i.u= .slice e∧T e=some j∧k e j:=by
 unfold VT at h
 split at h
 ·rename_i i hi
  split at h
  ·rename_i e he
   split at h
   ·rename_i j hj
    exact ⟨i,e,j,hi,he,hj,h⟩
   ·exact h.elim
  ·exact h.elim
 ·exact h.elim
theorem QfE (hT:TOk P T) {t:TypeId} {x n:Value} {k:Value→Prop} (h:iaK T t x n k):Wg P μ L (Instr.indexAt t x n) k:=by
 unfold iaK at h
 split at h
 ·rename_i a kd i
  unfold Qf3 at h
  split at h
  ·rename_i d hd
   split at h
   ·rename_i n e hu
    split at h
    ·rename_i j hj
     obtain ⟨h1,h2,hk⟩:=h;exact Qk hk fun w=>by simp[Instr.indexAt,Instr.sureAddr,asIntOf,QL hT hd hu (by simp),h1,h2,Jb hT hj]
    ·exact h.elim
   ·exact h.elim
  ·exact h.elim
 ·rename_i A len c kd i
  obtain ⟨d,e,j,hd,hu,hj,h1,h2,a,rfl,hk⟩:=Wk h;exact Qk hk fun w=>by simp[Instr.indexAt,asIntOf,QL hT hd hu (by simp),h1,h2,Jb hT hj]
 ·exact h.elim
theorem Qe5 {v:Value} {i:Nat} {k:Value→Prop} (h:QeG v i k):Wg P μ L (Instr.extract v i) k:=by
 unfold QeG at h
 split at h
 ·split at h
  ·rename_i u hu
   exact Qk h fun w=>by simp[Instr.extract,hu]
  ·exact h.elim
 ·exact h.elim
theorem JZ {v:Option Value} {dflt y:Nat} {k:Nat→Prop} (h:Qck v dflt y k) :
  ∃n,k n∧(v=none→n=dflt)∧(∀u,v=some u→ ∀c w,(Instr.sliceBound u y c).run P w= .ok n w):=by
 unfold Qck at h
 split at h
 ·exact ⟨_,h,fun _=>rfl,(fun u hu=>by cases hu)⟩
 ·obtain ⟨h1,h2,h3⟩:=h;refine ⟨_,h3,(fun hu=>by cases hu),fun u hu c w=> ?_⟩;cases hu
  simp[Instr.sliceBound,asIntOf,h1,h2]
 ·exact h.elim
theorem Qc8 (hT:TOk P T) {t:TypeId} {x:Value} {lo hi mx:Option Value} {k:Value→Prop} (h:Wu T t x lo hi mx k) :
  Wg P μ L (Instr.sliceAt t x lo hi mx) k:=by
 unfold Wu at h
 split at h
 ·rename_i A len cap
  obtain ⟨d,e,j,hd,hu,hj,h⟩:=Wk h;obtain ⟨m,h,hm1,hm2⟩:=JZ (P:=P) h;obtain ⟨l,h,hl1,hl2⟩:=JZ (P:=P) h;refine Qk h fun w=> ?_;have hb:(Instr.sliceBounds true len cap lo hi none).run P w= .ok (l,m,cap) w:=by
   cases lo<;>cases hi<;>simp_all [Instr.sliceBounds]
  simp[Instr.sliceAt,Instr.slice,QL hT hd hu (by simp),hb,Jb hT hj]
 ·rename_i A len cap kq q
  obtain ⟨d,e,j,hd,hu,hj,hq1,hq2,h⟩:=Wk h;cases hi with
  | none=>exact h.elim
  | some hv =>
   obtain ⟨m,h,hm1,hm2⟩:=JZ (P:=P) h;obtain ⟨l,h,hl1,hl2⟩:=JZ (P:=P) h;have hq: ∀c w,(Instr.sliceBound (.int kq q) cap c).run P w= .ok q.toNat w:=fun c w=>by simp[Instr.sliceBound,asIntOf,hq1,hq2]
   refine Qk h fun w=> ?_;have hb:(Instr.sliceBounds true len cap lo (some hv) (some (.int kq q))).run P w= .ok (l,m,q.toNat) w:=by
    cases lo with
    | none =>
     have:=hl1 rfl;subst this
     simp[Instr.sliceBounds,hq,hm2 hv rfl]
    | some lv=>simp[Instr.sliceBounds,hq,hm2 hv rfl,hl2 lv rfl]
   simp[Instr.sliceAt,Instr.slice,QL hT hd hu (by simp),hb,Jb hT hj]
 ·rename_i s
  split at h
  ·rename_i i hi_
   split at h
   ·rename_i hu
    obtain ⟨m,h,hm1,hm2⟩:=JZ (P:=P) h;obtain ⟨l,h,hl1,hl2⟩:=JZ (P:=P) h;refine Qk h fun w=> ?_;have hb:(Instr.sliceBounds false s.size s.size lo hi none).run P w= .ok (l,m,s.size) w:=by
     cases lo<;>cases hi<;>simp_all [Instr.sliceBounds]
    simp[Instr.sliceAt,Instr.slice,QL hT hi_ hu (by simp),hb]
   ·exact h.elim
  ·exact h.elim
 ·exact h.elim
theorem V2 {b:Bool} {tys:Array TypeId} {ty:TypeId} {vs:List Value} {k:Value→Prop} (h:Qah b vs k) :
  Wg P μ L (if b then Builtin.max_ tys ty vs.toArray else Builtin.min_ tys ty vs.toArray) k:=by
 unfold Qah at h
 split at h
 ·split at h
  ·exact Qk h fun w=>by simp[Builtin.max_,Builtin.max2]
  ·exact Qk h fun w=>by simp[Builtin.min_,Builtin.min2]
 ·exact h.elim
theorem QcD {d:TypeDesc} (h:(match d with | .map _ _=>true | _=>false)=true): ∃a b,d= .map a b:=by
 cases d<;>simp at h ⊢
theorem QcN {d:TypeDesc} (h:(match d with | .string=>true | _=>false)=true):d= .string:=by
 cases d<;>simp at h ⊢
theorem QcK {d:TypeDesc} (h:WJ d=true): ∃a,d= .slice a:=by
 cases d<;>simp[WJ] at h ⊢
theorem ZT (w:World) (r:Nat) (o:Obj) (hc: ∀a b c,o≠ .cells a b c) (h:w.heap[r]? =some o):(getObj r).run P w= .ok o w:=by
 cases o<;>first | exact absurd rfl (hc _ _ _) | simp only[getObj,Sem.run,h]
theorem Qe7 (hT:TOk P T) {t ty:TypeId} {v:Value} {k:Value→Prop} (h:Qfv T t v μ L k):Wg P μ L (Builtin.len_ #[t] ty #[v]) k:=by
 unfold Qfv at h
 split at h
 ·obtain ⟨i,hi,hf,h⟩:=Zr h;obtain ⟨e,hd⟩:=QcK hf;exact Qk h fun w=>by simp[Builtin.len_,QL hT hi hd (by simp),goInt]
 ·obtain ⟨i,hi,hf,h⟩:=Zr h;obtain ⟨a,b,hd⟩:=QcD hf;exact Qk h fun w=>by simp[Builtin.len_,QL hT hi hd (by simp),goInt]
 ·obtain ⟨i,hi,hf,es,⟨c,ho⟩,h⟩:=Zr h;obtain ⟨a,b,hd⟩:=QcD hf;refine ⟨_,h,fun w hw=> ?_⟩
  simp[Builtin.len_,QL hT hi hd (by simp),goInt,ZT w _ _ (by simp) (hw.obj ho)]
 ·obtain ⟨i,hi,hf,h⟩:=Zr h;have hd:=QcN hf;exact Qk h fun w=>by simp[Builtin.len_,QL hT hi hd (by simp),goInt]
 ·exact h.elim
theorem Qe4 (hT:TOk P T) {t ty:TypeId} {v:Value} {k:Value→Prop} (h:Qf6 T t v k):Wg P μ L (Builtin.cap_ #[t] ty #[v]) k:=by
 unfold Qf6 at h
 split at h
 ·obtain ⟨i,hi,hf,h⟩:=Zr h;obtain ⟨e,hd⟩:=QcK hf;exact Qk h fun w=>by simp[Builtin.cap_,QL hT hi hd (by simp),goInt]
 ·exact h.elim
def Qdo (P:Program) (μ:Gh) (L:List Seg) (s:Sem Next) (k:Value→Prop):Prop:= ∃v,k v∧ ∀w,Y8 w μ L→s.run P w= .ok (.value v) w
theorem Wg.next {s:Sem Value} {k:Value→Prop} (h:Wg P μ L s k):Qdo P μ L (do pure (.value (←s))) k:=by
 obtain ⟨v,hk,hr⟩:=h;exact ⟨v,hk,fun w hw=>by simp[hr w hw]⟩
theorem QdD (hT:TOk P T) {b:Builtin} {tys:Array TypeId} {ty:TypeId} {cs:Array Bool} {vs:List Value} {k:Value→Prop} (h:biK T b tys.toList vs μ L k) :
  Qdo P μ L (builtin b tys ty cs vs.toArray) k:=by
 unfold biK at h
 split at h
 ·rename_i t v hts
  have:tys= #[t]:=by rw[←Array.toList_inj];simp[hts]
  subst this;exact (Qe7 hT h).next
 ·rename_i t v hts
  have:tys= #[t]:=by rw[←Array.toList_inj];simp[hts]
  subst this;exact (Qe4 hT h).next
 ·exact (V2 (tys:=tys) (ty:=ty) (P:=P) (μ:=μ) (L:=L) h).next
 ·exact (V2 (tys:=tys) (ty:=ty) (P:=P) (μ:=μ) (L:=L) h).next
 ·exact h.elim
theorem Qbq (kd:IntKind) (n:Int): ∀(es:List MapEntry) (i:Nat),JE kd es →
  ∃r,Instr.findNow (.int kd) (.int kd n) es i=some r∧r.map (·.2)=JR n es
 | [],i,_=>⟨none,rfl,rfl⟩
 | e::es,i,h=>by
  obtain ⟨m,hm⟩:=h e (by simp);obtain ⟨r,h1,h2⟩:=Qbq kd n es (i+1) (fun e he=>h e (by simp[he]))
  by_cases hn:m=n
  ·subst hn;exact ⟨some (i,e.val),by simp[Instr.findNow,Instr.sameNow,hm],by simp[JR,hm]⟩
  ·refine ⟨r,?_,by simp[JR,hm,hn,h2]⟩;have:(n==m)=false:=by simpa using fun e=>hn e.symm
   simp[Instr.findNow,Instr.sameNow,hm,this,h1]
theorem Ja (hT:TOk P T) {t:TypeId} {i:TyI} (hi:T t=some i) {kd:IntKind} (hu:i.u= .int kd) (b:Bool) (n:Nat) (v:Value) (w:World) :
  (Instr.checkKey b (n+1) t v).run P w= .ok () w:=by
 simp only[Instr.checkKey,Sem.run_bind,QL hT hi hu (by simp),Result.andThen_ok]
 cases v<;>rfl
theorem Qeb (hT:TOk P T) {t:TypeId} {m key:Value} {ok:Bool} {k:Value→Prop} (h:QaN P T t m key ok μ L k):Wg P μ L (Instr.lookup t m key ok) k:=by
 unfold QaN at h
 split at h
 ·rename_i kd n
  split at h
  ·rename_i i hi
   split at h
   ·rename_i kt et hu
    split at h
    ·rename_i ik hik
     unfold Qd1 at h
     split at h
     ·rename_i kd' hku
      obtain ⟨rfl,h'⟩:=Vk h
      clear h
      split at h'
      ·rename_i ie hie
       split at h'
       ·refine Qk h' fun w=> ?_;have hc:(Instr.checkKey true 10000 kt (.int kd n)).run P w= .ok () w:=Ja hT hik hku true 9999 (.int kd n) w;cases ok<;>simp[Instr.lookup,QL hT hi hu (by simp),hc,Instr.findKey,QL hT hik hku (by simp),Instr.findNow,J8 hT hie,okK]
       ·rename_i r
        obtain ⟨x,⟨es,c,ho,hks,hx⟩,hk⟩:=h';obtain ⟨rr,hr1,hr2⟩:=Qbq kd n es.toList 0 hks;cases hf:JR n es.toList with
        | none =>
         rw[hf] at hx
         subst hx;have hrn:rr=none:=by cases rr with | none=>rfl | some x=>rw[hf] at hr2;cases hr2
         subst hrn;refine ⟨_,hk,fun w hw=> ?_⟩;have hc:(Instr.checkKey es.isEmpty 10000 kt (.int kd n)).run P w= .ok () w:=Ja hT hik hku es.isEmpty 9999 (.int kd n) w;cases ok<;>simp[Instr.lookup,QL hT hi hu (by simp),ZT w _ _ (by simp) (hw.obj ho),hc,Instr.findKey,QL hT hik hku (by simp),hr1,J8 hT hie,okK]
        | some v =>
         rw[hf] at hx
         subst hx;obtain ⟨x,rfl,hx⟩: ∃x,rr=some x∧x.2=v:=by
          cases rr with
          | none=>rw[hf] at hr2;cases hr2
          | some x=>rw[hf] at hr2;exact ⟨x,rfl,by simpa using hr2⟩
         refine ⟨_,hk,fun w hw=> ?_⟩;have hc:(Instr.checkKey es.isEmpty 10000 kt (.int kd n)).run P w= .ok () w:=Ja hT hik hku es.isEmpty 9999 (.int kd n) w;cases ok<;>simp[Instr.lookup,QL hT hi hu (by simp),ZT w _ _ (by simp) (hw.obj ho),hc,Instr.findKey,QL hT hik hku (by simp),hr1,okK,hx]
       ·exact h'.elim
      ·exact h'.elim
     ·exact h.elim
    ·exact h.elim
   ·exact h.elim
  ·exact h.elim
 ·obtain ⟨v,hv,hk⟩:=h;exact ⟨v,hk,hv⟩
 ·obtain ⟨v,hv,hk⟩:=h;exact ⟨v,hk,hv⟩
 ·exact h.elim
theorem J9 (hT:TOk P T) {N:NN} {fr:Fr} {a:Act} (ha:Agr N fr a) {o:Oper} {k:Value→Prop} (h:vcR P T o.op fr μ L k) :
  Qdo P μ L (execOp a.eval o) k:=by
 obtain ⟨dst,op,ty,pos,aft,gd⟩:=o;unfold vcR at h;cases op<;>simp only at h
 case move x=>exact ⟨_,Qm ha h,fun w _=>rfl⟩
 case assign x=>exact ⟨_,Qm ha h,fun w _=>rfl⟩
 case pick c x y =>
  have h1:=Qm ha h
  revert h1
  cases hc:a.eval c<;>simp only[Vx,false_implies]
  rename_i b
  cases b
  ·exact fun h=>⟨_,Qm ha h,fun w _=>by simp[execOp,hc,asBool]⟩
  ·exact fun h=>⟨_,Qm ha h,fun w _=>by simp[execOp,hc,asBool]⟩
 case load t x=>exact (QbI hT (Qm ha h)).next
 case nilCheck x =>
  have h1:=Qm ha h;unfold Qfw at h1
  split at h1
  ·rename_i p hp
   exact ⟨_,h1,fun w _=>by simp[execOp,hp]⟩
  ·rename_i f fi ca hp
   exact ⟨_,h1,fun w _=>by simp[execOp,hp]⟩
  ·exact h1.elim
 case binOp op t x y yt =>
  have h1:=Qm ha h;have h2:=Qm ha (k:=fun b=>JD P T op t (a.eval x) b k) h1;obtain ⟨v,hk,hr⟩:=Qe3 (ox:=x) (oy:=y) hT h2 (μ:=μ) (L:=L);exact ⟨v,hk,fun w hw=>by
   have:=hr w hw
   simp only[Sem.run_bind] at this
   simp only[execOp,Sem.run_bind,this,Result.andThen_ok,Sem.run_pure]⟩
 case unOp op t x=>exact (QfF (Qm ha h)).next
 case convert s d x=>exact (Qea hT (Qm ha h)).next
 case build t ps =>
  have h1:=Qbp ha h;have:=(Qc6 (μ:=μ) (L:=L) hT h1).next;have e:(ps.toList.map fun p=>(p.1,a.eval p.2)).toArray=ps.map fun p=>(p.1,a.eval p.2):=by
   rw[←Array.toList_inj];simp
  rw[e] at this
  exact this
 case fieldAddr s x f=>exact (QfD hT (Qm ha h)).next
 case field s x f=>exact (Qc7 hT (Qm ha h)).next
 case indexAddr t x i =>
  have h1:=Qm ha h;exact (QfE hT (Qm ha (k:=fun b=>iaK T t (a.eval x) b k) h1)).next
 case extract x i=>exact (Qe5 (Qm ha h)).next
 case makeFunc fn fi ca =>
  have h1:=J0 ha h;have h2:=J0 ha (k:=fun b=>k (.func fn (fi.toList.map a.eval).toArray b.toArray)) h1;refine ⟨_,h2,fun w _=> ?_⟩;have e: ∀l:Array Operand,(l.toList.map a.eval).toArray=l.map a.eval:=fun l=>by rw[←Array.toList_inj];simp
  simp only[execOp,Instr.makeFunc,e]
  rfl
 case slice t x lo hi mx =>
  have h1:=Qm ha h;have h2:=VE ha (k:=fun l=>evo fr hi fun h=>evo fr mx fun m=>Wu T t (a.eval x) l h m k) h1;have h3:=VE ha (k:=fun h=>evo fr mx fun m=>Wu T t (a.eval x) (lo.map a.eval) h m k) h2;have h4:=VE ha (k:=fun m=>Wu T t (a.eval x) (lo.map a.eval) (hi.map a.eval) m k) h3;exact (Qc8 hT h4).next
 case lookup t m i ok =>
  have h1:=Qm ha h;exact (Qeb hT (Qm ha (k:=fun n=>QaN P T t (a.eval m) n ok μ L k) h1)).next
 case index t x i =>
  have h1:=Qm ha h;obtain ⟨v,hv,hk⟩:=Qm ha (k:=fun n=>Ex (ZN P (Instr.index t (a.eval x) n)) k) h1;exact ⟨v,hk,fun w _=>by simp only[execOp,Sem.run_bind,hv w,Result.andThen_ok,Sem.run_pure]⟩
 case call c =>
  split at h
  ·rename_i b hb
   have h1:=J0 ha h;have h2:=QdD (P:=P) (ty:=ty) (cs:=c.args.map fun | .const _=>true | _=>false) hT h1;obtain ⟨v,hk,hr⟩:=h2;refine ⟨v,hk,fun w hw=> ?_⟩;have e:(c.args.toList.map a.eval).toArray=c.args.map a.eval:=by rw[←Array.toList_inj];simp
   have:=hr w hw
   rw[e] at this
   simp only[execOp,resolve,hb,Sem.run_bind,Sem.run_pure,Result.andThen_ok,invoke]
   exact this
  ·exact h.elim
 all_goals exact h.elim
end
end Go.Proofs.Ytfdjjdhnfaklbaa
namespace Go.Proofs.Ytfdjjdhnfaklbaa
open Go.RowKit
set_option linter.unusedSimpArgs false
set_option linter.unusedVariables false
def Q5 (P:Program) (s:Sem Value) (μ:Gh) (L:List Seg) (k:Value→Gh→List Seg→Prop):Prop :=
 ∀w,Inv w μ L→ ∃v w' μ' L',s.run P w= .ok v w'∧μ.le μ'∧Inv w' μ' L'∧k v μ' L'
def Jz (P:Program) (s:Sem Unit) (μ:Gh) (L:List Seg) (k:Gh→List Seg→Prop):Prop :=
 ∀w,Inv w μ L→ ∃w' μ' L',s.run P w= .ok () w'∧μ.le μ'∧Inv w' μ' L'∧k μ' L'
def Fn (P:Program) (f:FuncId) (args:List Value) (μ:Gh) (L:List Seg) (R:Value→Gh→List Seg→Prop):Prop :=
 (
  (∃fn,P.funcs[f]? =some fn∧(fn.name== "runtime.NumGoroutine")=false∧fn.body.isNone=false) ∧
  ∀w,Inv w μ L→Calls P f args.toArray w fun e w'=> ∃v μ' L',e= .returned v∧μ.le μ'∧Inv w' μ' L'∧R v μ' L') ∨
 (∃fn e,P.funcs[f]? =some fn∧(fn.name== "runtime.NumGoroutine")=false∧fn.body.isNone=true∧Extern.findNext fn=none∧Extern.find fn=some e∧Q5 P (e args.toArray) μ L R)
theorem Q5.mono {P:Program} {s:Sem Value} {μ:Gh} {L:List Seg} {R R':Value→Gh→List Seg→Prop} (h:Q5 P s μ L R)
  (hr: ∀v μ' L',μ.le μ'→R v μ' L'→R' v μ' L'):Q5 P s μ L R':=fun w hw =>
 let ⟨v,w',μ',L',h1,h2,h3,h4⟩:=h w hw;⟨v,w',μ',L',h1,h2,h3,hr v μ' L' h2 h4⟩
theorem Fn.mono {P:Program} {f:FuncId} {args:List Value} {μ:Gh} {L:List Seg} {R R':Value→Gh→List Seg→Prop} (h:Fn P f args μ L R)
  (hr: ∀v μ' L',μ.le μ'→R v μ' L'→R' v μ' L'):Fn P f args μ L R':=by
 rcases h with ⟨h1,h2⟩ | ⟨fn,e,h1,h2,h3,h4,h5,h6⟩
 ·exact .inl ⟨h1,fun w hw=>(h2 w hw).mono fun _ _ ⟨v,μ',L',he,hm,hi,hR⟩=>⟨v,μ',L',he,hm,hi,hr v μ' L' hm hR⟩⟩
 ·exact .inr ⟨fn,e,h1,h2,h3,h4,h5,h6.mono hr⟩
def WG (L:List Seg) (a:Addr) (vs:List Value) (L':List Seg):Prop :=
 ∃i j s cs e,L[i]? =some s∧s[j]? =some (a.block,Obj.cells cs e (0,0))∧a.spot=none∧a.off+vs.length≤cs.size ∧
  L'=L.set i (s.set j (a.block,.cells (Zq cs.toList a.off vs).toArray e (0,0)))
def Vm (T:TT) (t:TypeId) (p v:Value) (L:List Seg) (k:List Seg→Prop):Prop:=match p with
 | .pointer (some a)=>(match T t with
  | some i=>v.cells.size=i.size∧(∀c∈v.cells.toList,c.oneCell'=true)∧Ex (WG L a v.cells.toList) k
  | none=>False)
 | _=>False
def QcW (T:TT) (t:TypeId) (k:Array Value→Prop):Prop:=match T t with | some i=>k i.zero.cells | none=>False
def cyc (z:List Value):Nat→List Value
 | 0=>[]
 | n+1=>z++cyc z n
def Qas (T:TT) (t:TypeId) (n:Nat) (vs:List (Nat×Value)) (k:TypeId→List Value→Prop):Prop :=
 VT T t fun e j=>n*j.size≤16777216∧j.zero.cells.size=j.size∧Jg (fun i=>some (i*j.size,j.size)) (cyc j.zero.cells.toList n) vs fun cs=>k e cs
def Qcl (P:Program) (fv:Value) (vs:List Value) (μ:Gh) (L:List Seg) (k:Value→Gh→List Seg→Prop):Prop:=match fv with
 | .func (.func f) fi ca=>Fn P f (fi.toList++vs++ca.toList) μ L k
 | _=>False
def biO (P:Program) (T:TT) (b:Builtin) (tys:Array TypeId) (ty:TypeId) (vs:List Value) (μ:Gh) (L:List Seg) (k:Value→Gh→List Seg→Prop):Prop:=match b with
 | .append=>Q5 P (Builtin.append_ tys ty vs.toArray) μ L k
 | .copy=>Q5 P (Builtin.copy_ tys ty vs.toArray) μ L k
 | .delete=>Q5 P (Builtin.delete_ tys ty vs.toArray) μ L k
 | .clear=>Q5 P (Builtin.clear_ tys ty vs.toArray) μ L k
 | b=>biK T b tys.toList vs μ L fun v=>k v μ L
def vcO (P:Program) (T:TT) (o:Op) (ty:TypeId) (fr:Fr) (μ:Gh) (L:List Seg) (k:Value→Gh→List Seg→Prop):Prop:=match o with
 | .store t a x=>ev fr a fun p=>ev fr x fun v=>Vm T t p v L fun L'=>k undef μ L'
 | .alloc t=>QcW T t fun cs=> ∀g,k (.pointer (some ⟨g,0,none⟩)) μ ([(g,.cells cs t)]::L)
 | .box t x=>ev fr x fun v=> ∀g,k (.pointer (some ⟨g,0,none⟩)) μ ([(g,.cells v.cells t)]::L)
 | .buildSlice t n ps=>evp fr ps.toList fun vs=>Qas T t n vs fun e cs=> ∀g,k (.slice (some ⟨g,0,none⟩) n n) μ ([(g,.cells cs.toArray e)]::L)
 | .makeMap _ none=> ∀g,k (.map (some g)) μ ([(g,.map #[] 0)]::L)
 | .makeSlice t l c=>ev fr l fun a=>ev fr c fun b=>Q5 P (Instr.makeSlice t a b) μ L k
 | .mapUpdate t m x v=>ev fr m fun a=>ev fr x fun b=>ev fr v fun c=>Jz P (Instr.mapUpdate t a b c) μ L fun μ' L'=>k undef μ' L'
 | .insert t m x v=>ev fr m fun a=>ev fr x fun b=>ev fr v fun c=>Jz P (Instr.mapUpdate t a b c) μ L fun μ' L'=>k undef μ' L'
 | .mapEntry t m x=>ev fr m fun a=>ev fr x fun b=>Q5 P (Instr.mapEntry t a b) μ L k
 | .entryStore t m s x=>ev fr m fun a=>ev fr s fun b=>ev fr x fun c=>Jz P (Instr.entryStore t a b c) μ L fun μ' L'=>k undef μ' L'
 | .range t x=>ev fr x fun a=>Q5 P (Instr.range t a) μ L k
 | .next it s=>ev fr it fun a=>Q5 P (Instr.next a s ty) μ L k
 | .entry it=>ev fr it fun a=>Q5 P (Instr.entry a) μ L k
 | .call c=>(match c.callee with
  | .value f=>ev fr f fun fv=>evs fr c.args.toList fun vs=>Qcl P fv vs μ L k
  | .builtin b=>evs fr c.args.toList fun vs=>biO P T b c.argTypes ty vs μ L k
  | .invoke _ _=>False)
 | o=>vcR P T o fr μ L fun v=>k v μ L
section
variable {P:Program} {T:TT} {μ:Gh} {L:List Seg}
theorem ZG (g o n:Nat):(⟨g,o,none⟩:Addr).add n=⟨g,o+n,none⟩:=by unfold Addr.add;split<;>simp_all
theorem W1: ∀(vs:List Value) (o:Nat) (cs:List Value),o+vs.length≤cs.length→Zq cs o vs=cs.take o++vs++cs.drop (o+vs.length)
 | [],o,cs,_=>by simp[Zq]
 | v::r,o,cs,h=>by
  have h':o+(r.length+1)≤cs.length:=by simpa using h
  rw[Zq,W1 r (o+1) _ (by simp;omega)]
  exact list_seg_step cs o v r h'
theorem Qbe {a:Addr} {vs:List Value} {L':List Seg} (hs:WG L a vs L') (h1: ∀c∈vs,c.oneCell'=true) {w:World} (hw:Inv w μ L) :
  ∃w',(storeCells a vs).run P w= .ok () w'∧Inv w' μ L':=by
 obtain ⟨i,j,s,cs,e,hi,hj,hsp,hl,rfl⟩:=hs;obtain ⟨b,o,sp⟩:=a
 simp only at hsp hl hj
 subst hsp;have hb:w.heap[b]? =some (.cells cs e (0,0)):=hw.own _ (List.mem_flatten.2 ⟨s,List.mem_of_getElem? hi,List.mem_of_getElem? hj⟩);have hr:=run_storeCells_at P b o e vs 0 cs w hb (by simpa using hl) h1;refine ⟨_,hr,?_⟩;have e2:Zq cs.toList o vs=cs.toList.take (o+0)++vs++cs.toList.drop (o+0+vs.length):=by
  rw[Nat.add_zero];exact W1 vs o cs.toList (by simpa using hl)
 simp only[e2]
 exact hw.upd hi hj rfl rfl rfl (setRow_heap w b cs _ e _ hb) (fun k hk=>setRow_other w b k _ hk)
theorem Qec (hT:TOk P T) {t:TypeId} {p v:Value} {k:List Seg→Prop} (h:Vm T t p v L k) :
  Jz P (Instr.storeAt t p v) μ L fun μ' L'=>μ'=μ∧k L':=by
 intro w hw;unfold Vm at h
 split at h
 ·rename_i a
  split at h
  ·rename_i i hi
   obtain ⟨h1,h2,L',hs,hk⟩:=h;obtain ⟨w',hr,hw'⟩:=Qbe (P:=P) hs h2 hw;refine ⟨w',μ,L',?_,Gh.le.refl _,hw',rfl,hk⟩
   simp[Instr.storeAt,Instr.sureAddr,storeVar,Jb hT hi,h1,hr]
  ·exact h.elim
 ·exact h.elim
theorem Vh (z:List Value): ∀n,(cyc z n).length=n*z.length
 | 0=>by simp[cyc]
 | n+1=>by rw[cyc,List.length_append,Vh z n,Nat.succ_mul];omega
theorem Qdp (z:List Value): ∀n i,i<n*z.length→(cyc z n)[i]? =z[i%z.length]?
 | 0,i,h=>by simp at h
 | n+1,i,h=>by
  rw[cyc]
  by_cases hi:i<z.length
  ·rw[List.getElem?_append_left hi,Nat.mod_eq_of_lt hi]
  ·rw[List.getElem?_append_right (by omega),Qdp z n _ (by rw[Nat.succ_mul] at h;omega)]
   congr 1
   have:i=i-z.length+z.length:=by omega
   conv=>rhs;rw[this,Nat.add_mod_right]
theorem Qf8 (z:Array Value) (n:Nat):((Array.range (n*z.size)).map (z[· %z.size]!))=(cyc z.toList n).toArray:=by
 rw[←Array.toList_inj]
 apply List.ext_getElem?;intro i
 by_cases hi:i<n*z.size
 ·have hz:0<z.size:=by rcases Nat.eq_zero_or_pos z.size with h0 | h0;(rw[h0] at hi;simp at hi);exact h0
  have hm:i%z.size<z.size:=Nat.mod_lt _ hz;have:=Qdp z.toList n i (by simpa using hi)
  simp only[Array.toList_map,List.getElem?_map]
  rw[this]
  simp[hi,hm]
 ·rw[List.getElem?_eq_none (by simp;omega),List.getElem?_eq_none (by rw[List.toList_toArray,Vh];simp;omega)]
theorem QcI (hT:TOk P T) {t:TypeId} {n:Nat} {vs:List (Nat×Value)} {k:TypeId→List Value→Prop} (h:Qas T t n vs k) :
  ∃e cs,k e cs∧ ∀w,(Instr.buildSlice t n vs.toArray).run P w= .ok (.slice (some ⟨w.heap.size,0,none⟩) n n) (w.alloc (.cells cs.toArray e)):=by
 obtain ⟨i,e,j,hi,hu,hj,h1,hz,h2⟩:=Wk h;obtain ⟨cs,hk,hf⟩:=Wl _ _ h2;refine ⟨e,cs,hk,fun w=> ?_⟩
 by_cases h0:n*j.size=0
 ·have e1:(cyc j.zero.cells.toList n).toArray= #[]:=by
   have:(cyc j.zero.cells.toList n).length=0:=by rw[Vh];simp only[Array.length_toList,hz];exact h0
   rw[List.eq_nil_of_length_eq_zero this]
  rw[e1] at hf
  simp only[Instr.buildSlice,Sem.run_bind,QL hT hi hu (by simp),Result.andThen_ok,Jb hT hj,Sem.run_ite]
  rw[if_neg (by omega)]
  simp[h0,Array.range_zero',hf,newRow,newObj,Sem.run]
 ·have e1:=Qf8 j.zero.cells n
  rw[hz] at e1
  rw[←e1] at hf
  simp only[Instr.buildSlice,Sem.run_bind,QL hT hi hu (by simp),Result.andThen_ok,Jb hT hj,Sem.run_ite]
  rw[if_neg (by omega),if_neg h0]
  simp[J8 hT hj,hz,hf,newRow,newObj,Sem.run]
theorem Jl (hT:TOk P T) {N:NN} {fr:Fr} {a:Act} (ha:Agr N fr a) {o:Oper} {k:Value→Gh→List Seg→Prop} (h:vcO P T o.op o.type fr μ L k)
  {w:World} (hw:Inv w μ L) {next:Act→World→Prop} {Q:Exit→Act→World→Prop}
  (hk: ∀v μ' L' w',μ.le μ'→Inv w' μ' L'→k v μ' L'→next (a.put o.dst v) w'):o.wp P a w next Q:=by
 have hR:Qdo P μ L (execOp a.eval o) (fun v=>k v μ L)→o.wp P a w next Q:=by
  rintro ⟨v,hv,hr⟩;unfold Oper.wp
  rw[hr w hw.holds]
  exact hk v μ L w (Gh.le.refl _) hw hv
 have hS: ∀s:Sem Value,execOp a.eval o=(do pure (.value (←s)))→Q5 P s μ L k→o.wp P a w next Q:=by
  intro s he hs;obtain ⟨v,w',μ',L',hr,hm,hi,hkk⟩:=hs w hw;unfold Oper.wp
  rw[he]
  simp only[Sem.run_bind,hr,Result.andThen_ok,Sem.run_pure]
  exact hk v μ' L' w' hm hi hkk
 have hU: ∀(s:Sem Unit) (k':Gh→List Seg→Prop),(∀μ' L',k' μ' L'→k undef μ' L')→execOp a.eval o=(do s;pure .skip)→Jz P s μ L k'→o.wp P a w next Q:=by
  intro s k' hk' he hs;obtain ⟨w',μ',L',hr,hm,hi,hkk⟩:=hs w hw;unfold Oper.wp
  rw[he]
  simp only[Sem.run_bind,hr,Result.andThen_ok,Sem.run_pure]
  exact hk undef μ' L' w' hm hi (hk' _ _ hkk)
 obtain ⟨dst,op,ty,pos,aft,gd⟩:=o
 simp only at h
 have hA: ∀ob:Array Value×TypeId,execOp a.eval ⟨dst,op,ty,pos,aft,gd⟩=(do pure (.value (.pointer (some (←newRow ob.2 ob.1))))) →
   (∀g,k (.pointer (some ⟨g,0,none⟩)) μ ([(g,.cells ob.1 ob.2)]::L))→Oper.wp P ⟨dst,op,ty,pos,aft,gd⟩ a w next Q:=by
  intro ob he hkk;unfold Oper.wp
  rw[he]
  simp only[newRow,newObj,Sem.run_bind,Sem.run,Result.andThen_ok,Sem.run_pure]
  exact hk _ μ _ _ (Gh.le.refl _) (hw.alloc _) (hkk _)
 cases op
 case store t p x =>
  simp only[vcO] at h
  have h1:=Qm ha h;have h2:=Qm ha (k:=fun v=>Vm T t (a.eval p) v L fun L'=>k undef μ L') h1;exact hU _ _ (fun μ' L' ⟨e,hk⟩=>e▸hk) rfl (Qec hT h2)
 case alloc t =>
  simp only[vcO] at h
  unfold QcW at h
  split at h
  ·rename_i i hi
   unfold Oper.wp;have he:(execOp a.eval ⟨dst,.alloc t,ty,pos,aft,gd⟩).run P w= .ok (.value (.pointer (some ⟨w.heap.size,0,none⟩))) (w.alloc (.cells i.zero.cells t)):=by
    simp only[execOp,Instr.alloc,Sem.run_bind,J8 hT hi,Result.andThen_ok,newVar,newRow,newObj,Sem.run,Sem.run_pure]
    rfl
   rw[he]
   exact hk _ μ _ _ (Gh.le.refl _) (hw.alloc _) (h _)
  ·exact h.elim
 case box t x =>
  simp only[vcO] at h
  have h1:=Qm ha h;refine hA ((a.eval x).cells,t) ?_ h1
  simp[execOp,Instr.box,newVar]
 case buildSlice t n ps =>
  simp only[vcO] at h
  have h1:=Qbp ha h;obtain ⟨e,cs,hkk,hr⟩:=QcI hT h1;have e2:(ps.toList.map fun p=>(p.1,a.eval p.2)).toArray=ps.map fun p=>(p.1,a.eval p.2):=by
   rw[←Array.toList_inj];simp
  rw[e2] at hr
  unfold Oper.wp;have hr':=hr w
  simp only[execOp,Sem.run_bind]
  rw[hr']
  exact hk _ μ _ _ (Gh.le.refl _) (hw.alloc _) (hkk _)
 case makeMap t r =>
  cases r with
  | none =>
   simp only[vcO] at h
   unfold Oper.wp
   simp only[execOp,Instr.makeMap,newObj,Sem.run_bind,Sem.run,Result.andThen_ok,Sem.run_pure,Option.map_none]
   exact hk _ μ _ _ (Gh.le.refl _) (hw.alloc _) (h _)
  | some x=>simp only[vcO,vcR] at h
 case makeSlice t l c =>
  simp only[vcO] at h
  have h1:=Qm ha h;exact hS _ rfl (Qm ha (k:=fun b=>Q5 P (Instr.makeSlice t (a.eval l) b) μ L k) h1)
 case mapUpdate t m x v =>
  simp only[vcO] at h
  have h1:=Qm ha h;have h2:=Qm ha (k:=fun b=>ev fr v fun c=>Jz P (Instr.mapUpdate t (a.eval m) b c) μ L fun μ' L'=>k undef μ' L') h1;exact hU _ _ (fun _ _ h=>h) rfl (Qm ha (k:=fun c=>Jz P (Instr.mapUpdate t (a.eval m) (a.eval x) c) μ L fun μ' L'=>k undef μ' L') h2)
 case insert t m x v =>
  simp only[vcO] at h
  have h1:=Qm ha h;have h2:=Qm ha (k:=fun b=>ev fr v fun c=>Jz P (Instr.mapUpdate t (a.eval m) b c) μ L fun μ' L'=>k undef μ' L') h1;exact hU _ _ (fun _ _ h=>h) rfl (Qm ha (k:=fun c=>Jz P (Instr.mapUpdate t (a.eval m) (a.eval x) c) μ L fun μ' L'=>k undef μ' L') h2)
 case mapEntry t m x =>
  simp only[vcO] at h
  have h1:=Qm ha h;exact hS _ rfl (Qm ha (k:=fun b=>Q5 P (Instr.mapEntry t (a.eval m) b) μ L k) h1)
 case entryStore t m s x =>
  simp only[vcO] at h
  have h1:=Qm ha h;have h2:=Qm ha (k:=fun b=>ev fr x fun c=>Jz P (Instr.entryStore t (a.eval m) b c) μ L fun μ' L'=>k undef μ' L') h1;exact hU _ _ (fun _ _ h=>h) rfl (Qm ha (k:=fun c=>Jz P (Instr.entryStore t (a.eval m) (a.eval s) c) μ L fun μ' L'=>k undef μ' L') h2)
 case range t x=>simp only[vcO] at h;exact hS _ rfl (Qm ha h)
 case next it s=>simp only[vcO] at h;exact hS _ rfl (Qm ha h)
 case entry it=>simp only[vcO] at h;exact hS _ rfl (Qm ha h)
 case call c =>
  obtain ⟨ce,args,tys⟩:=c;have e:(args.toList.map a.eval).toArray=args.map a.eval:=by rw[←Array.toList_inj];simp
  cases ce with
  | invoke r m=>simp only[vcO] at h
  | value f =>
   simp only[vcO] at h
   have h1:=Qm ha h;have h2:=J0 ha (k:=fun vs=>Qcl P (a.eval f) vs μ L k) h1;unfold Qcl at h2
   split at h2
   ·rename_i g fi ca hf
    have e2:(fi.toList++List.map a.eval args.toList++ca.toList).toArray=fi++args.map a.eval++ca:=by
     rw[←Array.toList_inj];simp
    rcases h2 with ⟨⟨fn,hfn,hnm,hbd⟩,hc⟩ | ⟨fn,ex,hfn,hnm,hbd,hx1,hx2,hc⟩
    ·unfold Oper.wp;have he:(execOp a.eval ⟨dst,.call ⟨.value f,args,tys⟩,ty,pos,aft,gd⟩).run P w= .ok (.enter g (fi++args.map a.eval++ca)) w:=by
      simp only[execOp,resolve,hf,Deferred.ofValue,invoke,callFunc,program,Sem.run_bind,Sem.run,Sem.run_pure,Result.andThen_ok,hfn,hnm,hbd,Bool.false_eq_true,if_false]
     rw[he,Oper.upon_enter]
     have:=hc w hw
     rw[e2] at this
     refine this.mono ?_;rintro _ w' ⟨v,μ',L',rfl,hm,hi,hkk⟩;exact hk v μ' L' w' hm hi hkk
    ·obtain ⟨v,w',μ',L',hr,hm,hi,hkk⟩:=hc w hw
     rw[e2] at hr
     unfold Oper.wp;have he:(execOp a.eval ⟨dst,.call ⟨.value f,args,tys⟩,ty,pos,aft,gd⟩).run P w= .ok (.value v) w':=by
      simp only[execOp,resolve,hf,Deferred.ofValue,invoke,callFunc,program,mark,Sem.run_bind,Sem.run,Sem.run_pure,Result.andThen_ok,hfn,hnm,hbd,Bool.false_eq_true,if_false,if_true,hx1,hx2,hr]
     rw[he]
     exact hk v μ' L' w' hm hi hkk
   ·exact h2.elim
  | builtin b =>
   simp only[vcO] at h
   have h1:=J0 ha h;cases b
   case append =>
    have h3:Q5 P (Builtin.append_ tys ty (List.map a.eval args.toList).toArray) μ L k:=h1
    rw[e] at h3
    exact hS _ rfl h3
   case copy =>
    have h3:Q5 P (Builtin.copy_ tys ty (List.map a.eval args.toList).toArray) μ L k:=h1
    rw[e] at h3
    exact hS _ rfl h3
   case delete =>
    have h3:Q5 P (Builtin.delete_ tys ty (List.map a.eval args.toList).toArray) μ L k:=h1
    rw[e] at h3
    exact hS _ rfl h3
   case clear =>
    have h3:Q5 P (Builtin.clear_ tys ty (List.map a.eval args.toList).toArray) μ L k:=h1
    rw[e] at h3
    exact hS _ rfl h3
   all_goals
    refine hR ?_
    simp only[biO] at h1
    have h2:=QdD (P:=P) (ty:=ty) (cs:=args.map fun | .const _=>true | _=>false) hT h1
    rw[e] at h2
    exact h2
 all_goals exact hR (J9 hT ha (by simpa only[vcO] using h))
theorem Qgf {o:Oper} {a:Act} {w:World} {r:Option Nat} {next:Act→World→Prop} {Q:Exit→Act→World→Prop} (hd: ∀c,o.op≠ .defer c) (h:o.wp P a w next Q):o.wpIn (fw r) 0 P a w next Q:=by
 refine ⟨fun _ _=>trivial,?_⟩
 rw[Oper.semAt_eq _ _ _ hd]
 unfold Oper.wp Oper.upon at h;unfold Oper.uponIn
 split at h<;>rename_i he
 ·rw[he];exact h
 ·rw[he];exact h
 ·rw[he];exact h
 ·rw[he];exact ⟨fun e=>(by cases e),callsIn_wide.2 h⟩
 ·rw[he]
  refine ⟨fun e=>(by cases e),fun c cs _=> ?_⟩;obtain ⟨v,w',hr,hs⟩:=h c cs;exact ⟨v,w',hr,stepsIn_wide.2 hs⟩
 ·rw[he];exact h
 ·exact h.elim
theorem V5 {o:Oper} {fr:Fr} {k:Value→Gh→List Seg→Prop} (h:vcO P T o.op o.type fr μ L k): ∀c,o.op≠ .defer c:=by
 intro c e
 rw[e] at h
 simp only[vcO,vcR] at h
def QgM (o:Oper):Bool:=match o.op with | .defer _=>false | _=>true
def WN:List Oper→Bool
 | []=>true
 | o::r=>QgM o&&WN r
theorem QcG: ∀{ops:List Oper} {i:Nat} {o:Oper},WN ops=true→ops[i]? =some o→ ∀c,o.op≠ .defer c
 | [],i,o,_,h=>by simp at h
 | x::r,0,o,hd,h=>by
  simp only[List.getElem?_cons_zero,Option.some.injEq] at h
  subst h;intro c e
  simp only[WN,QgM,e,Bool.false_and] at hd
  cases hd
 | x::r,i+1,o,hd,h=>QcG (ops:=r) (i:=i) (by simp only[WN,Bool.and_eq_true] at hd;exact hd.2) (by simpa using h)
theorem VA {ops:List Oper} {r:Option Nat} {Q:Exit→Act→World→Prop} (hd:WN ops=true) (hQ: ¬LetsOut Q): ∀(l:List Nat) (a:Act) (w:World),wpOps P ops.toArray Q l a w→wpOpsIn (fw r) 0 P ops.toArray Q l a w
 | [],a,w,h=>h
 | i::l,a,w,h=>by
  simp only[wpOps] at h
  simp only[wpOpsIn]
  cases ho:ops.toArray[i]? with
  | none=>rw[ho] at h;exact VA hd hQ l a w h
  | some o =>
   rw[ho] at h
   simp only at h ⊢
   by_cases hw:Region.wanted o (yielded ops.toArray a.tmps)=true
   ·rw[if_pos hw] at h ⊢
    rcases h with h | ⟨_,h⟩
    ·exact Qgf (QcG hd (by simpa using ho)) (Oper.wp_mono (fun a w=>VA hd hQ l a w) h)
    ·exact absurd h hQ
   ·rw[if_neg hw] at h ⊢
    exact ⟨fun _ _=>trivial,VA hd hQ l _ w h⟩
theorem QbG {ops:List Oper} {r:Option Nat} {Q:Exit→Act→World→Prop} {id:Nat} {a:Act} {w:World} (hm:P.follows .mixedOrders=true) (hd:r=none∨WN ops=true) (hQ: ¬LetsOut Q)
  (h:wpAny P .any ops.toArray Q ops.toArray.size (Array.replicate ops.toArray.size false) a { w with drawn:=w.drawn+1 }):(Code.region id ops.toArray true).wpIn (fw r) 0 P Q a w:=by
 rcases hd with rfl | hd
 ·exact wpIn_wide.2 (wp_region_any hm h)
 ·refine wpIn_region_draw fun t=> ?_
  simp only[Region.schedule,hm,Bool.true_or,if_true]
  exact VA hd hQ _ _ _ (wpAny_sound _ _ _ _ _ h)
end
end Go.Proofs.Ytfdjjdhnfaklbaa
namespace Go.Proofs.Ytfdjjdhnfaklbaa
open Go.RowKit
set_option linter.unusedSimpArgs false
set_option linter.unusedVariables false
abbrev Qs:=Fr→Gh→List Seg→Prop
def VV:List Oper→Nat→Option Tmp
 | [],_=>none
 | o::_,0=>o.dst
 | _::r,n+1=>VV r n
theorem Qcx: ∀(ops:List Oper) (n:Nat),VV ops n=(ops[n]?).bind (·.dst)
 | [],_=>by simp[VV]
 | o::r,0=>by simp[VV]
 | o::r,n+1=>by simp[VV,Qcx r n]
def YH (ops:List Oper) (fr:Fr) (g:Option (Nat×Bool)) (yes no:Prop):Prop:=match g with
 | none=>yes
 | some p=>match VV ops p.1 with
  | some d=>(match Zm fr d with
   | some (.bool true)=>(match p.2 with | true=>yes | false=>no)
   | some (.bool false)=>(match p.2 with | true=>no | false=>yes)
   | some (.tuple _)=>no
   | _=>False)
  | none=>False
def Yx (N:NN) (dst:Option Tmp) (v:Value) (fr:Fr) (k:Fr→Prop):Prop:=match dst with
 | some d=>d<N.n∧k ((d,v)::fr)
 | none=>k fr
def WT (P:Program) (T:TT) (N:NN) (ops:List Oper):List Oper→Fr→Gh→List Seg→Qs→Prop
 | [],fr,μ,L,K=>K fr μ L
 | o::rest,fr,μ,L,K=>YH ops fr o.guard
   (vcO P T o.op o.type fr μ L fun v μ' L'=>Yx N o.dst v fr fun fr'=>WT P T N ops rest fr' μ' L' K)
   (Yx N o.dst undef fr fun fr'=>WT P T N ops rest fr' μ L K)
section
variable {P:Program} {T:TT} {N:NN}
theorem Q9 {fr:Fr} {a:Act} (ha:Agr N fr a) {dst:Option Tmp} {v:Value} {k:Fr→Prop} (h:Yx N dst v fr k): ∃fr',k fr'∧Agr N fr' (a.put dst v):=by
 cases dst with
 | none=>exact ⟨fr,h,ha⟩
 | some d=>exact ⟨_,h.2,ha.put h.1 v⟩
theorem Y1 {ops:List Oper} {fr:Fr} {a:Act} (ha:Agr N fr a) {o:Oper} {yes no:Prop} (h:YH ops fr o.guard yes no) :
  (Region.wanted o (yielded ops.toArray a.tmps)=true∧yes)∨(Region.wanted o (yielded ops.toArray a.tmps)=false∧no):=by
 unfold YH at h;cases hg:o.guard with
 | none=>rw[hg] at h;exact .inl ⟨by simp[Region.wanted,hg],h⟩
 | some p =>
  rw[hg] at h
  simp only[Qcx] at h
  cases hd:(ops[p.1]?).bind (·.dst) with
  | none=>rw[hd] at h;exact h.elim
  | some d =>
   rw[hd] at h
   simp only at h
   have hy: ∀v,Zm fr d=some v→yielded ops.toArray a.tmps p.1=match v with | .bool b=>some b | _=>none:=by
    intro v hv;have h1:=ha.get d v hv;unfold yielded;have h2:(ops.toArray[p.1]?).bind (·.dst)=some d:=by simpa using hd
    simp only[h2,Option.bind_some]
    cases h3:a.tmps[d]? with
    | none =>
     simp only[Array.getD_eq_getD_getElem?,h3,Option.getD_none] at h1
     subst h1;rfl
    | some u =>
     simp only[Array.getD_eq_getD_getElem?,h3,Option.getD_some] at h1
     subst h1;cases u<;>rfl
   cases hl:Zm fr d with
   | none=>rw[hl] at h;exact h.elim
   | some v =>
    have hv:=hy v hl
    rw[hl] at h
    obtain ⟨p1,p2⟩:=p
    simp only at hv h
    cases v<;>simp only at h hv
    case bool b =>
     cases b<;>cases p2<;>simp only at h<;>first
      | exact .inl ⟨by simp[Region.wanted,hg,hv],h⟩
      | exact .inr ⟨by simp[Region.wanted,hg,hv],h⟩
    case tuple vs=>exact .inr ⟨by simp[Region.wanted,hg,hv],h⟩
theorem WU (hT:TOk P T) {ops:List Oper} {Q:Exit→Act→World→Prop} {K:Qs}: ∀(rest:List Oper) (fr:Fr) (μ:Gh) (L:List Seg) (a:Act) (w:World),
  WT P T N ops rest fr μ L K→Agr N fr a→Inv w μ L →
  (∀fr' μ' L' a' w',μ.le μ'→Agr N fr' a'→Inv w' μ' L'→K fr' μ' L'→Q .normal a' w')→wpListIn (fw N.rd) 0 P ops.toArray Q rest a w
 | [],fr,μ,L,a,w,h,ha,hw,hQ=>hQ fr μ L a w (Gh.le.refl _) ha hw h
 | o::rest,fr,μ,L,a,w,h,ha,hw,hQ=>by
  refine wpListIn_step fun K' hK'=> ?_;rcases Y1 ha h with ⟨hg,h⟩ | ⟨hg,h⟩
  ·rw[if_pos hg]
   refine Qgf (V5 h) (Jl hT ha h hw fun v μ' L' w' hm hw' hk=> ?_);obtain ⟨fr',hk,ha'⟩:=Q9 ha hk;exact hK' _ _ (WU hT rest fr' μ' L' _ w' hk ha' hw' fun fr2 μ2 L2 a2 w2 hm2=>hQ fr2 μ2 L2 a2 w2 (hm.trans hm2))
  ·rw[if_neg (by rw[hg];exact Bool.false_ne_true)]
   obtain ⟨fr',hk,ha'⟩:=Q9 ha h;refine ⟨fun _ _=>trivial,?_⟩;exact hK' _ _ (WU hT rest fr' μ L _ w hk ha' hw hQ)
def QeR (N:NN) (μ0:Gh) (K:Qs) (B:Nat→Qs) (R:Qs):Exit→Act→World→Prop
 | .normal,a,w=> ∃fr μ L,Agr N fr a∧μ0.le μ∧Inv w μ L∧K fr μ L
 | .exit i,a,w=> ∃fr μ L,Agr N fr a∧μ0.le μ∧Inv w μ L∧B i fr μ L
 | .ret,a,w=> ∃fr μ L,Agr N fr a∧μ0.le μ∧Inv w μ L∧R fr μ L
 | _,_,_=>False
def WP (P:Program) (N:NN) (c:Code) (K:Qs) (B:Nat→Qs) (R:Qs) (fr:Fr) (μ:Gh) (L:List Seg):Prop :=
 ∀a w,Agr N fr a→Inv w μ L→c.wpIn (fw N.rd) 0 P (QeR N μ K B R) a w
theorem JI {μ0 μ1:Gh} (hm:μ0.le μ1) {K K':Qs} {B B':Nat→Qs} {R R':Qs} (hK: ∀fr μ L,μ1.le μ→K fr μ L→K' fr μ L) (hB: ∀i fr μ L,μ1.le μ→B i fr μ L→B' i fr μ L)
  (hR: ∀fr μ L,μ1.le μ→R fr μ L→R' fr μ L) (e:Exit) (a:Act) (w:World) (h:QeR N μ1 K B R e a w):QeR N μ0 K' B' R' e a w:=by
 cases e<;>first
  | exact h.elim
  | (
    obtain ⟨fr,μ,L,h1,h2,h3,h4⟩:=h
    first
    | exact ⟨fr,μ,L,h1,hm.trans h2,h3,hK _ _ _ h2 h4⟩
    | exact ⟨fr,μ,L,h1,hm.trans h2,h3,hB _ _ _ _ h2 h4⟩
    | exact ⟨fr,μ,L,h1,hm.trans h2,h3,hR _ _ _ h2 h4⟩)
theorem Vv {μ0:Gh} {K:Qs} {B:Nat→Qs} {R:Qs}: ¬LetsOut (QeR N μ0 K B R):=fun ⟨_,_,h⟩=>h
variable {K:Qs} {B:Nat→Qs} {R:Qs} {fr:Fr} {μ:Gh} {L:List Seg}
theorem WP.mono {c:Code} {K':Qs} {B':Nat→Qs} {R':Qs} (h:WP P N c K B R fr μ L) (hK: ∀fr μ' L,μ.le μ'→K fr μ' L→K' fr μ' L)
  (hB: ∀i fr μ' L,μ.le μ'→B i fr μ' L→B' i fr μ' L) (hR: ∀fr μ' L,μ.le μ'→R fr μ' L→R' fr μ' L):WP P N c K' B' R' fr μ L :=
 fun a w ha hw=>Code.wpIn_mono (JI (Gh.le.refl _) hK hB hR) (h a w ha hw)
theorem WP.skip (h:K fr μ L):WP P N .skip K B R fr μ L:=fun _ _ ha hw=>wpIn_skip ⟨fr,μ,L,ha,Gh.le.refl _,hw,h⟩
theorem WP.exit {i:Nat} (h:B i fr μ L):WP P N (.exit i) K B R fr μ L:=fun _ _ ha hw=>wpIn_exit ⟨fr,μ,L,ha,Gh.le.refl _,hw,h⟩
theorem WP.ret (h:R fr μ L):WP P N .ret K B R fr μ L:=fun _ _ ha hw=>wpIn_ret ⟨fr,μ,L,ha,Gh.le.refl _,hw,h⟩
theorem WP.seq {x y:Code} (h:WP P N x (WP P N y K B R) B R fr μ L):WP P N (.seq x y) K B R fr μ L:=by
 intro a w ha hw;refine wpIn_seq (Code.wpIn_mono (fun e a' w' hl=> ?_) (h a w ha hw));cases e with
 | normal =>
  obtain ⟨fr1,μ1,L1,h1,h2,h3,h4⟩:=hl;exact Code.wpIn_mono (JI h2 (fun _ _ _ _ h=>h) (fun _ _ _ _ _ h=>h) (fun _ _ _ _ h=>h)) (h4 a' w' h1 h3)
 | _=>exact hl
theorem WP.seq_k {x y:Code} (h: ∀K':Qs,(∀fr μ L,WP P N y K B R fr μ L→K' fr μ L)→WP P N x K' B R fr μ L):WP P N (.seq x y) K B R fr μ L:=WP.seq (h _ fun _ _ _ h=>h)
theorem WP.cond {c:Operand} {x y:Code} (h:ev fr c fun v=>Vx v (WP P N x K B R fr μ L) (WP P N y K B R fr μ L)):WP P N (.cond c x y) K B R fr μ L:=by
 intro a w ha hw;have h1:=Qm ha h
 revert h1
 cases hc:a.eval c<;>simp only[Vx,false_implies]
 rename_i b
 cases b
 ·exact fun h=>wpIn_cond hc (by simpa using h a w ha hw)
 ·exact fun h=>wpIn_cond hc (by simpa using h a w ha hw)
def WI (i:Nat) (K:Qs) (B:Nat→Qs):Nat→Qs:=fun j=>if j=i then K else B j
theorem WP.block {i:Nat} {c:Code} (h:WP P N c K (WI i K B) R fr μ L):WP P N (.block i c) K B R fr μ L:=by
 intro a w ha hw;refine wpIn_block (Code.wpIn_mono (fun e a' w' hl=> ?_) (h a w ha hw));cases e with
 | exit j =>
  obtain ⟨fr1,μ1,L1,h1,h2,h3,h4⟩:=hl
  by_cases hj:j=i
  ·simp only[WI,hj,if_true] at h4
   simp only[Exit.inBlock,hj,if_true]
   exact ⟨fr1,μ1,L1,h1,h2,h3,h4⟩
  ·simp only[WI,hj,if_false] at h4
   simp only[Exit.inBlock,hj,if_false]
   exact ⟨fr1,μ1,L1,h1,h2,h3,h4⟩
 | _=>exact hl
theorem WP.region (hT:TOk P T) {id:Nat} {ops:List Oper} (h:WT P T N ops ops fr μ L K):WP P N (.region id ops.toArray false) K B R fr μ L:=by
 intro a w ha hw;exact wpIn_region_lit (WU hT ops fr μ L a w h ha hw fun fr' μ' L' a' w' hm ha' hw' hk=>⟨fr',μ',L',ha',hm,hw',hk⟩)
theorem Qdi {F:Fence} {m:Nat} {c:Code} {Q:Exit→Act→World→Prop} (I:Nat→Act→World→Prop)
  (round: ∀n a w,I n a w→c.wpIn F m P (Exit.then (fun a' w'=> ∃n',n'<n∧I n' a' w') Q) a w) {n:Nat} {a:Act} {w:World} (h₀:I n a w):(Code.loop c).wpIn F m P Q a w:=by
 intro b k cs hro hb hr;have key: ∀n a w,I n a w →
   ∃e a' w',Q e a' w'∧ArrivesIn (Machine.fenced P F) P (lone (b.atR a (.code c:: .inLoop c::k)) cs w) b k cs e a' w':=by
  intro n
  induction n using Nat.strongRecOn with
  | _ n ih =>
   intro a w hI;obtain ⟨e,a₁,w₁,hq,harr⟩:=round n a w hI b (.inLoop c::k) cs hro hb hr;cases e with
   | normal =>
    obtain ⟨n',hlt,hI₁⟩:=hq;obtain ⟨e₂,a₂,w₂,hq₂,harr₂⟩:=ih n' hlt a₁ w₁ hI₁;exact ⟨e₂,a₂,w₂,hq₂,.of_steps (StepsIn.trans harr (.one (fenced_calm hb hr rfl) stepR_inLoop)) harr₂⟩
   | exit id=>exact ⟨_,a₁,w₁,hq,.pass (x:= .inLoop c) rfl (fun _ _=> .inl (by simp)) harr⟩
   | goto l=>exact ⟨_,a₁,w₁,hq,.pass (x:= .inLoop c) rfl (fun _ _=> .inl (by simp)) harr⟩
   | ret=>exact ⟨_,a₁,w₁,hq,.pass (x:= .inLoop c) rfl (fun _ _=> .inl (by simp)) harr⟩
   | panic ch=>exact ⟨_,a₁,w₁,hq,.pass (x:= .inLoop c) rfl (fun _ _=> .inl (by simp)) harr⟩
   | outgrown=>exact ⟨_,a₁,w₁,hq,.pass (x:= .inLoop c) rfl (fun _ _=> .inl (by simp)) harr⟩
 obtain ⟨e,a',w',hq,harr⟩:=key n a w h₀;exact ⟨e,a',w',hq,.of_steps (.one (fenced_calm hb hr rfl) stepR_loop) harr⟩
theorem WP.loop {c:Code} (I:Nat→Qs) {n:Nat} (h0:I n fr μ L)
  (round: ∀n fr μ' L,μ.le μ'→I n fr μ' L→WP P N c (fun fr' μ2 L'=> ∃n',n'<n∧I n' fr' μ2 L') B R fr μ' L):WP P N (.loop c) K B R fr μ L:=by
 intro a w ha hw;refine Qdi (fun n a w=> ∃fr μ' L,Agr N fr a∧μ.le μ'∧Inv w μ' L∧I n fr μ' L) ?_ ⟨fr,μ,L,ha,Gh.le.refl _,hw,h0⟩;rintro n a w ⟨fr1,μ1,L1,h1,h2,h3,h4⟩;refine Code.wpIn_mono (fun e a' w' hl=> ?_) (round n fr1 μ1 L1 h2 h4 a w h1 h3);cases e with
 | normal =>
  obtain ⟨fr2,μ2,L2,k1,k2,k3,n',k4,k5⟩:=hl;exact ⟨n',k4,fr2,μ2,L2,k1,h2.trans k2,k3,k5⟩
 | exit i=>exact JI h2 (fun _ _ _ _ h=>h) (fun _ _ _ _ _ h=>h) (fun _ _ _ _ h=>h) (.exit i) a' w' hl
 | ret=>exact JI h2 (fun _ _ _ _ h=>h) (fun _ _ _ _ _ h=>h) (fun _ _ _ _ h=>h) .ret a' w' hl
 | _=>exact hl.elim
theorem WP.sub {c:Code} {fr':Fr} {L':List Seg} (h:WP P N c K B R fr' μ L') (hf: ∀t v,Zm fr' t=some v→Zm fr t=some v) (hL:L'.flatten.Sublist L.flatten) :
  WP P N c K B R fr μ L:=fun a w ha hw=>h a w (ha.sub hf) (hw.sub hL)
theorem WP.freeze {c:Code} {s:Seg} (h:μ.le (μ.add s)→WP P N c K B R fr (μ.add s) L):WP P N c K B R fr μ (s::L):=fun a w ha hw=>by
 obtain ⟨hm,hi⟩:=hw.freeze;exact Code.wpIn_mono (JI hm (fun _ _ _ _ h=>h) (fun _ _ _ _ _ h=>h) (fun _ _ _ _ h=>h)) (h hm a w ha hi)
theorem WP.perm {c:Code} {L':List Seg} (h:WP P N c K B R fr μ L') (hp:L.flatten.Perm L'.flatten):WP P N c K B R fr μ L:=fun a w ha hw=>h a w ha (hw.perm hp)
theorem WP.know {c:Code} (h:(∃w,Inv w μ L)→WP P N c K B R fr μ L):WP P N c K B R fr μ L:=fun a w ha hw=>h ⟨w,hw⟩ a w ha hw
def JN (T:TT) (rs:List ResultVar) (fr:Fr) (μ:Gh) (L:List Seg) (k:List Value→Prop):Prop:=match rs with
 | []=>k []
 | .tmp t::r=>evT (Zm fr t) fun v=>JN T r fr μ L fun vs=>k (v::vs)
 | .cell p t::r=>evT (Zm fr p) fun a=>WL T μ L t a fun v=>JN T r fr μ L fun vs=>k (v::vs)
def Qb5 (vs:List Value):Value:=match vs with | [v]=>v | vs=> .tuple vs.toArray
def QaX (tmps:Array Value) (r:ResultVar):Sem Value:=match r with
 | .tmp t=>pure (tmps.getD t undef)
 | .cell p t=>do loadVar t (←asAddr (tmps.getD p undef))
theorem Vj (hT:TOk P T) {a:Act} (ha:Agr N fr a) {w:World} (hw:Y8 w μ L): ∀(rs:List ResultVar) {k:List Value→Prop},JN T rs fr μ L k →
  ∃vs,k vs∧(rs.mapM (QaX a.tmps)).run P w= .ok vs w
 | [],k,h=>⟨[],h,rfl⟩
 | .tmp t::r,k,h=>by
  simp only[JN] at h
  cases hl:Zm fr t with
  | none=>rw[hl] at h;exact h.elim
  | some v =>
   rw[hl] at h
   obtain ⟨vs,h1,h2⟩:=Vj hT ha hw r h;refine ⟨_,h1,?_⟩
   simp only[List.mapM_cons,QaX,Sem.run_bind,Sem.run_pure,Result.andThen_ok,h2,ha.get t v hl]
 | .cell p t::r,k,h=>by
  simp only[JN] at h
  cases hl:Zm fr p with
  | none=>rw[hl] at h;exact h.elim
  | some v =>
   rw[hl] at h
   obtain ⟨u,h1,h2⟩:=QbI (P:=P) (μ:=μ) (L:=L) hT (v:=v) (t:=t) (k:=fun v=>JN T r fr μ L fun vs=>k (v::vs)) h;obtain ⟨vs,h3,h4⟩:=Vj hT ha hw r h1;refine ⟨_,h3,?_⟩;have h5:=h2 w hw;have h6: ∃ad,v= .pointer (some ad):=by
    have:WL T μ L t v (fun v=>JN T r fr μ L fun vs=>k (v::vs)):=h;unfold WL at this
    split at this
    ·exact ⟨_,rfl⟩
    ·exact this.elim
   obtain ⟨ad,rfl⟩:=h6
   simp only[Instr.loadAt,Instr.sureAddr,Sem.run_bind,Sem.run_pure,Result.andThen_ok] at h5
   simp only[List.mapM_cons,QaX,Sem.run_bind,Sem.run_pure,Result.andThen_ok,h4,ha.get p _ hl,asAddr,h5]
def Upd (μ:Gh) (L:List Seg) (k:Gh→List Seg→Prop):Prop:= ∀w,Inv w μ L→ ∃μ' L',μ.le μ'∧Inv w μ' L'∧k μ' L'
def Qbj (args:List Value):Fr:=(args.zipIdx).map fun p=>(p.2,p.1)
theorem QeT (args:List Value): ∀(i t:Nat) (v:Value),Zm ((args.zipIdx i).map fun p=>(p.2,p.1)) t=some v→i≤t∧args[t-i]? =some v:=by
 induction args with
 | nil=>intro i t v h;cases h
 | cons x xs ih =>
  intro i t v h
  simp only[List.zipIdx_cons,List.map_cons,J3] at h
  by_cases hi:i=t
  ·rw[if_pos hi] at h;subst hi;simpa using h
  ·rw[if_neg hi] at h
   obtain ⟨h1,h2⟩:=ih (i+1) t v h;refine ⟨by omega,?_⟩;have:t-i=(t-(i+1))+1:=by omega
   rw[this];simpa using h2
theorem Fn.of_body (hT:TOk P T) {f:FuncId} {fn:Func} {c:Code} {args:List Value} {Rv:Value→Gh→List Seg→Prop} (hf:P.funcs[f]? =some fn)
  (hnm:(fn.name== "runtime.NumGoroutine")=false) (hb:fn.body=some c) {n:Nat} (hn:fn.ntmps=n) (hl:args.length≤n)
  (h:WP P ⟨n,[],none⟩ c (fun fr μ L=>JN T fn.results.toList fr μ L fun vs=>Upd μ L (Rv (Qb5 vs))) (fun _ _ _ _=>False) (fun fr μ L=>JN T fn.results.toList fr μ L fun vs=>Upd μ L (Rv (Qb5 vs))) (Qbj args) μ L) :
  Fn P f args μ L Rv:=by
 refine .inl ⟨⟨fn,hf,hnm,by rw[hb];rfl⟩,fun w hw=> ?_⟩;refine calls_of_wp hf hb ?_;have ha:Agr ⟨n,[],none⟩ (Qbj args) { tmps:=args.toArray++Array.replicate (fn.ntmps-args.toArray.size) undef,defers:=[] }:=by
  refine ⟨rfl,by simp[hn];omega,fun t v hv=> ?_⟩;obtain ⟨_,h2⟩:=QeT args 0 t v hv;have hlt:t<args.length:=by
   rcases Nat.lt_or_ge t args.length with h | h
   ·exact h
   ·rw[List.getElem?_eq_none (by simpa using h)] at h2;cases h2
  have h2':args[t]? =some v:=h2;have hg:args[t]=v:=by rw[List.getElem?_eq_getElem hlt] at h2';injection h2'
  simp[Array.getElem?_append,hlt,hg]
 have hfin: ∀a w',QeR ⟨n,[],none⟩ μ (fun fr μ L=>JN T fn.results.toList fr μ L fun vs=>Upd μ L (Rv (Qb5 vs))) (fun _ _ _ _=>False) (fun fr μ L=>JN T fn.results.toList fr μ L fun vs=>Upd μ L (Rv (Qb5 vs))) .normal a w' →
   a.defers=[]∧ ∃v,(results fn a.tmps).run P w'= .ok v w'∧ ∃v' μ' L',Ending.returned v= .returned v'∧μ.le μ'∧Inv w' μ' L'∧Rv v' μ' L':=by
  rintro a w' ⟨fr',μ',L',h1,h2,h3,h4⟩;obtain ⟨vs,h5,h6⟩:=Vj hT h1 h3.holds fn.results.toList h4;obtain ⟨μ3,L3,k1,k2,k3⟩:=h5 w' h3;refine ⟨h1.defers,Qb5 vs,?_,Qb5 vs,μ3,L3,rfl,h2.trans k1,k2,k3⟩;have h7:(fn.results.mapM (QaX a.tmps)).run P w'= .ok vs.toArray w':=by
   rw[Array.mapM_eq_mapM_toList,Sem.run_map,h6];rfl
  have h8:results fn a.tmps=(do
    let vs ←fn.results.mapM (QaX a.tmps)
    pure (if h:vs.size=1 then vs[0] else .tuple vs)):=rfl
  rw[h8,Sem.run_bind,h7]
  simp only[Result.andThen_ok,Sem.run_pure]
  congr 1
  match vs with
  | []=>rfl
  | [v]=>rfl
  | v::u::r=>simp[Qb5]
 refine Code.wp_mono (fun e a w' hl=> ?_) (wpIn_wide.1 (h _ w ha hw));cases e with
 | normal=>exact hfin a w' hl
 | ret=>exact hfin a w' hl
 | exit i=>obtain ⟨_,_,_,_,_,_,h4⟩:=hl;exact h4.elim
 | _=>exact hl.elim
end
end Go.Proofs.Ytfdjjdhnfaklbaa
namespace Go.Proofs.Ytfdjjdhnfaklbaa
open Go.RowKit
set_option linter.unusedSimpArgs false
set_option linter.unusedVariables false
def QP (keep L:List Seg):Prop:= ∀c∈keep.flatten,c∈L.flatten
def AN (P:Program) (N:NN) (ops:List Oper) (μ0:Gh) (keep:List Seg) (fuel:Nat) (listed:List Bool) (K:Qs) (fr:Fr) (μ:Gh) (L:List Seg):Prop :=
 μ0.le μ→QP keep L→ ∀(a:Act) (w:World) (Q:Exit→Act→World→Prop),Agr N fr a→Inv w μ L →
  (∀fr' μ' L' a' w',μ.le μ'→Agr N fr' a'→Inv w' μ' L'→K fr' μ' L'→Q .normal a' w') →
  (∀c a d v w,Q (.panic c) (Act.put a d v) w→Q (.panic c) a w)→wpAnyH P .any ops.toArray Q (fun w=>Y8 w μ0 keep) fuel listed.toArray a w
def Zf (ops:List Oper):List (Bool×Nat)→List Bool→Option (List Bool)
 | [],l=>some l
 | p::r,l=>match (match p.1 with
   | true=>Region.free .any ops.toArray l.toArray p.2&&(Region.ready .any ops.toArray l.toArray).contains p.2
   | false=>Region.ready .any ops.toArray l.toArray==[p.2]) with
  | true=>Zf ops r (l.set p.2 true)
  | false=>none
def Ze:List Oper→Nat→Option Oper
 | [],_=>none
 | o::_,0=>some o
 | _::r,n+1=>Ze r n
theorem JL: ∀(ops:List Oper) (n:Nat),Ze ops n=ops[n]?
 | [],_=>by simp[Ze]
 | o::r,0=>by simp[Ze]
 | o::r,n+1=>by simp[Ze,JL r n]
def YA (P:Program) (T:TT) (N:NN) (ops:List Oper) (μ0:Gh) (keep:List Seg):List (Bool×Nat)→Fr→Gh→List Seg→Qs→Prop
 | [],fr,μ,L,K=>K fr μ L
 | p::r,fr,μ,L,K=>match Ze ops p.2 with
  | some o=>(match p.1 with
   | true=>YH ops fr o.guard (vcR P T o.op fr μ0 keep fun v=>Yx N o.dst v fr fun fr'=>YA P T N ops μ0 keep r fr' μ L K)
     (Yx N o.dst undef fr fun fr'=>YA P T N ops μ0 keep r fr' μ L K)
   | false=>YH ops fr o.guard (vcO P T o.op o.type fr μ L fun v μ' L'=>QP keep L'∧Yx N o.dst v fr fun fr'=>YA P T N ops μ0 keep r fr' μ' L' K)
     (Yx N o.dst undef fr fun fr'=>YA P T N ops μ0 keep r fr' μ L K))
  | none=>False
section
variable {P:Program} {T:TT} {N:NN} {ops:List Oper} {μ0:Gh} {keep:List Seg} {K:Qs} {fr:Fr} {μ:Gh} {L:List Seg} {fuel:Nat} {listed:List Bool}
theorem YD {w:World} (hm:μ0.le μ) (hk:QP keep L) (hw:Inv w μ L):Y8 w μ0 keep :=
 ⟨fun b o h=>hw.mem b o (hm.mem b o h),fun c hc=>hw.own c (hk c hc)⟩
theorem AN.done (hr:Region.ready .any ops.toArray listed.toArray=[]) (h:K fr μ L):AN P N ops μ0 keep fuel listed K fr μ L :=
 fun _ _ a w _ ha hw hQ _=>wpAnyH_done hr (hQ fr μ L a w (Gh.le.refl _) ha hw h) fuel
theorem Yb (l:List Bool) (i:Nat):l.toArray.setIfInBounds i true=(l.set i true).toArray:=by simp
theorem AN.steps (hT:TOk P T) (hs:Region.noSelect ops.toArray=true): ∀(plan:List (Bool×Nat)) (listed:List Bool) {listed':List Bool} (_:Zf ops plan listed=some listed') {fr:Fr} {μ:Gh} {L:List Seg}
  (_:YA P T N ops μ0 keep plan fr μ L (AN P N ops μ0 keep fuel listed' K)),AN P N ops μ0 keep (fuel+plan.length) listed K fr μ L
 | [],listed,listed',hp,fr,μ,L,h=>by
  simp only[Zf,Option.some.injEq] at hp
  subst hp;exact h
 | (b,i)::r,listed,listed',hp,fr,μ,L,h=>by
  intro hm hk a w Qx ha hw hQ hQp;unfold Zf at hp
  split at hp
  ·rename_i hc
   unfold YA at h
   simp only[JL] at h hc
   cases ho:ops[i]? with
   | none=>rw[ho] at h;exact h.elim
   | some o =>
    rw[ho] at h
    have ho':ops.toArray[i]? =some o:=by simpa using ho
    show wpAnyH P .any ops.toArray Qx _ ((fuel+r.length)+1) listed.toArray a w
    cases b with
    | true =>
     simp only[Bool.and_eq_true] at h hc
     have hcont: ∀v,Yx N o.dst v fr (fun fr'=>YA P T N ops μ0 keep r fr' μ L (AN P N ops μ0 keep fuel listed' K)) →
       wpAnyH P .any ops.toArray Qx (fun w=>Y8 w μ0 keep) (fuel+r.length) (listed.toArray.setIfInBounds i true) (a.put o.dst v) w:=by
      intro v hv;obtain ⟨fr',hv',ha'⟩:=Q9 ha hv
      rw[Yb]
      exact AN.steps hT hs r _ hp hv' hm hk _ w Qx ha' hw hQ hQp
     rcases Y1 ha h with ⟨hg,h⟩ | ⟨hg,h⟩
     ·obtain ⟨v,hv,hrun⟩:=J9 hT ha h;exact wpAnyH_take ho' hs hc.1 hc.2 (fun c a w h=>hQp c a _ _ w h) (.inl ⟨hg,fun w hw=>hrun w hw⟩) (YD hm hk hw) (hcont v hv)
     ·exact wpAnyH_take ho' hs hc.1 hc.2 (fun c a w h=>hQp c a _ _ w h) (.inr ⟨hg,rfl⟩) (YD hm hk hw) (hcont undef h)
    | false =>
     simp only[beq_iff_eq] at h hc
     refine wpAnyH_all hc (by simp) fun j hj=> ?_;have hj':j=i:=by simpa using hj
     subst hj';unfold wpOp
     rw[ho']
     simp only
     rcases Y1 ha h with ⟨hg,h⟩ | ⟨hg,h⟩
     ·rw[if_pos hg]
      refine .inl (Jl hT ha h hw fun v μ' L' w' hm' hw' hv=> ?_);obtain ⟨fr',hv',ha'⟩:=Q9 ha hv.2;refine ⟨YD (hm.trans hm') hv.1 hw',?_⟩
      rw[Yb]
      exact AN.steps hT hs r _ hp hv' (hm.trans hm') hv.1 _ w' Qx ha' hw' (fun fr2 μ2 L2 a2 w2 h2=>hQ fr2 μ2 L2 a2 w2 (hm'.trans h2)) hQp
     ·rw[if_neg (by rw[hg];exact Bool.false_ne_true)]
      obtain ⟨fr',hv',ha'⟩:=Q9 ha h;refine ⟨YD hm hk hw,?_⟩
      rw[Yb]
      exact AN.steps hT hs r _ hp hv' hm hk _ w Qx ha' hw hQ hQp
  ·cases hp
theorem AN.fork (hT:TOk P T) {rs:List Nat} (hr:Region.ready .any ops.toArray listed.toArray=rs) (hne:rs.isEmpty=false)
  (h: ∀i∈rs,∃o,ops[i]? =some o∧YH ops fr o.guard (vcO P T o.op o.type fr μ L fun v μ' L'=>QP keep L'∧Yx N o.dst v fr fun fr'=>AN P N ops μ0 keep fuel (listed.set i true) K fr' μ' L')
   (Yx N o.dst undef fr fun fr'=>AN P N ops μ0 keep fuel (listed.set i true) K fr' μ L)):AN P N ops μ0 keep (fuel+1) listed K fr μ L:=by
 intro hm hk a w Q ha hw hQ hQp;refine wpAnyH_all hr (by intro e;rw[e] at hne;cases hne) fun j hj=> ?_;obtain ⟨o,ho,h⟩:=h j hj;have ho':ops.toArray[j]? =some o:=by simpa using ho
 unfold wpOp
 rw[ho']
 simp only
 rcases Y1 ha h with ⟨hg,h⟩ | ⟨hg,h⟩
 ·rw[if_pos hg]
  refine .inl (Jl hT ha h hw fun v μ' L' w' hm' hw' hv=> ?_);obtain ⟨fr',hv',ha'⟩:=Q9 ha hv.2;refine ⟨YD (hm.trans hm') hv.1 hw',?_⟩
  rw[Yb]
  exact hv' (hm.trans hm') hv.1 _ w' Q ha' hw' (fun fr2 μ2 L2 a2 w2 h2=>hQ fr2 μ2 L2 a2 w2 (hm'.trans h2)) hQp
 ·rw[if_neg (by rw[hg];exact Bool.false_ne_true)]
  obtain ⟨fr',hv',ha'⟩:=Q9 ha h;refine ⟨YD hm hk hw,?_⟩
  rw[Yb]
  exact hv' hm hk _ w Q ha' hw hQ hQp
theorem WP.draw {B:Nat→Qs} {R:Qs} (hx:P.follows .mixedOrders=true) {id n:Nat} (keep:List Seg) (hk:QP keep L) (hn:ops.length=n)
  (h:AN P N ops μ keep n (List.replicate n false) K fr μ L) (hd:N.rd=none∨WN ops=true:=by first | exact .inl rfl | exact .inr (by kernel_rfl)):WP P N (.region id ops.toArray true) K B R fr μ L:=by
 intro a w ha hw;refine QbG hx hd Vv (wpAny_of_held (S:=fun w=>Y8 w μ keep) _ _ _ _ ?_);have e1:ops.toArray.size=n:=by simpa using hn
 have e2:Array.replicate n false=(List.replicate n false).toArray:=by simp
 rw[e1,e2]
 exact h (Gh.le.refl _) hk a _ _ ha hw.drew (fun fr' μ' L' a' w' hm ha' hw' hk'=>⟨fr',μ',L',ha',hm,hw',hk'⟩) (fun _ _ _ _ _ h=>h)
theorem WP.drawn {B:Nat→Qs} {R:Qs} (hx:P.follows .mixedOrders=true) (hT:TOk P T) {id:Nat} (keep:List Seg) (hk:QP keep L) (plan:List (Bool×Nat)) {l':List Bool}
  (hs:Region.noSelect ops.toArray=true) (hp:Zf ops plan (List.replicate ops.length false)=some l') (hl:plan.length=ops.length)
  (h:YA P T N ops μ keep plan fr μ L (AN P N ops μ keep 0 l' K)) (hd:N.rd=none∨WN ops=true:=by first | exact .inl rfl | exact .inr (by kernel_rfl)):WP P N (.region id ops.toArray true) K B R fr μ L:=by
 refine WP.draw hx keep hk rfl ?_ hd;have:=AN.steps (N:=N) (fuel:=0) (μ0:=μ) (keep:=keep) (K:=K) hT hs plan _ hp (fr:=fr) (μ:=μ) (L:=L) h
 rw[Nat.zero_add,hl] at this
 exact this
end
end Go.Proofs.Ytfdjjdhnfaklbaa
