/- ExactServes: for every input the given law returns true, and its arguments read as before. No condition. -/
import Derived.Test.YtilbengnjgglhaaGreatc2x3
import Derived.Test.YtilbengnjgglhaaGreatc2x2
import Derived.Test.YtilbengnjgglhaaGreatc2x1
import Derived.RangeFuncIn
import Derived.RangeFuncRecord
import Derived.RangeFuncLeaves
import Derived.Shelf.Small.Bits
import Derived.Shelf.Small.Wraps
import Derived.Shelf.Strconv.Itoa0
import Derived.Shelf.Sort.Plain
import Derived.Ground.Names2Prog
import Derived.Shelf.Slices.SearchI
import Derived.Shelf.Slices.In.SortNone
import Derived.Test.YtilbengnjgglhaaGreatProg
namespace Go.Proofs.YtilbengnjgglhaaGreat
open Go.RowKit
set_option linter.unusedSimpArgs false
set_option linter.unusedVariables false
def Wl (P:Program) (N:NN) (all rest:List Oper) (K:QW):QW:=fun fr μ L=> ∀(a:Act) (w:World) (Q:Exit→Act→World→Prop),Agr N fr a→Inv w μ L →
 (∀fr' μ' L' a' w',μ.le μ'→Agr N fr' a'→Inv w' μ' L'→K fr' μ' L'→Q .normal a' w')→wpListIn (fw N.rd) 0 P all.toArray Q rest a w
def Qbs (all:List Oper) (plan:List (Bool×Nat)) (l:List Bool):Bool:=match JH all plan l with
 | some l'=>(Region.ready .any all.toArray l'.toArray).isEmpty
 | none=>false
def Qa8 (P:Program) (N:NN) (all:List Oper) (l:List Bool) (plan:List (Bool×Nat)) (μ0:Gh) (keep:List Seg) (K:QW):QW:=fun fr μ L =>
 Region.noSelect all.toArray=true→Qbs all plan l=true→AN P N all μ0 keep plan.length l K fr μ L
def QcV (P:Program) (N:NN) (all:List Oper) (l:List Bool) (plan:List (Bool×Nat)) (n:Nat) (l':List Bool) (μ0:Gh) (keep:List Seg) (K:QW):QW:=fun fr μ L =>
 Region.noSelect all.toArray=true→JH all plan l=some l'→AN P N all μ0 keep (n+plan.length) l K fr μ L
inductive MIt where
 | code (c:Code)
 | blk (i:Nat)
 | ops (all rest:List Oper)
 | pln (all:List Oper) (l:List Bool) (plan:List (Bool×Nat)) (μ0:Gh) (keep:List Seg)
 | plp (all:List Oper) (l:List Bool) (plan:List (Bool×Nat)) (n:Nat) (l':List Bool) (μ0:Gh) (keep:List Seg)
 | cut (M:QW)
def KEn (N:NN) (K:QW):QW:=fun fr μ L=> ∀a w,Agr N fr a→Inv w μ L→ ∃fr' μ' L',Agr N fr' a∧μ.le μ'∧Inv w μ' L'∧K fr' μ' L'
section
variable (P:Program) (N:NN) (R:QW)
def KB:List MIt→QW×(Nat→QW)
 | []=>(KEn N R,fun _ _ _ _=>False)
 | .code c::s=>(fun fr μ L=>WP P N c (KB s).1 (KB s).2 (KEn N R) fr μ L,(KB s).2)
 | .blk i::s=>((KB s).1,Qa4 i (KB s).1 (KB s).2)
 | .ops all rest::s=>(Wl P N all rest (KB s).1,(KB s).2)
 | .pln all l plan μ0 keep::s=>(Qa8 P N all l plan μ0 keep (KB s).1,(KB s).2)
 | .plp all l plan n l' μ0 keep::s=>(QcV P N all l plan n l' μ0 keep (KB s).1,(KB s).2)
 | .cut M::s=>(M,(KB s).2)
def KS (s:List MIt):QW:=(KB P N R s).1
def BS (s:List MIt):Nat→QW:=(KB P N R s).2
end
section
variable {P:Program} {T:TT} {N:NN} {R K:QW} {fr:Fr} {μ:Gh} {L:List Seg} {all rest:List Oper} {o:Oper} {l l':List Bool} {plan:List (Bool×Nat)} {μ0:Gh} {keep:List Seg} {i n:Nat}
theorem KEn.done (h:K fr μ L):KEn N K fr μ L:=fun _ _ ha hw=>⟨fr,μ,L,ha,Gh.le.refl _,hw,h⟩
theorem Wl.nil (h:K fr μ L):Wl P N all [] K fr μ L:=fun a w Q ha hw hQ=>hQ fr μ L a w (Gh.le.refl _) ha hw h
theorem Wl.cons (hT:TOk P T) (h:ZV all fr o.guard (vcO P T o.op o.type fr μ L fun v μ' L'=>Zv N o.dst v fr fun fr'=>Wl P N all rest K fr' μ' L') (Zv N o.dst undef fr fun fr'=>Wl P N all rest K fr' μ L)) :
  Wl P N all (o::rest) K fr μ L:=by
 intro a w Q ha hw hQ;refine wpListIn_step fun K' hK'=> ?_;rcases Z7 ha h with ⟨hg,h⟩ | ⟨hg,h⟩
 ·rw[if_pos hg]
  refine QkZ (Qdz h) (Vd hT ha h hw fun v μ' L' w' hm hw' hk=> ?_);obtain ⟨fr',hk,ha'⟩:=YG ha hk;exact hK' _ _ (hk _ w' Q ha' hw' fun fr2 μ2 L2 a2 w2 hm2=>hQ fr2 μ2 L2 a2 w2 (hm.trans hm2))
 ·rw[if_neg (by rw[hg];exact Bool.false_ne_true)]
  refine ⟨fun _ _=>trivial,?_⟩;obtain ⟨fr',hk,ha'⟩:=YG ha h;exact hK' _ _ (hk _ w Q ha' hw hQ)
theorem WP.regionS {B:Nat→QW} {id:Nat} (h:Wl P N all all K fr μ L):WP P N (.region id all.toArray false) K B R fr μ L:=fun a w ha hw =>
 wpIn_region_lit (h a w _ ha hw fun fr' μ' L' a' w' hm ha' hw' hk=>⟨fr',μ',L',ha',hm,hw',hk⟩)
theorem AN.one (hT:TOk P T) (hs:Region.noSelect all.toArray=true) {b:Bool} {m:Nat} {X:QW} (hX: ∀fr μ L,X fr μ L→AN P N all μ0 keep m (l.set i true) K fr μ L) (hp:JH all ((b,i)::plan) l=some l') (ho:Jx all i=some o)
  (h:(match b with
   | true=>ZV all fr o.guard (vcR P T o.op fr μ0 keep fun v=>Zv N o.dst v fr fun fr'=>X fr' μ L) (Zv N o.dst undef fr fun fr'=>X fr' μ L)
   | false=>ZV all fr o.guard (vcO P T o.op o.type fr μ L fun v μ' L'=>QI keep L'∧Zv N o.dst v fr fun fr'=>X fr' μ' L') (Zv N o.dst undef fr fun fr'=>X fr' μ L))) :
  AN P N all μ0 keep (m+1) l K fr μ L:=by
 intro hm hk a w Qx ha hw hQ hQp;unfold JH at hp
 split at hp
 ·rename_i hc
  rw[VK] at ho
  have ho':all.toArray[i]? =some o:=by simpa using ho
  show wpAnyH P .any all.toArray Qx _ (m+1) l.toArray a w
  cases b with
  | true =>
   simp only[Bool.and_eq_true] at h hc
   have hcont: ∀v,Zv N o.dst v fr (fun fr'=>X fr' μ L)→wpAnyH P .any all.toArray Qx (fun w=>JC w μ0 keep) m (l.toArray.setIfInBounds i true) (a.put o.dst v) w:=by
    intro v hv;obtain ⟨fr',hv',ha'⟩:=YG ha hv
    rw[Y2]
    exact hX _ _ _ hv' hm hk _ w Qx ha' hw hQ hQp
   rcases Z7 ha h with ⟨hg,h⟩ | ⟨hg,h⟩
   ·obtain ⟨v,hv,hrun⟩:=QaB hT ha h;exact wpAnyH_take ho' hs hc.1 hc.2 (fun c a w h=>hQp c a _ _ w h) (.inl ⟨hg,fun w hw=>hrun w hw⟩) (ZX hm hk hw) (hcont v hv)
   ·exact wpAnyH_take ho' hs hc.1 hc.2 (fun c a w h=>hQp c a _ _ w h) (.inr ⟨hg,rfl⟩) (ZX hm hk hw) (hcont undef h)
  | false =>
   simp only[beq_iff_eq] at h hc
   refine wpAnyH_all hc (by simp) fun j hj=> ?_;have hj':j=i:=by simpa using hj
   subst hj';unfold wpOp
   rw[ho']
   simp only
   rcases Z7 ha h with ⟨hg,h⟩ | ⟨hg,h⟩
   ·rw[if_pos hg]
    refine .inl (Vd hT ha h hw fun v μ' L' w' hm' hw' hv=> ?_);obtain ⟨fr',hv',ha'⟩:=YG ha hv.2;refine ⟨ZX (hm.trans hm') hv.1 hw',?_⟩
    rw[Y2]
    exact hX _ _ _ hv' (hm.trans hm') hv.1 _ w' Qx ha' hw' (fun fr2 μ2 L2 a2 w2 h2=>hQ fr2 μ2 L2 a2 w2 (hm'.trans h2)) hQp
   ·rw[if_neg (by rw[hg];exact Bool.false_ne_true)]
    obtain ⟨fr',hv',ha'⟩:=YG ha h;refine ⟨ZX hm hk hw,?_⟩
    rw[Y2]
    exact hX _ _ _ hv' hm hk _ w Qx ha' hw hQ hQp
 ·cases hp
theorem QaR {b:Bool} (hp:JH all ((b,i)::plan) l=some l'):JH all plan (l.set i true)=some l':=by
 unfold JH at hp
 split at hp
 ·exact hp
 ·cases hp
theorem QaQ (h:Qbs all plan l=true): ∃l',JH all plan l=some l'∧Region.ready .any all.toArray l'.toArray=[]:=by
 unfold Qbs at h
 split at h
 ·exact ⟨_,by assumption,by simpa using h⟩
 ·cases h
theorem Qdt {b:Bool} (h:Qbs all ((b,i)::plan) l=true):Qbs all plan (l.set i true)=true:=by
 obtain ⟨l',h1,h2⟩:=QaQ h;unfold Qbs
 rw[QaR h1]
 simp only[h2];rfl
theorem Qa8.nil (h:K fr μ L):Qa8 P N all l [] μ0 keep K fr μ L:=by
 intro _ hp;obtain ⟨l',h1,h2⟩:=QaQ hp
 simp only[JH,Option.some.injEq] at h1
 subst h1;exact AN.done h2 h
theorem Qa8.t (hT:TOk P T) (ho:Jx all i=some o) (h:ZV all fr o.guard (vcR P T o.op fr μ0 keep fun v=>Zv N o.dst v fr fun fr'=>Qa8 P N all (l.set i true) plan μ0 keep K fr' μ L) (Zv N o.dst undef fr fun fr'=>Qa8 P N all (l.set i true) plan μ0 keep K fr' μ L)) :
  Qa8 P N all l ((true,i)::plan) μ0 keep K fr μ L:=by
 intro hs hp;have hp2:=Qdt hp;obtain ⟨l',h1,_⟩:=QaQ hp;exact AN.one (b:=true) hT hs (fun _ _ _ h=>h hs hp2) h1 ho h
theorem Qa8.f (hT:TOk P T) (ho:Jx all i=some o) (h:ZV all fr o.guard (vcO P T o.op o.type fr μ L fun v μ' L'=>QI keep L'∧Zv N o.dst v fr fun fr'=>Qa8 P N all (l.set i true) plan μ0 keep K fr' μ' L') (Zv N o.dst undef fr fun fr'=>Qa8 P N all (l.set i true) plan μ0 keep K fr' μ L)) :
  Qa8 P N all l ((false,i)::plan) μ0 keep K fr μ L:=by
 intro hs hp;have hp2:=Qdt hp;obtain ⟨l',h1,_⟩:=QaQ hp;exact AN.one (b:=false) hT hs (fun _ _ _ h=>h hs hp2) h1 ho h
theorem QcV.t {l1:List Bool} (hT:TOk P T) (ho:Jx all i=some o) (h:ZV all fr o.guard (vcR P T o.op fr μ0 keep fun v=>Zv N o.dst v fr fun fr'=>QcV P N all (l.set i true) plan n l1 μ0 keep K fr' μ L) (Zv N o.dst undef fr fun fr'=>QcV P N all (l.set i true) plan n l1 μ0 keep K fr' μ L)) :
  QcV P N all l ((true,i)::plan) n l1 μ0 keep K fr μ L:=by
 intro hs hp;exact AN.one (b:=true) hT hs (fun _ _ _ h=>h hs (QaR hp)) hp ho h
theorem QcV.f {l1:List Bool} (hT:TOk P T) (ho:Jx all i=some o) (h:ZV all fr o.guard (vcO P T o.op o.type fr μ L fun v μ' L'=>QI keep L'∧Zv N o.dst v fr fun fr'=>QcV P N all (l.set i true) plan n l1 μ0 keep K fr' μ' L') (Zv N o.dst undef fr fun fr'=>QcV P N all (l.set i true) plan n l1 μ0 keep K fr' μ L)) :
  QcV P N all l ((false,i)::plan) n l1 μ0 keep K fr μ L:=by
 intro hs hp;exact AN.one (b:=false) hT hs (fun _ _ _ h=>h hs (QaR hp)) hp ho h
theorem WP.drawS {B:Nat→QW} (hx:P.follows .mixedOrders=true) {id:Nat} (keep:List Seg) (hk:QI keep L) (plan:List (Bool×Nat)) (hl:plan.length=all.length)
  (hs:Region.noSelect all.toArray=true) (hnd:Qbo all=true) (hp:Qbs all plan (List.replicate all.length false)=true) (h:Qa8 P N all (List.replicate all.length false) plan μ keep K fr μ L):WP P N (.region id all.toArray true) K B R fr μ L :=
 WP.draw hx keep hk rfl (by rw[←hl];have:=h hs hp;rw[←hl] at this;exact this) (.inr hnd)
end
def QcL (i:Nat):List MIt→Option (List MIt)
 | []=>none
 | .blk j::s=>bif Nat.beq i j then some s else QcL i s
 | .code _::s=>QcL i s
 | .ops _ _::s=>QcL i s
 | .pln _ _ _ _ _::s=>QcL i s
 | .plp _ _ _ _ _ _ _::s=>QcL i s
 | .cut _::s=>QcL i s
section
variable {P:Program} {N:NN} {R:QW} {fr:Fr} {μ:Gh} {L:List Seg}
theorem J7 {i:Nat}: ∀{s s':List MIt},QcL i s=some s'→KS P N R s' fr μ L→BS P N R s i fr μ L
 | [],s',h,_=>by cases h
 | .blk j::s,s',h,hk=>by
  simp only[QcL] at h
  show Qa4 j (KS P N R s) (BS P N R s) i fr μ L
  cases hb:Nat.beq i j with
  | true =>
   rw[hb] at h
   simp only[cond_true,Option.some.injEq] at h
   subst h
   simp only[Qa4,if_pos (Nat.eq_of_beq_eq_true hb)];exact hk
  | false =>
   rw[hb] at h
   simp only[Qa4,if_neg (Nat.ne_of_beq_eq_false hb)]
   exact J7 (s:=s) h hk
 | .code _::s,s',h,hk=>J7 (s:=s) h hk
 | .ops _ _::s,s',h,hk=>J7 (s:=s) h hk
 | .pln _ _ _ _ _::s,s',h,hk=>J7 (s:=s) h hk
 | .plp _ _ _ _ _ _ _::s,s',h,hk=>J7 (s:=s) h hk
 | .cut _::s,s',h,hk=>J7 (s:=s) h hk
end
inductive Out where
 | ok (s:List MIt) (fr:Fr) (L:List Seg) (a b:List Value)
 | bad
def evK (fr:Fr) (x:Operand) (k:Value→Out):Out:=match evV fr x with
 | some v=>k v
 | none=> .bad
def QiZ (fr:Fr):List Operand→(List Value→Out)→Out
 | [],k=>k []
 | x::xs,k=>evK fr x fun v=>QiZ fr xs fun vs=>k (v::vs)
def QkT (fr:Fr):List (Nat×Operand)→(List (Nat×Value)→Out)→Out
 | [],k=>k []
 | x::xs,k=>evK fr x.2 fun v=>QkT fr xs fun vs=>k ((x.1,v)::vs)
def QgZ:Nat→List Value→(List Value→Out)→Out
 | 0,_,k=>k []
 | _+1,[],_=> .bad
 | n+1,v::r,k=>QgZ n r fun t=>k (v::t)
def Qgq:Nat→List Value→(List Value→Out)→Out
 | 0,l,k=>k l
 | _+1,[],_=> .bad
 | n+1,_::r,k=>Qgq n r k
def Qja:Nat→List Value→(Value→Out)→Out
 | _,[],_=> .bad
 | 0,v::_,k=>k v
 | n+1,_::r,k=>Qja n r k
def QjD:List Value→Nat→List Value→(List Value→Out)→Out
 | cs,_,[],k=>k cs
 | [],_,_::_,_=> .bad
 | c::r,0,v::vs,k=>QjD r 0 vs fun t=>k (v::t)
 | c::r,o+1,v::vs,k=>QjD r o (v::vs) fun t=>k (c::t)
def QfE (v:Value) (k:List Value→Out):Out:=match v with
 | .agg ⟨cs⟩=>k cs
 | .bool b=>k [.bool b]
 | .int kd n=>k [.int kd n]
 | .string s=>k [.string s]
 | .pointer a=>k [.pointer a]
 | .slice a n c=>k [.slice a n c]
 | .map r=>k [.map r]
 | .func f a b=>k [.func f a b]
 | .nilFunc=>k [.nilFunc]
 | _=> .bad
def QjA:IntKind→IntKind→Bool
 | .i8,.i8=>true | .i16,.i16=>true | .i32,.i32=>true | .i64,.i64=>true
 | .u8,.u8=>true | .u16,.u16=>true | .u32,.u32=>true | .u64,.u64=>true
 | _,_=>false
def Qen (x y:Value) (k:IntKind→Int→Int→Out):Out:=match x,y with
 | .int kd a,.int kd' b=>(match QjA kd kd' with | true=>k kd a b | false=> .bad)
 | _,_=> .bad
def Qak (b:Bool) (x:Out):Out:=match b with | true=>x | false=> .bad
def tyK (T:TT) (t:TypeId) (k:TyI→Out):Out:=match T t with | some i=>k i | none=> .bad
def eqV (T:TT) (t:TypeId) (x y:Value) (k:Bool→Out):Out:=match x,y with
 | .int kd a,.int kd' b=>Qak (QjA kd kd') (k (decide (a=b)))
 | .bool a,.bool b=>tyK T t fun i=>Qak (Qhh i.u) (k (a==b))
 | .pointer none,.pointer none=>tyK T t fun i=>Qak (Qdr i.u) (k true)
 | .pointer (some _),.pointer none=>tyK T t fun i=>Qak (Qdr i.u) (k false)
 | _,_=> .bad
def QkP (T:TT) (op:BinOp) (t:TypeId) (x y:Value) (k:Value→Out):Out:=match op with
 | .add=>Qen x y fun kd a b=>k (.int kd (kd.wrap (a+b)))
 | .sub=>Qen x y fun kd a b=>k (.int kd (kd.wrap (a-b)))
 | .mul=>Qen x y fun kd a b=>k (.int kd (kd.wrap (a*b)))
 | .lss=>Qen x y fun kd a b=>k (.bool (decide (a<b)))
 | .leq=>Qen x y fun kd a b=>k (.bool (decide (a≤b)))
 | .gtr=>Qen x y fun kd a b=>k (.bool (decide (b<a)))
 | .geq=>Qen x y fun kd a b=>k (.bool (decide (b≤a)))
 | .eql=>eqV T t x y fun b=>k (.bool b)
 | .neq=>eqV T t x y fun b=>k (.bool !b)
 | _=> .bad
def QhT (pl:Nat→Option (Nat×Nat)) (cells:List Value) (parts:List (Nat×Value)) (k:List Value→Out):Out:=match parts with
 | []=>k cells
 | p::r=>match pl p.1 with
  | some (q1,q2)=>QfE p.2 fun vs=>Qak (Nat.beq vs.length q2) <| Qak (Nat.blt 0 q2) (QjD cells q1 vs fun cells'=>QhT pl cells' r k)
  | none=> .bad
def QkU (T:TT) (s:TypeId) (f:Nat) (k:Nat→Nat→Bool→Out):Out:=tyK T s fun i=>Qak (VZ i.u) (match i.flds[f]? with
 | some (some (q1,q2,q3))=>k q1 q2 q3
 | _=> .bad)
def opV (T:TT) (fr:Fr) (o:Op) (k:Value→Out):Out:=match o with
 | .move x=>evK fr x k
 | .assign x=>evK fr x k
 | .nilCheck x=>evK fr x fun v=>(match v with
  | .pointer (some a)=>k (.pointer (some a))
  | .func (.func f) fi ca=>k (.func (.func f) fi ca)
  | _=> .bad)
 | .binOp op t x y _=>evK fr x fun a=>evK fr y fun b=>QkP T op t a b k
 | .unOp .not _ x=>evK fr x fun a=>(match a with | .bool b=>k (.bool !b) | _=> .bad)
 | .unOp .neg _ x=>evK fr x fun a=>(match a with | .int kd n=>k (.int kd (kd.wrap (0-n))) | _=> .bad)
 | .convert s d x=>evK fr x fun a=>(match a with
  | .int _ n=>tyK T s fun _=>tyK T d fun i=>(match i.u with | .int kd=>k (.int kd (kd.wrap n)) | _=> .bad)
  | _=> .bad)
 | .build t ps=>QkT fr ps.toList fun vs=>tyK T t fun i=>Qak (VZ i.u) (Qak (i.flds.all (·.isSome)) (QhT (Qjf i) i.zero.cells.toList vs fun cs=>k (.agg ⟨cs⟩)))
 | .fieldAddr s x f=>evK fr x fun v=>(match v with
  | .pointer (some a)=>QkU T s f fun q1 q2 _=>(match Nat.beq q2 0 with
   | false=>(match Nat.beq q1 0 with | true=>k (.pointer (some a)) | false=>k (.pointer (some (a.add q1))))
   | true=> .bad)
  | _=> .bad)
 | .field s x f=>evK fr x fun v=>(match v with
  | .agg ⟨cs⟩=>QkU T s f fun q1 q2 q3=>(match q3 with
   | true=>Qgq q1 cs fun d=>QgZ q2 d fun vs=>k (.agg ⟨vs⟩)
   | false=>Qja q1 cs k)
  | _=> .bad)
 | .extract x i=>evK fr x fun v=>(match v with | .tuple ⟨vs⟩=>Qja i vs k | _=> .bad)
 | .makeFunc f fi ca=>QiZ fr fi.toList fun a=>QiZ fr ca.toList fun b=>k (.func f ⟨a⟩ ⟨b⟩)
 | .call ⟨.builtin b,args,tys⟩=>QiZ fr args.toList fun vs=>(match b with
  | .len=>(match vs,tys.toList with
   | [.slice _ n _],[t]=>tyK T t fun i=>Qak (Qbk i.u) (k (.int .i64 n))
   | [.string s],[t]=>tyK T t fun i=>Qak (QkW i.u) (k (.int .i64 s.size))
   | _,_=> .bad)
  | .cap=>(match vs,tys.toList with
   | [.slice _ _ c],[t]=>tyK T t fun i=>Qak (Qbk i.u) (k (.int .i64 c))
   | _,_=> .bad)
  | .min=>(match vs with | [.int kd x,.int _ y]=>k (.int kd (min x y)) | _=> .bad)
  | .max=>(match vs with | [.int kd x,.int _ y]=>k (.int kd (max x y)) | _=> .bad)
  | _=> .bad)
 | _=> .bad
section
variable {fr:Fr} {o:Out}
theorem YW {x:Operand} {k:Value→Out} (h:evK fr x k=o) (ho:o≠ .bad): ∃v,evV fr x=some v∧k v=o:=by
 unfold evK at h
 split at h
 ·exact ⟨_,by assumption,h⟩
 ·exact absurd h.symm ho
theorem QbI: ∀{xs:List Operand} {k:List Value→Out},QiZ fr xs k=o→o≠ .bad→ ∃vs,Vw fr xs=some vs∧k vs=o
 | [],k,h,ho=>⟨[],rfl,h⟩
 | x::xs,k,h,ho=>by
  obtain ⟨v,h1,h2⟩:=YW (x:=x) h ho;obtain ⟨vs,h3,h4⟩:=QbI h2 ho;exact ⟨v::vs,by simp only[Vw,h1,h3],h4⟩
theorem Qe6: ∀{xs:List (Nat×Operand)} {k:List (Nat×Value)→Out},QkT fr xs k=o→o≠ .bad→ ∃vs,QfK fr xs=some vs∧k vs=o
 | [],k,h,ho=>⟨[],rfl,h⟩
 | x::xs,k,h,ho=>by
  obtain ⟨v,h1,h2⟩:=YW (x:=x.2) h ho;obtain ⟨vs,h3,h4⟩:=Qe6 h2 ho;exact ⟨(x.1,v)::vs,by simp only[QfK,h1,h3],h4⟩
theorem Qcp: ∀{n:Nat} {l:List Value} {k:List Value→Out},QgZ n l k=o→o≠ .bad→k (l.take n)=o∧(l.take n).length=n
 | 0,l,k,h,_=>⟨by simpa [QgZ] using h,by simp⟩
 | n+1,[],k,h,ho=>absurd h.symm ho
 | n+1,v::r,k,h,ho=>by
  obtain ⟨h1,h2⟩:=Qcp (n:=n) (l:=r) h ho;exact ⟨by simpa using h1,by simpa using h2⟩
theorem Qcc: ∀{n:Nat} {l:List Value} {k:List Value→Out},Qgq n l k=o→o≠ .bad→k (l.drop n)=o
 | 0,l,k,h,_=>by simpa [Qgq] using h
 | n+1,[],k,h,ho=>absurd h.symm ho
 | n+1,v::r,k,h,ho=>by simpa using Qcc (n:=n) (l:=r) h ho
theorem QbM: ∀{n:Nat} {l:List Value} {k:Value→Out},Qja n l k=o→o≠ .bad→ ∃v,l[n]? =some v∧k v=o
 | n,[],k,h,ho=>absurd (by cases n<;>exact h.symm) ho
 | 0,v::r,k,h,ho=>⟨v,rfl,h⟩
 | n+1,v::r,k,h,ho=>by simpa using QbM (n:=n) (l:=r) h ho
theorem Qc9 (c:Value): ∀(vs r:List Value) (o:Nat),WY (c::r) (o+1) vs=c::WY r o vs
 | [],r,o=>rfl
 | v::vs,r,o=>by simp only[WY,List.set_cons_succ];exact Qc9 c vs _ (o+1)
theorem QbR: ∀{cs:List Value} {q:Nat} {vs:List Value} {k:List Value→Out},QjD cs q vs k=o→o≠ .bad→k (WY cs q vs)=o∧(vs≠[]→q+vs.length≤cs.length)
 | [],q,[],k,h,ho=>⟨by cases q<;>exact h,fun h=>absurd rfl h⟩
 | c::r,q,[],k,h,ho=>⟨by cases q<;>exact h,fun h=>absurd rfl h⟩
 | [],q,v::vs,k,h,ho=>absurd (by cases q<;>exact h.symm) ho
 | c::r,0,v::vs,k,h,ho=>by
  obtain ⟨h1,h2⟩:=QbR (cs:=r) (q:=0) (vs:=vs) h ho;refine ⟨?_,fun _=> ?_⟩
  ·rw[WY,List.set_cons_zero,Nat.zero_add,Qc9];exact h1
  ·cases vs with
   | nil=>simp
   | cons u us=>have:=h2 (by simp);simp at this ⊢;omega
 | c::r,q+1,v::vs,k,h,ho=>by
  obtain ⟨h1,h2⟩:=QbR (cs:=r) (q:=q) (vs:=v::vs) h ho;refine ⟨?_,fun _=> ?_⟩
  ·rw[Qc9];exact h1
  ·have:=h2 (by simp);simp at this ⊢;omega
theorem Qdk {v:Value} {k:List Value→Out} (h:QfE v k=o) (ho:o≠ .bad):k v.cells.toList=o:=by
 unfold QfE at h
 split at h<;>first | exact h | exact absurd h.symm ho
theorem QeE {a b:IntKind} (h:QjA a b=true):a=b:=by
 cases a<;>cases b<;>first | rfl | cases h
theorem Qc4 {x y:Value} {k:IntKind→Int→Int→Out} (h:Qen x y k=o) (ho:o≠ .bad): ∃kd a b,x= .int kd a∧y= .int kd b∧k kd a b=o:=by
 unfold Qen at h
 split at h
 ·split at h
  ·rename_i hs
   have:=QeE hs;subst this;exact ⟨_,_,_,rfl,rfl,h⟩
  ·exact absurd h.symm ho
 ·exact absurd h.symm ho
theorem Y4 {b:Bool} {x:Out} (h:Qak b x=o) (ho:o≠ .bad):b=true∧x=o:=by
 unfold Qak at h
 split at h
 ·exact ⟨rfl,h⟩
 ·exact absurd h.symm ho
theorem JN {T:TT} {t:TypeId} {k:TyI→Out} (h:tyK T t k=o) (ho:o≠ .bad): ∃i,T t=some i∧k i=o:=by
 unfold tyK at h
 split at h
 ·exact ⟨_,by assumption,h⟩
 ·exact absurd h.symm ho
theorem Qfb {T:TT} {s:TypeId} {f:Nat} {k:Nat→Nat→Bool→Out} (h:QkU T s f k=o) (ho:o≠ .bad): ∃i q1 q2 q3,T s=some i∧VZ i.u=true∧i.flds[f]? =some (some (q1,q2,q3))∧k q1 q2 q3=o:=by
 obtain ⟨i,h1,h2⟩:=JN h ho;obtain ⟨h3,h4⟩:=Y4 h2 ho
 split at h4
 ·exact ⟨i,_,_,_,h1,h3,by assumption,h4⟩
 ·exact absurd h4.symm ho
theorem Qee {pl:Nat→Option (Nat×Nat)}: ∀{parts:List (Nat×Value)} {cells:List Value} {k:List Value→Out},QhT pl cells parts k=o→o≠ .bad→ ∃cs,k cs=o∧ ∀kk:List Value→Prop,kk cs→Vn pl cells parts kk
 | [],cells,k,h,ho=>⟨cells,h,fun _ h=>h⟩
 | p::r,cells,k,h,ho=>by
  unfold QhT at h
  split at h
  ·rename_i q1 q2 hq
   have h1:=Qdk h ho;obtain ⟨h2,h3⟩:=Y4 h1 ho;obtain ⟨h8,h3⟩:=Y4 h3 ho;have h2:=Nat.eq_of_beq_eq_true h2;have h8:0<q2:=by simpa [Nat.blt_eq] using h8
   obtain ⟨h4,h5⟩:=QbR h3 ho;obtain ⟨cs,h6,h7⟩:=Qee (parts:=r) h4 ho;refine ⟨cs,h6,fun kk hkk=> ?_⟩;obtain ⟨n,v⟩:=p
   simp only at hq h2 h5 h7
   refine QP (q1:=q1) (q2:=q2) hq (by rw[←h2];simp) ?_ rfl (h7 kk hkk);have:=h5 (by intro e;rw[e] at h2;simp at h2;omega)
   rw[h2] at this
   exact Nat.ble_eq_true_of_le this
  ·exact absurd h.symm ho
variable {T:TT} {P:Program} {μ:Gh} {L:List Seg}
theorem Qgr {t yt:TypeId} {x y:Operand} {u w:Value} {k:Bool→Out} (h:eqV T t u w k=o) (ho:o≠ .bad) (hx:evV fr x=some u) (hy:evV fr y=some w): ∃b,k b=o ∧
  (∀kk:Value→Prop,kk (.bool b)→vcR P T (.binOp .eql t x y yt) fr μ L kk)∧ ∀kk:Value→Prop,kk (.bool !b)→vcR P T (.binOp .neq t x y yt) fr μ L kk:=by
 unfold eqV at h
 split at h
 ·obtain ⟨h1,h2⟩:=Y4 h ho;have:=QeE h1;subst this;exact ⟨_,h2,fun kk hk=>Qkv hx hy hk,fun kk hk=>QkL hx hy hk⟩
 ·obtain ⟨i,h1,h2⟩:=JN h ho;obtain ⟨h3,h4⟩:=Y4 h2 ho;exact ⟨_,h4,fun kk hk=>Qkt hx hy h1 h3 hk,fun kk hk=>QkI hx hy h1 h3 hk⟩
 ·obtain ⟨i,h1,h2⟩:=JN h ho;obtain ⟨h3,h4⟩:=Y4 h2 ho;exact ⟨_,h4,fun kk hk=>Qg4 hx hy h1 h3 hk,fun kk hk=>QkJ hx hy h1 h3 hk⟩
 ·obtain ⟨i,h1,h2⟩:=JN h ho;obtain ⟨h3,h4⟩:=Y4 h2 ho;exact ⟨_,h4,fun kk hk=>Qg5 hx hy h1 h3 hk,fun kk hk=>QkK hx hy h1 h3 hk⟩
 ·exact absurd h.symm ho
theorem Qih {op:BinOp} {t yt:TypeId} {x y:Operand} {u w:Value} {k:Value→Out} (h:QkP T op t u w k=o) (ho:o≠ .bad) (hx:evV fr x=some u) (hy:evV fr y=some w) :
  ∃v,k v=o∧ ∀kk:Value→Prop,kk v→vcR P T (.binOp op t x y yt) fr μ L kk:=by
 cases op<;>simp only[QkP] at h<;>try exact absurd h.symm ho
 case eql=>obtain ⟨b,h1,h2,_⟩:=Qgr (P:=P) (μ:=μ) (L:=L) (yt:=yt) h ho hx hy;exact ⟨_,h1,h2⟩
 case neq=>obtain ⟨b,h1,_,h2⟩:=Qgr (P:=P) (μ:=μ) (L:=L) (yt:=yt) h ho hx hy;exact ⟨_,h1,h2⟩
 all_goals
  obtain ⟨kd,a,b,rfl,rfl,h1⟩:=Qc4 h ho;refine ⟨_,h1,fun kk hk=> ?_⟩
 case add=>exact Qki hx hy hk
 case sub=>exact Qlv hx hy hk
 case mul=>exact Qlm hx hy hk
 case lss=>exact QkD hx hy hk
 case leq=>exact QkB hx hy hk
 case gtr=>exact Qky hx hy hk
 case geq=>exact Qkx hx hy hk
theorem Qbq {α:Type} {a:Array α} {x:α} (h:a.toList=[x]):a= #[x]:=by rw[←Array.toList_inj];simp[h]
theorem Qjc {op:Op} {k:Value→Out} (h:opV T fr op k=o) (ho:o≠ .bad): ∃v,k v=o∧QgA op=true∧ ∀kk:Value→Prop,kk v→vcR P T op fr μ L kk:=by
 cases op with
 | move x=>obtain ⟨v,h1,h2⟩:=YW h ho;exact ⟨v,h2,rfl,fun kk hk=>YY h1 hk⟩
 | assign x=>obtain ⟨v,h1,h2⟩:=YW h ho;exact ⟨v,h2,rfl,fun kk hk=>Qd0 h1 hk⟩
 | nilCheck x =>
  obtain ⟨v,h1,h2⟩:=YW h ho
  split at h2
  ·exact ⟨_,h2,rfl,fun kk hk=>Jt h1 hk⟩
  ·exact ⟨_,h2,rfl,fun kk hk=>QkM h1 hk⟩
  ·exact absurd h2.symm ho
 | binOp op t x y yt =>
  obtain ⟨u,h1,h2⟩:=YW h ho;obtain ⟨w,h3,h4⟩:=YW h2 ho;obtain ⟨v,h5,h6⟩:=Qih (P:=P) (μ:=μ) (L:=L) (yt:=yt) h4 ho h1 h3;exact ⟨v,h5,rfl,h6⟩
 | unOp op t x =>
  cases op<;>simp only[opV] at h<;>try exact absurd h.symm ho
  case not =>
   obtain ⟨v,h1,h2⟩:=YW h ho
   split at h2
   ·exact ⟨_,h2,rfl,fun kk hk=>Qlq h1 hk⟩
   ·exact absurd h2.symm ho
  case neg =>
   obtain ⟨v,h1,h2⟩:=YW h ho
   split at h2
   ·exact ⟨_,h2,rfl,fun kk hk=>Qlo h1 hk⟩
   ·exact absurd h2.symm ho
 | convert s d x =>
  obtain ⟨v,h1,h2⟩:=YW h ho
  split at h2
  ·obtain ⟨j,h3,h4⟩:=JN h2 ho;obtain ⟨i,h5,h6⟩:=JN h4 ho
   split at h6
   ·exact ⟨_,h6,rfl,fun kk hk=>Qks h1 h3 h5 (by assumption) hk⟩
   ·exact absurd h6.symm ho
  ·exact absurd h2.symm ho
 | build t ps =>
  obtain ⟨vs,h1,h2⟩:=Qe6 h ho;obtain ⟨i,h3,h4⟩:=JN h2 ho;obtain ⟨h5,h6⟩:=Y4 h4 ho;obtain ⟨h7,h8⟩:=Y4 h6 ho;obtain ⟨cs,h9,h10⟩:=Qee h8 ho;exact ⟨_,h9,rfl,fun kk hk=>QdQ h1 h3 h5 h7 (h10 _ hk)⟩
 | fieldAddr s x f =>
  obtain ⟨v,h1,h2⟩:=YW h ho
  split at h2
  ·obtain ⟨i,q1,q2,q3,h3,h4,h5,h6⟩:=Qfb h2 ho
   split at h6
   ·rename_i h7
    split at h6
    ·rename_i h8
     have:=Nat.eq_of_beq_eq_true h8;subst this;exact ⟨_,h6,rfl,fun kk hk=>Qlf h1 h3 h4 h5 h7 hk⟩
    ·exact ⟨_,h6,rfl,fun kk hk=>Qkw h1 h3 h4 h5 h7 hk⟩
   ·exact absurd h6.symm ho
  ·exact absurd h2.symm ho
 | field s x f =>
  obtain ⟨v,h1,h2⟩:=YW h ho
  split at h2
  ·obtain ⟨i,q1,q2,q3,h3,h4,h5,h6⟩:=Qfb h2 ho;cases q3 with
   | true =>
    have h7:=Qcc h6 ho;obtain ⟨h8,_⟩:=Qcp h7 ho;exact ⟨_,h8,rfl,fun kk hk=>QiJ h1 h3 h4 h5 rfl hk⟩
   | false =>
    obtain ⟨u,h7,h8⟩:=QbM h6 ho;exact ⟨_,h8,rfl,fun kk hk=>QjS h1 h3 h4 h5 h7 hk⟩
  ·exact absurd h2.symm ho
 | extract x i =>
  obtain ⟨v,h1,h2⟩:=YW h ho
  split at h2
  ·obtain ⟨u,h7,h8⟩:=QbM h2 ho;exact ⟨_,h8,rfl,fun kk hk=>Qle h1 h7 hk⟩
  ·exact absurd h2.symm ho
 | makeFunc f fi ca =>
  obtain ⟨a,h1,h2⟩:=QbI h ho;obtain ⟨b,h3,h4⟩:=QbI h2 ho;exact ⟨_,h4,rfl,fun kk hk=>Qll h1 h3 hk⟩
 | call c =>
  obtain ⟨ce,args,tys⟩:=c;cases ce with
  | value f=>exact absurd h.symm ho
  | invoke r m=>exact absurd h.symm ho
  | builtin b =>
   obtain ⟨vs,h1,h2⟩:=QbI h ho;cases b<;>simp only at h2<;>try exact absurd h2.symm ho
   case len =>
    split at h2
    ·rename_i ht
     obtain ⟨i,h3,h4⟩:=JN h2 ho;obtain ⟨h5,h6⟩:=Y4 h4 ho;have:=Qbq ht;subst this;exact ⟨_,h6,rfl,fun kk hk=>QkA h1 h3 h5 hk⟩
    ·rename_i ht
     obtain ⟨i,h3,h4⟩:=JN h2 ho;obtain ⟨h5,h6⟩:=Y4 h4 ho;have:=Qbq ht;subst this;exact ⟨_,h6,rfl,fun kk hk=>Qkz h1 h3 h5 hk⟩
    ·exact absurd h2.symm ho
   case cap =>
    split at h2
    ·rename_i ht
     obtain ⟨i,h3,h4⟩:=JN h2 ho;obtain ⟨h5,h6⟩:=Y4 h4 ho;have:=Qbq ht;subst this;exact ⟨_,h6,rfl,fun kk hk=>Qlc h1 h3 h5 hk⟩
    ·exact absurd h2.symm ho
   case min =>
    split at h2
    ·exact ⟨_,h2,rfl,fun kk hk=>QkH h1 hk⟩
    ·exact absurd h2.symm ho
   case max =>
    split at h2
    ·exact ⟨_,h2,rfl,fun kk hk=>QkF h1 hk⟩
    ·exact absurd h2.symm ho
 | _=>exact absurd h.symm ho
end
end Go.Proofs.YtilbengnjgglhaaGreat
namespace Go.Proofs.YtilbengnjgglhaaGreat
open Go.RowKit
set_option linter.unusedSimpArgs false
set_option linter.unusedVariables false
abbrev Els:=List (Addr×List Value)
def QbT (n:Nat) (dst:Option Tmp) (v:Value) (fr:Fr) (k:Fr→Out):Out:=match dst with
 | none=>k fr
 | some d=>Qak (Nat.blt d n) (k ((d,v)::fr))
def Qi7:List (Nat×Bool)→Nat→Option Bool
 | [],_=>none
 | (s,v)::r,t=>bif Nat.beq s t then some v else Qi7 r t
def QjZ (kn:List (Nat×Bool)) (fr:Fr) (d:Nat) (a b:List Value) (k:Bool→List Value→List Value→Out):Out:=match JZ fr d with
 | some (.bool z)=>(match Qi7 kn d with | some t=>k t (.bool z::a) (.bool t::b) | none=> .bad)
 | _=> .bad
def gdO (kn:List (Nat×Bool)) (all:List Oper) (fr:Fr) (g:Option (Nat×Bool)) (a b:List Value) (yes no:List Value→List Value→Out):Out:=match g with
 | none=>yes a b
 | some (j,w)=>match Qdp all j with
  | some d=>(match JZ fr d with
   | some (.bool z)=>(match Qi7 kn d with
    | some true=>(match w with | true=>yes (.bool z::a) (.bool true::b) | false=>no (.bool z::a) (.bool true::b))
    | some false=>(match w with | true=>no (.bool z::a) (.bool false::b) | false=>yes (.bool z::a) (.bool false::b))
    | none=> .bad)
   | some (.tuple _)=>no a b
   | _=> .bad)
  | none=> .bad
def Qci:List Seg→Nat→Option Seg
 | [],_=>none
 | s::_,0=>some s
 | _::r,n+1=>Qci r n
def Qby:List Seg→Nat→Seg→List Seg
 | [],_,_=>[]
 | _::r,0,t=>t::r
 | s::r,n+1,t=>s::Qby r n t
def Qj6:Els→Nat→Option (Addr×List Value)
 | [],_=>none
 | s::_,0=>some s
 | _::r,n+1=>Qj6 r n
def Qh6 (i:TyI) (off:Nat) (cs:List Value) (k:Value→Out):Out:=match QeN i.u with
 | true=>Qgq off cs fun d=>QgZ i.size d fun vs=>k (.agg ⟨vs⟩)
 | false=>Qja off cs k
def QhY (T:TT) (els:Els) (L:List Seg) (t:TypeId) (v:Value) (h:Nat) (a b:List Value) (k:Value→List Value→List Value→Out):Out:=match v with
 | .pointer (some ad)=>tyK T t fun i=>(match Nat.blt h 64 with
  | true=>(match ad with
   | ⟨g,off,none⟩=>(match Qci L h with
    | some ((g',.cells ⟨cs⟩ _ _)::_)=>Qh6 i off cs fun u=>k u (.map (some g)::a) (.map (some g')::b)
    | _=> .bad)
   | _=> .bad)
  | false=>(match Qj6 els (h/64-1) with
   | some (ad',cs)=>Qh6 i (h%64) cs fun u=>(match Nat.beq (h%64) 0 with
    | true=>k u (.pointer (some ad)::a) (.pointer (some ad')::b)
    | false=>k u (.pointer (some ad)::a) (.pointer (some (ad'.add (h%64)))::b))
   | none=> .bad))
 | _=> .bad
def Qj7:List Value→Bool
 | []=>true
 | v::r=>match v.oneCell' with | true=>Qj7 r | false=>false
def QhE (T:TT) (L:List Seg) (t:TypeId) (p v:Value) (h:Nat) (a b:List Value) (k:List Seg→List Value→List Value→Out):Out:=match p with
 | .pointer (some ⟨g,off,none⟩)=>tyK T t fun i=>QfE v fun vs=>Qak (Nat.beq vs.length i.size) (Qak (Qj7 vs) (Qak (Nat.blt 0 i.size) (match Qci L h with
  | some ((g',.cells ⟨cs⟩ e (0,0))::r)=>QjD cs off vs fun cs'=>k (Qby L h ((g',.cells ⟨cs'⟩ e (0,0))::r)) (.map (some g)::a) (.map (some g')::b)
  | _=> .bad)))
 | _=> .bad
def nz (b:Int):Bool:=match b with | .ofNat (_+1)=>true | .negSucc _=>true | _=>false
def rdO (T:TT) (n:Nat) (kn:List (Nat×Bool)) (els:Els) (hs:List Nat) (fr:Fr) (L:List Seg) (op:Op) (dst:Option Tmp) (a b:List Value) (k:List Nat→Fr→List Value→List Value→Out):Out:=match op with
 | .load t x=>(match hs with
  | h::hs=>evK fr x fun v=>QhY T els L t v h a b fun u a b=>QbT n dst u fr fun fr=>k hs fr a b
  | []=> .bad)
 | .pick (.tmp d) x y=>QjZ kn fr d a b fun t a b=>(match t with
  | true=>evK fr x fun v=>QbT n dst v fr fun fr=>k hs fr a b
  | false=>evK fr y fun v=>QbT n dst v fr fun fr=>k hs fr a b)
 | .binOp .quo t x y yt=>(match hs with
  | _::hs=>evK fr x fun u=>evK fr y fun w=>Qen u w fun kd p q=>Qak (nz q) (QbT n dst (.int kd (kd.wrap (p.tdiv q))) fr fun fr=>k hs fr a b)
  | []=> .bad)
 | .binOp .rem t x y yt=>(match hs with
  | _::hs=>evK fr x fun u=>evK fr y fun w=>Qen u w fun kd p q=>Qak (nz q) (QbT n dst (.int kd (p.tmod q)) fr fun fr=>k hs fr a b)
  | []=> .bad)
 | op=>opV T fr op fun v=>QbT n dst v fr fun fr=>k hs fr a b
def QkV (c:Code):Bool:=match c with | .loop _=>true | _=>false
def QiW (kn:List (Nat×Bool)) (c:Code) (s:List MIt) (fr:Fr) (a b:List Value) (k:List MIt→List Value→List Value→Out):Out:=match c with
 | .skip=>k s a b
 | .seq x y=>k (.code x:: .code y::s) a b
 | .region _ ⟨ops⟩ false=>k (.ops ops ops::s) a b
 | .cond (.tmp d) x y=>QjZ kn fr d a b fun t a b=>(match t with | true=>k (.code x::s) a b | false=>k (.code y::s) a b)
 | .cond (.const (.bool true)) x _=>k (.code x::s) a b
 | .cond (.const (.bool false)) _ y=>k (.code y::s) a b
 | .block i c=>(match QkV c with | true=> .bad | false=>k (.code c:: .blk i::s) a b)
 | .exit i=>(match QcL i s with | some s'=>k s' a b | none=> .bad)
 | .scope c=>k (.code c::s) a b
 | .label _=>k s a b
 | _=> .bad
def QhS (s:List MIt) (els:Els):Els:=match s with | .pln _ _ _ _ _::_=>[] | .plp _ _ _ _ _ _ _::_=>[] | _=>els
def Qko (T:TT) (n:Nat) (kn:List (Nat×Bool)) (els:Els) (hs:List Nat) (s:List MIt) (fr:Fr) (L:List Seg) (a b:List Value)
  (k:Els→List Nat→List MIt→Fr→List Seg→List Value→List Value→Out):Out:=match s with
 | .ops all (o::r)::s=>gdO kn all fr o.guard a b
   (fun a b=>match o.op with
    | .store t x y=>(match hs with
     | h::hs=>evK fr x fun p=>evK fr y fun v=>QhE T L t p v h a b fun L a b=>QbT n o.dst undef fr fun fr=>k [] hs (.ops all r::s) fr L a b
     | []=> .bad)
    | op=>rdO T n kn els hs fr L op o.dst a b fun hs fr a b=>k els hs (.ops all r::s) fr L a b)
   (fun a b=>QbT n o.dst undef fr fun fr=>k els hs (.ops all r::s) fr L a b)
 | .ops _ []::s=>k (QhS s els) hs s fr L a b
 | .blk _::s=>k (QhS s els) hs s fr L a b
 | .code c::s=>QiW kn c s fr a b fun s a b=>k (QhS s els) hs s fr L a b
 | .pln all l ((true,i)::pl) μ0 keep::s=>(match Jx all i with
  | some o=>gdO kn all fr o.guard a b (fun a b=>rdO T n kn els hs fr keep o.op o.dst a b fun hs fr a b=>k els hs (.pln all (l.set i true) pl μ0 keep::s) fr L a b)
    (fun a b=>QbT n o.dst undef fr fun fr=>k els hs (.pln all (l.set i true) pl μ0 keep::s) fr L a b)
  | none=> .bad)
 | .pln all l ((false,i)::pl) μ0 keep::s=>(match Jx all i with
  | some o=>gdO kn all fr o.guard a b (fun _ _=> .bad) (fun a b=>QbT n o.dst undef fr fun fr=>k els hs (.pln all (l.set i true) pl μ0 keep::s) fr L a b)
  | none=> .bad)
 | .pln _ _ [] _ _::s=>k [] hs s fr L a b
 | .plp all l ((true,i)::pl) m l1 μ0 keep::s=>(match Jx all i with
  | some o=>gdO kn all fr o.guard a b (fun a b=>rdO T n kn els hs fr keep o.op o.dst a b fun hs fr a b=>k els hs (.plp all (l.set i true) pl m l1 μ0 keep::s) fr L a b)
    (fun a b=>QbT n o.dst undef fr fun fr=>k els hs (.plp all (l.set i true) pl m l1 μ0 keep::s) fr L a b)
  | none=> .bad)
 | _=> .bad
def QdO (T:TT) (n:Nat) (kn:List (Nat×Bool)):Nat→Els→List Nat→List MIt→Fr→List Seg→List Value→List Value→Out
 | 0,_,_,s,fr,L,a,b=> .ok s fr L a b
 | m+1,els,hs,s,fr,L,a,b=>Qko T n kn els hs s fr L a b (QdO T n kn m)
def cxM (s:List MIt) (μ:Gh):Gh:=match s with | .pln _ _ _ μ0 _::_=>μ0 | .plp _ _ _ _ _ μ0 _::_=>μ0 | _=>μ
def cxL (s:List MIt) (L:List Seg):List Seg:=match s with | .pln _ _ _ _ keep::_=>keep | .plp _ _ _ _ _ _ keep::_=>keep | _=>L
theorem QdY {μ:Gh} {L:List Seg} {els:Els} (h: ∀p∈els,Zo μ L p.1 p.2) (s:List MIt): ∀p∈QhS s els,Zo (cxM s μ) (cxL s L) p.1 p.2:=by
 cases s with
 | nil=>exact h
 | cons i s=>cases i<;>first | exact h | (intro p hp;cases hp)
def QeZ (μ:Gh) (L:List Seg) (els:Els):Prop:= ∀p∈els,Zo μ L p.1 p.2
section
variable {fr:Fr} {o:Out} {a b:List Value}
theorem Jg {N:NN} {dst:Option Tmp} {v:Value} {k:Fr→Out} (h:QbT N.n dst v fr k=o) (ho:o≠ .bad): ∃fr',k fr'=o∧ ∀kk:Fr→Prop,kk fr'→Zv N dst v fr kk:=by
 cases dst with
 | none=>exact ⟨fr,h,fun kk hk=>hk⟩
 | some d=>obtain ⟨h1,h2⟩:=Y4 h ho;exact ⟨_,h2,fun kk hk=>Yc h1 hk⟩
theorem Qe4 {kn:List (Nat×Bool)} {d:Nat} {k:Bool→List Value→List Value→Out} (h:QjZ kn fr d a b k=o) (ho:o≠ .bad): ∃z t,JZ fr d=some (.bool z)∧k t (.bool z::a) (.bool t::b)=o:=by
 unfold QjZ at h
 split at h
 ·split at h
  ·exact ⟨_,_,by assumption,h⟩
  ·exact absurd h.symm ho
 ·exact absurd h.symm ho
theorem JU {z t:Bool} (h:Value.bool z::a= .bool t::b):z=t∧a=b:=by
 injection h with h1 h2;injection h1 with h1;exact ⟨h1,h2⟩
theorem QcE {kn:List (Nat×Bool)} {all:List Oper} {g:Option (Nat×Bool)} {yes no:List Value→List Value→Out} (h:gdO kn all fr g a b yes no=o) (ho:o≠ .bad) :
  ∃a' b',(a'=b'→a=b)∧((yes a' b'=o∧ ∀y n:Prop,a'=b'→y→ZV all fr g y n)∨(no a' b'=o∧ ∀y n:Prop,a'=b'→n→ZV all fr g y n)):=by
 unfold gdO at h
 split at h
 ·exact ⟨a,b,id,.inl ⟨h,fun y n _ hy=>hy⟩⟩
 ·rename_i j w
  split at h
  ·rename_i d hd
   split at h
   ·rename_i z hz
    split at h
    ·refine ⟨.bool z::a,.bool true::b,fun e=>(JU e).2,?_⟩;cases w with
     | true=>exact .inl ⟨h,fun y n e hy=>by simp only[ZV,hd,hz,(JU e).1];exact hy⟩
     | false=>exact .inr ⟨h,fun y n e hy=>by simp only[ZV,hd,hz,(JU e).1];exact hy⟩
    ·refine ⟨.bool z::a,.bool false::b,fun e=>(JU e).2,?_⟩;cases w with
     | true=>exact .inr ⟨h,fun y n e hy=>by simp only[ZV,hd,hz,(JU e).1];exact hy⟩
     | false=>exact .inl ⟨h,fun y n e hy=>by simp only[ZV,hd,hz,(JU e).1];exact hy⟩
    ·exact absurd h.symm ho
   ·rename_i hz
    exact ⟨a,b,id,.inr ⟨h,fun y n _ hy=>by simp only[ZV,hd,hz];exact hy⟩⟩
   ·exact absurd h.symm ho
  ·exact absurd h.symm ho
theorem QcI: ∀(L:List Seg) (i:Nat),Qci L i=L[i]?
 | [],i=>by simp[Qci]
 | s::r,0=>by simp[Qci]
 | s::r,i+1=>by simp[Qci,QcI r i]
theorem QcQ: ∀(L:List Seg) (i:Nat) (t:Seg),Qby L i t=L.set i t
 | [],i,t=>by simp[Qby]
 | s::r,0,t=>by simp[Qby]
 | s::r,i+1,t=>by simp[Qby,QcQ r i t]
theorem QgK: ∀{els:Els} {i:Nat} {p:Addr×List Value},Qj6 els i=some p→p∈els
 | [],i,p,h=>by cases h
 | s::r,0,p,h=>by simp only[Qj6,Option.some.injEq] at h;simp[h]
 | s::r,i+1,p,h=>by simp[QgK (els:=r) h]
variable {T:TT} {P:Program} {μ:Gh} {L:List Seg}
theorem QeJ {i:TyI} {off:Nat} {cs:List Value} {k:Value→Out} (h:Qh6 i off cs k=o) (ho:o≠ .bad) :
  ∃u,k u=o∧ ∀{t:TypeId} {x:Operand} {ad:Addr} (kk:Value→Prop),evV fr x=some (.pointer (some ad))→T t=some i→(∀j v,(cs.drop off)[j]? =some v→ZW μ L (ad.add j) v)→kk u→vcR P T (.load t x) fr μ L kk:=by
 unfold Qh6 at h
 split at h
 ·rename_i hag
  have h1:=Qcc h ho;obtain ⟨h2,h3⟩:=Qcp h1 ho;refine ⟨_,h2,fun kk hx hT hc hk=>Wb hx hT hag rfl (Ex.mk _ ⟨h3,fun j v hj=>hc j v ?_⟩ hk)⟩
  rw[List.getElem?_take] at hj
  split at hj
  ·exact hj
  ·cases hj
 ·rename_i hag
  obtain ⟨v,h1,h2⟩:=QbM h ho;refine ⟨v,h2,fun kk hx hT hc hk=>Zq hx hT hag (Ex.mk v ?_ hk)⟩;have:=hc 0 v (by rw[List.getElem?_drop];simpa using h1)
  rwa [Addr.add_zero'] at this
theorem QfV {g g':Nat} (h:Value.map (some g)::a= .map (some g')::b):g=g'∧a=b:=by
 injection h with h1 h2;injection h1 with h1;injection h1 with h1;exact ⟨h1,h2⟩
theorem Qf1 {g g':Addr} (h:Value.pointer (some g)::a= .pointer (some g')::b):g=g'∧a=b:=by
 injection h with h1 h2;injection h1 with h1;injection h1 with h1;exact ⟨h1,h2⟩
theorem Qet {els:Els} {t:TypeId} {v:Value} {h:Nat} {x:Operand} {k:Value→List Value→List Value→Out} (hr:QhY T els L t v h a b k=o) (ho:o≠ .bad) (hx:evV fr x=some v) (hel:QeZ μ L els) :
  ∃u a' b',(a'=b'→a=b)∧k u a' b'=o∧ ∀kk:Value→Prop,a'=b'→kk u→vcR P T (.load t x) fr μ L kk:=by
 unfold QhY at hr
 split at hr
 ·rename_i ad
  obtain ⟨i,hT,hr⟩:=JN hr ho
  split at hr
  ·split at hr
   ·rename_i g off
    split at hr
    ·rename_i g' cs e f r hL
     rw[QcI] at hL
     obtain ⟨u,h1,h2⟩:=QeJ (fr:=fr) (T:=T) (P:=P) (μ:=μ) (L:=L) hr ho;refine ⟨u,_,_,fun e=>(QfV e).2,h1,fun kk e hk=>h2 kk hx hT (fun j v hj=> ?_) hk⟩;obtain ⟨rfl,_⟩:=QfV e
     rw[Wm]
     refine ZW.seg h 0 hL rfl ?_
     rw[List.getElem?_drop] at hj
     exact hj
    ·exact absurd hr.symm ho
   ·exact absurd hr.symm ho
  ·split at hr
   ·rename_i ad' cs he
    obtain ⟨u,h1,h2⟩:=QeJ (fr:=fr) (T:=T) (P:=P) (μ:=μ) (L:=L) hr ho;have hc:Zo μ L ad' cs:=hel _ (QgK he)
    split at h1
    ·rename_i hz
     have hz:=Nat.eq_of_beq_eq_true hz;refine ⟨u,_,_,fun e=>(Qf1 e).2,h1,fun kk e hk=>h2 kk hx hT (fun j v hj=> ?_) hk⟩;obtain ⟨rfl,_⟩:=Qf1 e
     rw[hz] at hj
     exact hc j v (by simpa using hj)
    ·refine ⟨u,_,_,fun e=>(Qf1 e).2,h1,fun kk e hk=>h2 kk hx hT (fun j v hj=> ?_) hk⟩;obtain ⟨rfl,_⟩:=Qf1 e
     rw[Addr.add_add']
     refine hc _ v ?_
     rw[List.getElem?_drop] at hj
     exact hj
   ·exact absurd hr.symm ho
 ·exact absurd hr.symm ho
theorem Qfl: ∀{vs:List Value},Qj7 vs=true→vs.all (·.oneCell')=true
 | [],_=>rfl
 | v::r,h=>by
  unfold Qj7 at h
  split at h
  ·rename_i h1;simp only[List.all_cons,h1,Qfl h,Bool.and_self]
  ·cases h
theorem QgW {t:TypeId} {p v:Value} {h:Nat} {x y:Operand} {ty:TypeId} {k:List Seg→List Value→List Value→Out} (hr:QhE T L t p v h a b k=o) (ho:o≠ .bad) (hx:evV fr x=some p) (hy:evV fr y=some v) :
  ∃L' a' b',(a'=b'→a=b)∧k L' a' b'=o∧ ∀kk:Value→Gh→List Seg→Prop,a'=b'→kk undef μ L'→vcO P T (.store t x y) ty fr μ L kk:=by
 unfold QhE at hr
 split at hr
 ·rename_i g off
  obtain ⟨i,hT,hr⟩:=JN hr ho;have hr:=Qdk hr ho;obtain ⟨h1,hr⟩:=Y4 hr ho;obtain ⟨h2,hr⟩:=Y4 hr ho;obtain ⟨h3,hr⟩:=Y4 hr ho;have h1:=Nat.eq_of_beq_eq_true h1;have h3:0<i.size:=by simpa [Nat.blt_eq] using h3
  split at hr
  ·rename_i g' cs e r hL
   rw[QcI] at hL
   obtain ⟨h4,h5⟩:=QbR hr ho;refine ⟨_,_,_,fun e=>(QfV e).2,h4,fun kk e hk=> ?_⟩;obtain ⟨rfl,_⟩:=QfV e;refine Q5 hx hy hT (by simpa using h1) (Qfl h2) rfl (Ex.mk _ (QaG.seg h 0 hL rfl ?_) ?_)
   ·have:=h5 (by intro e;rw[e] at h1;simp at h1;omega)
    simpa using this
   ·rw[QcQ] at hk
    exact hk
  ·exact absurd hr.symm ho
 ·exact absurd hr.symm ho
theorem QhZ {q:Int} (h:nz q=true):q≠0:=by
 cases q with
 | ofNat n =>
  cases n with
  | zero=>cases h
  | succ n=>exact fun e=>Nat.succ_ne_zero n (Int.ofNat.inj e)
 | negSucc n=>intro e;cases e
theorem Qez {N:NN} {kn:List (Nat×Bool)} {els:Els} {hs:List Nat} {op:Op} {dst:Option Tmp} {k:List Nat→Fr→List Value→List Value→Out} (hr:rdO T N.n kn els hs fr L op dst a b k=o) (ho:o≠ .bad) (hel:QeZ μ L els) :
  ∃hs' fr' a' b',(a'=b'→a=b)∧k hs' fr' a' b'=o∧QgA op=true∧ ∀kk:Fr→Prop,a'=b'→kk fr'→vcR P T op fr μ L fun v=>Zv N dst v fr kk:=by
 unfold rdO at hr
 split at hr
 ·split at hr
  ·obtain ⟨v,h1,hr⟩:=YW hr ho;obtain ⟨u,a',b',h2,hr,h3⟩:=Qet (P:=P) (μ:=μ) hr ho h1 hel;obtain ⟨fr',h4,h5⟩:=Jg hr ho;exact ⟨_,fr',a',b',h2,h4,rfl,fun kk e hk=>h3 _ e (h5 kk hk)⟩
  ·exact absurd hr.symm ho
 ·obtain ⟨z,t,hz,hr⟩:=Qe4 hr ho;cases t with
  | true =>
   obtain ⟨v,h1,hr⟩:=YW hr ho;obtain ⟨fr',h4,h5⟩:=Jg hr ho;exact ⟨_,fr',_,_,fun e=>(JU e).2,h4,rfl,fun kk e hk=>QiL (by rw[←(JU e).1];exact hz) h1 (h5 kk hk)⟩
  | false =>
   obtain ⟨v,h1,hr⟩:=YW hr ho;obtain ⟨fr',h4,h5⟩:=Jg hr ho;exact ⟨_,fr',_,_,fun e=>(JU e).2,h4,rfl,fun kk e hk=>QiK (by rw[←(JU e).1];exact hz) h1 (h5 kk hk)⟩
 ·split at hr
  ·obtain ⟨u,h1,hr⟩:=YW hr ho;obtain ⟨w,h2,hr⟩:=YW hr ho;obtain ⟨kd,p,q,e1_,e2_,hr2⟩:=Qc4 hr ho;subst e1_ e2_;obtain ⟨h3,hr3⟩:=Y4 hr2 ho;obtain ⟨fr',h4,h5⟩:=Jg hr3 ho;exact ⟨_,fr',_,_,id,h4,rfl,fun kk e hk=>Qlr h1 h2 ⟨QhZ h3,h5 kk hk⟩⟩
  ·exact absurd hr.symm ho
 ·split at hr
  ·obtain ⟨u,h1,hr⟩:=YW hr ho;obtain ⟨w,h2,hr⟩:=YW hr ho;obtain ⟨kd,p,q,e1_,e2_,hr2⟩:=Qc4 hr ho;subst e1_ e2_;obtain ⟨h3,hr3⟩:=Y4 hr2 ho;obtain ⟨fr',h4,h5⟩:=Jg hr3 ho;exact ⟨_,fr',_,_,id,h4,rfl,fun kk e hk=>Qls h1 h2 ⟨QhZ h3,h5 kk hk⟩⟩
  ·exact absurd hr.symm ho
 ·obtain ⟨v,h1,h2,h3⟩:=Qjc (P:=P) (μ:=μ) (L:=L) hr ho;obtain ⟨fr',h4,h5⟩:=Jg h1 ho;exact ⟨_,fr',_,_,id,h4,h2,fun kk _ hk=>h3 _ (h5 kk hk)⟩
theorem Qha {N:NN} {R:QW} {kn:List (Nat×Bool)} (hT:TOk P T) {c:Code} {s:List MIt} {k:List MIt→List Value→List Value→Out} (hr:QiW kn c s fr a b k=o) (ho:o≠ .bad) :
  ∃s' a' b',(a'=b'→a=b)∧k s' a' b'=o∧(a'=b'→KS P N R s' fr μ L→KS P N R (.code c::s) fr μ L):=by
 unfold QiW at hr
 split at hr
 ·exact ⟨_,_,_,id,hr,fun _ h=>WP.skip h⟩
 ·exact ⟨_,_,_,id,hr,fun _ h=>WP.seq h⟩
 ·exact ⟨_,_,_,id,hr,fun _ h=>WP.regionS h⟩
 ·obtain ⟨z,t,hz,hr⟩:=Qe4 hr ho;cases t with
  | true=>exact ⟨_,_,_,fun e=>(JU e).2,hr,fun e h=>Qcw (by rw[←(JU e).1];exact hz) h⟩
  | false=>exact ⟨_,_,_,fun e=>(JU e).2,hr,fun e h=>Qcv (by rw[←(JU e).1];exact hz) h⟩
 ·exact ⟨_,_,_,id,hr,fun _ h=>Qcw rfl h⟩
 ·exact ⟨_,_,_,id,hr,fun _ h=>Qcv rfl h⟩
 ·split at hr
  ·exact absurd hr.symm ho
  ·exact ⟨_,_,_,id,hr,fun _ h=>WP.block h⟩
 ·split at hr
  ·exact ⟨_,_,_,id,hr,fun _ h=>WP.exit (J7 (by assumption) h)⟩
  ·exact absurd hr.symm ho
 ·exact ⟨_,_,_,id,hr,fun _ h=>WP.scope h⟩
 ·exact ⟨_,_,_,id,hr,fun _ h=>WP.label h⟩
 ·exact absurd hr.symm ho
theorem Qfn {N:NN} {R:QW} {kn:List (Nat×Bool)} (hT:TOk P T) {s':List MIt} {fr':Fr} {L':List Seg} {e1 e2:List Value}: ∀(m:Nat) (els:Els) (hs:List Nat) (s:List MIt) (fr:Fr) (L:List Seg) (a b:List Value),
  QdO T N.n kn m els hs s fr L a b= .ok s' fr' L' e1 e2→e1=e2→QeZ (cxM s μ) (cxL s L) els→a=b∧(KS P N R s' fr' μ L'→KS P N R s fr μ L)
 | 0,els,hs,s,fr,L,a,b,h,e,_=>by
  injection h with h1 h2 h3 h4 h5
  subst h1 h2 h3 h4 h5;exact ⟨e,id⟩
 | m+1,els,hs,s,fr,L,a,b,h,e,hel=>by
  have ih:=fun els hs s fr L a b (h:QdO T N.n kn m els hs s fr L a b= .ok s' fr' L' e1 e2)=>Qfn (R:=R) hT m els hs s fr L a b h e;have ho:Out.ok s' fr' L' e1 e2≠ .bad:=by simp
  simp only[QdO] at h
  unfold Qko at h
  split at h
  ·rename_i all op r s
   obtain ⟨a',b',h1,h2⟩:=QcE h ho;rcases h2 with ⟨h2,h3⟩ | ⟨h2,h3⟩
   ·split at h2
    ·rename_i t x y hop
     split at h2
     ·obtain ⟨p,h4,h2⟩:=YW h2 ho;obtain ⟨v,h5,h2⟩:=YW h2 ho;obtain ⟨L2,a2,b2,h6,h2,h7⟩:=QgW (P:=P) (μ:=μ) (ty:=op.type) h2 ho h4 h5;obtain ⟨fr2,h8,h9⟩:=Jg h2 ho;obtain ⟨h10,h11⟩:=ih _ _ _ _ _ _ _ h8 (fun p hp=>by cases hp);refine ⟨h1 (h6 h10),fun hk=> ?_⟩;refine Wl.cons hT (h3 _ _ (h6 h10) ?_)
      rw[hop]
      exact h7 _ h10 (h9 _ (h11 hk))
     ·exact absurd h2.symm ho
    ·obtain ⟨hs2,fr2,a2,b2,h4,h5,h6,h7⟩:=Qez (P:=P) (μ:=μ) h2 ho hel;obtain ⟨h8,h9⟩:=ih _ _ _ _ _ _ _ h5 hel;exact ⟨h1 (h4 h8),fun hk=>Wl.cons hT (h3 _ _ (h4 h8) (VG h6 (h7 _ h8 (h9 hk))))⟩
   ·obtain ⟨fr2,h4,h5⟩:=Jg h2 ho;obtain ⟨h6,h7⟩:=ih _ _ _ _ _ _ _ h4 hel;exact ⟨h1 h6,fun hk=>Wl.cons hT (h3 _ _ h6 (h5 _ (h7 hk)))⟩
  ·obtain ⟨h1,h2⟩:=ih _ _ _ _ _ _ _ h (QdY hel _);exact ⟨h1,fun hk=>Wl.nil (h2 hk)⟩
  ·obtain ⟨h1,h2⟩:=ih _ _ _ _ _ _ _ h (QdY hel _);exact ⟨h1,h2⟩
  ·obtain ⟨s2,a',b',h1,h2,h3⟩:=Qha (R:=R) (μ:=μ) (L:=L) hT h ho;obtain ⟨h4,h5⟩:=ih _ _ _ _ _ _ _ h2 (QdY hel _);exact ⟨h1 h4,fun hk=>h3 h4 (h5 hk)⟩
  ·rename_i all l i pl μ0 keep s
   split at h
   ·rename_i op hi
    obtain ⟨a',b',h1,h2⟩:=QcE h ho;rcases h2 with ⟨h2,h3⟩ | ⟨h2,h3⟩
    ·obtain ⟨hs2,fr2,a2,b2,h4,h5,h6,h7⟩:=Qez (P:=P) (μ:=μ0) h2 ho hel;obtain ⟨h8,h9⟩:=ih _ _ _ _ _ _ _ h5 hel;exact ⟨h1 (h4 h8),fun hk=>Qa8.t hT hi (h3 _ _ (h4 h8) (h7 _ h8 (h9 hk)))⟩
    ·obtain ⟨fr2,h4,h5⟩:=Jg h2 ho;obtain ⟨h6,h7⟩:=ih _ _ _ _ _ _ _ h4 hel;exact ⟨h1 h6,fun hk=>Qa8.t hT hi (h3 _ _ h6 (h5 _ (h7 hk)))⟩
   ·exact absurd h.symm ho
  ·rename_i all l i pl μ0 keep s
   split at h
   ·rename_i op hi
    obtain ⟨a',b',h1,h2⟩:=QcE h ho;rcases h2 with ⟨h2,h3⟩ | ⟨h2,h3⟩
    ·exact absurd h2.symm ho
    ·obtain ⟨fr2,h4,h5⟩:=Jg h2 ho;obtain ⟨h6,h7⟩:=ih _ _ _ _ _ _ _ h4 hel;exact ⟨h1 h6,fun hk=>Qa8.f hT hi (h3 _ _ h6 (h5 _ (h7 hk)))⟩
   ·exact absurd h.symm ho
  ·obtain ⟨h1,h2⟩:=ih _ _ _ _ _ _ _ h (fun p hp=>by cases hp);exact ⟨h1,fun hk=>Qa8.nil (h2 hk)⟩
  ·rename_i all l i pl m2 l1 μ0 keep s
   split at h
   ·rename_i op hi
    obtain ⟨a',b',h1,h2⟩:=QcE h ho;rcases h2 with ⟨h2,h3⟩ | ⟨h2,h3⟩
    ·obtain ⟨hs2,fr2,a2,b2,h4,h5,h6,h7⟩:=Qez (P:=P) (μ:=μ0) h2 ho hel;obtain ⟨h8,h9⟩:=ih _ _ _ _ _ _ _ h5 hel;exact ⟨h1 (h4 h8),fun hk=>QcV.t hT hi (h3 _ _ (h4 h8) (h7 _ h8 (h9 hk)))⟩
    ·obtain ⟨fr2,h4,h5⟩:=Jg h2 ho;obtain ⟨h6,h7⟩:=ih _ _ _ _ _ _ _ h4 hel;exact ⟨h1 h6,fun hk=>QcV.t hT hi (h3 _ _ h6 (h5 _ (h7 hk)))⟩
   ·exact absurd h.symm ho
  ·exact absurd h.symm ho
end
end Go.Proofs.YtilbengnjgglhaaGreat
namespace Go.Proofs.YtilbengnjgglhaaGreat
open Go.RowKit
set_option linter.unusedSimpArgs false
set_option linter.unusedVariables false
section
variable {N:NN} {R:QW} {fr:Fr} {μ:Gh} {L:List Seg} {s s':List MIt} {fr':Fr} {L':List Seg} {e:List Value} {dst:Option Tmp} {v:Value}
theorem Z1 {a:Addr} {cs:List Value} (h:Zo μ L a cs):QeZ μ L [(a,cs)]:=fun p hp=>by simp only[List.mem_singleton] at hp;subst hp;exact h
def knF:List Nat→List (Nat×Bool)
 | []=>[]
 | x::r=>(x,false)::knF r
def knT:List Nat→List Nat→List (Nat×Bool)
 | [],b=>knF b
 | x::r,b=>(x,true)::knT r b
theorem G3 (m:Nat) (ka kb hs:List Nat) {els:Els} (hel:QeZ (cxM s μ) (cxL s L) els) (h:QdO Tt N.n (knT ka kb) m els hs s fr L [] []= .ok s' fr' L' e e) (k:KS Tryz.prog N R s' fr' μ L'):KS Tryz.prog N R s fr μ L :=
 (Qfn QU m els hs s fr L [] [] h rfl hel).2 k
theorem G2 (m:Nat) (ka kb hs:List Nat) (h:QdO Tt N.n (knT ka kb) m [] hs s fr L [] []= .ok s' fr' L' e e) (k:KS Tryz.prog N R s' fr' μ L'):KS Tryz.prog N R s fr μ L:=G3 m ka kb hs (fun p hp=>by cases hp) h k
theorem G1 (m:Nat) (hs:List Nat) (h:QdO Tt N.n [] m [] hs s fr L [] []= .ok s' fr' L' e e) (k:KS Tryz.prog N R s' fr' μ L'):KS Tryz.prog N R s fr μ L:=G2 m [] [] hs h k
theorem G0 (m:Nat) (h:QdO Tt N.n [] m [] [] s fr L [] []= .ok s' fr' L' e e) (k:KS Tryz.prog N R s' fr' μ L'):KS Tryz.prog N R s fr μ L:=G2 m [] [] [] h k
theorem Q3 (m:Nat) (ka kb hs:List Nat) {els:Els} (hel:QeZ (cxM s μ) (cxL s L) els) (h:QbT N.n dst v fr (fun f=>QdO Tt N.n (knT ka kb) m els hs s f L [] [])= .ok s' fr' L' e e) (k:KS Tryz.prog N R s' fr' μ L'):Zv N dst v fr fun f=>KS Tryz.prog N R s f μ L:=by
 obtain ⟨f,h1,h2⟩:=Jg h (by simp);exact h2 _ (G3 m ka kb hs hel h1 k)
theorem Q2 (m:Nat) (ka kb hs:List Nat) (h:QbT N.n dst v fr (fun f=>QdO Tt N.n (knT ka kb) m [] hs s f L [] [])= .ok s' fr' L' e e) (k:KS Tryz.prog N R s' fr' μ L'):Zv N dst v fr fun f=>KS Tryz.prog N R s f μ L:=Q3 m ka kb hs (fun p hp=>by cases hp) h k
theorem Q1 (m:Nat) (hs:List Nat) (h:QbT N.n dst v fr (fun f=>QdO Tt N.n [] m [] hs s f L [] [])= .ok s' fr' L' e e) (k:KS Tryz.prog N R s' fr' μ L'):Zv N dst v fr fun f=>KS Tryz.prog N R s f μ L:=Q2 m [] [] hs h k
theorem Q0 (m:Nat) (h:QbT N.n dst v fr (fun f=>QdO Tt N.n [] m [] [] s f L [] [])= .ok s' fr' L' e e) (k:KS Tryz.prog N R s' fr' μ L'):Zv N dst v fr fun f=>KS Tryz.prog N R s f μ L:=Q2 m [] [] [] h k
def gdB (all:List Oper) (fr:Fr) (g:Option (Nat×Bool)):Bool:=match g with
 | none=>true
 | some (j,w)=>match Qdp all j with
  | some d=>(match JZ fr d with | some (.bool true)=>w | some (.bool false)=> !w | _=>false)
  | none=>false
theorem VJ {all:List Oper} {g:Option (Nat×Bool)} (h:gdB all fr g=true) {y n:Prop} (hy:y):ZV all fr g y n:=by
 unfold gdB at h
 split at h
 ·exact hy
 ·rename_i j w
  split at h
  ·rename_i d hd
   split at h
   ·rename_i hl;subst h;simp only[ZV,hd,hl];exact hy
   ·rename_i hl;have:w=false:=by simpa using h
    subst this;simp only[ZV,hd,hl];exact hy
   ·cases h
  ·cases h
def hdO (s:List MIt) (fr:Fr):Option (Bool×Oper×List MIt):=match s with
 | .ops all (o::r)::s=>(match gdB all fr o.guard with | true=>some (true,o,.ops all r::s) | false=>none)
 | .pln all l ((b,i)::pl) μ0 keep::s=>(match Jx all i with
  | some o=>(match gdB all fr o.guard with | true=>some (b,o,.pln all (l.set i true) pl μ0 keep::s) | false=>none)
  | none=>none)
 | .plp all l ((b,i)::pl) n l1 μ0 keep::s=>(match Jx all i with
  | some o=>(match gdB all fr o.guard with | true=>some (b,o,.plp all (l.set i true) pl n l1 μ0 keep::s) | false=>none)
  | none=>none)
 | _=>none
abbrev kpt (s:List MIt) (L:List Seg) (X:Prop):Prop:=match s with
 | .pln _ _ _ _ keep::_=>QI keep L∧X
 | .plp _ _ _ _ _ _ keep::_=>QI keep L∧X
 | _=>X
theorem Rdo {o:Oper} (h:hdO s fr=some (true,o,s')) (hr:QgA o.op=true) (k:vcR Tryz.prog Tt o.op fr (cxM s μ) (cxL s L) fun v=>Zv N o.dst v fr fun f=>KS Tryz.prog N R s' f μ L):KS Tryz.prog N R s fr μ L:=by
 unfold hdO at h
 split at h
 ·split at h
  ·rename_i hg
   simp only[Option.some.injEq,Prod.mk.injEq] at h
   obtain ⟨_,rfl,rfl⟩:=h;exact Wl.cons QU (VJ hg (VG hr k))
  ·cases h
 ·split at h
  ·rename_i ho
   split at h
   ·rename_i hg
    simp only[Option.some.injEq,Prod.mk.injEq] at h
    obtain ⟨rfl,rfl,rfl⟩:=h;exact Qa8.t QU ho (VJ hg k)
   ·cases h
  ·cases h
 ·split at h
  ·rename_i ho
   split at h
   ·rename_i hg
    simp only[Option.some.injEq,Prod.mk.injEq] at h
    obtain ⟨rfl,rfl,rfl⟩:=h;exact QcV.t QU ho (VJ hg k)
   ·cases h
  ·cases h
 ·cases h
def hdS (s:List MIt) (fr:Fr):Option (Oper×List MIt):=match s with
 | .ops all (o::r)::s=>(match gdB all fr o.guard with | true=>some (o,.ops all r::s) | false=>none)
 | .pln all l ((false,i)::pl) μ0 keep::s=>(match Jx all i with
  | some o=>(match gdB all fr o.guard with | true=>some (o,.pln all (l.set i true) pl μ0 keep::s) | false=>none)
  | none=>none)
 | .plp all l ((false,i)::pl) n l1 μ0 keep::s=>(match Jx all i with
  | some o=>(match gdB all fr o.guard with | true=>some (o,.plp all (l.set i true) pl n l1 μ0 keep::s) | false=>none)
  | none=>none)
 | _=>none
theorem So {o:Oper} (h:hdS s fr=some (o,s')) (k:vcO Tryz.prog Tt o.op o.type fr μ L fun v μ' L'=>kpt s L' (Zv N o.dst v fr fun f=>KS Tryz.prog N R s' f μ' L')):KS Tryz.prog N R s fr μ L:=by
 unfold hdS at h
 split at h
 ·split at h
  ·rename_i hg
   simp only[Option.some.injEq,Prod.mk.injEq] at h
   obtain ⟨rfl,rfl⟩:=h;exact Wl.cons QU (VJ hg k)
  ·cases h
 ·split at h
  ·rename_i ho
   split at h
   ·rename_i hg
    simp only[Option.some.injEq,Prod.mk.injEq] at h
    obtain ⟨rfl,rfl⟩:=h;exact Qa8.f QU ho (VJ hg k)
   ·cases h
  ·cases h
 ·split at h
  ·rename_i ho
   split at h
   ·rename_i hg
    simp only[Option.some.injEq,Prod.mk.injEq] at h
    obtain ⟨rfl,rfl⟩:=h;exact QcV.f QU ho (VJ hg k)
   ·cases h
  ·cases h
 ·cases h
def Qkg:List MIt→Bool
 | []=>true
 | .code _::_=>true
 | .ops _ _::_=>true
 | .pln _ _ _ _ _::_=>true
 | .plp _ _ _ _ _ _ _::_=>true
 | .blk _::s=>Qkg s
 | .cut _::_=>false
theorem KS.frm {F:Fr}: ∀{s:List MIt},Qkg s=true→Qg F fr→KS Tryz.prog N R s F μ L→KS Tryz.prog N R s fr μ L
 | [],_,hF,h=>fun a w ha hw=>h a w (ha.sub hF) hw
 | .code _::_,_,hF,h=>fun a w ha hw=>h a w (ha.sub hF) hw
 | .ops _ _::_,_,hF,h=>fun a w Q ha hw hQ=>h a w Q (ha.sub hF) hw hQ
 | .pln _ _ _ _ _::_,_,hF,h=>fun h1 h2 h3 h4 a w Q ha hw hQ=>h h1 h2 h3 h4 a w Q (ha.sub hF) hw hQ
 | .plp _ _ _ _ _ _ _::_,_,hF,h=>fun h1 h2 h3 h4 a w Q ha hw hQ=>h h1 h2 h3 h4 a w Q (ha.sub hF) hw hQ
 | .blk _::s,hb,hF,h=>KS.frm (s:=s) hb hF h
 | .cut _::_,hb,_,_=>by cases hb
def QgO:List MIt→Bool
 | []=>true
 | .code _::_=>true
 | .ops _ _::_=>true
 | .blk _::s=>QgO s
 | _=>false
theorem KS.upd: ∀{s:List MIt},QgO s=true→Upd μ L (fun μ' L'=>KS Tryz.prog N R s fr μ' L')→KS Tryz.prog N R s fr μ L
 | [],_,h=>fun a w ha hw=>by
  obtain ⟨μ1,L1,h1,h2,h3⟩:=h w hw;obtain ⟨f,μ2,L2,h4,h5,h6,h7⟩:=h3 a w ha h2;exact ⟨f,μ2,L2,h4,h1.trans h5,h6,h7⟩
 | .code _::_,_,h=>WP.upd h
 | .ops _ _::_,_,h=>fun a w Q ha hw hQ=>by
  obtain ⟨μ1,L1,h1,h2,h3⟩:=h w hw;exact h3 a w Q ha h2 fun fr2 μ2 L2 a2 w2 hm=>hQ fr2 μ2 L2 a2 w2 (h1.trans hm)
 | .blk _::s,hb,h=>KS.upd (s:=s) hb h
 | .pln _ _ _ _ _::_,hb,_=>by cases hb
 | .plp _ _ _ _ _ _ _::_,hb,_=>by cases hb
 | .cut _::_,hb,_=>by cases hb
theorem KS.seg {L2:List Seg} (hs:Qc L2 L) (hb:QgO s=true) (h:KS Tryz.prog N R s fr μ L2):KS Tryz.prog N R s fr μ L:=KS.upd hb fun w hw=>⟨μ,L2,Gh.le.refl _,hs w μ hw,h⟩
theorem Qh4: ∀{s:List MIt},QgO s=true→Qkg s=true
 | [],_=>rfl
 | .code _::_,_=>rfl
 | .ops _ _::_,_=>rfl
 | .blk _::s,h=>Qh4 (s:=s) h
theorem Att {F:Fr} {L2:List Seg} (hF:Qg F fr) (hs:Qc L2 L) (hb:QgO s=true) (h:KS Tryz.prog N R s F μ L2):KS Tryz.prog N R s fr μ L:=KS.frm (Qh4 hb) hF (KS.seg hs hb h)
theorem QgC {d:Nat} {u:Value} (hl:JZ fr d=some u):Qg ((d,u)::fr) fr:=fun t v hv=>by
 rw[Qap] at hv
 split at hv
 ·rename_i hd;simp only at hd;subst hd;rw[hl];exact hv
 ·exact hv
theorem Br {β:Type} {z:Bool} {A B r:Option β} (h:(bif z then A else B)=r) (d:Nat) (hl:JZ fr d=some (.bool z)) (hb:Qkg s=true)
  (ht:z=true→A=r→KS Tryz.prog N R s ((d,.bool true)::fr) μ L) (hf:z=false→B=r→KS Tryz.prog N R s ((d,.bool false)::fr) μ L):KS Tryz.prog N R s fr μ L:=by
 cases z with
 | true=>exact KS.frm hb (QgC hl) (ht rfl h)
 | false=>exact KS.frm hb (QgC hl) (hf rfl h)
end
end Go.Proofs.YtilbengnjgglhaaGreat
namespace Go.Proofs.YtilbengnjgglhaaGreat
open Go.RowKit
set_option linter.unusedSimpArgs false
set_option linter.unusedVariables false
def ixs:List Nat:=[0,1,2,3,4,5,6,7,8,9,10,11,12,13,14,15]
def Qgi:List Nat→List Value→(Fr→Out)→Out
 | _,[],k=>k []
 | [],_::_,_=> .bad
 | i::is,v::r,k=>Qgi is r fun f=>k ((i,v)::f)
def nfF:Fr→(Fr→Out)→Out
 | [],k=>k []
 | (t,v)::r,k=>nfF r fun f=>k ((t,v)::f)
def nfL:Nat→List Seg→(List Seg→Out)→Out
 | 0,L,k=>k L
 | _+1,[],k=>k []
 | n+1,s::r,k=>nfL n r fun l=>k (s::l)
def Qj0 (vs:List Value) (a b:List Value):Out:=match vs with
 | [v]=> .ok [] [(0,v)] [] a b
 | vs=> .ok [] [(0,.tuple ⟨vs⟩)] [] a b
def Qhv (T:TT) (L:List Seg) (fr:Fr):List ResultVar→List Nat→List Value→List Value→(List Value→List Value→List Value→Out)→Out
 | [],_,a,b,k=>k [] a b
 | .tmp t::r,hs,a,b,k=>(match JZ fr t with | some v=>Qhv T L fr r hs a b fun vs a b=>k (v::vs) a b | none=> .bad)
 | .cell p t::r,hs,a,b,k=>(match JZ fr p,hs with | some v,h::hs=>QhY T [] L t v h a b fun u a b=>Qhv T L fr r hs a b fun vs a b=>k (u::vs) a b | _,_=> .bad)
theorem QcX {o:Out} (ho:o≠ .bad): ∀(m i:Nat) (args:List Value) (k:Fr→Out),Qgi (List.range' i m) args k=o→k ((args.zipIdx i).map fun p=>(p.2,p.1))=o
 | _,i,[],k,h=>by cases ‹Nat› <;>simpa [Qgi] using h
 | 0,i,v::r,k,h=>absurd h.symm ho
 | m+1,i,v::r,k,h=>by
  have:=QcX ho m (i+1) r _ (by simpa [List.range'_succ,Qgi] using h)
  simpa using this
theorem QgI: ∀(F:Fr) (k:Fr→Out),nfF F k=k F
 | [],k=>rfl
 | (t,v)::r,k=>QgI r _
theorem J6: ∀(n:Nat) (L:List Seg) (k:List Seg→Out),nfL n L k=k L
 | 0,L,k=>by cases L<;>rfl
 | n+1,[],k=>rfl
 | n+1,s::r,k=>J6 n r _
section
variable {o:Out} {T:TT} {fr:Fr} {μ:Gh} {L:List Seg}
theorem QbP: ∀{rs:List ResultVar} {hs:List Nat} {a b:List Value} {k:List Value→List Value→List Value→Out} {e:List Value},Qhv T L fr rs hs a b k=o→o≠ .bad →
  ∃vs a' b',(a'=b'→a=b)∧k vs a' b'=o∧ ∀kk:List Value→Prop,a'=b'→kk vs→Vs T rs fr μ L kk
 | [],hs,a,b,k,e,h,ho=>⟨[],a,b,id,h,fun kk _ hk=>hk⟩
 | .tmp t::r,hs,a,b,k,e,h,ho=>by
  unfold Qhv at h
  split at h
  ·rename_i v hv
   obtain ⟨vs,a',b',h1,h2,h3⟩:=QbP (e:=e) h ho;exact ⟨v::vs,a',b',h1,h2,fun kk e hk=>QiO hv (h3 _ e hk)⟩
  ·exact absurd h.symm ho
 | .cell p t::r,hs,a,b,k,e,h,ho=>by
  unfold Qhv at h
  split at h
  ·rename_i v h0 hs hv
   have hx:evV fr (.tmp p)=some v:=hv;obtain ⟨u,a',b',h1,h2,h3⟩:=Qet (P:=default) (μ:=μ) (fr:=fr) (x:= .tmp p) h ho hx (fun p hp=>by cases hp);obtain ⟨vs,a2,b2,h4,h5,h6⟩:=QbP (e:=e) h2 ho;refine ⟨u::vs,a2,b2,fun e=>h1 (h4 e),h5,fun kk e hk=> ?_⟩;have h7:ev fr (.tmp p) fun v=>Qbm T μ L t v fun u=>Vs T r fr μ L fun vs=>kk (u::vs):=h3 (fun u=>Vs T r fr μ L fun vs=>kk (u::vs)) (h4 e) (h6 _ e hk);exact h7
  ·exact absurd h.symm ho
end
section
variable {N:NN} {R:QW} {fr:Fr} {μ:Gh} {L:List Seg} {s s':List MIt} {fr':Fr} {L':List Seg} {e:List Value} {dst:Option Tmp} {v:Value}
def RK (rs:List ResultVar) (Rv:Value→Gh→List Seg→Prop):QW:=fun fr μ L=>Vs Tt rs fr μ L fun vs=>Upd μ L (Rv (Qck vs))
theorem FnS {f:FuncId} {fn:Func} {c:Code} {args:List Value} {n:Nat} {Rv:Value→Gh→List Seg→Prop} (hf:Tryz.prog.funcs[f]? =some fn) (hnm:(fn.name== "runtime.NumGoroutine")=false) (hb:fn.body=some c) (hn:fn.ntmps=n) (hl:Nat.ble args.length n=true)
  (ha:Qgi ixs args (fun F=> .ok [] F [] [] [])= .ok [] fr [] [] []) (k:KS Tryz.prog ⟨n,[],none⟩ (RK fn.results.toList Rv) [.code c] fr μ L):Fn Tryz.prog f args μ L Rv:=by
 have e1:=QcX (by simp) 16 0 args _ (show Qgi (List.range' 0 16) args _=_ from ha);injection e1 with _ e1 _ _ _
 subst e1;refine Fn.of_body QU hf hnm hb hn (Nat.le_of_ble_eq_true hl) ?_;intro a w ha hw;refine Code.wpIn_mono (fun e a' w' hl=> ?_) (k a w ha hw);cases e with
 | normal =>
  obtain ⟨f1,μ1,L1,h1,h2,h3,h4⟩:=hl;obtain ⟨f2,μ2,L2,h5,h6,h7,h8⟩:=h4 a' w' h1 h3;exact ⟨f2,μ2,L2,h5,h2.trans h6,h7,h8⟩
 | ret =>
  obtain ⟨f1,μ1,L1,h1,h2,h3,h4⟩:=hl;obtain ⟨f2,μ2,L2,h5,h6,h7,h8⟩:=h4 a' w' h1 h3;exact ⟨f2,μ2,L2,h5,h2.trans h6,h7,h8⟩
 | _=>exact hl
variable {rs:List ResultVar} {Rv:Value→Gh→List Seg→Prop}
def Qjt:List MIt→Bool
 | []=>true
 | .code .ret::_=>true
 | .blk _::s=>Qjt s
 | .ops _ []::s=>Qjt s
 | _=>false
theorem KS.ret (h:R fr μ L) (s:List MIt):Qjt s=true→KS Tryz.prog N R s fr μ L:=by
 induction s with
 | nil=>exact fun _=>KEn.done h
 | cons i s ih =>
  cases i with
  | code c=>cases c<;>first | exact fun _=>WP.ret (KEn.done h) | exact fun hb=>by cases hb
  | blk i=>exact ih
  | ops all r =>
   cases r with
   | nil=>exact fun hb=>Wl.nil (ih hb)
   | cons o r=>exact fun hb=>by cases hb
  | pln=>exact fun hb=>by cases hb
  | plp=>exact fun hb=>by cases hb
  | cut=>exact fun hb=>by cases hb
theorem Rt (hs:List Nat) (hb:Qjt s=true) (h:Qhv Tt L fr rs hs [] [] Qj0= .ok [] [(0,v)] [] e e) (k:Upd μ L (Rv v)):KS Tryz.prog N (RK rs Rv) s fr μ L:=by
 refine KS.ret ?_ s hb;unfold RK;obtain ⟨vs,a',b',h1,h2,h3⟩:=QbP (μ:=μ) (e:=e) h (by simp);unfold Qj0 at h2
 split at h2
 ·injection h2 with _ h2 _ h4 h5
  injection h2 with h2 _
  injection h2 with _ h2
  subst h2 h4;exact h3 _ h5.symm k
 ·rename_i hn
  injection h2 with _ h2 _ h4 h5
  injection h2 with h2 _
  injection h2 with _ h2
  subst h2 h4;refine h3 _ h5.symm ?_;have:Qck vs= .tuple vs.toArray:=by
   match vs,hn with
   | [],_=>rfl
   | [v],hn=>exact absurd rfl (hn v)
   | _::_::_,_=>rfl
  rw[this];exact k
def Qbp (L:List Seg) (i:Nat):Option Seg:=bif Nat.blt i 64 then Qci L i else none
theorem QdT {L:List Seg} {i:Nat} {s:Seg} (h:Qbp L i=some s):L[i]? =some s:=by
 unfold Qbp at h;cases hb:Nat.blt i 64 with
 | true=>rw[hb] at h;rw[←QcI];exact h
 | false=>rw[hb] at h;cases h
def Qd5:List Nat→List Seg→Seg×List Seg
 | [],L=>([],L)
 | [i],L=>match Qbp L i with
  | some s=>(s,Qby L i [])
  | none=>([],L)
 | i::j::r,L=>match Qbp L i with
  | some s=>(s++(Qd5 (j::r) (Qby L i [])).1,(Qd5 (j::r) (Qby L i [])).2)
  | none=>Qd5 (j::r) L
def QdI:List (List Nat)→Nat→List Seg→List Seg
 | [],k,L=>L.drop k
 | g::r,k,L=>(Qd5 g L).1::QdI r k (Qd5 g L).2
theorem QcZ: ∀(g:List Nat) (L:List Seg),L.flatten.Perm ((Qd5 g L).1++(Qd5 g L).2.flatten)
 | [],L=>by simp[Qd5]
 | [i],L=>by
  unfold Qd5;cases hi:Qbp L i with
  | none=>simp
  | some s =>
   have hi:=QdT hi;have h1:=Zz hi
   rw[←QcQ] at h1
   simpa using h1
 | i::j::r,L=>by
  unfold Qd5;cases hi:Qbp L i with
  | none=>exact QcZ (j::r) L
  | some s =>
   simp only
   have hi:=QdT hi;have h1:=Zz hi
   rw[←QcQ] at h1
   refine h1.trans ?_
   simp only[List.flatten_cons,List.append_assoc]
   exact (QcZ (j::r) _).append_left s
theorem Qc.grp: ∀(gs:List (List Nat)) (k:Nat) (L:List Seg),Qc (QdI gs k L) L:=by
 intro gs k L w μ h;have key: ∀(gs:List (List Nat)) (L:List Seg),∃M,L.flatten.Perm ((QdI gs k L).flatten++M):=by
  intro gs
  induction gs with
  | nil=>intro L;exact ⟨(L.take k).flatten,by
                          simp only[QdI];conv=>lhs;rw[←List.take_append_drop k L,List.flatten_append]
                          exact List.perm_append_comm⟩
  | cons g r ih =>
   intro L;obtain ⟨M,hM⟩:=ih (Qd5 g L).2;refine ⟨M,(QcZ g L).trans ?_⟩
   simp only[QdI,List.flatten_cons,List.append_assoc]
   exact hM.append_left _
 obtain ⟨M,hM⟩:=key gs L;exact (h.perm (L':=[(QdI gs k L).flatten,M]) (by simpa using hM)).sub (by simp)
theorem Gp {L2:List Seg} (gs:List (List Nat)) (k m:Nat) (hb:QgO s=true) (hn:nfL m (QdI gs k L) (fun l=> .ok [] [] l [] [])= .ok [] [] L2 [] []) (h:KS Tryz.prog N R s fr μ L2):KS Tryz.prog N R s fr μ L:=by
 rw[J6] at hn
 injection hn with _ _ hn _ _
 subst hn;exact KS.seg (Qc.grp gs k L) hb h
theorem Upd.gp {kk:Gh→List Seg→Prop} (gs:List (List Nat)) (k:Nat) (h:Upd μ (QdI gs k L) kk):Upd μ L kk:=fun w hw=>h w (Qc.grp gs k L w μ hw)
theorem Fn.gp {f:FuncId} {args:List Value} {Rv:Value→Gh→List Seg→Prop} {L2:List Seg} (gs:List (List Nat)) (k m:Nat) (hn:nfL m (QdI gs k L) (fun l=> .ok [] [] l [] [])= .ok [] [] L2 [] []) (h:Fn Tryz.prog f args μ L2 Rv):Fn Tryz.prog f args μ L Rv:=by
 rw[J6] at hn
 injection hn with _ _ hn _ _
 subst hn;exact Fn.seg (Qc.grp gs k L) h
def Qim:List Seg→Nat→List Seg→List Seg
 | [],_,_=>[]
 | _::r,0,xs=>xs++r
 | s::r,n+1,xs=>s::Qim r n xs
theorem Qc.ins {xs:List Seg} {so:Seg} (hx:xs.flatten=so): ∀{L:List Seg} {i:Nat},Qci L i=some so→Qc (Qim L i xs) L:=by
 intro L i hi w μ hw;have key: ∀{L:List Seg} {i:Nat},Qci L i=some so→(Qim L i xs).flatten=L.flatten:=by
  intro L
  induction L with
  | nil=>intro i h;cases h
  | cons s r ih =>
   intro i h;cases i with
   | zero=>simp only[Qci,Option.some.injEq] at h;subst h;simp[Qim,hx]
   | succ i=>simp only[Qim,List.flatten_cons];rw[ih (by simpa [Qci] using h)]
 exact hw.perm (by rw[key hi])
theorem In {xs:List Seg} {so:Seg} {L2:List Seg} (hx:xs.flatten=so) (i m:Nat) (hb:QgO s=true) (hi:Qci L i=some so) (hn:nfL m (Qim L i xs) (fun l=> .ok [] [] l [] [])= .ok [] [] L2 [] []) (h:KS Tryz.prog N R s fr μ L2):KS Tryz.prog N R s fr μ L:=by
 rw[J6] at hn
 injection hn with _ _ hn _ _
 subst hn;exact KS.seg (Qc.ins hx hi) hb h
def Qag:Fr→List Nat
 | []=>[]
 | (t,_)::r=>t::Qag r
theorem Qfc {fr:Fr}: ∀{F:Fr},Qm (Qag F) fr=F→Qif F fr
 | [],_=>trivial
 | (t,v)::r,h=>by
  simp only[Qag,Qm] at h
  split at h
  ·rename_i u hu
   injection h with h1 h2
   injection h1 with _ h1
   subst h1;exact ⟨hu,Qfc h2⟩
  ·
   exfalso
   have key: ∀(ts:List Nat),(Qm ts fr).length≤ts.length:=by
    intro ts
    induction ts with
    | nil=>exact Nat.le_refl _
    | cons t ts ih =>
     simp only[Qm]
     split
     ·simp only[List.length_cons];omega
     ·simp only[List.length_cons];omega
   have h1:=key (Qag r);have h2: ∀F:Fr,(Qag F).length=F.length:=by
    intro F
    induction F with
    | nil=>rfl
    | cons p F ih=>obtain ⟨t,v⟩:=p;simp only[Qag,List.length_cons,ih]
   rw[h,h2] at h1
   simp only[List.length_cons] at h1
   omega
theorem fE {F fr:Fr} (h:Qm (Qag F) fr=F):Qg F fr:=Qg.of (Qfc h)
theorem sE {M L:List Seg} (idx:List (Option Nat)) (n:Nat) (h:QS idx n L=M):Qc M L:=by subst h;exact Qc.sel L idx n
theorem s0 {L:List Seg} (n:Nat):Qc (QS [] n L) L:=Qc.sel L [] n
theorem Ug {kk:Gh→List Seg→Prop} (gs:List (List Nat)) (k:Nat) (h:kk μ (QdI gs k L)):Upd μ L kk:=fun w hw=>⟨μ,_,Gh.le.refl _,Qc.grp gs k L w μ hw,h⟩
theorem UgK {kk:Gh→List Seg→Prop} {L2:List Seg} (gs:List (List Nat)) (k:Nat) (hn:QdI gs k L=L2) (h:kk μ L2):Upd μ L kk:=Ug gs k (hn▸h)
theorem Qg.tr {F G fr:Fr} (h:Qg F fr) (hg:Qm (Qag G) F=G):Qg G fr:=(fE hg).trans h
theorem Qc.tr {A M B:List Seg} (h:Qc M B) (hg:Qc A M):Qc A B:=hg.trans h
theorem Cd {c:Code} (h:WP Tryz.prog N c (KS Tryz.prog N R s) (BS Tryz.prog N R s) (KEn N R) fr μ L):KS Tryz.prog N R (.code c::s) fr μ L:=h
def drB (ops:List Oper) (plan:List (Bool×Nat)):Bool:=Nat.beq plan.length ops.length&&(Region.noSelect ops.toArray&&(Qbo ops&&Qbs ops plan (List.replicate ops.length false)))
theorem Dr {id:Nat} {ops:List Oper} (keep:List Seg) (hk:QI keep L) (plan:List (Bool×Nat)) (hp:drB ops plan=true) (h:KS Tryz.prog N R (.pln ops (List.replicate ops.length false) plan μ keep::s) fr μ L):KS Tryz.prog N R (.code (.region id ops.toArray true)::s) fr μ L:=by
 unfold drB at hp
 simp only[Bool.and_eq_true] at hp
 exact WP.drawS QeL keep hk plan (Nat.eq_of_beq_eq_true hp.1) hp.2.1 hp.2.2.1 hp.2.2.2 h
def Qbe:Nat→List Seg→List Seg
 | 0,L=>match L with | []=>[] | _::r=>r
 | n+1,L=>match L with | []=>[] | s::r=>s::Qbe n r
def rmS:List Nat→List Seg→List Seg
 | [],L=>L
 | i::r,L=>rmS r (Qbe i L)
theorem Qgp: ∀(n:Nat) (L:List Seg),∀x∈Qbe n L,x∈L
 | 0,[],x,h=>h
 | 0,_::r,x,h=>List.mem_cons_of_mem _ h
 | n+1,[],x,h=>h
 | n+1,s::r,x,h=>by
  rcases List.mem_cons.1 h with rfl | h
  ·exact List.mem_cons_self
  ·exact List.mem_cons_of_mem _ (Qgp n r x h)
theorem Qh0: ∀(idx:List Nat) (L:List Seg),∀x∈rmS idx L,x∈L
 | [],L,x,h=>h
 | i::r,L,x,h=>Qgp i L x (Qh0 r _ x h)
theorem Drk {id:Nat} {ops:List Oper} {keep:List Seg} (idx:List Nat) (m:Nat) (hn:nfL m (rmS idx L) (fun l=> .ok [] [] l [] [])= .ok [] [] keep [] []) (plan:List (Bool×Nat)) (hp:drB ops plan=true)
  (h:KS Tryz.prog N R (.pln ops (List.replicate ops.length false) plan μ keep::s) fr μ L):KS Tryz.prog N R (.code (.region id ops.toArray true)::s) fr μ L:=by
 rw[J6] at hn
 injection hn with _ _ hn _ _
 exact Dr keep (QI.of fun x hx=>Qh0 idx L x (by rw[hn];exact hx)) plan hp h
def Qje:List Nat→Nat→List Seg→List Seg
 | [],n,L=>L.drop n
 | i::r,n,L=>(Qci L i).getD []::Qje r n L
theorem Kp {keep:List Seg} (idx:List Nat) (n:Nat) (h:Qje idx n L=keep):QI keep L:=by
 subst h
 induction idx with
 | nil =>
  intro c hc;obtain ⟨x,h1,h2⟩:=List.mem_flatten.1 hc;exact List.mem_flatten.2 ⟨x,List.mem_of_mem_drop h1,h2⟩
 | cons i r ih =>
  intro c hc
  simp only[Qje,List.flatten_cons,List.mem_append] at hc
  rcases hc with hc | hc
  ·cases hi:Qci L i with
   | none=>rw[hi] at hc;cases hc
   | some x =>
    rw[hi] at hc
    rw[QcI] at hi
    exact List.mem_flatten.2 ⟨x,List.mem_of_getElem? hi,hc⟩
  ·exact ih c hc
theorem Cut {ρ β:Type} {m:Option ρ} {f:ρ→Option β} {r:β} {c:Code} (h:Option.bind m f=some r) (M:Fr→List Seg→ρ→QW) (h1: ∀o,m=some o→f o=some r→KS Tryz.prog N R (.code c:: .cut (M fr L o)::s) fr μ L)
  (h2: ∀o fr' μ' L',f o=some r→μ.le μ'→M fr L o fr' μ' L'→KS Tryz.prog N R s fr' μ' L'):KS Tryz.prog N R (.code c::s) fr μ L:=by
 obtain ⟨o,ho,h⟩:=Qf h;exact WP.cutK (M fr L o) (h1 o ho h) fun fr' μ' L' hm hM=>h2 o fr' μ' L' h hm hM
theorem Atn {F F':Fr} {L2 L2':List Seg} (n:Nat) (hF:Qg F fr) (hs:Qc L2 L) (hb:QgO s=true) (hn:nfF F (fun f=>nfL n L2 fun l=> .ok [] f l [] [])= .ok [] F' L2' [] []) (h:KS Tryz.prog N R s F' μ L2'):KS Tryz.prog N R s fr μ L:=by
 rw[QgI,J6] at hn
 injection hn with _ h1 h2 _ _
 subst h1 h2;exact Att hF hs hb h
def Qj9:List MIt→Option QW
 | .cut M::_=>some M
 | .blk _::s=>Qj9 s
 | .ops _ []::s=>Qj9 s
 | _=>none
theorem Ce {M:QW} (hb:Qj9 s=some M) (h:M fr μ L):KS Tryz.prog N R s fr μ L:=by
 induction s with
 | nil=>cases hb
 | cons i s ih =>
  cases i with
  | code c=>cases hb
  | blk i=>exact ih hb
  | ops all r =>
   cases r with
   | nil=>exact Wl.nil (ih hb)
   | cons o r=>cases hb
  | pln=>cases hb
  | plp=>cases hb
  | cut M'=>simp only[Qj9,Option.some.injEq] at hb;subst hb;exact h
theorem Lp {σ ρ:Type} {body:σ→Option (σ⊕ρ)} {n i:Nat} {s0:σ} {o:ρ} {c:Code} (h:iter body n s0=some o) (I:Fr→List Seg→σ→QW) (h0:I fr L s0 fr μ L)
  (round: ∀st q fr' μ' L',μ.le μ'→I fr L st fr' μ' L'→body st=some q→(∀r,q= .inr r→r=o)→KS Tryz.prog N R (.code c:: .cut (fun fr2 μ2 L2=> ∃st',q= .inl st'∧I fr L st' fr2 μ2 L2):: .blk i::s) fr' μ' L') :
  KS Tryz.prog N R (.code (.block i (.loop c))::s) fr μ L :=
 WP.block (WP.iter h (I fr L) h0 round)
inductive Qkq where
 | ok (o:Oper) (s:List MIt) (n:Nat) (vs:List Value)
 | bad
def clO (s:List MIt) (fr:Fr):Qkq:=match hdS s fr with
 | some (o,s')=>(match o.op with
  | .call ⟨.value f,args,_⟩=>(match evV fr f,Vw fr args.toList with
   | some (.func (.func g) ⟨fi⟩ ⟨ca⟩),some vs=> .ok o s' g (fi++(vs++ca))
   | _,_=> .bad)
  | _=> .bad)
 | none=> .bad
theorem Cl {o:Oper} {f:Nat} {args:List Value} (h:clO s fr= .ok o s' f args) (k:Fn Tryz.prog f args μ L fun v μ' L'=>kpt s L' (Zv N o.dst v fr fun f=>KS Tryz.prog N R s' f μ' L')):KS Tryz.prog N R s fr μ L:=by
 unfold clO at h
 split at h
 ·rename_i o1 s1 h1
  split at h
  ·rename_i hop
   split at h
   ·rename_i hf hv
    injection h with e1 e2 e3 e4
    subst e1 e2 e3 e4;refine So h1 ?_
    rw[hop]
    exact Qbc hf hv (by simp) k
   ·cases h
  ·cases h
 ·cases h
def alO (s:List MIt) (fr:Fr):Qkq:=match hdS s fr with
 | some (o,s')=>(match o.op with
  | .alloc t=>(match Tt t with | some i=>(match i.zero.cells with | ⟨cs⟩=> .ok o s' t cs) | none=> .bad)
  | .box t x=>(match evV fr x with | some v=>(match v.cells with | ⟨cs⟩=> .ok o s' t cs) | none=> .bad)
  | _=> .bad)
 | none=> .bad
theorem Al {o:Oper} {t:Nat} {cs:List Value} (h:alO s fr= .ok o s' t cs) (k: ∀g,kpt s ([(g,.cells ⟨cs⟩ t)]::L) (Zv N o.dst (.pointer (some ⟨g,0,none⟩)) fr fun f=>KS Tryz.prog N R s' f μ ([(g,.cells ⟨cs⟩ t)]::L))):KS Tryz.prog N R s fr μ L:=by
 unfold alO at h
 split at h
 ·rename_i o1 s1 h1
  split at h
  ·rename_i hop
   split at h
   ·rename_i hT
    split at h
    rename_i hz
    injection h with e1 e2 e3 e4
    subst e1 e2 e3 e4;refine So h1 ?_
    rw[hop]
    exact QaD hT hz k
   ·cases h
  ·rename_i hop
   split at h
   ·rename_i hv
    split at h
    rename_i hz
    injection h with e1 e2 e3 e4
    subst e1 e2 e3 e4;refine So h1 ?_
    rw[hop]
    exact Qla hv hz k
   ·cases h
  ·cases h
 ·cases h
inductive QlK where
 | ok (o:Oper) (s:List MIt) (A:Option Addr) (len:Nat) (ix:Int) (sz:Nat)
 | bad
def ixO (s:List MIt) (fr:Fr):QlK:=match hdO s fr with
 | some (true,o,s')=>(match o.op with
  | .indexAddr t x n=>(match evV fr x,evV fr n,Tt t with
   | some (.slice A len _),some (.int _ ix),some i=>(match i.u with
    | .slice e=>(match Tt e with | some ⟨_,sz,_,_,_⟩=> .ok o s' A len ix sz | none=> .bad)
    | _=> .bad)
   | _,_,_=> .bad)
  | _=> .bad)
 | _=> .bad
theorem Ix {α β:Type} {μ1:Gh} {L1:List Seg} {r:Rp α} {xs:List α} {ix:Int} {f:α→Option β} {res:β} {A:Option Addr} {o:Oper} {sz:Nat} (h:Option.bind (QJ xs ix) f=some res) (hR:Rds r μ1 L1 A xs) (hi:ixO s fr= .ok o s' A xs.length ix sz) (hz:r.sz=sz)
  (k: ∀x a cs,QJ xs ix=some x→r.rep μ1 x cs→Zo μ1 L1 (a.add (ix.toNat*sz)) cs→A=some a→f x=some res→Zv N o.dst (.pointer (some (a.add (ix.toNat*sz)))) fr fun f=>KS Tryz.prog N R s' f μ L):KS Tryz.prog N R s fr μ L:=by
 subst hz;obtain ⟨x,hx,hh⟩:=Qf h;obtain ⟨a,cs,hA,hr,_,hc⟩:=Rds.getI hR hx;unfold ixO at hi
 split at hi
 ·rename_i o1 s1 h1
  split at hi
  ·rename_i hop
   split at hi
   ·rename_i hx1 hn1 hT1
    split at hi
    ·rename_i hu
     split at hi
     ·rename_i hT2
      injection hi with e1 e2 e3 e4 e5 e6
      subst e1 e2 e3 e4 e5;refine Rdo h1 (by rw[hop];rfl) ?_
      rw[hop]
      refine Qcu hx1 hn1 hT1 hu hT2 e6 ⟨(Zr hx).1,(Zr hx).2.1⟩ hA ?_;exact k x a cs hx hr hc hA hh
     ·cases hi
    ·cases hi
   ·cases hi
  ·cases hi
 ·cases hi
theorem IxA {α β:Type} {all rest:List Oper} {s1:List MIt} {r:Rp α} {xs:List α} {ix:Int} {f:α→Option β} {res:β} {A:Option Addr} {o:Oper} {sz:Nat} (h:Option.bind (QJ xs ix) f=some res) (hR:Rds r μ L A xs) (hi:ixO (.ops all rest::s1) fr= .ok o s' A xs.length ix sz) (hz:r.sz=sz)
  (k: ∀x a cs,QJ xs ix=some x→r.rep μ x cs→Zo μ L (a.add (ix.toNat*sz)) cs→A=some a→f x=some res→Zv N o.dst (.pointer (some (a.add (ix.toNat*sz)))) fr fun f=>KS Tryz.prog N R s' f μ L):KS Tryz.prog N R (.ops all rest::s1) fr μ L:=Ix h hR hi hz k
end
end Go.Proofs.YtilbengnjgglhaaGreat
namespace Go.Proofs.YtilbengnjgglhaaGreat
open Go.RowKit
set_option linter.unusedSimpArgs false
set_option linter.unusedVariables false
structure Qcx where
 fn:FuncId
 tm:Array Value
 ps:Array Tmp
 asg:Code
 bd:Code
 D:Nat
def yr (st:LoopState) (q:Qcx):Obj:= .loop { state:=st,pending:=none,fn:=q.fn,tmps:=q.tm,params:=q.ps,assign:=q.asg,body:=q.bd,defers:=q.D }
inductive Qlb where
 | ok (ps:Array Tmp) (asg bd:Code)
 | bad
def rfO:Code→Qlb
 | .rangeFunc _ ps asg bd=> .ok ps asg bd
 | .seq a b=>(match rfO a with | .ok ps asg bd=> .ok ps asg bd | .bad=>rfO b)
 | .block _ a=>rfO a
 | _=> .bad
def rfC:Option Code→Qlb
 | some c=>rfO c
 | none=> .bad
structure YOk (n l:Nat) (q:Qcx) (fr:Fr) (c:Option Code):Prop where
 frame:Agr ⟨n,[],some l⟩ fr { tmps:=q.tm,defers:=[] }
 code:rfC c= .ok q.ps q.asg q.bd
theorem YOk.sub {n l:Nat} {q:Qcx} {fr F:Fr} {c:Option Code} (h:YOk n l q fr c) (hF:Qm (Qag F) fr=F):YOk n l q F c:=⟨h.frame.sub (fE hF),h.code⟩
def Rnd (P:Program) (l:Nat) (vs:List Value) (μ:Gh) (L:List Seg) (R:Value→Gh→List Seg→Prop):Prop :=
 ∀w,Inv w μ L→ ∃f tmps asg bd,(Instr.yield l vs.toArray).run P w= .ok (.round l f tmps asg bd) w ∧
  RoundIn (fw none) 0 P l f tmps asg bd w fun e w'=> ∃v μ' L',e= .returned v∧μ.le μ'∧Inv w' μ' L'∧R v μ' L'
section
variable {P:Program} {N:NN} {K:QW} {fr:Fr} {μ:Gh} {L:List Seg} {all rest:List Oper} {o:Oper} {l:Nat} {vs:List Value} {R:Value→Gh→List Seg→Prop}
theorem Rnd.gp {L2:List Seg} (gs:List (List Nat)) (k m:Nat) (hn:nfL m (QdI gs k L) (fun l=> .ok [] [] l [] [])= .ok [] [] L2 [] []) (h:Rnd P l vs μ L2 R):Rnd P l vs μ L R:=by
 rw[J6] at hn
 injection hn with _ _ hn _ _
 subst hn;exact fun w hw=>h w (Qc.grp gs k L w μ hw)
theorem Wl.yld (hN:N.rd=none) {f:Operand} {args:Array Operand} {tys:Array TypeId} (ho:o.op= .call ⟨.value f,args,tys⟩) (hf:evV fr f=some (.func (.yield l) #[] #[])) (hv:Vw fr args.toList=some vs)
  (h:ZV all fr o.guard (Rnd P l vs μ L fun v μ' L'=>Zv N o.dst v fr fun fr'=>Wl P N all rest K fr' μ' L') (Zv N o.dst undef fr fun fr'=>Wl P N all rest K fr' μ L)) :
  Wl P N all (o::rest) K fr μ L:=by
 intro a w Q ha hw hQ;refine wpListIn_step fun K' hK'=> ?_;rcases Z7 ha h with ⟨hg,h⟩ | ⟨hg,h⟩
 ·rw[if_pos hg]
  obtain ⟨f',tmps,asg,bd,hy,hr⟩:=h w hw;refine ⟨fun _ _=>trivial,?_⟩;have h1:a.eval f= .func (.yield l) #[] #[]:=QE ha (k:=fun v=>v= .func (.yield l) #[] #[]) (ev_of hf rfl);have h2:args.toList.map a.eval=vs:=VB ha (k:=fun us=>us=vs) (evs_of hv rfl);have h3:args.map a.eval=vs.toArray:=by rw[←Array.toList_inj];simpa using h2
  have he:(o.semAt (fw N.rd).round a.eval).run P w= .ok (.round l f' tmps asg bd) w:=by
   rw[hN]
   show (o.semAt none a.eval).run P w=_
   rw[Oper.semAt_none]
   unfold execOp
   rw[ho]
   simp only[resolve,h1,h3,Deferred.ofValue,invoke,Sem.run_bind,Sem.run_pure,Result.andThen_ok]
   simpa using hy
  rw[he,hN]
  refine ⟨fun e=>(by cases e),hr.mono ?_⟩;rintro e w' ⟨v,μ',L',rfl,hm,hi,hk⟩;obtain ⟨fr',hk,ha'⟩:=YG ha hk;refine hK' _ _ ?_;have:=hk _ w' Q ha' hi fun fr2 μ2 L2 a2 w2 hm2=>hQ fr2 μ2 L2 a2 w2 (hm.trans hm2);exact this
 ·rw[if_neg (by rw[hg];exact Bool.false_ne_true)]
  refine ⟨fun _ _=>trivial,?_⟩;obtain ⟨fr',hk,ha'⟩:=YG ha h;exact hK' _ _ (hk _ w Q ha' hw hQ)
end
section
variable {N:NN} {R:QW} {fr:Fr} {μ:Gh} {L:List Seg} {s s':List MIt}
def cyO (s:List MIt) (fr:Fr):Qkq:=match s with
 | .ops all (o::r)::s=>(match gdB all fr o.guard with
  | true=>(match o.op with
   | .call ⟨.value f,args,_⟩=>(match evV fr f,Vw fr args.toList with
    | some (.func (.yield l) ⟨[]⟩ ⟨[]⟩),some vs=> .ok o (.ops all r::s) l vs
    | _,_=> .bad)
   | _=> .bad)
  | false=> .bad)
 | _=> .bad
theorem ClY {o:Oper} {l:Nat} {vs:List Value} (hN:N.rd=none) (h:cyO s fr= .ok o s' l vs) (k:Rnd Tryz.prog l vs μ L fun v μ' L'=>Zv N o.dst v fr fun f=>KS Tryz.prog N R s' f μ' L'):KS Tryz.prog N R s fr μ L:=by
 unfold cyO at h
 split at h
 ·split at h
  ·rename_i hg
   split at h
   ·rename_i hop
    split at h
    ·rename_i hf hv
     injection h with e1 e2 e3 e4
     subst e1 e2 e3 e4;exact Wl.yld hN hop hf hv (VJ hg k)
    ·cases h
   ·cases h
  ·cases h
 ·cases h
end
section
variable {P:Program} {fr:Fr} {μ:Gh} {L:List Seg}
theorem Inv.chunk {w:World} {i g:Nat} {o:Obj} (h:Inv w μ L) (hi:Qbp L i=some [(g,o)]):w.heap[g]? =some o:=by
 have h1:=QdT hi;refine h.own (g,o) ?_;exact List.mem_flatten.2 ⟨_,List.mem_of_getElem? h1,by simp⟩
theorem Inv.putAt {w:World} {i g:Nat} {o:Obj} (o':Obj) (h:Inv w μ L) (hi:Qbp L i=some [(g,o)]):Inv (w.putObj g o') μ (Qby L i [(g,o')]):=by
 have h1:=QdT hi
 rw[QcQ]
 have:=h.upd (w':=w.putObj g o') (j:=0) (o':=o') h1 rfl rfl rfl rfl (World.putObj_heap_same (Zt (h.chunk hi))) (fun k hk=>World.putObj_heap_other hk);exact this
theorem Inv.delAt {w:World} {i:Nat} (h:Inv w μ L):Inv w μ (Qbe i L):=by
 refine h.sub ?_
 induction i generalizing L with
 | zero=>cases L with
  | nil=>exact List.Sublist.refl _
  | cons s r=>simp[Qbe]
 | succ i ih=>cases L with
  | nil=>exact List.Sublist.refl _
  | cons s r=>simp only[Qbe,List.flatten_cons];exact (List.Sublist.refl _).append (ih h.drop)
theorem Qe5: ∀(i:Nat) (L:List Seg) (x:Seg),Qbe i (Qby L i x)=Qbe i L
 | 0,[],x=>rfl
 | 0,_::_,x=>rfl
 | i+1,[],x=>rfl
 | i+1,s::r,x=>by simp only[Qby,Qbe,Qe5 i r x]
theorem Qgo {w:World} {i:Nat} {x:Seg} (h:Inv w μ (Qby L i x)):Inv w μ (Qbe i L):=by
 have:=h.delAt (i:=i)
 rwa [Qe5] at this
end
section
variable {fr:Fr} {μ:Gh} {L:List Seg}
def NoK:QW:=fun _ _ _=>False
def QiN (l:Nat) (q:Qcx) (R:Value→Gh→List Seg→Prop):QW:=fun fr μ L=> ∃i,Qbp L i=some [(l,yr .busy q)]∧Upd μ (Qby L i [(l,yr .ready q)]) (R (.bool true))
def QjV (n l:Nat) (q:Qcx) (bd:Code) (R:Value→Gh→List Seg→Prop):QW:=fun fr μ L=> ∃i,Qbp L i=some [(l,yr .ready q)]∧KS Tryz.prog ⟨n,[],some l⟩ NoK [.code bd,.cut (QiN l q R)] fr μ (Qby L i [(l,yr .busy q)])
theorem QjV.mk {n l:Nat} {q:Qcx} {bd:Code} {R:Value→Gh→List Seg→Prop} {L2:List Seg} (i m:Nat) (hi:Qbp L i=some [(l,yr .ready q)]) (hn:nfL m (Qby L i [(l,yr .busy q)]) (fun l=> .ok [] [] l [] [])= .ok [] [] L2 [] [])
  (h:KS Tryz.prog ⟨n,[],some l⟩ NoK [.code bd,.cut (QiN l q R)] fr μ L2):QjV n l q bd R fr μ L:=by
 rw[J6] at hn
 injection hn with _ _ hn _ _
 subst hn;exact ⟨i,hi,h⟩
theorem QiN.mk {l:Nat} {q:Qcx} {R:Value→Gh→List Seg→Prop} {L2:List Seg} (i m:Nat) (hi:Qbp L i=some [(l,yr .busy q)]) (hn:nfL m (Qby L i [(l,yr .ready q)]) (fun l=> .ok [] [] l [] [])= .ok [] [] L2 [] [])
  (h:Upd μ L2 (R (.bool true))):QiN l q R fr μ L:=by
 rw[J6] at hn
 injection hn with _ _ hn _ _
 subst hn;exact ⟨i,hi,h⟩
theorem Rnd.ok {n l p:Nat} {q:Qcx} {c:Option Code} {asg bd:Code} {v:Value} {R:Value→Gh→List Seg→Prop} (hq:YOk n l q fr c) (hc:rfC c= .ok #[p] asg bd) (hp:Nat.blt p n=true)
  (k:KS Tryz.prog ⟨n,[],some l⟩ NoK [.code asg,.cut (QjV n l q bd R)] ((p,v)::fr) μ L) (i:Nat) (hi:Qbp L i=some [(l,yr .ready q)]):Rnd Tryz.prog l [v] μ L R:=by
 intro w hw;have e0:=hq.code
 rw[hc] at e0
 injection e0 with e1 e2 e3
 subst e2 e3;refine ⟨q.fn,_,q.asg,q.bd,run_yield (hw.chunk hi) (by show 1=q.ps.size;rw[←e1];rfl),?_⟩;refine roundIn_of_wpIn (F:=fw none) (l:=l) trivial ?_;have ha:Agr ⟨n,[],some l⟩ ((p,v)::fr) { tmps:=(q.ps.zip [v].toArray).foldl (fun tmps (t,a)=>tmps.setIfInBounds t a) q.tm,defers:=[] }:=by
  have:=hq.frame.put (d:=p) (by simpa using hp) v
  rw[←e1]
  simpa [Act.put] using this
 have hA:=k _ w ha hw
 show q.asg.wpIn (fw (some l)) 0 Tryz.prog _ _ w
 refine Code.wpIn_mono (fun e a1 w1 hl=> ?_) hA;cases e with
 | normal =>
  obtain ⟨fr1,μ1,L1,a2,m2,i2,j,hj,k2⟩:=hl;refine ⟨_,run_beginRound (i2.chunk hj) rfl,?_⟩;have i3:=i2.putAt (yr .busy q) hj;have hB:=k2 a1 _ a2 i3;refine Code.wpIn_mono (fun e a3 w3 hl=> ?_) hB;cases e with
  | normal =>
   obtain ⟨fr3,μ3,L3,a4,m4,i4,j3,hj3,k4⟩:=hl;obtain ⟨μ5,L5,m5,i5,k5⟩:=k4 _ (i4.putAt (yr .ready q) hj3);exact ⟨_,_,run_endRound none (i4.chunk hj3),_,μ5,L5,rfl,(m2.trans m4).trans m5,i5,k5⟩
  | ret =>
   obtain ⟨fr3,μ3,L3,a4,m4,i4,k4⟩:=hl;obtain ⟨_,_,_,_,_,_,h⟩:=k4 a3 w3 a4 i4;exact h.elim
  | exit j =>
   obtain ⟨fr3,μ3,L3,a4,m4,i4,k4⟩:=hl;exact k4.elim
  | _=>exact hl.elim
 | ret =>
  obtain ⟨fr3,μ3,L3,a4,m4,i4,k4⟩:=hl;obtain ⟨_,_,_,_,_,_,h⟩:=k4 a1 w1 a4 i4;exact h.elim
 | exit j =>
  obtain ⟨fr3,μ3,L3,a4,m4,i4,k4⟩:=hl;exact k4.elim
 | _=>exact hl.elim
abbrev mkD (D:Nat):Deferred:={ target:= .collected D,args:= #[] }
def RKm (D:Nat) (rs:List ResultVar) (Rv:Value→Gh→List Seg→Prop):QW:=fun fr μ L=> ∃i,Qbp L i=some [(D,.deferred (some []))]∧Vs Tt rs fr μ (Qbe i L) fun vs=>Upd μ (Qbe i L) (Rv (Qck vs))
def Qic (μ0:Gh) (Rv:Value→Gh→List Seg→Prop):Ending→World→Prop:=fun e w'=> ∃v μ' L',e= .returned v∧μ0.le μ'∧Inv w' μ' L'∧Rv v μ' L'
def Qib (fn:Func) (μ0:Gh) (Rv:Value→Gh→List Seg→Prop):Exit→Act→World→Prop:=bodyPostM (fw none) 0 Tryz.prog fn (Qic μ0 Rv)
def RST (fn:Func) (n:Nat) (μ0:Gh) (Rv:Value→Gh→List Seg→Prop) (b:Code) (post:Code):QW:=fun fr μ L=> ∀a w,μ0.le μ→Agr ⟨n,[],none⟩ fr a→Inv w μ L →
 b.wpIn (fw none) 0 Tryz.prog (Exit.then (fun a w=>post.wpIn (fw none) 0 Tryz.prog (Qib fn μ0 Rv) a w) (Qib fn μ0 Rv)) a w
theorem QeB {fn:Func} {a:Act} {N:NN} {w:World} {μ0:Gh} {Rv:Value→Gh→List Seg→Prop} (h1:Agr N fr a) (hm:μ0.le μ) (h3:Inv w μ L) (h4:Vs Tt fn.results.toList fr μ L fun vs=>Upd μ L (Rv (Qck vs))) :
  ∃v,(results fn a.tmps).run Tryz.prog w= .ok v w∧Qic μ0 Rv (.returned v) w:=by
 obtain ⟨vs,h5,h6⟩:=QaV (P:=Tryz.prog) QU h1 h3.holds fn.results.toList h4;obtain ⟨μ3,L3,k1,k2,k3⟩:=h5 w h3;refine ⟨Qck vs,?_,Qck vs,μ3,L3,rfl,hm.trans k1,k2,k3⟩;have h7:(fn.results.mapM (Qcj a.tmps)).run Tryz.prog w= .ok vs.toArray w:=by
  rw[Array.mapM_eq_mapM_toList,Sem.run_map,h6];rfl
 have h8:results fn a.tmps=(do
   let vs ←fn.results.mapM (Qcj a.tmps)
   pure (if h:vs.size=1 then vs[0] else .tuple vs)):=rfl
 rw[h8,Sem.run_bind,h7]
 simp only[Result.andThen_ok,Sem.run_pure]
 congr 1
 match vs with
 | []=>rfl
 | [v]=>rfl
 | v::u::r=>simp[Qck]
theorem QlM {fn:Func} {a:Act} {n:Nat} {w:World} {μ0:Gh} {Rv:Value→Gh→List Seg→Prop} (h1:Agr ⟨n,[],none⟩ fr a) (hm:μ0.le μ) (h3:Inv w μ L) (h4:KEn ⟨n,[],none⟩ (RK fn.results.toList Rv) fr μ L) :
  LeavesInM (fw none) 0 Tryz.prog fn a.tmps (Qic μ0 Rv) a.defers .returning w:=by
 obtain ⟨f2,μ2,L2,h5,h6,h7,h8⟩:=h4 a w h1 h3
 rw[h1.defers]
 exact QeB h5 (hm.trans h6) h7 h8
theorem Qly {fn:Func} {a:Act} {n D:Nat} {w:World} {μ0:Gh} {Rv:Value→Gh→List Seg→Prop} (h1:Agr ⟨n,[mkD D],none⟩ fr a) (hm:μ0.le μ) (h3:Inv w μ L) (h4:KEn ⟨n,[mkD D],none⟩ (RKm D fn.results.toList Rv) fr μ L) :
  LeavesInM (fw none) 0 Tryz.prog fn a.tmps (Qic μ0 Rv) a.defers .returning w:=by
 obtain ⟨f2,μ2,L2,h5,h6,h7,i,hi,h8⟩:=h4 a w h1 h3
 rw[h1.defers]
 have h9:Inv (w.putObj D (.deferred none)) μ2 (Qbe i L2):=by
  exact Qgo (h7.putAt (.deferred none) hi)
 exact ⟨by simp,.inl ⟨D,_,rfl,run_takeDeferred (h7.chunk hi),QeB h5 (hm.trans h6) h9 h8⟩⟩
theorem RtM {N:NN} {rs:List ResultVar} {Rv:Value→Gh→List Seg→Prop} {s:List MIt} {v:Value} {e:List Value} {D:Nat} {L2:List Seg} (i m:Nat) (hs:List Nat) (hi:Qbp L i=some [(D,.deferred (some []))]) (hn:nfL m (Qbe i L) (fun l=> .ok [] [] l [] [])= .ok [] [] L2 [] [])
  (hb:Qjt s=true) (h:Qhv Tt L2 fr rs hs [] [] Qj0= .ok [] [(0,v)] [] e e) (k:Upd μ L2 (Rv v)):KS Tryz.prog N (RKm D rs Rv) s fr μ L:=by
 rw[J6] at hn
 injection hn with _ _ hn _ _
 subst hn;refine KS.ret ⟨i,hi,?_⟩ s hb;obtain ⟨vs,a',b',h1,h2,h3⟩:=QbP (μ:=μ) (e:=e) h (by simp);unfold Qj0 at h2
 split at h2
 ·injection h2 with _ h2 _ h4 h5
  injection h2 with h2 _
  injection h2 with _ h2
  subst h2 h4;exact h3 _ h5.symm k
 ·rename_i hn
  injection h2 with _ h2 _ h4 h5
  injection h2 with h2 _
  injection h2 with _ h2
  subst h2 h4;refine h3 _ h5.symm ?_;have:Qck vs= .tuple vs.toArray:=by
   match vs,hn with
   | [],_=>rfl
   | [v],hn=>exact absurd rfl (hn v)
   | _::_::_,_=>rfl
  rw[this];exact k
def RgE (l:Nat) (q:Qcx) (X:Gh→List Seg→Prop):Value→Gh→List Seg→Prop:=fun _ μ L=> ∃i,Qbp L i=some [(l,yr .ready q)]∧X μ (Qbe i L)
theorem RgE.mk {l:Nat} {q:Qcx} {X:Gh→List Seg→Prop} {v:Value} {L2:List Seg} (i m:Nat) (hi:Qbp L i=some [(l,yr .ready q)]) (hn:nfL m (Qbe i L) (fun l=> .ok [] [] l [] [])= .ok [] [] L2 [] []) (h:X μ L2):RgE l q X v μ L:=by
 rw[J6] at hn
 injection hn with _ _ hn _ _
 subst hn;exact ⟨i,hi,h⟩
theorem Rg {fn:Func} {n bi gf:Nat} {ca:List Value} {μ0:Gh} {Rv:Value→Gh→List Seg→Prop} {g:Operand} {ps:Array Tmp} {asg bd post:Code} {c:Option Code} {N0:NN} {R0:QW} (F0:Fr) (hg:evV fr g=some (.func (.func gf) #[] ⟨ca⟩)) (hF:Qm (Qag F0) fr=F0) (hc:rfC c= .ok ps asg bd) {fg:Func} (hfg:Tryz.prog.funcs[gf]? =some fg) (hbg:fg.body.isNone=false)
  (h: ∀(l:Nat) (q:Qcx),YOk n l q F0 c→Fn Tryz.prog gf (.func (.yield l) #[] #[]::ca) μ ([(l,yr .ready q)]::[(q.D,.deferred (some []))]::L)
   (RgE l q fun μ' L'=>KS Tryz.prog ⟨n,[mkD q.D],none⟩ (RKm q.D fn.results.toList Rv) [.code post] fr μ' L')) :
  KS Tryz.prog N0 R0 [.cut (RST fn n μ0 Rv (.block bi (.rangeFunc g ps asg bd)) post)] fr μ L:=by
 intro a w hm0 ha hw;refine wpIn_block (wpIn_rangeFunc ?_);intro fn' _
 let q:Qcx:={ fn:=fn',tm:=a.tmps,ps:=ps,asg:=asg,bd:=bd,D:=w.heap.size }
 have h1:a.eval g= .func (.func gf) #[] ⟨ca⟩:=QE ha (k:=fun v=>v= .func (.func gf) #[] ⟨ca⟩) (ev_of hg rfl);have hYk:YOk n (w.heap.size+1) q F0 c:=⟨(show Agr ⟨n,[],some (w.heap.size+1)⟩ fr { tmps:=a.tmps,defers:=[] } from ⟨rfl,ha.size,ha.get⟩).sub (fE hF),hc⟩
 have hF:=h (w.heap.size+1) q hYk;have i1:Inv ((w.alloc (.deferred (some []))).alloc (yr .ready q)) μ ([(w.heap.size+1,yr .ready q)]::[(q.D,.deferred (some []))]::L):=by
  have:=(hw.alloc (.deferred (some []))).alloc (yr .ready q)
  rwa [World.size_alloc] at this
 refine ⟨w.heap.size+1,[mkD w.heap.size],(w.alloc (.deferred (some []))).alloc (yr .ready q),{ target:= .fn (.func gf) ⟨ca⟩,args:= #[.func (.yield (w.heap.size+1)) #[] #[]] },(w.alloc (.deferred (some []))).alloc (yr .ready q),gf, #[.func (.yield (w.heap.size+1)) #[] #[]]++⟨ca⟩,(w.alloc (.deferred (some []))).alloc (yr .ready q),run_enterLoop_outer _ _ _ _ _,?_,fun _ _=>trivial,?_,fun e=>(by cases e),?_⟩
 ·simp only[resolve,h1]
  simp[go_sem]
 ·rcases hF with ⟨⟨fn2,hfn,hnm,hbd⟩,_⟩ | ⟨fn2,ex,hfn,hnm,hbd,hx1,hx2,hc2⟩
  ·simp only[invoke,callFunc,program,Sem.run_bind,Sem.run,Sem.run_pure,Result.andThen_ok,hfn,hnm,hbd,Bool.false_eq_true,if_false]
  ·rw[hfg] at hfn;cases hfn;rw[hbg] at hbd;cases hbd
 ·rcases hF with ⟨⟨fn2,hfn,hnm,hbd⟩,hcall⟩ | ⟨fn2,ex,hfn,hnm,hbd,hx1,hx2,hc2⟩
  ·have h2:=hcall _ i1;have h3:=(callsIn_wide (n:=0)).2 h2;have e5:(Value.func (.yield (w.heap.size+1)) #[] #[]::ca).toArray= #[.func (.yield (w.heap.size+1)) #[] #[]]++⟨ca⟩:=by rw[←Array.toList_inj];simp
   rw[←e5]
   refine CallsIn.mono (F:=fw none) (n:=0) h3 ?_;rintro e w3 ⟨v,μ',L',rfl,hm,hi,i,hi2,hk⟩;refine ⟨none,_,run_endLoop (hi.chunk hi2) (by simp[yr]),?_⟩
   show Exit.inBlock bi _ .normal _ _
   have i4:Inv (w3.putObj (w.heap.size+1) (.loop { state:= .exhausted,pending:=none,fn:=q.fn,tmps:=q.tm,params:=q.ps,assign:=q.asg,body:=q.bd,defers:=q.D })) μ' (Qbe i L'):=Qgo (hi.putAt _ hi2);have ha2:Agr ⟨n,[mkD q.D],none⟩ fr { a with defers:=[mkD w.heap.size]++a.defers }:=⟨by rw[ha.defers];rfl,ha.size,ha.get⟩
   refine Code.wpIn_mono (fun e a1 w1 hl=> ?_) (hk _ _ ha2 i4);cases e with
   | normal=>obtain ⟨f1,μ1,L1,k1,k2,k3,k4⟩:=hl;exact Qly k1 ((hm0.trans hm).trans k2) k3 k4
   | ret=>obtain ⟨f1,μ1,L1,k1,k2,k3,k4⟩:=hl;exact Qly k1 ((hm0.trans hm).trans k2) k3 k4
   | exit i=>obtain ⟨f1,μ1,L1,k1,k2,k3,k4⟩:=hl;exact k4.elim
   | _=>exact hl.elim
  ·rw[hfg] at hfn;cases hfn;rw[hbg] at hbd;cases hbd
theorem Qkn {fn:Func} {n:Nat} {μ0:Gh} {Rv:Value→Gh→List Seg→Prop} {c d:Code} {s:List MIt} {Q:Exit→Act→World→Prop} (hB:BS Tryz.prog ⟨n,[],none⟩ (RK fn.results.toList Rv) s=fun _ _ _ _=>False) (hQ: ∀a w,LeavesInM (fw none) 0 Tryz.prog fn a.tmps (Qic μ0 Rv) a.defers .returning w→Q .ret a w)
  (hd: ∀fr μ L a w,μ0.le μ→KS Tryz.prog ⟨n,[],none⟩ (RK fn.results.toList Rv) s fr μ L→Agr ⟨n,[],none⟩ fr a→Inv w μ L→d.wpIn (fw none) 0 Tryz.prog Q a w)
  {fr:Fr} {μ:Gh} {L:List Seg} {a:Act} {w:World} (hm:μ0.le μ) (h:KS Tryz.prog ⟨n,[],none⟩ (RK fn.results.toList Rv) (.code c::s) fr μ L) (ha:Agr ⟨n,[],none⟩ fr a) (hw:Inv w μ L):(Code.seq c d).wpIn (fw none) 0 Tryz.prog Q a w:=by
 have h1:=h a w ha hw;refine wpIn_seq (Code.wpIn_mono (fun e a1 w1 hl=> ?_) h1);cases e with
 | normal=>obtain ⟨f1,μ1,L1,k1,k2,k3,k4⟩:=hl;exact hd f1 μ1 L1 a1 w1 (hm.trans k2) k4 k1 k3
 | ret=>obtain ⟨f1,μ1,L1,k1,k2,k3,k4⟩:=hl;exact hQ a1 w1 (QlM k1 (hm.trans k2) k3 k4)
 | exit i =>
  obtain ⟨f1,μ1,L1,k1,k2,k3,k4⟩:=hl;have k4:BS Tryz.prog ⟨n,[],none⟩ (RK fn.results.toList Rv) s i f1 μ1 L1:=k4
  rw[hB] at k4
  exact k4.elim
 | _=>exact hl.elim
theorem QlJ {f:FuncId} {fn:Func} {c0 c1 b post:Code} {args:List Value} {n:Nat} {Rv:Value→Gh→List Seg→Prop} (hf:Tryz.prog.funcs[f]? =some fn) (hnm:(fn.name== "runtime.NumGoroutine")=false)
  (hb:fn.body=some (.seq c0 (.seq (.seq c1 b) post))) (hn:fn.ntmps=n) (hl:Nat.ble args.length n=true)
  (ha:Qgi ixs args (fun F=> .ok [] F [] [] [])= .ok [] fr [] [] []) (k:KS Tryz.prog ⟨n,[],none⟩ (RK fn.results.toList Rv) [.code c0,.code c1,.cut (RST fn n μ Rv b post)] fr μ L):Fn Tryz.prog f args μ L Rv:=by
 have e1:=QcX (by simp) 16 0 args _ (show Qgi (List.range' 0 16) args _=_ from ha);injection e1 with _ e1 _ _ _
 subst e1;refine .inl ⟨⟨fn,hf,hnm,by rw[hb];rfl⟩,fun w hw=> ?_⟩;refine (callsIn_wide (n:=0)).1 (callsIn_of_wp_marks (F:=Fence.wide) hf hb trivial ?_);have hl:=Nat.le_of_ble_eq_true hl;have ha:Agr ⟨n,[],none⟩ (QhO args) { tmps:=args.toArray++Array.replicate (fn.ntmps-args.toArray.size) undef,defers:=[] }:=by
  refine ⟨rfl,by simp[hn];omega,fun t v hv=> ?_⟩;obtain ⟨_,h2⟩:=QgD args 0 t v hv;have hlt:t<args.length:=by
   rcases Nat.lt_or_ge t args.length with h | h
   ·exact h
   ·rw[List.getElem?_eq_none (by simpa using h)] at h2;cases h2
  have h2':args[t]? =some v:=h2;have hg:args[t]=v:=by rw[List.getElem?_eq_getElem hlt] at h2';injection h2'
  simp[Array.getElem?_append,hlt,hg]
 have hQ: ∀(d:Code) a w,LeavesInM (fw none) 0 Tryz.prog fn a.tmps (Qic μ Rv) a.defers .returning w→Qib fn μ Rv .ret a w:=fun _ _ _ h=>h;refine Qkn (Q:=Qib fn μ Rv) rfl (hQ c0) ?_ (Gh.le.refl _) k ha hw;refine fun fr μ1 L a w hm k ha hw=>wpIn_seq (Qkn (Q:=Exit.then (post.wpIn (fw none) 0 Tryz.prog (Qib fn μ Rv)) (Qib fn μ Rv)) rfl (hQ c0) ?_ hm k ha hw);exact fun fr μ1 L a w hm k ha hw=>k a w hm ha hw
end
end Go.Proofs.YtilbengnjgglhaaGreat
namespace Go.Proofs
open Go.Shelf
def Tryz.lays215_ren:Go.Shelf.Ren:=⟨fun | 215=>58 | n=>n,fun | 3=>3 | 4=>4 | n=>n,fun | n=>n⟩
theorem Tryz.lays215:Go.Proofs.Lays.n215 Tryz.prog Tryz.lays215_ren:={
 mixed:=by kernel_rfl
 f215:=Tryz.func58.trans (congrArg some (by kernel_rfl))
 t3:=Tryz.underlying3
 a3:=Tryz.isAgg3
 z3:=Tryz.sizeOf3
 v3:=Tryz.zeroValue3
 t4:=Tryz.underlying4
 a4:=Tryz.isAgg4
 z4:=Tryz.sizeOf4
 v4:=Tryz.zeroValue4 }
open Go.RowKit in
theorem Tryz.cmp_isNaN_int (x:Int) (w:World) :
  Calls Tryz.prog 58 #[.int .i64 x] w fun e w'=>e= .returned (.bool false)∧w'=w:=Any.cmp_isNaN_int Tryz.lays215 x w
def Tryz.lays122_ren:Go.Shelf.Ren:=⟨fun | 122=>39 | 215=>58 | n=>n,fun | 3=>3 | 4=>4 | n=>n,fun | n=>n⟩
theorem Tryz.lays122:Go.Proofs.Lays.n122 Tryz.prog Tryz.lays122_ren:={
 mixed:=by kernel_rfl
 f122:=Tryz.func39.trans (congrArg some (by kernel_rfl))
 f215:=Tryz.func58.trans (congrArg some (by kernel_rfl))
 t3:=Tryz.underlying3
 a3:=Tryz.isAgg3
 z3:=Tryz.sizeOf3
 v3:=Tryz.zeroValue3
 t4:=Tryz.underlying4
 a4:=Tryz.isAgg4
 z4:=Tryz.sizeOf4
 v4:=Tryz.zeroValue4 }
open Go.RowKit in
theorem Tryz.cmp_Compare_int (x y:Int) (w:World) :
  Calls Tryz.prog 39 #[.int .i64 x,.int .i64 y] w fun e w'=>e= .returned (.int .i64 (Lib.compareInt x y))∧w'=w:=Any.cmp_Compare_int Tryz.lays122 x y w
def Tryz.lays189_ren:Go.Shelf.Ren:=⟨fun | 189=>37 | 125=>57 | 257=>56 | 128=>78 | 129=>79 | 294=>69 | 295=>70 | 296=>71 | 297=>72 | 298=>73 | 299=>74 | 216=>75 | 300=>76 | 301=>77 | 328=>91 | 329=>92 | 330=>93 | 331=>94 | 332=>95 | 215=>58 | 343=>99 | n=>n,fun | 28=>29 | 3=>3 | 46=>57 | 0=>0 | 51=>133 | 53=>135 | 4=>4 | 183=>125 | 182=>124 | 131=>130 | 5=>5 | 9=>9 | 218=>148 | 222=>152 | 228=>159 | 229=>160 | n=>n,fun | n=>n⟩
theorem Tryz.lays189:Go.Proofs.Lays.n189 Tryz.prog Tryz.lays189_ren:={
 mixed:=by kernel_rfl
 f125:=Tryz.func57.trans (congrArg some (by kernel_rfl))
 f128:=Tryz.func78.trans (congrArg some (by kernel_rfl))
 f129:=Tryz.func79.trans (congrArg some (by kernel_rfl))
 f189:=Tryz.func37.trans (congrArg some (by kernel_rfl))
 f215:=Tryz.func58.trans (congrArg some (by kernel_rfl))
 f216:=Tryz.func75.trans (congrArg some (by kernel_rfl))
 f257:=Tryz.func56.trans (congrArg some (by kernel_rfl))
 f294:=Tryz.func69.trans (congrArg some (by kernel_rfl))
 f295:=Tryz.func70.trans (congrArg some (by kernel_rfl))
 f296:=Tryz.func71.trans (congrArg some (by kernel_rfl))
 f297:=Tryz.func72.trans (congrArg some (by kernel_rfl))
 f298:=Tryz.func73.trans (congrArg some (by kernel_rfl))
 f299:=Tryz.func74.trans (congrArg some (by kernel_rfl))
 f300:=Tryz.func76.trans (congrArg some (by kernel_rfl))
 f301:=Tryz.func77.trans (congrArg some (by kernel_rfl))
 f328:=Tryz.func91.trans (congrArg some (by kernel_rfl))
 f329:=Tryz.func92.trans (congrArg some (by kernel_rfl))
 f330:=Tryz.func93.trans (congrArg some (by kernel_rfl))
 f331:=Tryz.func94.trans (congrArg some (by kernel_rfl))
 f332:=Tryz.func95.trans (congrArg some (by kernel_rfl))
 f343:=Tryz.func99.trans (congrArg some (by kernel_rfl))
 t0:=Tryz.underlying0
 a0:=Tryz.isAgg0
 z0:=Tryz.sizeOf0
 v0:=Tryz.zeroValue0
 t3:=Tryz.underlying3
 a3:=Tryz.isAgg3
 z3:=Tryz.sizeOf3
 v3:=Tryz.zeroValue3
 t4:=Tryz.underlying4
 a4:=Tryz.isAgg4
 z4:=Tryz.sizeOf4
 v4:=Tryz.zeroValue4
 t5:=Tryz.underlying5
 a5:=Tryz.isAgg5
 z5:=Tryz.sizeOf5
 v5:=Tryz.zeroValue5
 t9:=Tryz.underlying9
 a9:=Tryz.isAgg9
 z9:=Tryz.sizeOf9
 v9:=Tryz.zeroValue9
 t28:=Tryz.underlying29
 a28:=Tryz.isAgg29
 z28:=Tryz.sizeOf29
 v28:=Tryz.zeroValue29
 t46:=Tryz.underlying57
 a46:=Tryz.isAgg57
 z46:=Tryz.sizeOf57
 v46:=Tryz.zeroValue57
 t51:=Tryz.underlying133
 a51:=Tryz.isAgg133
 z51:=Tryz.sizeOf133
 v51:=Tryz.zeroValue133
 t53:=Tryz.underlying135
 a53:=Tryz.isAgg135
 z53:=Tryz.sizeOf135
 v53:=Tryz.zeroValue135
 t131:=Tryz.underlying130
 a131:=Tryz.isAgg130
 z131:=Tryz.sizeOf130
 v131:=Tryz.zeroValue130
 t182:=Tryz.underlying124
 a182:=Tryz.isAgg124
 z182:=Tryz.sizeOf124
 v182:=Tryz.zeroValue124
 t183:=Tryz.underlying125
 a183:=Tryz.isAgg125
 z183:=Tryz.sizeOf125
 v183:=Tryz.zeroValue125
 t218:=Tryz.underlying148
 a218:=Tryz.isAgg148
 z218:=Tryz.sizeOf148
 v218:=Tryz.zeroValue148
 t222:=Tryz.underlying152
 a222:=Tryz.isAgg152
 z222:=Tryz.sizeOf152
 v222:=Tryz.zeroValue152
 t228:=Tryz.underlying159
 a228:=Tryz.isAgg159
 z228:=Tryz.sizeOf159
 v228:=Tryz.zeroValue159
 t229:=Tryz.underlying160
 a229:=Tryz.isAgg160
 z229:=Tryz.sizeOf160
 v229:=Tryz.zeroValue160 }
open Go.Sort Go.RowKit in
theorem Tryz.slices_Sort_int (blk off cap:Nat) (zs:List Int) (w:World) (hH:Holds (Value.int .i64) w blk off zs.toArray) (hblk:blk<w.heap.size) (hsz:zs.length<4611686018427387904) :
  Calls Tryz.prog 37 #[.slice (some ⟨blk,off,none⟩) zs.length cap] w fun e w' =>
   e= .returned (.tuple #[])∧ ∃n os,w'=grow (putRow (Value.int .i64) (Sort.ahead w n) blk off (zs.mergeSort fun x y=>decide (x≤y)).toArray) os:=Any.slices_Sort_int Tryz.lays189 blk off cap zs w hH hblk hsz
open Go.RowKit Go.Sort in
theorem Tryz.slices_Sort_int_none (p:Option Addr) (cap:Nat) (w:World) :
  Calls Tryz.prog 37 #[.slice p 0 cap] w fun e w'=>e= .returned (.tuple #[])∧w'=w:=Any.slices_Sort_int_none Tryz.lays189 p cap w
end Go.Proofs
