/- TopLeaseVend: for every input the given law returns true, and its arguments read as before. No condition. -/
import Derived.Test.Ytfdjjdhnfaklbaac2x2
import Derived.Test.Ytfdjjdhnfaklbaac2x1
namespace Go.Proofs.Ytfdjjdhnfaklbaa
open Go.RowKit
set_option linter.unusedSimpArgs false
set_option linter.unusedVariables false
def JB (P:Program) (N:NN) (all rest:List Oper) (K:Qs):Qs:=fun fr μ L=> ∀(a:Act) (w:World) (Q:Exit→Act→World→Prop),Agr N fr a→Inv w μ L →
 (∀fr' μ' L' a' w',μ.le μ'→Agr N fr' a'→Inv w' μ' L'→K fr' μ' L'→Q .normal a' w')→wpListIn (fw N.rd) 0 P all.toArray Q rest a w
def WQ (all:List Oper) (plan:List (Bool×Nat)) (l:List Bool):Bool:=match Zf all plan l with
 | some l'=>(Region.ready .any all.toArray l'.toArray).isEmpty
 | none=>false
def WA (P:Program) (N:NN) (all:List Oper) (l:List Bool) (plan:List (Bool×Nat)) (μ0:Gh) (keep:List Seg) (K:Qs):Qs:=fun fr μ L =>
 Region.noSelect all.toArray=true→WQ all plan l=true→AN P N all μ0 keep plan.length l K fr μ L
def VC (P:Program) (N:NN) (all:List Oper) (l:List Bool) (plan:List (Bool×Nat)) (n:Nat) (l':List Bool) (μ0:Gh) (keep:List Seg) (K:Qs):Qs:=fun fr μ L =>
 Region.noSelect all.toArray=true→Zf all plan l=some l'→AN P N all μ0 keep (n+plan.length) l K fr μ L
inductive MIt where
 | code (c:Code)
 | blk (i:Nat)
 | ops (all rest:List Oper)
 | pln (all:List Oper) (l:List Bool) (plan:List (Bool×Nat)) (μ0:Gh) (keep:List Seg)
 | plp (all:List Oper) (l:List Bool) (plan:List (Bool×Nat)) (n:Nat) (l':List Bool) (μ0:Gh) (keep:List Seg)
 | cut (M:Qs)
def KEn (N:NN) (K:Qs):Qs:=fun fr μ L=> ∀a w,Agr N fr a→Inv w μ L→ ∃fr' μ' L',Agr N fr' a∧μ.le μ'∧Inv w μ' L'∧K fr' μ' L'
section
variable (P:Program) (N:NN) (R:Qs)
def KB:List MIt→Qs×(Nat→Qs)
 | []=>(KEn N R,fun _ _ _ _=>False)
 | .code c::s=>(fun fr μ L=>WP P N c (KB s).1 (KB s).2 (KEn N R) fr μ L,(KB s).2)
 | .blk i::s=>((KB s).1,WI i (KB s).1 (KB s).2)
 | .ops all rest::s=>(JB P N all rest (KB s).1,(KB s).2)
 | .pln all l plan μ0 keep::s=>(WA P N all l plan μ0 keep (KB s).1,(KB s).2)
 | .plp all l plan n l' μ0 keep::s=>(VC P N all l plan n l' μ0 keep (KB s).1,(KB s).2)
 | .cut M::s=>(M,(KB s).2)
def KS (s:List MIt):Qs:=(KB P N R s).1
def BS (s:List MIt):Nat→Qs:=(KB P N R s).2
end
section
variable {P:Program} {T:TT} {N:NN} {R K:Qs} {fr:Fr} {μ:Gh} {L:List Seg} {all rest:List Oper} {o:Oper} {l l':List Bool} {plan:List (Bool×Nat)} {μ0:Gh} {keep:List Seg} {i n:Nat}
theorem KEn.done (h:K fr μ L):KEn N K fr μ L:=fun _ _ ha hw=>⟨fr,μ,L,ha,Gh.le.refl _,hw,h⟩
theorem JB.nil (h:K fr μ L):JB P N all [] K fr μ L:=fun a w Q ha hw hQ=>hQ fr μ L a w (Gh.le.refl _) ha hw h
theorem JB.cons (hT:TOk P T) (h:YH all fr o.guard (vcO P T o.op o.type fr μ L fun v μ' L'=>Yx N o.dst v fr fun fr'=>JB P N all rest K fr' μ' L') (Yx N o.dst undef fr fun fr'=>JB P N all rest K fr' μ L)) :
  JB P N all (o::rest) K fr μ L:=by
 intro a w Q ha hw hQ;refine wpListIn_step fun K' hK'=> ?_;rcases Y1 ha h with ⟨hg,h⟩ | ⟨hg,h⟩
 ·rw[if_pos hg]
  refine Qgf (V5 h) (Jl hT ha h hw fun v μ' L' w' hm hw' hk=> ?_);obtain ⟨fr',hk,ha'⟩:=Q9 ha hk;exact hK' _ _ (hk _ w' Q ha' hw' fun fr2 μ2 L2 a2 w2 hm2=>hQ fr2 μ2 L2 a2 w2 (hm.trans hm2))
 ·rw[if_neg (by rw[hg];exact Bool.false_ne_true)]
  refine ⟨fun _ _=>trivial,?_⟩;obtain ⟨fr',hk,ha'⟩:=Q9 ha h;exact hK' _ _ (hk _ w Q ha' hw hQ)
theorem WP.regionS {B:Nat→Qs} {id:Nat} (h:JB P N all all K fr μ L):WP P N (.region id all.toArray false) K B R fr μ L:=fun a w ha hw =>
 wpIn_region_lit (h a w _ ha hw fun fr' μ' L' a' w' hm ha' hw' hk=>⟨fr',μ',L',ha',hm,hw',hk⟩)
theorem AN.one (hT:TOk P T) (hs:Region.noSelect all.toArray=true) {b:Bool} {m:Nat} {X:Qs} (hX: ∀fr μ L,X fr μ L→AN P N all μ0 keep m (l.set i true) K fr μ L) (hp:Zf all ((b,i)::plan) l=some l') (ho:Ze all i=some o)
  (h:(match b with
   | true=>YH all fr o.guard (vcR P T o.op fr μ0 keep fun v=>Yx N o.dst v fr fun fr'=>X fr' μ L) (Yx N o.dst undef fr fun fr'=>X fr' μ L)
   | false=>YH all fr o.guard (vcO P T o.op o.type fr μ L fun v μ' L'=>QP keep L'∧Yx N o.dst v fr fun fr'=>X fr' μ' L') (Yx N o.dst undef fr fun fr'=>X fr' μ L))) :
  AN P N all μ0 keep (m+1) l K fr μ L:=by
 intro hm hk a w Qx ha hw hQ hQp;unfold Zf at hp
 split at hp
 ·rename_i hc
  rw[JL] at ho
  have ho':all.toArray[i]? =some o:=by simpa using ho
  show wpAnyH P .any all.toArray Qx _ (m+1) l.toArray a w
  cases b with
  | true =>
   simp only[Bool.and_eq_true] at h hc
   have hcont: ∀v,Yx N o.dst v fr (fun fr'=>X fr' μ L)→wpAnyH P .any all.toArray Qx (fun w=>Y8 w μ0 keep) m (l.toArray.setIfInBounds i true) (a.put o.dst v) w:=by
    intro v hv;obtain ⟨fr',hv',ha'⟩:=Q9 ha hv
    rw[Yb]
    exact hX _ _ _ hv' hm hk _ w Qx ha' hw hQ hQp
   rcases Y1 ha h with ⟨hg,h⟩ | ⟨hg,h⟩
   ·obtain ⟨v,hv,hrun⟩:=J9 hT ha h;exact wpAnyH_take ho' hs hc.1 hc.2 (fun c a w h=>hQp c a _ _ w h) (.inl ⟨hg,fun w hw=>hrun w hw⟩) (YD hm hk hw) (hcont v hv)
   ·exact wpAnyH_take ho' hs hc.1 hc.2 (fun c a w h=>hQp c a _ _ w h) (.inr ⟨hg,rfl⟩) (YD hm hk hw) (hcont undef h)
  | false =>
   simp only[beq_iff_eq] at h hc
   refine wpAnyH_all hc (by simp) fun j hj=> ?_;have hj':j=i:=by simpa using hj
   subst hj';unfold wpOp
   rw[ho']
   simp only
   rcases Y1 ha h with ⟨hg,h⟩ | ⟨hg,h⟩
   ·rw[if_pos hg]
    refine .inl (Jl hT ha h hw fun v μ' L' w' hm' hw' hv=> ?_);obtain ⟨fr',hv',ha'⟩:=Q9 ha hv.2;refine ⟨YD (hm.trans hm') hv.1 hw',?_⟩
    rw[Yb]
    exact hX _ _ _ hv' (hm.trans hm') hv.1 _ w' Qx ha' hw' (fun fr2 μ2 L2 a2 w2 h2=>hQ fr2 μ2 L2 a2 w2 (hm'.trans h2)) hQp
   ·rw[if_neg (by rw[hg];exact Bool.false_ne_true)]
    obtain ⟨fr',hv',ha'⟩:=Q9 ha h;refine ⟨YD hm hk hw,?_⟩
    rw[Yb]
    exact hX _ _ _ hv' hm hk _ w Qx ha' hw hQ hQp
 ·cases hp
theorem Wr {b:Bool} (hp:Zf all ((b,i)::plan) l=some l'):Zf all plan (l.set i true)=some l':=by
 unfold Zf at hp
 split at hp
 ·exact hp
 ·cases hp
theorem Wq (h:WQ all plan l=true): ∃l',Zf all plan l=some l'∧Region.ready .any all.toArray l'.toArray=[]:=by
 unfold WQ at h
 split at h
 ·exact ⟨_,by assumption,by simpa using h⟩
 ·cases h
theorem V1 {b:Bool} (h:WQ all ((b,i)::plan) l=true):WQ all plan (l.set i true)=true:=by
 obtain ⟨l',h1,h2⟩:=Wq h;unfold WQ
 rw[Wr h1]
 simp only[h2];rfl
theorem WA.nil (h:K fr μ L):WA P N all l [] μ0 keep K fr μ L:=by
 intro _ hp;obtain ⟨l',h1,h2⟩:=Wq hp
 simp only[Zf,Option.some.injEq] at h1
 subst h1;exact AN.done h2 h
theorem WA.t (hT:TOk P T) (ho:Ze all i=some o) (h:YH all fr o.guard (vcR P T o.op fr μ0 keep fun v=>Yx N o.dst v fr fun fr'=>WA P N all (l.set i true) plan μ0 keep K fr' μ L) (Yx N o.dst undef fr fun fr'=>WA P N all (l.set i true) plan μ0 keep K fr' μ L)) :
  WA P N all l ((true,i)::plan) μ0 keep K fr μ L:=by
 intro hs hp;have hp2:=V1 hp;obtain ⟨l',h1,_⟩:=Wq hp;exact AN.one (b:=true) hT hs (fun _ _ _ h=>h hs hp2) h1 ho h
theorem WA.f (hT:TOk P T) (ho:Ze all i=some o) (h:YH all fr o.guard (vcO P T o.op o.type fr μ L fun v μ' L'=>QP keep L'∧Yx N o.dst v fr fun fr'=>WA P N all (l.set i true) plan μ0 keep K fr' μ' L') (Yx N o.dst undef fr fun fr'=>WA P N all (l.set i true) plan μ0 keep K fr' μ L)) :
  WA P N all l ((false,i)::plan) μ0 keep K fr μ L:=by
 intro hs hp;have hp2:=V1 hp;obtain ⟨l',h1,_⟩:=Wq hp;exact AN.one (b:=false) hT hs (fun _ _ _ h=>h hs hp2) h1 ho h
theorem VC.t {l1:List Bool} (hT:TOk P T) (ho:Ze all i=some o) (h:YH all fr o.guard (vcR P T o.op fr μ0 keep fun v=>Yx N o.dst v fr fun fr'=>VC P N all (l.set i true) plan n l1 μ0 keep K fr' μ L) (Yx N o.dst undef fr fun fr'=>VC P N all (l.set i true) plan n l1 μ0 keep K fr' μ L)) :
  VC P N all l ((true,i)::plan) n l1 μ0 keep K fr μ L:=by
 intro hs hp;exact AN.one (b:=true) hT hs (fun _ _ _ h=>h hs (Wr hp)) hp ho h
theorem VC.f {l1:List Bool} (hT:TOk P T) (ho:Ze all i=some o) (h:YH all fr o.guard (vcO P T o.op o.type fr μ L fun v μ' L'=>QP keep L'∧Yx N o.dst v fr fun fr'=>VC P N all (l.set i true) plan n l1 μ0 keep K fr' μ' L') (Yx N o.dst undef fr fun fr'=>VC P N all (l.set i true) plan n l1 μ0 keep K fr' μ L)) :
  VC P N all l ((false,i)::plan) n l1 μ0 keep K fr μ L:=by
 intro hs hp;exact AN.one (b:=false) hT hs (fun _ _ _ h=>h hs (Wr hp)) hp ho h
theorem WP.drawS {B:Nat→Qs} (hx:P.follows .mixedOrders=true) {id:Nat} (keep:List Seg) (hk:QP keep L) (plan:List (Bool×Nat)) (hl:plan.length=all.length)
  (hs:Region.noSelect all.toArray=true) (hnd:WN all=true) (hp:WQ all plan (List.replicate all.length false)=true) (h:WA P N all (List.replicate all.length false) plan μ keep K fr μ L):WP P N (.region id all.toArray true) K B R fr μ L :=
 WP.draw hx keep hk rfl (by rw[←hl];have:=h hs hp;rw[←hl] at this;exact this) (.inr hnd)
end
def Vy (i:Nat):List MIt→Option (List MIt)
 | []=>none
 | .blk j::s=>bif Nat.beq i j then some s else Vy i s
 | .code _::s=>Vy i s
 | .ops _ _::s=>Vy i s
 | .pln _ _ _ _ _::s=>Vy i s
 | .plp _ _ _ _ _ _ _::s=>Vy i s
 | .cut _::s=>Vy i s
section
variable {P:Program} {N:NN} {R:Qs} {fr:Fr} {μ:Gh} {L:List Seg}
theorem Zu {i:Nat}: ∀{s s':List MIt},Vy i s=some s'→KS P N R s' fr μ L→BS P N R s i fr μ L
 | [],s',h,_=>by cases h
 | .blk j::s,s',h,hk=>by
  simp only[Vy] at h
  show WI j (KS P N R s) (BS P N R s) i fr μ L
  cases hb:Nat.beq i j with
  | true =>
   rw[hb] at h
   simp only[cond_true,Option.some.injEq] at h
   subst h
   simp only[WI,if_pos (Nat.eq_of_beq_eq_true hb)];exact hk
  | false =>
   rw[hb] at h
   simp only[WI,if_neg (Nat.ne_of_beq_eq_false hb)]
   exact Zu (s:=s) h hk
 | .code _::s,s',h,hk=>Zu (s:=s) h hk
 | .ops _ _::s,s',h,hk=>Zu (s:=s) h hk
 | .pln _ _ _ _ _::s,s',h,hk=>Zu (s:=s) h hk
 | .plp _ _ _ _ _ _ _::s,s',h,hk=>Zu (s:=s) h hk
 | .cut _::s,s',h,hk=>Zu (s:=s) h hk
end
inductive Out where
 | ok (s:List MIt) (fr:Fr) (L:List Seg) (a b:List Value)
 | bad
def evK (fr:Fr) (x:Operand) (k:Value→Out):Out:=match evV fr x with
 | some v=>k v
 | none=> .bad
def QeF (fr:Fr):List Operand→(List Value→Out)→Out
 | [],k=>k []
 | x::xs,k=>evK fr x fun v=>QeF fr xs fun vs=>k (v::vs)
def Qga (fr:Fr):List (Nat×Operand)→(List (Nat×Value)→Out)→Out
 | [],k=>k []
 | x::xs,k=>evK fr x.2 fun v=>Qga fr xs fun vs=>k ((x.1,v)::vs)
def QcO:Nat→List Value→(List Value→Out)→Out
 | 0,_,k=>k []
 | _+1,[],_=> .bad
 | n+1,v::r,k=>QcO n r fun t=>k (v::t)
def Qcp:Nat→List Value→(List Value→Out)→Out
 | 0,l,k=>k l
 | _+1,[],_=> .bad
 | n+1,_::r,k=>Qcp n r k
def QeX:Nat→List Value→(Value→Out)→Out
 | _,[],_=> .bad
 | 0,v::_,k=>k v
 | n+1,_::r,k=>QeX n r k
def Qfb:List Value→Nat→List Value→(List Value→Out)→Out
 | cs,_,[],k=>k cs
 | [],_,_::_,_=> .bad
 | c::r,0,v::vs,k=>Qfb r 0 vs fun t=>k (v::t)
 | c::r,o+1,v::vs,k=>Qfb r o (v::vs) fun t=>k (c::t)
def QbR (v:Value) (k:List Value→Out):Out:=match v with
 | .agg ⟨cs⟩=>k cs
 | .bool b=>k [.bool b]
 | .int kd n=>k [.int kd n]
 | .string s=>k [.string s]
 | .pointer a=>k [.pointer a]
 | .slice a n c=>k [.slice a n c]
 | .map r=>k [.map r]
 | .func f a b=>k [.func f a b]
 | .nilFunc=>k [.nilFunc]
 | _=> .bad
def Qe8:IntKind→IntKind→Bool
 | .i8,.i8=>true | .i16,.i16=>true | .i32,.i32=>true | .i64,.i64=>true
 | .u8,.u8=>true | .u16,.u16=>true | .u32,.u32=>true | .u64,.u64=>true
 | _,_=>false
def QaJ (x y:Value) (k:IntKind→Int→Int→Out):Out:=match x,y with
 | .int kd a,.int kd' b=>(match Qe8 kd kd' with | true=>k kd a b | false=> .bad)
 | _,_=> .bad
def JY (b:Bool) (x:Out):Out:=match b with | true=>x | false=> .bad
def tyK (T:TT) (t:TypeId) (k:TyI→Out):Out:=match T t with | some i=>k i | none=> .bad
def eqV (T:TT) (t:TypeId) (x y:Value) (k:Bool→Out):Out:=match x,y with
 | .int kd a,.int kd' b=>JY (Qe8 kd kd') (k (decide (a=b)))
 | .bool a,.bool b=>tyK T t fun i=>JY (Qc2 i.u) (k (a==b))
 | .pointer none,.pointer none=>tyK T t fun i=>JY (VY i.u) (k true)
 | .pointer (some _),.pointer none=>tyK T t fun i=>JY (VY i.u) (k false)
 | _,_=> .bad
def Qf5 (T:TT) (op:BinOp) (t:TypeId) (x y:Value) (k:Value→Out):Out:=match op with
 | .add=>QaJ x y fun kd a b=>k (.int kd (kd.wrap (a+b)))
 | .sub=>QaJ x y fun kd a b=>k (.int kd (kd.wrap (a-b)))
 | .mul=>QaJ x y fun kd a b=>k (.int kd (kd.wrap (a*b)))
 | .lss=>QaJ x y fun kd a b=>k (.bool (decide (a<b)))
 | .leq=>QaJ x y fun kd a b=>k (.bool (decide (a≤b)))
 | .gtr=>QaJ x y fun kd a b=>k (.bool (decide (b<a)))
 | .geq=>QaJ x y fun kd a b=>k (.bool (decide (b≤a)))
 | .eql=>eqV T t x y fun b=>k (.bool b)
 | .neq=>eqV T t x y fun b=>k (.bool !b)
 | _=> .bad
def Qdr (pl:Nat→Option (Nat×Nat)) (cells:List Value) (parts:List (Nat×Value)) (k:List Value→Out):Out:=match parts with
 | []=>k cells
 | p::r=>match pl p.1 with
  | some (q1,q2)=>QbR p.2 fun vs=>JY (Nat.beq vs.length q2) <| JY (Nat.blt 0 q2) (Qfb cells q1 vs fun cells'=>Qdr pl cells' r k)
  | none=> .bad
def Qgb (T:TT) (s:TypeId) (f:Nat) (k:Nat→Nat→Bool→Out):Out:=tyK T s fun i=>JY (JC i.u) (match i.flds[f]? with
 | some (some (q1,q2,q3))=>k q1 q2 q3
 | _=> .bad)
def opV (T:TT) (fr:Fr) (o:Op) (k:Value→Out):Out:=match o with
 | .move x=>evK fr x k
 | .assign x=>evK fr x k
 | .nilCheck x=>evK fr x fun v=>(match v with
  | .pointer (some a)=>k (.pointer (some a))
  | .func (.func f) fi ca=>k (.func (.func f) fi ca)
  | _=> .bad)
 | .binOp op t x y _=>evK fr x fun a=>evK fr y fun b=>Qf5 T op t a b k
 | .unOp .not _ x=>evK fr x fun a=>(match a with | .bool b=>k (.bool !b) | _=> .bad)
 | .unOp .neg _ x=>evK fr x fun a=>(match a with | .int kd n=>k (.int kd (kd.wrap (0-n))) | _=> .bad)
 | .convert s d x=>evK fr x fun a=>(match a with
  | .int _ n=>tyK T s fun _=>tyK T d fun i=>(match i.u with | .int kd=>k (.int kd (kd.wrap n)) | _=> .bad)
  | _=> .bad)
 | .build t ps=>Qga fr ps.toList fun vs=>tyK T t fun i=>JY (JC i.u) (JY (i.flds.all (·.isSome)) (Qdr (Qe1 i) i.zero.cells.toList vs fun cs=>k (.agg ⟨cs⟩)))
 | .fieldAddr s x f=>evK fr x fun v=>(match v with
  | .pointer (some a)=>Qgb T s f fun q1 q2 _=>(match Nat.beq q2 0 with
   | false=>(match Nat.beq q1 0 with | true=>k (.pointer (some a)) | false=>k (.pointer (some (a.add q1))))
   | true=> .bad)
  | _=> .bad)
 | .field s x f=>evK fr x fun v=>(match v with
  | .agg ⟨cs⟩=>Qgb T s f fun q1 q2 q3=>(match q3 with
   | true=>Qcp q1 cs fun d=>QcO q2 d fun vs=>k (.agg ⟨vs⟩)
   | false=>QeX q1 cs k)
  | _=> .bad)
 | .extract x i=>evK fr x fun v=>(match v with | .tuple ⟨vs⟩=>QeX i vs k | _=> .bad)
 | .makeFunc f fi ca=>QeF fr fi.toList fun a=>QeF fr ca.toList fun b=>k (.func f ⟨a⟩ ⟨b⟩)
 | .call ⟨.builtin b,args,tys⟩=>QeF fr args.toList fun vs=>(match b with
  | .len=>(match vs,tys.toList with
   | [.slice _ n _],[t]=>tyK T t fun i=>JY (WJ i.u) (k (.int .i64 n))
   | [.string s],[t]=>tyK T t fun i=>JY (Qgd i.u) (k (.int .i64 s.size))
   | _,_=> .bad)
  | .cap=>(match vs,tys.toList with
   | [.slice _ _ c],[t]=>tyK T t fun i=>JY (WJ i.u) (k (.int .i64 c))
   | _,_=> .bad)
  | .min=>(match vs with | [.int kd x,.int _ y]=>k (.int kd (min x y)) | _=> .bad)
  | .max=>(match vs with | [.int kd x,.int _ y]=>k (.int kd (max x y)) | _=> .bad)
  | _=> .bad)
 | _=> .bad
section
variable {fr:Fr} {o:Out}
theorem Q6 {x:Operand} {k:Value→Out} (h:evK fr x k=o) (ho:o≠ .bad): ∃v,evV fr x=some v∧k v=o:=by
 unfold evK at h
 split at h
 ·exact ⟨_,by assumption,h⟩
 ·exact absurd h.symm ho
theorem WY: ∀{xs:List Operand} {k:List Value→Out},QeF fr xs k=o→o≠ .bad→ ∃vs,JQ fr xs=some vs∧k vs=o
 | [],k,h,ho=>⟨[],rfl,h⟩
 | x::xs,k,h,ho=>by
  obtain ⟨v,h1,h2⟩:=Q6 (x:=x) h ho;obtain ⟨vs,h3,h4⟩:=WY h2 ho;exact ⟨v::vs,by simp only[JQ,h1,h3],h4⟩
theorem Qbo: ∀{xs:List (Nat×Operand)} {k:List (Nat×Value)→Out},Qga fr xs k=o→o≠ .bad→ ∃vs,Qa8 fr xs=some vs∧k vs=o
 | [],k,h,ho=>⟨[],rfl,h⟩
 | x::xs,k,h,ho=>by
  obtain ⟨v,h1,h2⟩:=Q6 (x:=x.2) h ho;obtain ⟨vs,h3,h4⟩:=Qbo h2 ho;exact ⟨(x.1,v)::vs,by simp only[Qa8,h1,h3],h4⟩
theorem Vo: ∀{n:Nat} {l:List Value} {k:List Value→Out},QcO n l k=o→o≠ .bad→k (l.take n)=o∧(l.take n).length=n
 | 0,l,k,h,_=>⟨by simpa [QcO] using h,by simp⟩
 | n+1,[],k,h,ho=>absurd h.symm ho
 | n+1,v::r,k,h,ho=>by
  obtain ⟨h1,h2⟩:=Vo (n:=n) (l:=r) h ho;exact ⟨by simpa using h1,by simpa using h2⟩
theorem Vf: ∀{n:Nat} {l:List Value} {k:List Value→Out},Qcp n l k=o→o≠ .bad→k (l.drop n)=o
 | 0,l,k,h,_=>by simpa [Qcp] using h
 | n+1,[],k,h,ho=>absurd h.symm ho
 | n+1,v::r,k,h,ho=>by simpa using Vf (n:=n) (l:=r) h ho
theorem WZ: ∀{n:Nat} {l:List Value} {k:Value→Out},QeX n l k=o→o≠ .bad→ ∃v,l[n]? =some v∧k v=o
 | n,[],k,h,ho=>absurd (by cases n<;>exact h.symm) ho
 | 0,v::r,k,h,ho=>⟨v,rfl,h⟩
 | n+1,v::r,k,h,ho=>by simpa using WZ (n:=n) (l:=r) h ho
theorem VO (c:Value): ∀(vs r:List Value) (o:Nat),Zq (c::r) (o+1) vs=c::Zq r o vs
 | [],r,o=>rfl
 | v::vs,r,o=>by simp only[Zq,List.set_cons_succ];exact VO c vs _ (o+1)
theorem W0: ∀{cs:List Value} {q:Nat} {vs:List Value} {k:List Value→Out},Qfb cs q vs k=o→o≠ .bad→k (Zq cs q vs)=o∧(vs≠[]→q+vs.length≤cs.length)
 | [],q,[],k,h,ho=>⟨by cases q<;>exact h,fun h=>absurd rfl h⟩
 | c::r,q,[],k,h,ho=>⟨by cases q<;>exact h,fun h=>absurd rfl h⟩
 | [],q,v::vs,k,h,ho=>absurd (by cases q<;>exact h.symm) ho
 | c::r,0,v::vs,k,h,ho=>by
  obtain ⟨h1,h2⟩:=W0 (cs:=r) (q:=0) (vs:=vs) h ho;refine ⟨?_,fun _=> ?_⟩
  ·rw[Zq,List.set_cons_zero,Nat.zero_add,VO];exact h1
  ·cases vs with
   | nil=>simp
   | cons u us=>have:=h2 (by simp);simp at this ⊢;omega
 | c::r,q+1,v::vs,k,h,ho=>by
  obtain ⟨h1,h2⟩:=W0 (cs:=r) (q:=q) (vs:=v::vs) h ho;refine ⟨?_,fun _=> ?_⟩
  ·rw[VO];exact h1
  ·have:=h2 (by simp);simp at this ⊢;omega
theorem VR {v:Value} {k:List Value→Out} (h:QbR v k=o) (ho:o≠ .bad):k v.cells.toList=o:=by
 unfold QbR at h
 split at h<;>first | exact h | exact absurd h.symm ho
theorem QaZ {a b:IntKind} (h:Qe8 a b=true):a=b:=by
 cases a<;>cases b<;>first | rfl | cases h
theorem VG {x y:Value} {k:IntKind→Int→Int→Out} (h:QaJ x y k=o) (ho:o≠ .bad): ∃kd a b,x= .int kd a∧y= .int kd b∧k kd a b=o:=by
 unfold QaJ at h
 split at h
 ·split at h
  ·rename_i hs
   have:=QaZ hs;subst this;exact ⟨_,_,_,rfl,rfl,h⟩
  ·exact absurd h.symm ho
 ·exact absurd h.symm ho
theorem Yd {b:Bool} {x:Out} (h:JY b x=o) (ho:o≠ .bad):b=true∧x=o:=by
 unfold JY at h
 split at h
 ·exact ⟨rfl,h⟩
 ·exact absurd h.symm ho
theorem Zk {T:TT} {t:TypeId} {k:TyI→Out} (h:tyK T t k=o) (ho:o≠ .bad): ∃i,T t=some i∧k i=o:=by
 unfold tyK at h
 split at h
 ·exact ⟨_,by assumption,h⟩
 ·exact absurd h.symm ho
theorem Qbt {T:TT} {s:TypeId} {f:Nat} {k:Nat→Nat→Bool→Out} (h:Qgb T s f k=o) (ho:o≠ .bad): ∃i q1 q2 q3,T s=some i∧JC i.u=true∧i.flds[f]? =some (some (q1,q2,q3))∧k q1 q2 q3=o:=by
 obtain ⟨i,h1,h2⟩:=Zk h ho;obtain ⟨h3,h4⟩:=Yd h2 ho
 split at h4
 ·exact ⟨i,_,_,_,h1,h3,by assumption,h4⟩
 ·exact absurd h4.symm ho
theorem QaA {pl:Nat→Option (Nat×Nat)}: ∀{parts:List (Nat×Value)} {cells:List Value} {k:List Value→Out},Qdr pl cells parts k=o→o≠ .bad→ ∃cs,k cs=o∧ ∀kk:List Value→Prop,kk cs→Jg pl cells parts kk
 | [],cells,k,h,ho=>⟨cells,h,fun _ h=>h⟩
 | p::r,cells,k,h,ho=>by
  unfold Qdr at h
  split at h
  ·rename_i q1 q2 hq
   have h1:=VR h ho;obtain ⟨h2,h3⟩:=Yd h1 ho;obtain ⟨h8,h3⟩:=Yd h3 ho;have h2:=Nat.eq_of_beq_eq_true h2;have h8:0<q2:=by simpa [Nat.blt_eq] using h8
   obtain ⟨h4,h5⟩:=W0 h3 ho;obtain ⟨cs,h6,h7⟩:=QaA (parts:=r) h4 ho;refine ⟨cs,h6,fun kk hkk=> ?_⟩;obtain ⟨n,v⟩:=p
   simp only at hq h2 h5 h7
   refine Qv (q1:=q1) (q2:=q2) hq (by rw[←h2];simp) ?_ rfl (h7 kk hkk);have:=h5 (by intro e;rw[e] at h2;simp at h2;omega)
   rw[h2] at this
   exact Nat.ble_eq_true_of_le this
  ·exact absurd h.symm ho
variable {T:TT} {P:Program} {μ:Gh} {L:List Seg}
theorem Qcr {t yt:TypeId} {x y:Operand} {u w:Value} {k:Bool→Out} (h:eqV T t u w k=o) (ho:o≠ .bad) (hx:evV fr x=some u) (hy:evV fr y=some w): ∃b,k b=o ∧
  (∀kk:Value→Prop,kk (.bool b)→vcR P T (.binOp .eql t x y yt) fr μ L kk)∧ ∀kk:Value→Prop,kk (.bool !b)→vcR P T (.binOp .neq t x y yt) fr μ L kk:=by
 unfold eqV at h
 split at h
 ·obtain ⟨h1,h2⟩:=Yd h ho;have:=QaZ h1;subst this;exact ⟨_,h2,fun kk hk=>QfR hx hy hk,fun kk hk=>Qf1 hx hy hk⟩
 ·obtain ⟨i,h1,h2⟩:=Zk h ho;obtain ⟨h3,h4⟩:=Yd h2 ho;exact ⟨_,h4,fun kk hk=>QfQ hx hy h1 h3 hk,fun kk hk=>Qf0 hx hy h1 h3 hk⟩
 ·obtain ⟨i,h1,h2⟩:=Zk h ho;obtain ⟨h3,h4⟩:=Yd h2 ho;exact ⟨_,h4,fun kk hk=>W8 hx hy h1 h3 hk,fun kk hk=>QcV hx hy h1 h3 hk⟩
 ·obtain ⟨i,h1,h2⟩:=Zk h ho;obtain ⟨h3,h4⟩:=Yd h2 ho;exact ⟨_,h4,fun kk hk=>W9 hx hy h1 h3 hk,fun kk hk=>Qew hx hy h1 h3 hk⟩
 ·exact absurd h.symm ho
theorem QdV {op:BinOp} {t yt:TypeId} {x y:Operand} {u w:Value} {k:Value→Out} (h:Qf5 T op t u w k=o) (ho:o≠ .bad) (hx:evV fr x=some u) (hy:evV fr y=some w) :
  ∃v,k v=o∧ ∀kk:Value→Prop,kk v→vcR P T (.binOp op t x y yt) fr μ L kk:=by
 cases op<;>simp only[Qf5] at h<;>try exact absurd h.symm ho
 case eql=>obtain ⟨b,h1,h2,_⟩:=Qcr (P:=P) (μ:=μ) (L:=L) (yt:=yt) h ho hx hy;exact ⟨_,h1,h2⟩
 case neq=>obtain ⟨b,h1,_,h2⟩:=Qcr (P:=P) (μ:=μ) (L:=L) (yt:=yt) h ho hx hy;exact ⟨_,h1,h2⟩
 all_goals
  obtain ⟨kd,a,b,rfl,rfl,h1⟩:=VG h ho;refine ⟨_,h1,fun kk hk=> ?_⟩
 case add=>exact Qdm hx hy hk
 case sub=>exact QgG hx hy hk
 case mul=>exact Qgz hx hy hk
 case lss=>exact QfX hx hy hk
 case leq=>exact QfW hx hy hk
 case gtr=>exact QfT hx hy hk
 case geq=>exact QfS hx hy hk
theorem WO {α:Type} {a:Array α} {x:α} (h:a.toList=[x]):a= #[x]:=by rw[←Array.toList_inj];simp[h]
theorem QeY {op:Op} {k:Value→Out} (h:opV T fr op k=o) (ho:o≠ .bad): ∃v,k v=o∧Qcz op=true∧ ∀kk:Value→Prop,kk v→vcR P T op fr μ L kk:=by
 cases op with
 | move x=>obtain ⟨v,h1,h2⟩:=Q6 h ho;exact ⟨v,h2,rfl,fun kk hk=>QK h1 hk⟩
 | assign x=>obtain ⟨v,h1,h2⟩:=Q6 h ho;exact ⟨v,h2,rfl,fun kk hk=>Jo h1 hk⟩
 | nilCheck x =>
  obtain ⟨v,h1,h2⟩:=Q6 h ho
  split at h2
  ·exact ⟨_,h2,rfl,fun kk hk=>YY h1 hk⟩
  ·exact ⟨_,h2,rfl,fun kk hk=>Qf2 h1 hk⟩
  ·exact absurd h2.symm ho
 | binOp op t x y yt =>
  obtain ⟨u,h1,h2⟩:=Q6 h ho;obtain ⟨w,h3,h4⟩:=Q6 h2 ho;obtain ⟨v,h5,h6⟩:=QdV (P:=P) (μ:=μ) (L:=L) (yt:=yt) h4 ho h1 h3;exact ⟨v,h5,rfl,h6⟩
 | unOp op t x =>
  cases op<;>simp only[opV] at h<;>try exact absurd h.symm ho
  case not =>
   obtain ⟨v,h1,h2⟩:=Q6 h ho
   split at h2
   ·exact ⟨_,h2,rfl,fun kk hk=>QgD h1 hk⟩
   ·exact absurd h2.symm ho
  case neg =>
   obtain ⟨v,h1,h2⟩:=Q6 h ho
   split at h2
   ·exact ⟨_,h2,rfl,fun kk hk=>QgB h1 hk⟩
   ·exact absurd h2.symm ho
 | convert s d x =>
  obtain ⟨v,h1,h2⟩:=Q6 h ho
  split at h2
  ·obtain ⟨j,h3,h4⟩:=Zk h2 ho;obtain ⟨i,h5,h6⟩:=Zk h4 ho
   split at h6
   ·exact ⟨_,h6,rfl,fun kk hk=>QfP h1 h3 h5 (by assumption) hk⟩
   ·exact absurd h6.symm ho
  ·exact absurd h2.symm ho
 | build t ps =>
  obtain ⟨vs,h1,h2⟩:=Qbo h ho;obtain ⟨i,h3,h4⟩:=Zk h2 ho;obtain ⟨h5,h6⟩:=Yd h4 ho;obtain ⟨h7,h8⟩:=Yd h6 ho;obtain ⟨cs,h9,h10⟩:=QaA h8 ho;exact ⟨_,h9,rfl,fun kk hk=>Wf h1 h3 h5 h7 (h10 _ hk)⟩
 | fieldAddr s x f =>
  obtain ⟨v,h1,h2⟩:=Q6 h ho
  split at h2
  ·obtain ⟨i,q1,q2,q3,h3,h4,h5,h6⟩:=Qbt h2 ho
   split at h6
   ·rename_i h7
    split at h6
    ·rename_i h8
     have:=Nat.eq_of_beq_eq_true h8;subst this;exact ⟨_,h6,rfl,fun kk hk=>QfJ h1 h3 h4 h5 h7 hk⟩
    ·exact ⟨_,h6,rfl,fun kk hk=>Qfm h1 h3 h4 h5 h7 hk⟩
   ·exact absurd h6.symm ho
  ·exact absurd h2.symm ho
 | field s x f =>
  obtain ⟨v,h1,h2⟩:=Q6 h ho
  split at h2
  ·obtain ⟨i,q1,q2,q3,h3,h4,h5,h6⟩:=Qbt h2 ho;cases q3 with
   | true =>
    have h7:=Vf h6 ho;obtain ⟨h8,_⟩:=Vo h7 ho;exact ⟨_,h8,rfl,fun kk hk=>Qet h1 h3 h4 h5 rfl hk⟩
   | false =>
    obtain ⟨u,h7,h8⟩:=WZ h6 ho;exact ⟨_,h8,rfl,fun kk hk=>Qfn h1 h3 h4 h5 h7 hk⟩
  ·exact absurd h2.symm ho
 | extract x i =>
  obtain ⟨v,h1,h2⟩:=Q6 h ho
  split at h2
  ·obtain ⟨u,h7,h8⟩:=WZ h2 ho;exact ⟨_,h8,rfl,fun kk hk=>Qgr h1 h7 hk⟩
  ·exact absurd h2.symm ho
 | makeFunc f fi ca =>
  obtain ⟨a,h1,h2⟩:=WY h ho;obtain ⟨b,h3,h4⟩:=WY h2 ho;exact ⟨_,h4,rfl,fun kk hk=>QfK h1 h3 hk⟩
 | call c =>
  obtain ⟨ce,args,tys⟩:=c;cases ce with
  | value f=>exact absurd h.symm ho
  | invoke r m=>exact absurd h.symm ho
  | builtin b =>
   obtain ⟨vs,h1,h2⟩:=WY h ho;cases b<;>simp only at h2<;>try exact absurd h2.symm ho
   case len =>
    split at h2
    ·rename_i ht
     obtain ⟨i,h3,h4⟩:=Zk h2 ho;obtain ⟨h5,h6⟩:=Yd h4 ho;have:=WO ht;subst this;exact ⟨_,h6,rfl,fun kk hk=>QbP h1 h3 h5 hk⟩
    ·rename_i ht
     obtain ⟨i,h3,h4⟩:=Zk h2 ho;obtain ⟨h5,h6⟩:=Yd h4 ho;have:=WO ht;subst this;exact ⟨_,h6,rfl,fun kk hk=>QfV h1 h3 h5 hk⟩
    ·exact absurd h2.symm ho
   case cap =>
    split at h2
    ·rename_i ht
     obtain ⟨i,h3,h4⟩:=Zk h2 ho;obtain ⟨h5,h6⟩:=Yd h4 ho;have:=WO ht;subst this;exact ⟨_,h6,rfl,fun kk hk=>Qgq h1 h3 h5 hk⟩
    ·exact absurd h2.symm ho
   case min =>
    split at h2
    ·exact ⟨_,h2,rfl,fun kk hk=>QcU h1 hk⟩
    ·exact absurd h2.symm ho
   case max =>
    split at h2
    ·exact ⟨_,h2,rfl,fun kk hk=>Qev h1 hk⟩
    ·exact absurd h2.symm ho
 | _=>exact absurd h.symm ho
end
end Go.Proofs.Ytfdjjdhnfaklbaa
namespace Go.Proofs.Ytfdjjdhnfaklbaa
open Go.RowKit
set_option linter.unusedSimpArgs false
set_option linter.unusedVariables false
abbrev Els:=List (Addr×List Value)
def W2 (n:Nat) (dst:Option Tmp) (v:Value) (fr:Fr) (k:Fr→Out):Out:=match dst with
 | none=>k fr
 | some d=>JY (Nat.blt d n) (k ((d,v)::fr))
def QeS:List (Nat×Bool)→Nat→Option Bool
 | [],_=>none
 | (s,v)::r,t=>bif Nat.beq s t then some v else QeS r t
def Qfp (kn:List (Nat×Bool)) (fr:Fr) (d:Nat) (a b:List Value) (k:Bool→List Value→List Value→Out):Out:=match Zm fr d with
 | some (.bool z)=>(match QeS kn d with | some t=>k t (.bool z::a) (.bool t::b) | none=> .bad)
 | _=> .bad
def gdO (kn:List (Nat×Bool)) (all:List Oper) (fr:Fr) (g:Option (Nat×Bool)) (a b:List Value) (yes no:List Value→List Value→Out):Out:=match g with
 | none=>yes a b
 | some (j,w)=>match VV all j with
  | some d=>(match Zm fr d with
   | some (.bool z)=>(match QeS kn d with
    | some true=>(match w with | true=>yes (.bool z::a) (.bool true::b) | false=>no (.bool z::a) (.bool true::b))
    | some false=>(match w with | true=>no (.bool z::a) (.bool false::b) | false=>yes (.bool z::a) (.bool false::b))
    | none=> .bad)
   | some (.tuple _)=>no a b
   | _=> .bad)
  | none=> .bad
def J4:List Seg→Nat→Option Seg
 | [],_=>none
 | s::_,0=>some s
 | _::r,n+1=>J4 r n
def Qb9:List Seg→Nat→Seg→List Seg
 | [],_,_=>[]
 | _::r,0,t=>t::r
 | s::r,n+1,t=>s::Qb9 r n t
def Qfx:Els→Nat→Option (Addr×List Value)
 | [],_=>none
 | s::_,0=>some s
 | _::r,n+1=>Qfx r n
def QdH (i:TyI) (off:Nat) (cs:List Value) (k:Value→Out):Out:=match Qa6 i.u with
 | true=>Qcp off cs fun d=>QcO i.size d fun vs=>k (.agg ⟨vs⟩)
 | false=>QeX off cs k
def Qdu (T:TT) (els:Els) (L:List Seg) (t:TypeId) (v:Value) (h:Nat) (a b:List Value) (k:Value→List Value→List Value→Out):Out:=match v with
 | .pointer (some ad)=>tyK T t fun i=>(match Nat.blt h 64 with
  | true=>(match ad with
   | ⟨g,off,none⟩=>(match J4 L h with
    | some ((g',.cells ⟨cs⟩ _ _)::_)=>QdH i off cs fun u=>k u (.map (some g)::a) (.map (some g')::b)
    | _=> .bad)
   | _=> .bad)
  | false=>(match Qfx els (h/64-1) with
   | some (ad',cs)=>QdH i (h%64) cs fun u=>(match Nat.beq (h%64) 0 with
    | true=>k u (.pointer (some ad)::a) (.pointer (some ad')::b)
    | false=>k u (.pointer (some ad)::a) (.pointer (some (ad'.add (h%64)))::b))
   | none=> .bad))
 | _=> .bad
def Qfy:List Value→Bool
 | []=>true
 | v::r=>match v.oneCell' with | true=>Qfy r | false=>false
def Qdd (T:TT) (L:List Seg) (t:TypeId) (p v:Value) (h:Nat) (a b:List Value) (k:List Seg→List Value→List Value→Out):Out:=match p with
 | .pointer (some ⟨g,off,none⟩)=>tyK T t fun i=>QbR v fun vs=>JY (Nat.beq vs.length i.size) (JY (Qfy vs) (JY (Nat.blt 0 i.size) (match J4 L h with
  | some ((g',.cells ⟨cs⟩ e (0,0))::r)=>Qfb cs off vs fun cs'=>k (Qb9 L h ((g',.cells ⟨cs'⟩ e (0,0))::r)) (.map (some g)::a) (.map (some g')::b)
  | _=> .bad)))
 | _=> .bad
def nz (b:Int):Bool:=match b with | .ofNat (_+1)=>true | .negSucc _=>true | _=>false
def rdO (T:TT) (n:Nat) (kn:List (Nat×Bool)) (els:Els) (hs:List Nat) (fr:Fr) (L:List Seg) (op:Op) (dst:Option Tmp) (a b:List Value) (k:List Nat→Fr→List Value→List Value→Out):Out:=match op with
 | .load t x=>(match hs with
  | h::hs=>evK fr x fun v=>Qdu T els L t v h a b fun u a b=>W2 n dst u fr fun fr=>k hs fr a b
  | []=> .bad)
 | .pick (.tmp d) x y=>Qfp kn fr d a b fun t a b=>(match t with
  | true=>evK fr x fun v=>W2 n dst v fr fun fr=>k hs fr a b
  | false=>evK fr y fun v=>W2 n dst v fr fun fr=>k hs fr a b)
 | .binOp .quo t x y yt=>(match hs with
  | _::hs=>evK fr x fun u=>evK fr y fun w=>QaJ u w fun kd p q=>JY (nz q) (W2 n dst (.int kd (kd.wrap (p.tdiv q))) fr fun fr=>k hs fr a b)
  | []=> .bad)
 | .binOp .rem t x y yt=>(match hs with
  | _::hs=>evK fr x fun u=>evK fr y fun w=>QaJ u w fun kd p q=>JY (nz q) (W2 n dst (.int kd (p.tmod q)) fr fun fr=>k hs fr a b)
  | []=> .bad)
 | op=>opV T fr op fun v=>W2 n dst v fr fun fr=>k hs fr a b
def Qgc (c:Code):Bool:=match c with | .loop _=>true | _=>false
def QeE (kn:List (Nat×Bool)) (c:Code) (s:List MIt) (fr:Fr) (a b:List Value) (k:List MIt→List Value→List Value→Out):Out:=match c with
 | .skip=>k s a b
 | .seq x y=>k (.code x:: .code y::s) a b
 | .region _ ⟨ops⟩ false=>k (.ops ops ops::s) a b
 | .cond (.tmp d) x y=>Qfp kn fr d a b fun t a b=>(match t with | true=>k (.code x::s) a b | false=>k (.code y::s) a b)
 | .cond (.const (.bool true)) x _=>k (.code x::s) a b
 | .cond (.const (.bool false)) _ y=>k (.code y::s) a b
 | .block i c=>(match Qgc c with | true=> .bad | false=>k (.code c:: .blk i::s) a b)
 | .exit i=>(match Vy i s with | some s'=>k s' a b | none=> .bad)
 | .scope c=>k (.code c::s) a b
 | .label _=>k s a b
 | _=> .bad
def Qdq (s:List MIt) (els:Els):Els:=match s with | .pln _ _ _ _ _::_=>[] | .plp _ _ _ _ _ _ _::_=>[] | _=>els
def QfM (T:TT) (n:Nat) (kn:List (Nat×Bool)) (els:Els) (hs:List Nat) (s:List MIt) (fr:Fr) (L:List Seg) (a b:List Value)
  (k:Els→List Nat→List MIt→Fr→List Seg→List Value→List Value→Out):Out:=match s with
 | .ops all (o::r)::s=>gdO kn all fr o.guard a b
   (fun a b=>match o.op with
    | .store t x y=>(match hs with
     | h::hs=>evK fr x fun p=>evK fr y fun v=>Qdd T L t p v h a b fun L a b=>W2 n o.dst undef fr fun fr=>k [] hs (.ops all r::s) fr L a b
     | []=> .bad)
    | op=>rdO T n kn els hs fr L op o.dst a b fun hs fr a b=>k els hs (.ops all r::s) fr L a b)
   (fun a b=>W2 n o.dst undef fr fun fr=>k els hs (.ops all r::s) fr L a b)
 | .ops _ []::s=>k (Qdq s els) hs s fr L a b
 | .blk _::s=>k (Qdq s els) hs s fr L a b
 | .code c::s=>QeE kn c s fr a b fun s a b=>k (Qdq s els) hs s fr L a b
 | .pln all l ((true,i)::pl) μ0 keep::s=>(match Ze all i with
  | some o=>gdO kn all fr o.guard a b (fun a b=>rdO T n kn els hs fr keep o.op o.dst a b fun hs fr a b=>k els hs (.pln all (l.set i true) pl μ0 keep::s) fr L a b)
    (fun a b=>W2 n o.dst undef fr fun fr=>k els hs (.pln all (l.set i true) pl μ0 keep::s) fr L a b)
  | none=> .bad)
 | .pln all l ((false,i)::pl) μ0 keep::s=>(match Ze all i with
  | some o=>gdO kn all fr o.guard a b (fun _ _=> .bad) (fun a b=>W2 n o.dst undef fr fun fr=>k els hs (.pln all (l.set i true) pl μ0 keep::s) fr L a b)
  | none=> .bad)
 | .pln _ _ [] _ _::s=>k [] hs s fr L a b
 | .plp all l ((true,i)::pl) m l1 μ0 keep::s=>(match Ze all i with
  | some o=>gdO kn all fr o.guard a b (fun a b=>rdO T n kn els hs fr keep o.op o.dst a b fun hs fr a b=>k els hs (.plp all (l.set i true) pl m l1 μ0 keep::s) fr L a b)
    (fun a b=>W2 n o.dst undef fr fun fr=>k els hs (.plp all (l.set i true) pl m l1 μ0 keep::s) fr L a b)
  | none=> .bad)
 | _=> .bad
def Qaf (T:TT) (n:Nat) (kn:List (Nat×Bool)):Nat→Els→List Nat→List MIt→Fr→List Seg→List Value→List Value→Out
 | 0,_,_,s,fr,L,a,b=> .ok s fr L a b
 | m+1,els,hs,s,fr,L,a,b=>QfM T n kn els hs s fr L a b (Qaf T n kn m)
def cxM (s:List MIt) (μ:Gh):Gh:=match s with | .pln _ _ _ μ0 _::_=>μ0 | .plp _ _ _ _ _ μ0 _::_=>μ0 | _=>μ
def cxL (s:List MIt) (L:List Seg):List Seg:=match s with | .pln _ _ _ _ keep::_=>keep | .plp _ _ _ _ _ _ keep::_=>keep | _=>L
theorem Qal {μ:Gh} {L:List Seg} {els:Els} (h: ∀p∈els,Yn μ L p.1 p.2) (s:List MIt): ∀p∈Qdq s els,Yn (cxM s μ) (cxL s L) p.1 p.2:=by
 cases s with
 | nil=>exact h
 | cons i s=>cases i<;>first | exact h | (intro p hp;cases hp)
def Qbf (μ:Gh) (L:List Seg) (els:Els):Prop:= ∀p∈els,Yn μ L p.1 p.2
section
variable {fr:Fr} {o:Out} {a b:List Value}
theorem YZ {N:NN} {dst:Option Tmp} {v:Value} {k:Fr→Out} (h:W2 N.n dst v fr k=o) (ho:o≠ .bad): ∃fr',k fr'=o∧ ∀kk:Fr→Prop,kk fr'→Yx N dst v fr kk:=by
 cases dst with
 | none=>exact ⟨fr,h,fun kk hk=>hk⟩
 | some d=>obtain ⟨h1,h2⟩:=Yd h ho;exact ⟨_,h2,fun kk hk=>QR h1 hk⟩
theorem Qbm {kn:List (Nat×Bool)} {d:Nat} {k:Bool→List Value→List Value→Out} (h:Qfp kn fr d a b k=o) (ho:o≠ .bad): ∃z t,Zm fr d=some (.bool z)∧k t (.bool z::a) (.bool t::b)=o:=by
 unfold Qfp at h
 split at h
 ·split at h
  ·exact ⟨_,_,by assumption,h⟩
  ·exact absurd h.symm ho
 ·exact absurd h.symm ho
theorem Zo {z t:Bool} (h:Value.bool z::a= .bool t::b):z=t∧a=b:=by
 injection h with h1 h2;injection h1 with h1;exact ⟨h1,h2⟩
theorem Vs {kn:List (Nat×Bool)} {all:List Oper} {g:Option (Nat×Bool)} {yes no:List Value→List Value→Out} (h:gdO kn all fr g a b yes no=o) (ho:o≠ .bad) :
  ∃a' b',(a'=b'→a=b)∧((yes a' b'=o∧ ∀y n:Prop,a'=b'→y→YH all fr g y n)∨(no a' b'=o∧ ∀y n:Prop,a'=b'→n→YH all fr g y n)):=by
 unfold gdO at h
 split at h
 ·exact ⟨a,b,id,.inl ⟨h,fun y n _ hy=>hy⟩⟩
 ·rename_i j w
  split at h
  ·rename_i d hd
   split at h
   ·rename_i z hz
    split at h
    ·refine ⟨.bool z::a,.bool true::b,fun e=>(Zo e).2,?_⟩;cases w with
     | true=>exact .inl ⟨h,fun y n e hy=>by simp only[YH,hd,hz,(Zo e).1];exact hy⟩
     | false=>exact .inr ⟨h,fun y n e hy=>by simp only[YH,hd,hz,(Zo e).1];exact hy⟩
    ·refine ⟨.bool z::a,.bool false::b,fun e=>(Zo e).2,?_⟩;cases w with
     | true=>exact .inr ⟨h,fun y n e hy=>by simp only[YH,hd,hz,(Zo e).1];exact hy⟩
     | false=>exact .inl ⟨h,fun y n e hy=>by simp only[YH,hd,hz,(Zo e).1];exact hy⟩
    ·exact absurd h.symm ho
   ·rename_i hz
    exact ⟨a,b,id,.inr ⟨h,fun y n _ hy=>by simp only[YH,hd,hz];exact hy⟩⟩
   ·exact absurd h.symm ho
  ·exact absurd h.symm ho
theorem Vw: ∀(L:List Seg) (i:Nat),J4 L i=L[i]?
 | [],i=>by simp[J4]
 | s::r,0=>by simp[J4]
 | s::r,i+1=>by simp[J4,Vw r i]
theorem Qak: ∀(L:List Seg) (i:Nat) (t:Seg),Qb9 L i t=L.set i t
 | [],i,t=>by simp[Qb9]
 | s::r,0,t=>by simp[Qb9]
 | s::r,i+1,t=>by simp[Qb9,Qak r i t]
theorem QcH: ∀{els:Els} {i:Nat} {p:Addr×List Value},Qfx els i=some p→p∈els
 | [],i,p,h=>by cases h
 | s::r,0,p,h=>by simp only[Qfx,Option.some.injEq] at h;simp[h]
 | s::r,i+1,p,h=>by simp[QcH (els:=r) h]
variable {T:TT} {P:Program} {μ:Gh} {L:List Seg}
theorem Qa5 {i:TyI} {off:Nat} {cs:List Value} {k:Value→Out} (h:QdH i off cs k=o) (ho:o≠ .bad) :
  ∃u,k u=o∧ ∀{t:TypeId} {x:Operand} {ad:Addr} (kk:Value→Prop),evV fr x=some (.pointer (some ad))→T t=some i→(∀j v,(cs.drop off)[j]? =some v→Y7 μ L (ad.add j) v)→kk u→vcR P T (.load t x) fr μ L kk:=by
 unfold QdH at h
 split at h
 ·rename_i hag
  have h1:=Vf h ho;obtain ⟨h2,h3⟩:=Vo h1 ho;refine ⟨_,h2,fun kk hx hT hc hk=>Qdn hx hT hag rfl (Ex.mk _ ⟨h3,fun j v hj=>hc j v ?_⟩ hk)⟩
  rw[List.getElem?_take] at hj
  split at hj
  ·exact hj
  ·cases hj
 ·rename_i hag
  obtain ⟨v,h1,h2⟩:=WZ h ho;refine ⟨v,h2,fun kk hx hT hc hk=>YX hx hT hag (Ex.mk v ?_ hk)⟩;have:=hc 0 v (by rw[List.getElem?_drop];simpa using h1)
  rwa [Addr.add_zero'] at this
theorem Qb1 {g g':Nat} (h:Value.map (some g)::a= .map (some g')::b):g=g'∧a=b:=by
 injection h with h1 h2;injection h1 with h1;injection h1 with h1;exact ⟨h1,h2⟩
theorem Qb4 {g g':Addr} (h:Value.pointer (some g)::a= .pointer (some g')::b):g=g'∧a=b:=by
 injection h with h1 h2;injection h1 with h1;injection h1 with h1;exact ⟨h1,h2⟩
theorem QaM {els:Els} {t:TypeId} {v:Value} {h:Nat} {x:Operand} {k:Value→List Value→List Value→Out} (hr:Qdu T els L t v h a b k=o) (ho:o≠ .bad) (hx:evV fr x=some v) (hel:Qbf μ L els) :
  ∃u a' b',(a'=b'→a=b)∧k u a' b'=o∧ ∀kk:Value→Prop,a'=b'→kk u→vcR P T (.load t x) fr μ L kk:=by
 unfold Qdu at hr
 split at hr
 ·rename_i ad
  obtain ⟨i,hT,hr⟩:=Zk hr ho
  split at hr
  ·split at hr
   ·rename_i g off
    split at hr
    ·rename_i g' cs e f r hL
     rw[Vw] at hL
     obtain ⟨u,h1,h2⟩:=Qa5 (fr:=fr) (T:=T) (P:=P) (μ:=μ) (L:=L) hr ho;refine ⟨u,_,_,fun e=>(Qb1 e).2,h1,fun kk e hk=>h2 kk hx hT (fun j v hj=> ?_) hk⟩;obtain ⟨rfl,_⟩:=Qb1 e
     rw[ZG]
     refine Y7.seg h 0 hL rfl ?_
     rw[List.getElem?_drop] at hj
     exact hj
    ·exact absurd hr.symm ho
   ·exact absurd hr.symm ho
  ·split at hr
   ·rename_i ad' cs he
    obtain ⟨u,h1,h2⟩:=Qa5 (fr:=fr) (T:=T) (P:=P) (μ:=μ) (L:=L) hr ho;have hc:Yn μ L ad' cs:=hel _ (QcH he)
    split at h1
    ·rename_i hz
     have hz:=Nat.eq_of_beq_eq_true hz;refine ⟨u,_,_,fun e=>(Qb4 e).2,h1,fun kk e hk=>h2 kk hx hT (fun j v hj=> ?_) hk⟩;obtain ⟨rfl,_⟩:=Qb4 e
     rw[hz] at hj
     exact hc j v (by simpa using hj)
    ·refine ⟨u,_,_,fun e=>(Qb4 e).2,h1,fun kk e hk=>h2 kk hx hT (fun j v hj=> ?_) hk⟩;obtain ⟨rfl,_⟩:=Qb4 e
     rw[Addr.add_add']
     refine hc _ v ?_
     rw[List.getElem?_drop] at hj
     exact hj
   ·exact absurd hr.symm ho
 ·exact absurd hr.symm ho
theorem QbE: ∀{vs:List Value},Qfy vs=true→vs.all (·.oneCell')=true
 | [],_=>rfl
 | v::r,h=>by
  unfold Qfy at h
  split at h
  ·rename_i h1;simp only[List.all_cons,h1,QbE h,Bool.and_self]
  ·cases h
theorem QcM {t:TypeId} {p v:Value} {h:Nat} {x y:Operand} {ty:TypeId} {k:List Seg→List Value→List Value→Out} (hr:Qdd T L t p v h a b k=o) (ho:o≠ .bad) (hx:evV fr x=some p) (hy:evV fr y=some v) :
  ∃L' a' b',(a'=b'→a=b)∧k L' a' b'=o∧ ∀kk:Value→Gh→List Seg→Prop,a'=b'→kk undef μ L'→vcO P T (.store t x y) ty fr μ L kk:=by
 unfold Qdd at hr
 split at hr
 ·rename_i g off
  obtain ⟨i,hT,hr⟩:=Zk hr ho;have hr:=VR hr ho;obtain ⟨h1,hr⟩:=Yd hr ho;obtain ⟨h2,hr⟩:=Yd hr ho;obtain ⟨h3,hr⟩:=Yd hr ho;have h1:=Nat.eq_of_beq_eq_true h1;have h3:0<i.size:=by simpa [Nat.blt_eq] using h3
  split at hr
  ·rename_i g' cs e r hL
   rw[Vw] at hL
   obtain ⟨h4,h5⟩:=W0 hr ho;refine ⟨_,_,_,fun e=>(Qb1 e).2,h4,fun kk e hk=> ?_⟩;obtain ⟨rfl,_⟩:=Qb1 e;refine Jm hx hy hT (by simpa using h1) (QbE h2) rfl (Ex.mk _ (WG.seg h 0 hL rfl ?_) ?_)
   ·have:=h5 (by intro e;rw[e] at h1;simp at h1;omega)
    simpa using this
   ·rw[Qak] at hk
    exact hk
  ·exact absurd hr.symm ho
 ·exact absurd hr.symm ho
theorem Qdw {q:Int} (h:nz q=true):q≠0:=by
 cases q with
 | ofNat n =>
  cases n with
  | zero=>cases h
  | succ n=>exact fun e=>Nat.succ_ne_zero n (Int.ofNat.inj e)
 | negSucc n=>intro e;cases e
theorem QaW {N:NN} {kn:List (Nat×Bool)} {els:Els} {hs:List Nat} {op:Op} {dst:Option Tmp} {k:List Nat→Fr→List Value→List Value→Out} (hr:rdO T N.n kn els hs fr L op dst a b k=o) (ho:o≠ .bad) (hel:Qbf μ L els) :
  ∃hs' fr' a' b',(a'=b'→a=b)∧k hs' fr' a' b'=o∧Qcz op=true∧ ∀kk:Fr→Prop,a'=b'→kk fr'→vcR P T op fr μ L fun v=>Yx N dst v fr kk:=by
 unfold rdO at hr
 split at hr
 ·split at hr
  ·obtain ⟨v,h1,hr⟩:=Q6 hr ho;obtain ⟨u,a',b',h2,hr,h3⟩:=QaM (P:=P) (μ:=μ) hr ho h1 hel;obtain ⟨fr',h4,h5⟩:=YZ hr ho;exact ⟨_,fr',a',b',h2,h4,rfl,fun kk e hk=>h3 _ e (h5 kk hk)⟩
  ·exact absurd hr.symm ho
 ·obtain ⟨z,t,hz,hr⟩:=Qbm hr ho;cases t with
  | true =>
   obtain ⟨v,h1,hr⟩:=Q6 hr ho;obtain ⟨fr',h4,h5⟩:=YZ hr ho;exact ⟨_,fr',_,_,fun e=>(Zo e).2,h4,rfl,fun kk e hk=>Qey (by rw[←(Zo e).1];exact hz) h1 (h5 kk hk)⟩
  | false =>
   obtain ⟨v,h1,hr⟩:=Q6 hr ho;obtain ⟨fr',h4,h5⟩:=YZ hr ho;exact ⟨_,fr',_,_,fun e=>(Zo e).2,h4,rfl,fun kk e hk=>Qex (by rw[←(Zo e).1];exact hz) h1 (h5 kk hk)⟩
 ·split at hr
  ·obtain ⟨u,h1,hr⟩:=Q6 hr ho;obtain ⟨w,h2,hr⟩:=Q6 hr ho;obtain ⟨kd,p,q,e1_,e2_,hr2⟩:=VG hr ho;subst e1_ e2_;obtain ⟨h3,hr3⟩:=Yd hr2 ho;obtain ⟨fr',h4,h5⟩:=YZ hr3 ho;exact ⟨_,fr',_,_,id,h4,rfl,fun kk e hk=>QgE h1 h2 ⟨Qdw h3,h5 kk hk⟩⟩
  ·exact absurd hr.symm ho
 ·split at hr
  ·obtain ⟨u,h1,hr⟩:=Q6 hr ho;obtain ⟨w,h2,hr⟩:=Q6 hr ho;obtain ⟨kd,p,q,e1_,e2_,hr2⟩:=VG hr ho;subst e1_ e2_;obtain ⟨h3,hr3⟩:=Yd hr2 ho;obtain ⟨fr',h4,h5⟩:=YZ hr3 ho;exact ⟨_,fr',_,_,id,h4,rfl,fun kk e hk=>QgF h1 h2 ⟨Qdw h3,h5 kk hk⟩⟩
  ·exact absurd hr.symm ho
 ·obtain ⟨v,h1,h2,h3⟩:=QeY (P:=P) (μ:=μ) (L:=L) hr ho;obtain ⟨fr',h4,h5⟩:=YZ h1 ho;exact ⟨_,fr',_,_,id,h4,h2,fun kk _ hk=>h3 _ (h5 kk hk)⟩
theorem QcX {N:NN} {R:Qs} {kn:List (Nat×Bool)} (hT:TOk P T) {c:Code} {s:List MIt} {k:List MIt→List Value→List Value→Out} (hr:QeE kn c s fr a b k=o) (ho:o≠ .bad) :
  ∃s' a' b',(a'=b'→a=b)∧k s' a' b'=o∧(a'=b'→KS P N R s' fr μ L→KS P N R (.code c::s) fr μ L):=by
 unfold QeE at hr
 split at hr
 ·exact ⟨_,_,_,id,hr,fun _ h=>WP.skip h⟩
 ·exact ⟨_,_,_,id,hr,fun _ h=>WP.seq h⟩
 ·exact ⟨_,_,_,id,hr,fun _ h=>WP.regionS h⟩
 ·obtain ⟨z,t,hz,hr⟩:=Qbm hr ho;cases t with
  | true=>exact ⟨_,_,_,fun e=>(Zo e).2,hr,fun e h=>Jq (by rw[←(Zo e).1];exact hz) h⟩
  | false=>exact ⟨_,_,_,fun e=>(Zo e).2,hr,fun e h=>Jp (by rw[←(Zo e).1];exact hz) h⟩
 ·exact ⟨_,_,_,id,hr,fun _ h=>Jq rfl h⟩
 ·exact ⟨_,_,_,id,hr,fun _ h=>Jp rfl h⟩
 ·split at hr
  ·exact absurd hr.symm ho
  ·exact ⟨_,_,_,id,hr,fun _ h=>WP.block h⟩
 ·split at hr
  ·exact ⟨_,_,_,id,hr,fun _ h=>WP.exit (Zu (by assumption) h)⟩
  ·exact absurd hr.symm ho
 ·exact ⟨_,_,_,id,hr,fun _ h=>WP.scope h⟩
 ·exact ⟨_,_,_,id,hr,fun _ h=>WP.label h⟩
 ·exact absurd hr.symm ho
theorem QbH {N:NN} {R:Qs} {kn:List (Nat×Bool)} (hT:TOk P T) {s':List MIt} {fr':Fr} {L':List Seg} {e1 e2:List Value}: ∀(m:Nat) (els:Els) (hs:List Nat) (s:List MIt) (fr:Fr) (L:List Seg) (a b:List Value),
  Qaf T N.n kn m els hs s fr L a b= .ok s' fr' L' e1 e2→e1=e2→Qbf (cxM s μ) (cxL s L) els→a=b∧(KS P N R s' fr' μ L'→KS P N R s fr μ L)
 | 0,els,hs,s,fr,L,a,b,h,e,_=>by
  injection h with h1 h2 h3 h4 h5
  subst h1 h2 h3 h4 h5;exact ⟨e,id⟩
 | m+1,els,hs,s,fr,L,a,b,h,e,hel=>by
  have ih:=fun els hs s fr L a b (h:Qaf T N.n kn m els hs s fr L a b= .ok s' fr' L' e1 e2)=>QbH (R:=R) hT m els hs s fr L a b h e;have ho:Out.ok s' fr' L' e1 e2≠ .bad:=by simp
  simp only[Qaf] at h
  unfold QfM at h
  split at h
  ·rename_i all op r s
   obtain ⟨a',b',h1,h2⟩:=Vs h ho;rcases h2 with ⟨h2,h3⟩ | ⟨h2,h3⟩
   ·split at h2
    ·rename_i t x y hop
     split at h2
     ·obtain ⟨p,h4,h2⟩:=Q6 h2 ho;obtain ⟨v,h5,h2⟩:=Q6 h2 ho;obtain ⟨L2,a2,b2,h6,h2,h7⟩:=QcM (P:=P) (μ:=μ) (ty:=op.type) h2 ho h4 h5;obtain ⟨fr2,h8,h9⟩:=YZ h2 ho;obtain ⟨h10,h11⟩:=ih _ _ _ _ _ _ _ h8 (fun p hp=>by cases hp);refine ⟨h1 (h6 h10),fun hk=> ?_⟩;refine JB.cons hT (h3 _ _ (h6 h10) ?_)
      rw[hop]
      exact h7 _ h10 (h9 _ (h11 hk))
     ·exact absurd h2.symm ho
    ·obtain ⟨hs2,fr2,a2,b2,h4,h5,h6,h7⟩:=QaW (P:=P) (μ:=μ) h2 ho hel;obtain ⟨h8,h9⟩:=ih _ _ _ _ _ _ _ h5 hel;exact ⟨h1 (h4 h8),fun hk=>JB.cons hT (h3 _ _ (h4 h8) (Wc h6 (h7 _ h8 (h9 hk))))⟩
   ·obtain ⟨fr2,h4,h5⟩:=YZ h2 ho;obtain ⟨h6,h7⟩:=ih _ _ _ _ _ _ _ h4 hel;exact ⟨h1 h6,fun hk=>JB.cons hT (h3 _ _ h6 (h5 _ (h7 hk)))⟩
  ·obtain ⟨h1,h2⟩:=ih _ _ _ _ _ _ _ h (Qal hel _);exact ⟨h1,fun hk=>JB.nil (h2 hk)⟩
  ·obtain ⟨h1,h2⟩:=ih _ _ _ _ _ _ _ h (Qal hel _);exact ⟨h1,h2⟩
  ·obtain ⟨s2,a',b',h1,h2,h3⟩:=QcX (R:=R) (μ:=μ) (L:=L) hT h ho;obtain ⟨h4,h5⟩:=ih _ _ _ _ _ _ _ h2 (Qal hel _);exact ⟨h1 h4,fun hk=>h3 h4 (h5 hk)⟩
  ·rename_i all l i pl μ0 keep s
   split at h
   ·rename_i op hi
    obtain ⟨a',b',h1,h2⟩:=Vs h ho;rcases h2 with ⟨h2,h3⟩ | ⟨h2,h3⟩
    ·obtain ⟨hs2,fr2,a2,b2,h4,h5,h6,h7⟩:=QaW (P:=P) (μ:=μ0) h2 ho hel;obtain ⟨h8,h9⟩:=ih _ _ _ _ _ _ _ h5 hel;exact ⟨h1 (h4 h8),fun hk=>WA.t hT hi (h3 _ _ (h4 h8) (h7 _ h8 (h9 hk)))⟩
    ·obtain ⟨fr2,h4,h5⟩:=YZ h2 ho;obtain ⟨h6,h7⟩:=ih _ _ _ _ _ _ _ h4 hel;exact ⟨h1 h6,fun hk=>WA.t hT hi (h3 _ _ h6 (h5 _ (h7 hk)))⟩
   ·exact absurd h.symm ho
  ·rename_i all l i pl μ0 keep s
   split at h
   ·rename_i op hi
    obtain ⟨a',b',h1,h2⟩:=Vs h ho;rcases h2 with ⟨h2,h3⟩ | ⟨h2,h3⟩
    ·exact absurd h2.symm ho
    ·obtain ⟨fr2,h4,h5⟩:=YZ h2 ho;obtain ⟨h6,h7⟩:=ih _ _ _ _ _ _ _ h4 hel;exact ⟨h1 h6,fun hk=>WA.f hT hi (h3 _ _ h6 (h5 _ (h7 hk)))⟩
   ·exact absurd h.symm ho
  ·obtain ⟨h1,h2⟩:=ih _ _ _ _ _ _ _ h (fun p hp=>by cases hp);exact ⟨h1,fun hk=>WA.nil (h2 hk)⟩
  ·rename_i all l i pl m2 l1 μ0 keep s
   split at h
   ·rename_i op hi
    obtain ⟨a',b',h1,h2⟩:=Vs h ho;rcases h2 with ⟨h2,h3⟩ | ⟨h2,h3⟩
    ·obtain ⟨hs2,fr2,a2,b2,h4,h5,h6,h7⟩:=QaW (P:=P) (μ:=μ0) h2 ho hel;obtain ⟨h8,h9⟩:=ih _ _ _ _ _ _ _ h5 hel;exact ⟨h1 (h4 h8),fun hk=>VC.t hT hi (h3 _ _ (h4 h8) (h7 _ h8 (h9 hk)))⟩
    ·obtain ⟨fr2,h4,h5⟩:=YZ h2 ho;obtain ⟨h6,h7⟩:=ih _ _ _ _ _ _ _ h4 hel;exact ⟨h1 h6,fun hk=>VC.t hT hi (h3 _ _ h6 (h5 _ (h7 hk)))⟩
   ·exact absurd h.symm ho
  ·exact absurd h.symm ho
end
end Go.Proofs.Ytfdjjdhnfaklbaa
namespace Go.Proofs.Ytfdjjdhnfaklbaa
open Go.RowKit
set_option linter.unusedSimpArgs false
set_option linter.unusedVariables false
section
variable {N:NN} {R:Qs} {fr:Fr} {μ:Gh} {L:List Seg} {s s':List MIt} {fr':Fr} {L':List Seg} {e:List Value} {dst:Option Tmp} {v:Value}
theorem Z1 {a:Addr} {cs:List Value} (h:Yn μ L a cs):Qbf μ L [(a,cs)]:=fun p hp=>by simp only[List.mem_singleton] at hp;subst hp;exact h
def knF:List Nat→List (Nat×Bool)
 | []=>[]
 | x::r=>(x,false)::knF r
def knT:List Nat→List Nat→List (Nat×Bool)
 | [],b=>knF b
 | x::r,b=>(x,true)::knT r b
theorem G3 (m:Nat) (ka kb hs:List Nat) {els:Els} (hel:Qbf (cxM s μ) (cxL s L) els) (h:Qaf Tt N.n (knT ka kb) m els hs s fr L [] []= .ok s' fr' L' e e) (k:KS Try.prog N R s' fr' μ L'):KS Try.prog N R s fr μ L :=
 (QbH QB m els hs s fr L [] [] h rfl hel).2 k
theorem G2 (m:Nat) (ka kb hs:List Nat) (h:Qaf Tt N.n (knT ka kb) m [] hs s fr L [] []= .ok s' fr' L' e e) (k:KS Try.prog N R s' fr' μ L'):KS Try.prog N R s fr μ L:=G3 m ka kb hs (fun p hp=>by cases hp) h k
theorem G1 (m:Nat) (hs:List Nat) (h:Qaf Tt N.n [] m [] hs s fr L [] []= .ok s' fr' L' e e) (k:KS Try.prog N R s' fr' μ L'):KS Try.prog N R s fr μ L:=G2 m [] [] hs h k
theorem G0 (m:Nat) (h:Qaf Tt N.n [] m [] [] s fr L [] []= .ok s' fr' L' e e) (k:KS Try.prog N R s' fr' μ L'):KS Try.prog N R s fr μ L:=G2 m [] [] [] h k
theorem Q3 (m:Nat) (ka kb hs:List Nat) {els:Els} (hel:Qbf (cxM s μ) (cxL s L) els) (h:W2 N.n dst v fr (fun f=>Qaf Tt N.n (knT ka kb) m els hs s f L [] [])= .ok s' fr' L' e e) (k:KS Try.prog N R s' fr' μ L'):Yx N dst v fr fun f=>KS Try.prog N R s f μ L:=by
 obtain ⟨f,h1,h2⟩:=YZ h (by simp);exact h2 _ (G3 m ka kb hs hel h1 k)
theorem Q2 (m:Nat) (ka kb hs:List Nat) (h:W2 N.n dst v fr (fun f=>Qaf Tt N.n (knT ka kb) m [] hs s f L [] [])= .ok s' fr' L' e e) (k:KS Try.prog N R s' fr' μ L'):Yx N dst v fr fun f=>KS Try.prog N R s f μ L:=Q3 m ka kb hs (fun p hp=>by cases hp) h k
theorem Q1 (m:Nat) (hs:List Nat) (h:W2 N.n dst v fr (fun f=>Qaf Tt N.n [] m [] hs s f L [] [])= .ok s' fr' L' e e) (k:KS Try.prog N R s' fr' μ L'):Yx N dst v fr fun f=>KS Try.prog N R s f μ L:=Q2 m [] [] hs h k
theorem Q0 (m:Nat) (h:W2 N.n dst v fr (fun f=>Qaf Tt N.n [] m [] [] s f L [] [])= .ok s' fr' L' e e) (k:KS Try.prog N R s' fr' μ L'):Yx N dst v fr fun f=>KS Try.prog N R s f μ L:=Q2 m [] [] [] h k
def gdB (all:List Oper) (fr:Fr) (g:Option (Nat×Bool)):Bool:=match g with
 | none=>true
 | some (j,w)=>match VV all j with
  | some d=>(match Zm fr d with | some (.bool true)=>w | some (.bool false)=> !w | _=>false)
  | none=>false
theorem J1 {all:List Oper} {g:Option (Nat×Bool)} (h:gdB all fr g=true) {y n:Prop} (hy:y):YH all fr g y n:=by
 unfold gdB at h
 split at h
 ·exact hy
 ·rename_i j w
  split at h
  ·rename_i d hd
   split at h
   ·rename_i hl;subst h;simp only[YH,hd,hl];exact hy
   ·rename_i hl;have:w=false:=by simpa using h
    subst this;simp only[YH,hd,hl];exact hy
   ·cases h
  ·cases h
def hdO (s:List MIt) (fr:Fr):Option (Bool×Oper×List MIt):=match s with
 | .ops all (o::r)::s=>(match gdB all fr o.guard with | true=>some (true,o,.ops all r::s) | false=>none)
 | .pln all l ((b,i)::pl) μ0 keep::s=>(match Ze all i with
  | some o=>(match gdB all fr o.guard with | true=>some (b,o,.pln all (l.set i true) pl μ0 keep::s) | false=>none)
  | none=>none)
 | .plp all l ((b,i)::pl) n l1 μ0 keep::s=>(match Ze all i with
  | some o=>(match gdB all fr o.guard with | true=>some (b,o,.plp all (l.set i true) pl n l1 μ0 keep::s) | false=>none)
  | none=>none)
 | _=>none
abbrev kpt (s:List MIt) (L:List Seg) (X:Prop):Prop:=match s with
 | .pln _ _ _ _ keep::_=>QP keep L∧X
 | .plp _ _ _ _ _ _ keep::_=>QP keep L∧X
 | _=>X
theorem Rdo {o:Oper} (h:hdO s fr=some (true,o,s')) (hr:Qcz o.op=true) (k:vcR Try.prog Tt o.op fr (cxM s μ) (cxL s L) fun v=>Yx N o.dst v fr fun f=>KS Try.prog N R s' f μ L):KS Try.prog N R s fr μ L:=by
 unfold hdO at h
 split at h
 ·split at h
  ·rename_i hg
   simp only[Option.some.injEq,Prod.mk.injEq] at h
   obtain ⟨_,rfl,rfl⟩:=h;exact JB.cons QB (J1 hg (Wc hr k))
  ·cases h
 ·split at h
  ·rename_i ho
   split at h
   ·rename_i hg
    simp only[Option.some.injEq,Prod.mk.injEq] at h
    obtain ⟨rfl,rfl,rfl⟩:=h;exact WA.t QB ho (J1 hg k)
   ·cases h
  ·cases h
 ·split at h
  ·rename_i ho
   split at h
   ·rename_i hg
    simp only[Option.some.injEq,Prod.mk.injEq] at h
    obtain ⟨rfl,rfl,rfl⟩:=h;exact VC.t QB ho (J1 hg k)
   ·cases h
  ·cases h
 ·cases h
def hdS (s:List MIt) (fr:Fr):Option (Oper×List MIt):=match s with
 | .ops all (o::r)::s=>(match gdB all fr o.guard with | true=>some (o,.ops all r::s) | false=>none)
 | .pln all l ((false,i)::pl) μ0 keep::s=>(match Ze all i with
  | some o=>(match gdB all fr o.guard with | true=>some (o,.pln all (l.set i true) pl μ0 keep::s) | false=>none)
  | none=>none)
 | .plp all l ((false,i)::pl) n l1 μ0 keep::s=>(match Ze all i with
  | some o=>(match gdB all fr o.guard with | true=>some (o,.plp all (l.set i true) pl n l1 μ0 keep::s) | false=>none)
  | none=>none)
 | _=>none
theorem So {o:Oper} (h:hdS s fr=some (o,s')) (k:vcO Try.prog Tt o.op o.type fr μ L fun v μ' L'=>kpt s L' (Yx N o.dst v fr fun f=>KS Try.prog N R s' f μ' L')):KS Try.prog N R s fr μ L:=by
 unfold hdS at h
 split at h
 ·split at h
  ·rename_i hg
   simp only[Option.some.injEq,Prod.mk.injEq] at h
   obtain ⟨rfl,rfl⟩:=h;exact JB.cons QB (J1 hg k)
  ·cases h
 ·split at h
  ·rename_i ho
   split at h
   ·rename_i hg
    simp only[Option.some.injEq,Prod.mk.injEq] at h
    obtain ⟨rfl,rfl⟩:=h;exact WA.f QB ho (J1 hg k)
   ·cases h
  ·cases h
 ·split at h
  ·rename_i ho
   split at h
   ·rename_i hg
    simp only[Option.some.injEq,Prod.mk.injEq] at h
    obtain ⟨rfl,rfl⟩:=h;exact VC.f QB ho (J1 hg k)
   ·cases h
  ·cases h
 ·cases h
def Qfe:List MIt→Bool
 | []=>true
 | .code _::_=>true
 | .ops _ _::_=>true
 | .pln _ _ _ _ _::_=>true
 | .plp _ _ _ _ _ _ _::_=>true
 | .blk _::s=>Qfe s
 | .cut _::_=>false
theorem KS.frm {F:Fr}: ∀{s:List MIt},Qfe s=true→Qi F fr→KS Try.prog N R s F μ L→KS Try.prog N R s fr μ L
 | [],_,hF,h=>fun a w ha hw=>h a w (ha.sub hF) hw
 | .code _::_,_,hF,h=>fun a w ha hw=>h a w (ha.sub hF) hw
 | .ops _ _::_,_,hF,h=>fun a w Q ha hw hQ=>h a w Q (ha.sub hF) hw hQ
 | .pln _ _ _ _ _::_,_,hF,h=>fun h1 h2 h3 h4 a w Q ha hw hQ=>h h1 h2 h3 h4 a w Q (ha.sub hF) hw hQ
 | .plp _ _ _ _ _ _ _::_,_,hF,h=>fun h1 h2 h3 h4 a w Q ha hw hQ=>h h1 h2 h3 h4 a w Q (ha.sub hF) hw hQ
 | .blk _::s,hb,hF,h=>KS.frm (s:=s) hb hF h
 | .cut _::_,hb,_,_=>by cases hb
def Qb8:List MIt→Bool
 | []=>true
 | .code _::_=>true
 | .ops _ _::_=>true
 | .blk _::s=>Qb8 s
 | _=>false
theorem KS.upd: ∀{s:List MIt},Qb8 s=true→Upd μ L (fun μ' L'=>KS Try.prog N R s fr μ' L')→KS Try.prog N R s fr μ L
 | [],_,h=>fun a w ha hw=>by
  obtain ⟨μ1,L1,h1,h2,h3⟩:=h w hw;obtain ⟨f,μ2,L2,h4,h5,h6,h7⟩:=h3 a w ha h2;exact ⟨f,μ2,L2,h4,h1.trans h5,h6,h7⟩
 | .code _::_,_,h=>WP.upd h
 | .ops _ _::_,_,h=>fun a w Q ha hw hQ=>by
  obtain ⟨μ1,L1,h1,h2,h3⟩:=h w hw;exact h3 a w Q ha h2 fun fr2 μ2 L2 a2 w2 hm=>hQ fr2 μ2 L2 a2 w2 (h1.trans hm)
 | .blk _::s,hb,h=>KS.upd (s:=s) hb h
 | .pln _ _ _ _ _::_,hb,_=>by cases hb
 | .plp _ _ _ _ _ _ _::_,hb,_=>by cases hb
 | .cut _::_,hb,_=>by cases hb
theorem KS.seg {L2:List Seg} (hs:Qd L2 L) (hb:Qb8 s=true) (h:KS Try.prog N R s fr μ L2):KS Try.prog N R s fr μ L:=KS.upd hb fun w hw=>⟨μ,L2,Gh.le.refl _,hs w μ hw,h⟩
theorem QdF: ∀{s:List MIt},Qb8 s=true→Qfe s=true
 | [],_=>rfl
 | .code _::_,_=>rfl
 | .ops _ _::_,_=>rfl
 | .blk _::s,h=>QdF (s:=s) h
theorem Att {F:Fr} {L2:List Seg} (hF:Qi F fr) (hs:Qd L2 L) (hb:Qb8 s=true) (h:KS Try.prog N R s F μ L2):KS Try.prog N R s fr μ L:=KS.frm (QdF hb) hF (KS.seg hs hb h)
theorem QaO {d:Nat} {u:Value} (hl:Zm fr d=some u):Qi ((d,u)::fr) fr:=fun t v hv=>by
 rw[J3] at hv
 split at hv
 ·rename_i hd;simp only at hd;subst hd;rw[hl];exact hv
 ·exact hv
theorem Br {β:Type} {z:Bool} {A B r:Option β} (h:(bif z then A else B)=r) (d:Nat) (hl:Zm fr d=some (.bool z)) (hb:Qfe s=true)
  (ht:z=true→A=r→KS Try.prog N R s ((d,.bool true)::fr) μ L) (hf:z=false→B=r→KS Try.prog N R s ((d,.bool false)::fr) μ L):KS Try.prog N R s fr μ L:=by
 cases z with
 | true=>exact KS.frm hb (QaO hl) (ht rfl h)
 | false=>exact KS.frm hb (QaO hl) (hf rfl h)
theorem Kn {z t:Bool} (hz:z=t) (d:Nat) (hl:Zm fr d=some (.bool z)) (hb:Qfe s=true) (h:KS Try.prog N R s ((d,.bool t)::fr) μ L):KS Try.prog N R s fr μ L:=by
 subst hz;exact KS.frm hb (QaO hl) h
end
end Go.Proofs.Ytfdjjdhnfaklbaa
namespace Go.Proofs.Ytfdjjdhnfaklbaa
open Go.RowKit
set_option linter.unusedSimpArgs false
set_option linter.unusedVariables false
def ixs:List Nat:=[0,1,2,3,4,5,6,7,8,9,10,11,12,13,14,15]
def QdU:List Nat→List Value→(Fr→Out)→Out
 | _,[],k=>k []
 | [],_::_,_=> .bad
 | i::is,v::r,k=>QdU is r fun f=>k ((i,v)::f)
def nfF:Fr→(Fr→Out)→Out
 | [],k=>k []
 | (t,v)::r,k=>nfF r fun f=>k ((t,v)::f)
def nfL:Nat→List Seg→(List Seg→Out)→Out
 | 0,L,k=>k L
 | _+1,[],k=>k []
 | n+1,s::r,k=>nfL n r fun l=>k (s::l)
def QgH (vs:List Value) (a b:List Value):Out:=match vs with
 | [v]=> .ok [] [(0,v)] [] a b
 | vs=> .ok [] [(0,.tuple ⟨vs⟩)] [] a b
def Qd8 (T:TT) (L:List Seg) (fr:Fr):List ResultVar→List Nat→List Value→List Value→(List Value→List Value→List Value→Out)→Out
 | [],_,a,b,k=>k [] a b
 | .tmp t::r,hs,a,b,k=>(match Zm fr t with | some v=>Qd8 T L fr r hs a b fun vs a b=>k (v::vs) a b | none=> .bad)
 | .cell p t::r,hs,a,b,k=>(match Zm fr p,hs with | some v,h::hs=>Qdu T [] L t v h a b fun u a b=>Qd8 T L fr r hs a b fun vs a b=>k (u::vs) a b | _,_=> .bad)
theorem Qbk {o:Out} (ho:o≠ .bad): ∀(m i:Nat) (args:List Value) (k:Fr→Out),QdU (List.range' i m) args k=o→k ((args.zipIdx i).map fun p=>(p.2,p.1))=o
 | _,i,[],k,h=>by cases ‹Nat› <;>simpa [QdU] using h
 | 0,i,v::r,k,h=>absurd h.symm ho
 | m+1,i,v::r,k,h=>by
  have:=Qbk ho m (i+1) r _ (by simpa [List.range'_succ,QdU] using h)
  simpa using this
theorem QcF: ∀(F:Fr) (k:Fr→Out),nfF F k=k F
 | [],k=>rfl
 | (t,v)::r,k=>QcF r _
theorem JK: ∀(n:Nat) (L:List Seg) (k:List Seg→Out),nfL n L k=k L
 | 0,L,k=>by cases L<;>rfl
 | n+1,[],k=>rfl
 | n+1,s::r,k=>JK n r _
section
variable {o:Out} {T:TT} {fr:Fr} {μ:Gh} {L:List Seg}
theorem VN: ∀{rs:List ResultVar} {hs:List Nat} {a b:List Value} {k:List Value→List Value→List Value→Out} {e:List Value},Qd8 T L fr rs hs a b k=o→o≠ .bad →
  ∃vs a' b',(a'=b'→a=b)∧k vs a' b'=o∧ ∀kk:List Value→Prop,a'=b'→kk vs→JN T rs fr μ L kk
 | [],hs,a,b,k,e,h,ho=>⟨[],a,b,id,h,fun kk _ hk=>hk⟩
 | .tmp t::r,hs,a,b,k,e,h,ho=>by
  unfold Qd8 at h
  split at h
  ·rename_i v hv
   obtain ⟨vs,a',b',h1,h2,h3⟩:=VN (e:=e) h ho;exact ⟨v::vs,a',b',h1,h2,fun kk e hk=>VQ hv (h3 _ e hk)⟩
  ·exact absurd h.symm ho
 | .cell p t::r,hs,a,b,k,e,h,ho=>by
  unfold Qd8 at h
  split at h
  ·rename_i v h0 hs hv
   have hx:evV fr (.tmp p)=some v:=hv;obtain ⟨u,a',b',h1,h2,h3⟩:=QaM (P:=default) (μ:=μ) (fr:=fr) (x:= .tmp p) h ho hx (fun p hp=>by cases hp);obtain ⟨vs,a2,b2,h4,h5,h6⟩:=VN (e:=e) h2 ho;refine ⟨u::vs,a2,b2,fun e=>h1 (h4 e),h5,fun kk e hk=> ?_⟩;have h7:ev fr (.tmp p) fun v=>WL T μ L t v fun u=>JN T r fr μ L fun vs=>kk (u::vs):=h3 (fun u=>JN T r fr μ L fun vs=>kk (u::vs)) (h4 e) (h6 _ e hk);exact h7
  ·exact absurd h.symm ho
end
section
variable {N:NN} {R:Qs} {fr:Fr} {μ:Gh} {L:List Seg} {s s':List MIt} {fr':Fr} {L':List Seg} {e:List Value} {dst:Option Tmp} {v:Value}
def RK (rs:List ResultVar) (Rv:Value→Gh→List Seg→Prop):Qs:=fun fr μ L=>JN Tt rs fr μ L fun vs=>Upd μ L (Rv (Qb5 vs))
theorem FnS {f:FuncId} {fn:Func} {c:Code} {args:List Value} {n:Nat} {Rv:Value→Gh→List Seg→Prop} (hf:Try.prog.funcs[f]? =some fn) (hnm:(fn.name== "runtime.NumGoroutine")=false) (hb:fn.body=some c) (hn:fn.ntmps=n) (hl:Nat.ble args.length n=true)
  (ha:QdU ixs args (fun F=> .ok [] F [] [] [])= .ok [] fr [] [] []) (k:KS Try.prog ⟨n,[],none⟩ (RK fn.results.toList Rv) [.code c] fr μ L):Fn Try.prog f args μ L Rv:=by
 have e1:=Qbk (by simp) 16 0 args _ (show QdU (List.range' 0 16) args _=_ from ha);injection e1 with _ e1 _ _ _
 subst e1;refine Fn.of_body QB hf hnm hb hn (Nat.le_of_ble_eq_true hl) ?_;intro a w ha hw;refine Code.wpIn_mono (fun e a' w' hl=> ?_) (k a w ha hw);cases e with
 | normal =>
  obtain ⟨f1,μ1,L1,h1,h2,h3,h4⟩:=hl;obtain ⟨f2,μ2,L2,h5,h6,h7,h8⟩:=h4 a' w' h1 h3;exact ⟨f2,μ2,L2,h5,h2.trans h6,h7,h8⟩
 | ret =>
  obtain ⟨f1,μ1,L1,h1,h2,h3,h4⟩:=hl;obtain ⟨f2,μ2,L2,h5,h6,h7,h8⟩:=h4 a' w' h1 h3;exact ⟨f2,μ2,L2,h5,h2.trans h6,h7,h8⟩
 | _=>exact hl
variable {rs:List ResultVar} {Rv:Value→Gh→List Seg→Prop}
def QfC:List MIt→Bool
 | []=>true
 | .code .ret::_=>true
 | .blk _::s=>QfC s
 | .ops _ []::s=>QfC s
 | _=>false
theorem KS.ret (h:R fr μ L) (s:List MIt):QfC s=true→KS Try.prog N R s fr μ L:=by
 induction s with
 | nil=>exact fun _=>KEn.done h
 | cons i s ih =>
  cases i with
  | code c=>cases c<;>first | exact fun _=>WP.ret (KEn.done h) | exact fun hb=>by cases hb
  | blk i=>exact ih
  | ops all r =>
   cases r with
   | nil=>exact fun hb=>JB.nil (ih hb)
   | cons o r=>exact fun hb=>by cases hb
  | pln=>exact fun hb=>by cases hb
  | plp=>exact fun hb=>by cases hb
  | cut=>exact fun hb=>by cases hb
theorem Rt (hs:List Nat) (hb:QfC s=true) (h:Qd8 Tt L fr rs hs [] [] QgH= .ok [] [(0,v)] [] e e) (k:Upd μ L (Rv v)):KS Try.prog N (RK rs Rv) s fr μ L:=by
 refine KS.ret ?_ s hb;unfold RK;obtain ⟨vs,a',b',h1,h2,h3⟩:=VN (μ:=μ) (e:=e) h (by simp);unfold QgH at h2
 split at h2
 ·injection h2 with _ h2 _ h4 h5
  injection h2 with h2 _
  injection h2 with _ h2
  subst h2 h4;exact h3 _ h5.symm k
 ·rename_i hn
  injection h2 with _ h2 _ h4 h5
  injection h2 with h2 _
  injection h2 with _ h2
  subst h2 h4;refine h3 _ h5.symm ?_;have:Qb5 vs= .tuple vs.toArray:=by
   match vs,hn with
   | [],_=>rfl
   | [v],hn=>exact absurd rfl (hn v)
   | _::_::_,_=>rfl
  rw[this];exact k
def Qd3 (L:List Seg) (i:Nat):Option Seg:=bif Nat.blt i 64 then J4 L i else none
theorem Qdv {L:List Seg} {i:Nat} {s:Seg} (h:Qd3 L i=some s):L[i]? =some s:=by
 unfold Qd3 at h;cases hb:Nat.blt i 64 with
 | true=>rw[hb] at h;rw[←Vw];exact h
 | false=>rw[hb] at h;cases h
def Qat:List Nat→List Seg→Seg×List Seg
 | [],L=>([],L)
 | [i],L=>match Qd3 L i with
  | some s=>(s,Qb9 L i [])
  | none=>([],L)
 | i::j::r,L=>match Qd3 L i with
  | some s=>(s++(Qat (j::r) (Qb9 L i [])).1,(Qat (j::r) (Qb9 L i [])).2)
  | none=>Qat (j::r) L
def QaG:List (List Nat)→Nat→List Seg→List Seg
 | [],k,L=>L.drop k
 | g::r,k,L=>(Qat g L).1::QaG r k (Qat g L).2
theorem VD: ∀(g:List Nat) (L:List Seg),L.flatten.Perm ((Qat g L).1++(Qat g L).2.flatten)
 | [],L=>by simp[Qat]
 | [i],L=>by
  unfold Qat;cases hi:Qd3 L i with
  | none=>simp
  | some s =>
   have hi:=Qdv hi;have h1:=Yq hi
   rw[←Qak] at h1
   simpa using h1
 | i::j::r,L=>by
  unfold Qat;cases hi:Qd3 L i with
  | none=>exact VD (j::r) L
  | some s =>
   simp only
   have hi:=Qdv hi;have h1:=Yq hi
   rw[←Qak] at h1
   refine h1.trans ?_
   simp only[List.flatten_cons,List.append_assoc]
   exact (VD (j::r) _).append_left s
theorem Qd.grp: ∀(gs:List (List Nat)) (k:Nat) (L:List Seg),Qd (QaG gs k L) L:=by
 intro gs k L w μ h;have key: ∀(gs:List (List Nat)) (L:List Seg),∃M,L.flatten.Perm ((QaG gs k L).flatten++M):=by
  intro gs
  induction gs with
  | nil=>intro L;exact ⟨(L.take k).flatten,by
                          simp only[QaG];conv=>lhs;rw[←List.take_append_drop k L,List.flatten_append]
                          exact List.perm_append_comm⟩
  | cons g r ih =>
   intro L;obtain ⟨M,hM⟩:=ih (Qat g L).2;refine ⟨M,(VD g L).trans ?_⟩
   simp only[QaG,List.flatten_cons,List.append_assoc]
   exact hM.append_left _
 obtain ⟨M,hM⟩:=key gs L;exact (h.perm (L':=[(QaG gs k L).flatten,M]) (by simpa using hM)).sub (by simp)
theorem Gp {L2:List Seg} (gs:List (List Nat)) (k m:Nat) (hb:Qb8 s=true) (hn:nfL m (QaG gs k L) (fun l=> .ok [] [] l [] [])= .ok [] [] L2 [] []) (h:KS Try.prog N R s fr μ L2):KS Try.prog N R s fr μ L:=by
 rw[JK] at hn
 injection hn with _ _ hn _ _
 subst hn;exact KS.seg (Qd.grp gs k L) hb h
theorem Upd.gp {kk:Gh→List Seg→Prop} (gs:List (List Nat)) (k:Nat) (h:Upd μ (QaG gs k L) kk):Upd μ L kk:=fun w hw=>h w (Qd.grp gs k L w μ hw)
theorem Fn.gp {f:FuncId} {args:List Value} {Rv:Value→Gh→List Seg→Prop} {L2:List Seg} (gs:List (List Nat)) (k m:Nat) (hn:nfL m (QaG gs k L) (fun l=> .ok [] [] l [] [])= .ok [] [] L2 [] []) (h:Fn Try.prog f args μ L2 Rv):Fn Try.prog f args μ L Rv:=by
 rw[JK] at hn
 injection hn with _ _ hn _ _
 subst hn;exact Fn.seg (Qd.grp gs k L) h
def QaI:List Seg→Nat→List Seg→List Seg
 | [],_,_=>[]
 | _::r,0,xs=>xs++r
 | s::r,n+1,xs=>s::QaI r n xs
theorem Qd.ins {xs:List Seg} {so:Seg} (hx:xs.flatten=so): ∀{L:List Seg} {i:Nat},J4 L i=some so→Qd (QaI L i xs) L:=by
 intro L i hi w μ hw;have key: ∀{L:List Seg} {i:Nat},J4 L i=some so→(QaI L i xs).flatten=L.flatten:=by
  intro L
  induction L with
  | nil=>intro i h;cases h
  | cons s r ih =>
   intro i h;cases i with
   | zero=>simp only[J4,Option.some.injEq] at h;subst h;simp[QaI,hx]
   | succ i=>simp only[QaI,List.flatten_cons];rw[ih (by simpa [J4] using h)]
 exact hw.perm (by rw[key hi])
theorem In {xs:List Seg} {so:Seg} {L2:List Seg} (hx:xs.flatten=so) (i m:Nat) (hb:Qb8 s=true) (hi:J4 L i=some so) (hn:nfL m (QaI L i xs) (fun l=> .ok [] [] l [] [])= .ok [] [] L2 [] []) (h:KS Try.prog N R s fr μ L2):KS Try.prog N R s fr μ L:=by
 rw[JK] at hn
 injection hn with _ _ hn _ _
 subst hn;exact KS.seg (Qd.ins hx hi) hb h
def WS:Fr→List Nat
 | []=>[]
 | (t,_)::r=>t::WS r
theorem Qbw {fr:Fr}: ∀{F:Fr},Qo (WS F) fr=F→QdR F fr
 | [],_=>trivial
 | (t,v)::r,h=>by
  simp only[WS,Qo] at h
  split at h
  ·rename_i u hu
   injection h with h1 h2
   injection h1 with _ h1
   subst h1;exact ⟨hu,Qbw h2⟩
  ·
   exfalso
   have key: ∀(ts:List Nat),(Qo ts fr).length≤ts.length:=by
    intro ts
    induction ts with
    | nil=>exact Nat.le_refl _
    | cons t ts ih =>
     simp only[Qo]
     split
     ·simp only[List.length_cons];omega
     ·simp only[List.length_cons];omega
   have h1:=key (WS r);have h2: ∀F:Fr,(WS F).length=F.length:=by
    intro F
    induction F with
    | nil=>rfl
    | cons p F ih=>obtain ⟨t,v⟩:=p;simp only[WS,List.length_cons,ih]
   rw[h,h2] at h1
   simp only[List.length_cons] at h1
   omega
theorem fE {F fr:Fr} (h:Qo (WS F) fr=F):Qi F fr:=Qi.of (Qbw h)
theorem sE {M L:List Seg} (idx:List (Option Nat)) (n:Nat) (h:YJ idx n L=M):Qd M L:=by subst h;exact Qd.sel L idx n
theorem s0 {L:List Seg} (n:Nat):Qd (YJ [] n L) L:=Qd.sel L [] n
theorem Ug {kk:Gh→List Seg→Prop} (gs:List (List Nat)) (k:Nat) (h:kk μ (QaG gs k L)):Upd μ L kk:=fun w hw=>⟨μ,_,Gh.le.refl _,Qd.grp gs k L w μ hw,h⟩
theorem UgK {kk:Gh→List Seg→Prop} {L2:List Seg} (gs:List (List Nat)) (k:Nat) (hn:QaG gs k L=L2) (h:kk μ L2):Upd μ L kk:=Ug gs k (hn▸h)
theorem Qi.tr {F G fr:Fr} (h:Qi F fr) (hg:Qo (WS G) F=G):Qi G fr:=(fE hg).trans h
theorem Qd.tr {A M B:List Seg} (h:Qd M B) (hg:Qd A M):Qd A B:=hg.trans h
theorem Cd {c:Code} (h:WP Try.prog N c (KS Try.prog N R s) (BS Try.prog N R s) (KEn N R) fr μ L):KS Try.prog N R (.code c::s) fr μ L:=h
def drB (ops:List Oper) (plan:List (Bool×Nat)):Bool:=Nat.beq plan.length ops.length&&(Region.noSelect ops.toArray&&(WN ops&&WQ ops plan (List.replicate ops.length false)))
theorem Dr {id:Nat} {ops:List Oper} (keep:List Seg) (hk:QP keep L) (plan:List (Bool×Nat)) (hp:drB ops plan=true) (h:KS Try.prog N R (.pln ops (List.replicate ops.length false) plan μ keep::s) fr μ L):KS Try.prog N R (.code (.region id ops.toArray true)::s) fr μ L:=by
 unfold drB at hp
 simp only[Bool.and_eq_true] at hp
 exact WP.drawS QcR keep hk plan (Nat.eq_of_beq_eq_true hp.1) hp.2.1 hp.2.2.1 hp.2.2.2 h
def Qf9:Nat→List Seg→List Seg
 | 0,L=>match L with | []=>[] | _::r=>r
 | n+1,L=>match L with | []=>[] | s::r=>s::Qf9 n r
def rmS:List Nat→List Seg→List Seg
 | [],L=>L
 | i::r,L=>rmS r (Qf9 i L)
theorem Qco: ∀(n:Nat) (L:List Seg),∀x∈Qf9 n L,x∈L
 | 0,[],x,h=>h
 | 0,_::r,x,h=>List.mem_cons_of_mem _ h
 | n+1,[],x,h=>h
 | n+1,s::r,x,h=>by
  rcases List.mem_cons.1 h with rfl | h
  ·exact List.mem_cons_self
  ·exact List.mem_cons_of_mem _ (Qco n r x h)
theorem QdA: ∀(idx:List Nat) (L:List Seg),∀x∈rmS idx L,x∈L
 | [],L,x,h=>h
 | i::r,L,x,h=>Qco i L x (QdA r _ x h)
theorem Drk {id:Nat} {ops:List Oper} {keep:List Seg} (idx:List Nat) (m:Nat) (hn:nfL m (rmS idx L) (fun l=> .ok [] [] l [] [])= .ok [] [] keep [] []) (plan:List (Bool×Nat)) (hp:drB ops plan=true)
  (h:KS Try.prog N R (.pln ops (List.replicate ops.length false) plan μ keep::s) fr μ L):KS Try.prog N R (.code (.region id ops.toArray true)::s) fr μ L:=by
 rw[JK] at hn
 injection hn with _ _ hn _ _
 exact Dr keep (QP.of fun x hx=>QdA idx L x (by rw[hn];exact hx)) plan hp h
def Qe0:List Nat→Nat→List Seg→List Seg
 | [],n,L=>L.drop n
 | i::r,n,L=>(J4 L i).getD []::Qe0 r n L
theorem Kp {keep:List Seg} (idx:List Nat) (n:Nat) (h:Qe0 idx n L=keep):QP keep L:=by
 subst h
 induction idx with
 | nil =>
  intro c hc;obtain ⟨x,h1,h2⟩:=List.mem_flatten.1 hc;exact List.mem_flatten.2 ⟨x,List.mem_of_mem_drop h1,h2⟩
 | cons i r ih =>
  intro c hc
  simp only[Qe0,List.flatten_cons,List.mem_append] at hc
  rcases hc with hc | hc
  ·cases hi:J4 L i with
   | none=>rw[hi] at hc;cases hc
   | some x =>
    rw[hi] at hc
    rw[Vw] at hi
    exact List.mem_flatten.2 ⟨x,List.mem_of_getElem? hi,hc⟩
  ·exact ih c hc
theorem Cut {ρ β:Type} {m:Option ρ} {f:ρ→Option β} {r:β} {c:Code} (h:Option.bind m f=some r) (M:Fr→List Seg→ρ→Qs) (h1: ∀o,m=some o→f o=some r→KS Try.prog N R (.code c:: .cut (M fr L o)::s) fr μ L)
  (h2: ∀o fr' μ' L',f o=some r→μ.le μ'→M fr L o fr' μ' L'→KS Try.prog N R s fr' μ' L'):KS Try.prog N R (.code c::s) fr μ L:=by
 obtain ⟨o,ho,h⟩:=Qj h;exact WP.cutK (M fr L o) (h1 o ho h) fun fr' μ' L' hm hM=>h2 o fr' μ' L' h hm hM
theorem Atn {F F':Fr} {L2 L2':List Seg} (n:Nat) (hF:Qi F fr) (hs:Qd L2 L) (hb:Qb8 s=true) (hn:nfF F (fun f=>nfL n L2 fun l=> .ok [] f l [] [])= .ok [] F' L2' [] []) (h:KS Try.prog N R s F' μ L2'):KS Try.prog N R s fr μ L:=by
 rw[QcF,JK] at hn
 injection hn with _ h1 h2 _ _
 subst h1 h2;exact Att hF hs hb h
def QfB:List MIt→Option Qs
 | .cut M::_=>some M
 | .blk _::s=>QfB s
 | .ops _ []::s=>QfB s
 | _=>none
theorem Ce {M:Qs} (hb:QfB s=some M) (h:M fr μ L):KS Try.prog N R s fr μ L:=by
 induction s with
 | nil=>cases hb
 | cons i s ih =>
  cases i with
  | code c=>cases hb
  | blk i=>exact ih hb
  | ops all r =>
   cases r with
   | nil=>exact JB.nil (ih hb)
   | cons o r=>cases hb
  | pln=>cases hb
  | plp=>cases hb
  | cut M'=>simp only[QfB,Option.some.injEq] at hb;subst hb;exact h
theorem Lp {σ ρ:Type} {body:σ→Option (σ⊕ρ)} {n i:Nat} {s0:σ} {o:ρ} {c:Code} (h:iter body n s0=some o) (I:Fr→List Seg→σ→Qs) (h0:I fr L s0 fr μ L)
  (round: ∀st q fr' μ' L',μ.le μ'→I fr L st fr' μ' L'→body st=some q→(∀r,q= .inr r→r=o)→KS Try.prog N R (.code c:: .cut (fun fr2 μ2 L2=> ∃st',q= .inl st'∧I fr L st' fr2 μ2 L2):: .blk i::s) fr' μ' L') :
  KS Try.prog N R (.code (.block i (.loop c))::s) fr μ L :=
 WP.block (WP.iter h (I fr L) h0 round)
inductive Qgp where
 | ok (o:Oper) (s:List MIt) (n:Nat) (vs:List Value)
 | bad
def clO (s:List MIt) (fr:Fr):Qgp:=match hdS s fr with
 | some (o,s')=>(match o.op with
  | .call ⟨.value f,args,_⟩=>(match evV fr f,JQ fr args.toList with
   | some (.func (.func g) ⟨fi⟩ ⟨ca⟩),some vs=> .ok o s' g (fi++(vs++ca))
   | _,_=> .bad)
  | _=> .bad)
 | none=> .bad
theorem Cl {o:Oper} {f:Nat} {args:List Value} (h:clO s fr= .ok o s' f args) (k:Fn Try.prog f args μ L fun v μ' L'=>kpt s L' (Yx N o.dst v fr fun f=>KS Try.prog N R s' f μ' L')):KS Try.prog N R s fr μ L:=by
 unfold clO at h
 split at h
 ·rename_i o1 s1 h1
  split at h
  ·rename_i hop
   split at h
   ·rename_i hf hv
    injection h with e1 e2 e3 e4
    subst e1 e2 e3 e4;refine So h1 ?_
    rw[hop]
    exact QcT hf hv (by simp) k
   ·cases h
  ·cases h
 ·cases h
def alO (s:List MIt) (fr:Fr):Qgp:=match hdS s fr with
 | some (o,s')=>(match o.op with
  | .alloc t=>(match Tt t with | some i=>(match i.zero.cells with | ⟨cs⟩=> .ok o s' t cs) | none=> .bad)
  | .box t x=>(match evV fr x with | some v=>(match v.cells with | ⟨cs⟩=> .ok o s' t cs) | none=> .bad)
  | _=> .bad)
 | none=> .bad
theorem Al {o:Oper} {t:Nat} {cs:List Value} (h:alO s fr= .ok o s' t cs) (k: ∀g,kpt s ([(g,.cells ⟨cs⟩ t)]::L) (Yx N o.dst (.pointer (some ⟨g,0,none⟩)) fr fun f=>KS Try.prog N R s' f μ ([(g,.cells ⟨cs⟩ t)]::L))):KS Try.prog N R s fr μ L:=by
 unfold alO at h
 split at h
 ·rename_i o1 s1 h1
  split at h
  ·rename_i hop
   split at h
   ·rename_i hT
    split at h
    rename_i hz
    injection h with e1 e2 e3 e4
    subst e1 e2 e3 e4;refine So h1 ?_
    rw[hop]
    exact QbN hT hz k
   ·cases h
  ·rename_i hop
   split at h
   ·rename_i hv
    split at h
    rename_i hz
    injection h with e1 e2 e3 e4
    subst e1 e2 e3 e4;refine So h1 ?_
    rw[hop]
    exact QfH hv hz k
   ·cases h
  ·cases h
 ·cases h
inductive QgQ where
 | ok (o:Oper) (s:List MIt) (A:Option Addr) (len:Nat) (ix:Int) (sz:Nat)
 | bad
def ixO (s:List MIt) (fr:Fr):QgQ:=match hdO s fr with
 | some (true,o,s')=>(match o.op with
  | .indexAddr t x n=>(match evV fr x,evV fr n,Tt t with
   | some (.slice A len _),some (.int _ ix),some i=>(match i.u with
    | .slice e=>(match Tt e with | some ⟨_,sz,_,_,_⟩=> .ok o s' A len ix sz | none=> .bad)
    | _=> .bad)
   | _,_,_=> .bad)
  | _=> .bad)
 | _=> .bad
theorem Ix {α β:Type} {μ1:Gh} {L1:List Seg} {r:Rp α} {xs:List α} {ix:Int} {f:α→Option β} {res:β} {A:Option Addr} {o:Oper} {sz:Nat} (h:Option.bind (YN xs ix) f=some res) (hR:Rds r μ1 L1 A xs) (hi:ixO s fr= .ok o s' A xs.length ix sz) (hz:r.sz=sz)
  (k: ∀x a cs,YN xs ix=some x→r.rep μ1 x cs→Yn μ1 L1 (a.add (ix.toNat*sz)) cs→A=some a→f x=some res→Yx N o.dst (.pointer (some (a.add (ix.toNat*sz)))) fr fun f=>KS Try.prog N R s' f μ L):KS Try.prog N R s fr μ L:=by
 subst hz;obtain ⟨x,hx,hh⟩:=Qj h;obtain ⟨a,cs,hA,hr,_,hc⟩:=Rds.getI hR hx;unfold ixO at hi
 split at hi
 ·rename_i o1 s1 h1
  split at hi
  ·rename_i hop
   split at hi
   ·rename_i hx1 hn1 hT1
    split at hi
    ·rename_i hu
     split at hi
     ·rename_i hT2
      injection hi with e1 e2 e3 e4 e5 e6
      subst e1 e2 e3 e4 e5;refine Rdo h1 (by rw[hop];rfl) ?_
      rw[hop]
      refine Qgv hx1 hn1 hT1 hu hT2 e6 ⟨(Qag hx).1,(Qag hx).2.1⟩ hA ?_;exact k x a cs hx hr hc hA hh
     ·cases hi
    ·cases hi
   ·cases hi
  ·cases hi
 ·cases hi
theorem IxA {α β:Type} {all rest:List Oper} {s1:List MIt} {r:Rp α} {xs:List α} {ix:Int} {f:α→Option β} {res:β} {A:Option Addr} {o:Oper} {sz:Nat} (h:Option.bind (YN xs ix) f=some res) (hR:Rds r μ L A xs) (hi:ixO (.ops all rest::s1) fr= .ok o s' A xs.length ix sz) (hz:r.sz=sz)
  (k: ∀x a cs,YN xs ix=some x→r.rep μ x cs→Yn μ L (a.add (ix.toNat*sz)) cs→A=some a→f x=some res→Yx N o.dst (.pointer (some (a.add (ix.toNat*sz)))) fr fun f=>KS Try.prog N R s' f μ L):KS Try.prog N R (.ops all rest::s1) fr μ L:=Ix h hR hi hz k
end
end Go.Proofs.Ytfdjjdhnfaklbaa
namespace Go.Proofs.Ytfdjjdhnfaklbaa
open Go.RowKit
set_option linter.unusedSimpArgs false
set_option linter.unusedVariables false
section
variable {α:Type} {r:Rp α} {e:TypeId} {μ μ':Gh}
def Jn (r:Rp α) (e:TypeId) (μ:Gh):List (Int×Option (List α))→List (Int×Value)→Seg→Prop
 | [],[],s=>s=[]
 | p::m,q::mv,s=>p.1=q.1∧(match p.2 with
  | none=>Jn r e μ m mv s
  | some xs=> ∃ch s',s=ch++s'∧Own r e μ q.2 xs ch∧Jn r e μ m mv s')
 | _,_,_=>False
theorem Jn.mono (hm:μ.le μ'): ∀{m:List (Int×Option (List α))} {mv:List (Int×Value)} {s:Seg},Jn r e μ m mv s→Jn r e μ' m mv s
 | [],[],s,h=>h
 | (k,none)::m,q::mv,s,h=>⟨h.1,Jn.mono hm h.2⟩
 | (k,some xs)::m,q::mv,s,h=>by
  obtain ⟨h1,ch,s',h2,h3,h4⟩:=h;exact ⟨h1,ch,s',h2,h3.mono hm,h4.mono hm⟩
 | [],q::mv,s,h=>h.elim
 | p::m,[],s,h=>by cases p with | mk a b=>cases b<;>exact h.elim
theorem Jn.take (k:Int) {xs:List α}: ∀{m:List (Int×Option (List α))} {mv:List (Int×Value)} {s:Seg},Jn r e μ m mv s→V4 k m=some xs →
  ∃v ch s',(Qq k mv).getD (.slice none 0 0)=v∧s.Perm (ch++s')∧Own r e μ v xs ch∧Jn r e μ (Qej k m) mv s'
 | [],[],s,h,hx=>by
  cases hx;cases h;exact ⟨_,[],[],rfl,.refl _,Own.nil,rfl⟩
 | [],q::mv,s,h,_=>h.elim
 | p::m,[],s,h,_=>by cases p with | mk a b=>cases b<;>exact h.elim
 | (a,none)::m,q::mv,s,h,hx=>by
  obtain ⟨h1,h2⟩:=h
  by_cases ha:a=k
  ·simp[V4,Qq,ha] at hx
  ·have hx':V4 k m=some xs:=by simpa [V4,Qq,ha] using hx
   obtain ⟨v,ch,s',e1,e2,e3,e4⟩:=Jn.take k h2 hx';have hq: ¬q.1=k:=fun h=>ha (h1.trans h);refine ⟨v,ch,s',by simp only[Qq,hq,if_false];exact e1,e2,e3,?_⟩
   simp only[Qej,ha,if_false]
   exact ⟨h1,e4⟩
 | (a,some ys)::m,q::mv,s,h,hx=>by
  obtain ⟨h1,ch0,s0,rfl,h3,h4⟩:=h
  by_cases ha:a=k
  ·have hx':ys=xs:=by simpa [V4,Qq,ha] using hx
   subst hx';have hq:q.1=k:=h1.symm.trans ha;refine ⟨q.2,ch0,s0,by simp[Qq,hq],.refl _,h3,?_⟩
   simp only[Qej,ha,if_true]
   exact ⟨hq.symm,h4⟩
  ·have hx':V4 k m=some xs:=by simpa [V4,Qq,ha] using hx
   obtain ⟨v,ch,s',e1,e2,e3,e4⟩:=Jn.take k h4 hx';have hq: ¬q.1=k:=fun h=>ha (h1.trans h);refine ⟨v,ch,ch0++s',by simp only[Qq,hq,if_false];exact e1,?_,e3,?_⟩
   ·have h5:=e2.append_left ch0;refine h5.trans ?_
    rw[←List.append_assoc,←List.append_assoc]
    exact List.perm_append_comm.append_right s'
   ·simp only[Qej,ha,if_false]
    exact ⟨h1,ch0,s',rfl,h3,e4⟩
theorem Jn.put (k:Int) {zs:List α} {v:Value} {ch:Seg} (hO:Own r e μ v zs ch): ∀{m:List (Int×Option (List α))} {mv:List (Int×Value)} {s:Seg},Jn r e μ m mv s→(∀xs,Qq k m≠some (some xs)) →
  ∃s2,(ch++s).Perm s2∧Jn r e μ (Q4 k (some zs) m) (Q4 k v mv) s2
 | [],[],s,h,_=>by
  cases h;exact ⟨ch++[],by simp,rfl,ch,[],rfl,hO,rfl⟩
 | [],q::mv,s,h,_=>h.elim
 | p::m,[],s,h,_=>by cases p with | mk a b=>cases b<;>exact h.elim
 | (a,none)::m,q::mv,s,h,hx=>by
  obtain ⟨h1,h2⟩:=h
  by_cases ha:a=k
  ·have hq:q.1=k:=h1.symm.trans ha;refine ⟨ch++s,.refl _,?_⟩
   simp only[Q4,ha,hq,if_true]
   exact ⟨rfl,ch,s,rfl,hO,h2⟩
  ·have hq: ¬q.1=k:=fun h=>ha (h1.trans h);obtain ⟨s2,e1,e2⟩:=Jn.put k hO h2 (fun xs=>by simpa [Qq,ha] using hx xs);refine ⟨s2,e1,?_⟩
   simp only[Q4,ha,hq,if_false]
   exact ⟨h1,e2⟩
 | (a,some ys)::m,q::mv,s,h,hx=>by
  obtain ⟨h1,ch0,s0,rfl,h3,h4⟩:=h
  by_cases ha:a=k
  ·exact absurd (by simp[Qq,ha]) (hx ys)
  ·have hq: ¬q.1=k:=fun h=>ha (h1.trans h);obtain ⟨s2,e1,e2⟩:=Jn.put k hO h4 (fun xs=>by simpa [Qq,ha] using hx xs);refine ⟨ch0++s2,?_,?_⟩
   ·refine List.Perm.trans ?_ (e1.append_left ch0)
    rw[←List.append_assoc,←List.append_assoc]
    exact List.perm_append_comm.append_right s0
   ·simp only[Q4,ha,hq,if_false]
    exact ⟨h1,ch0,s2,rfl,h3,e2⟩
variable {es:Array MapEntry} {c:Nat} {m:List (Int×Option (List α))} {so:Seg}
def Qce (r:Rp α) (e:TypeId) (μ:Gh) (es:Array MapEntry) (c:Nat) (m:List (Int×Option (List α))) (so:Seg):Prop :=
 ∃mv:List (Int×Value),YK (fun v=>v) es c mv∧Jn r e μ m mv so
theorem Qce.nil:Qce r e μ #[] 0 [] []:=⟨[],YK.nil,rfl⟩
theorem Qce.mono (h:Qce r e μ es c m so) (hm:μ.le μ'):Qce r e μ' es c m so:=by
 obtain ⟨mv,h1,h2⟩:=h;exact ⟨mv,h1,h2.mono hm⟩
def LkW (es:Array MapEntry) (c:Nat) (k:Int) (v:Value):Prop:= ∃mv:List (Int×Value),YK (fun v=>v) es c mv∧(Qq k mv).getD (.slice none 0 0)=v
theorem Qce.take (h:Qce r e μ es c m so) (x:Nat×Obj) {k:Int} {xs:List α} (hx:V4 k m=some xs) :
  ∃A cc ch so',LkW es c k (.slice A xs.length cc)∧[ch,x::so'].flatten.Perm (x::so)∧Own r e μ (.slice A xs.length cc) xs ch∧Qce r e μ es c (Qej k m) so':=by
 obtain ⟨mv,h1,h2⟩:=h;obtain ⟨v,ch,s',e1,e2,e3,e4⟩:=h2.take k hx;obtain ⟨A,cc,rfl,_,_⟩:=e3.form;refine ⟨A,cc,ch,s',⟨mv,h1,e1⟩,?_,e3,mv,h1,e4⟩
 simp only[List.flatten_cons,List.flatten_nil,List.append_nil]
 exact List.perm_middle.trans (e2.symm.cons x)
theorem LkW.look {L:List Seg} {k:Int} {v:Value} (h:LkW es c k v) {g:Nat} (ho:YV μ L g (.map es c)) :
  ∃b:Bool,∃es' c',YV μ L g (.map es' c')∧JE .i64 es'.toList∧((v,b):Value×Bool)=(match JR k es'.toList with | some v=>(v,true) | none=>(.slice none 0 0,false)):=by
 obtain ⟨mv,h1,h2⟩:=h;obtain ⟨es',c',k1,k2,k3⟩:=h1.look ho (z:= .slice none 0 0) (zb:= .slice none 0 0) rfl k;refine ⟨(Qq k mv).isSome,es',c',k1,k2,?_⟩
 rw[←h2];exact k3
theorem Qd.insP {xs:List Seg} {so:Seg} (hx:xs.flatten.Perm so): ∀{L:List Seg} {i:Nat},J4 L i=some so→Qd (QaI L i xs) L:=by
 intro L i hi w μ hw;have key: ∀{L:List Seg} {i:Nat},J4 L i=some so→(QaI L i xs).flatten.Perm L.flatten:=by
  intro L
  induction L with
  | nil=>intro i h;cases h
  | cons s r ih =>
   intro i h;cases i with
   | zero=>simp only[J4,Option.some.injEq] at h;subst h;simpa [QaI] using hx.append_right _
   | succ i=>simp only[QaI,List.flatten_cons];exact (ih (by simpa [J4] using h)).append_left s
 exact hw.perm (key hi).symm
theorem InP {N:NN} {R:Qs} {fr:Fr} {s:List MIt} {L:List Seg} {xs:List Seg} {so:Seg} {L2:List Seg} (hx:xs.flatten.Perm so) (i m:Nat) (hb:Qb8 s=true) (hi:J4 L i=some so) (hn:nfL m (QaI L i xs) (fun l=> .ok [] [] l [] [])= .ok [] [] L2 [] []) (h:KS Try.prog N R s fr μ L2):KS Try.prog N R s fr μ L:=by
 rw[JK] at hn
 injection hn with _ _ hn _ _
 subst hn;exact KS.seg (Qd.insP hx hi) hb h
variable {P:Program} {T:TT} {L:List Seg}
end
end Go.Proofs.Ytfdjjdhnfaklbaa
namespace Go.Proofs.Ytfdjjdhnfaklbaa
set_option linter.unusedSimpArgs false
set_option linter.unusedVariables false
theorem YO {α:Type} (xs:List α) (k:Nat):YN xs (k:Int)=xs[k]? :=by simp[YN]
theorem QdZ {α:Type} {xs:List α} {k:Nat} (h:k<xs.length):YN xs (k:Int)=some xs[k]:=by rw[YO];simp[h]
theorem Zn {n:Int} (h1: -9223372036854775808≤n) (h2:n≤9223372036854775807):w64 n=n:=Qgm h1 h2
theorem YC {k:Nat} (h:k<9223372036854775807):w64 ((k:Int)+1)=((k+1:Nat):Int):=by rw[Zn (by omega) (by omega)];omega
theorem Wh {α:Type} {xs ys:List α} (h:xs.length+ys.length≤1000000):Vd xs ys=some (xs++ys):=by simp[Vd,h]
theorem Qd0 {p:Prop} [Decidable p] (h:p):QaH p=some ():=by simp[QaH,h]
def QfL {τ ρ:Type} (o:Option ρ) (t:τ):τ⊕ρ:=match o with
 | none=> .inl t
 | some r=> .inr r
@[simp] theorem Qgg {τ ρ:Type} (t:τ):QfL (none:Option ρ) t= .inl t:=rfl
@[simp] theorem Qgh {τ ρ:Type} (r:ρ) (t:τ):QfL (some r) t= .inr r:=rfl
def QgJ {σ τ ρ:Type} (f:σ→τ) (q:σ⊕ρ):τ⊕ρ:=match q with
 | .inl s=> .inl (f s)
 | .inr r=> .inr r
@[simp] theorem QgK {σ τ ρ:Type} (f:σ→τ) (s:σ):QgJ f (.inl s:σ⊕ρ)= .inl (f s):=rfl
@[simp] theorem QgL {σ τ ρ:Type} (f:σ→τ) (r:ρ):QgJ f (.inr r:σ⊕ρ)= .inr r:=rfl
def first {α ρ:Type} (step:α→Option ρ) (fin:ρ):List α→ρ
 | []=>fin
 | x::r=>match step x with
  | none=>first step fin r
  | some o=>o
end Go.Proofs.Ytfdjjdhnfaklbaa
namespace Go.Proofs.Ytfdjjdhnfaklbaa
set_option linter.unusedSimpArgs false
set_option linter.unusedVariables false
theorem QZ {α:Type} {l:List α} {k:Nat} {x:α} (h:l[k]? =some x):k<l.length:=by
 rcases Nat.lt_or_ge k l.length with h2 | h2
 ·exact h2
 ·rw[List.getElem?_eq_none h2] at h;cases h
theorem JO {α:Type} {l:List α} {k:Nat} {x:α} (hx:l[k]? =some x):l.take (k+1)=l.take k++[x]:=by rw[List.take_add_one,hx];rfl
def QdG {α:Type} (f:α→Int) (l:List α):Int:=(l.map f).sum
@[simp] theorem Qgn {α:Type} (f:α→Int):QdG f []=0:=rfl
@[simp] theorem Qgk {α:Type} (f:α→Int) (x:α) (l:List α):QdG f (x::l)=f x+QdG f l:=by simp[QdG]
theorem YP {β:Type} {k:Int} {v:β} (m:List (Int×β)):Qq k (Q4 k v m)=some v:=by
 induction m with
 | nil=>simp[Q4,Qq]
 | cons p m ih =>
  obtain ⟨a,b⟩:=p
  by_cases h:a=k
  ·simp[Q4,Qq,h]
  ·simp[Q4,Qq,h,ih]
theorem ZB {β:Type} {k j:Int} {v:β} (h:j≠k) (m:List (Int×β)):Qq j (Q4 k v m)=Qq j m:=by
 induction m with
 | nil=>simp[Q4,Qq];omega
 | cons p m ih =>
  obtain ⟨a,b⟩:=p
  by_cases h2:a=k
  ·subst h2;simp[Q4,Qq,Ne.symm h]
  ·by_cases h3:a=j
   ·subst h3;simp[Q4,Qq,h]
   ·simp[Q4,Qq,h2,h3,ih]
theorem V0 {β:Type} (n:Int): ∀(m:List (Int×β)),(m.map Prod.fst).Nodup→ZX n m=m.filter fun p=> !decide (p.1=n)
 | [],_=>rfl
 | p::m,h=>by
  rw[List.map_cons,List.nodup_cons] at h
  by_cases hp:p.1=n
  ·simp only[ZX,hp,if_true,List.filter_cons,decide_true,Bool.not_true,Bool.false_eq_true,if_false]
   symm
   rw[List.filter_eq_self]
   intro q hq;have:q.1≠n:=fun he=>h.1 (by rw[hp,←he];exact List.mem_map_of_mem hq)
   simp[this]
  ·simp[ZX,hp,V0 n m h.2]
theorem Qb2 {β:Type} {m:List (Int×β)} (f:Int×β→Bool) (h:(m.map Prod.fst).Nodup):((m.filter f).map Prod.fst).Nodup:=h.sublist (List.filter_sublist.map _)
theorem QgO {n:Int} (h1: -9223372036854775808≤n) (h2:n≤9223372036854775807):wfI .i64 n:=by
 simp only[wfI,Lit.wf,Bool.and_eq_true,decide_eq_true_eq]
 exact ⟨Int.le_trans (by decide) h1,Int.le_trans h2 (by decide)⟩
theorem Qcw {α:Type} {l:List α} {y:α} {i:Nat} {x:α} (h:(l++[y])[i]? =some x):l[i]? =some x∨(i=l.length∧x=y):=by
 rcases Nat.lt_or_ge i l.length with hi | hi
 ·rw[List.getElem?_append_left hi] at h;exact .inl h
 ·rw[List.getElem?_append_right hi] at h
  cases hk:i-l.length with
  | zero=>rw[hk] at h;simp at h;exact .inr ⟨by omega,h.symm⟩
  | succ k=>rw[hk] at h;simp at h
theorem VI {β:Type} {k:Int} {v:β}: ∀(m:List (Int×β)),(Q4 k v m).map Prod.fst=if (Qq k m).isSome=true then m.map Prod.fst else m.map Prod.fst++[k]
 | []=>rfl
 | p::m=>by
  by_cases h:p.1=k
  ·simp[Q4,Qq,h]
  ·simp only[Q4,Qq,h,if_false,List.map_cons,VI m]
   split<;>simp
theorem Js {β:Type} {k:Int}: ∀{m:List (Int×β)},(Qq k m).isSome=true↔k∈m.map Prod.fst
 | []=>by simp[Qq]
 | p::m=>by
  by_cases h:p.1=k
  ·simp[Qq,h]
  ·have:=Js (k:=k) (m:=m)
   simp only[Qq,h,if_false,this,List.map_cons,List.mem_cons]
   constructor
   ·exact .inr
   ·rintro (e | e)
    ·exact absurd e.symm h
    ·exact e
theorem QaS {β:Type} {k:Int} {v:β} {m:List (Int×β)} (h:(m.map Prod.fst).Nodup):((Q4 k v m).map Prod.fst).Nodup:=by
 rw[VI]
 split
 ·exact h
 ·rename_i hn
  rw[Js] at hn
  exact List.nodup_append.2 ⟨h,by simp,fun a ha b hb=>by simp at hb;subst hb;exact fun e=>hn (by rw[←e];exact ha)⟩
end Go.Proofs.Ytfdjjdhnfaklbaa
namespace Go.Proofs.Ytfdjjdhnfaklbaa
open Go.RowKit
def QdC (s:ByteArray) (i:Int):Option Int:=Option.bind (JV s i) fun b=>if b<128 then some b else none
def JW {α:Type} (k:Int) (m:List (Int×Option α)):Option α:=match Qq k m with
 | some (some x)=>some x
 | _=>none
end Go.Proofs.Ytfdjjdhnfaklbaa
namespace Go.Proofs.Ytfdjjdhnfaklbaa
open Go.RowKit
set_option linter.unusedSimpArgs false
set_option linter.unusedVariables false
section
variable {α:Type} {O:Gh→Value→α→Seg→Prop} {μ μ':Gh}
abbrev Qae (g:Nat):Value:= .pointer (some ⟨g,0,none⟩)
structure Qfl (O:Gh→Value→α→Seg→Prop):Prop where
 mono: ∀{μ μ':Gh} {v:Value} {x:α} {s:Seg},O μ v x s→μ.le μ'→O μ' v x s
 ptr: ∀{μ:Gh} {v:Value} {x:α} {s:Seg},O μ v x s→ ∃g,v=Qae g
def YM (O:Gh→Value→α→Seg→Prop) (μ:Gh):List (Int×Option α)→List (Int×Value)→Seg→Prop
 | [],[],s=>s=[]
 | p::m,q::mv,s=>p.1=q.1∧(match p.2 with
  | none=>YM O μ m mv s
  | some x=> ∃ch s',s=ch++s'∧O μ q.2 x ch∧YM O μ m mv s')
 | _,_,_=>False
theorem YM.mono (hO:Qfl O) (hm:μ.le μ'): ∀{m:List (Int×Option α)} {mv:List (Int×Value)} {s:Seg},YM O μ m mv s→YM O μ' m mv s
 | [],[],s,h=>h
 | (k,none)::m,q::mv,s,h=>⟨h.1,YM.mono hO hm h.2⟩
 | (k,some x)::m,q::mv,s,h=>by
  obtain ⟨h1,ch,s',h2,h3,h4⟩:=h;exact ⟨h1,ch,s',h2,hO.mono h3 hm,h4.mono hO hm⟩
 | [],q::mv,s,h=>h.elim
 | p::m,[],s,h=>by cases p with | mk a b=>cases b<;>exact h.elim
theorem YM.absent (k:Int): ∀{m:List (Int×Option α)} {mv:List (Int×Value)} {s:Seg},YM O μ m mv s→(Qq k m).isSome=false→Qq k mv=none
 | [],[],s,h,_=>rfl
 | [],q::mv,s,h,_=>h.elim
 | p::m,[],s,h,_=>by cases p with | mk a b=>cases b<;>exact h.elim
 | (a,x)::m,q::mv,s,h,hx=>by
  have h1:a=q.1:=by cases x<;>exact h.1
  by_cases ha:a=k
  ·simp[Qq,ha] at hx
  ·have hx':(Qq k m).isSome=false:=by simpa [Qq,ha] using hx
   have hq: ¬q.1=k:=fun h=>ha (h1.trans h)
   simp only[Qq,hq,if_false]
   cases x with
   | none=>exact YM.absent k h.2 hx'
   | some x=>obtain ⟨_,ch,s',_,_,h4⟩:=h;exact YM.absent k h4 hx'
theorem YM.take (k:Int) {x:α}: ∀{m:List (Int×Option α)} {mv:List (Int×Value)} {s:Seg},YM O μ m mv s→JW k m=some x →
  ∃v ch s',Qq k mv=some v∧s.Perm (ch++s')∧O μ v x ch∧YM O μ (Q4 k none m) mv s'
 | [],[],s,h,hx=>by cases hx
 | [],q::mv,s,h,_=>h.elim
 | p::m,[],s,h,_=>by cases p with | mk a b=>cases b<;>exact h.elim
 | (a,none)::m,q::mv,s,h,hx=>by
  obtain ⟨h1,h2⟩:=h
  by_cases ha:a=k
  ·simp[JW,Qq,ha] at hx
  ·have hx':JW k m=some x:=by simpa [JW,Qq,ha] using hx
   obtain ⟨v,ch,s',e1,e2,e3,e4⟩:=YM.take k h2 hx';have hq: ¬q.1=k:=fun h=>ha (h1.trans h);refine ⟨v,ch,s',by simp only[Qq,hq,if_false];exact e1,e2,e3,?_⟩
   simp only[Q4,ha,if_false]
   exact ⟨h1,e4⟩
 | (a,some y)::m,q::mv,s,h,hx=>by
  obtain ⟨h1,ch0,s0,rfl,h3,h4⟩:=h
  by_cases ha:a=k
  ·have hx':y=x:=by simpa [JW,Qq,ha] using hx
   subst hx';have hq:q.1=k:=h1.symm.trans ha;refine ⟨q.2,ch0,s0,by simp[Qq,hq],.refl _,h3,?_⟩
   simp only[Q4,ha,if_true]
   exact ⟨hq.symm,h4⟩
  ·have hx':JW k m=some x:=by simpa [JW,Qq,ha] using hx
   obtain ⟨v,ch,s',e1,e2,e3,e4⟩:=YM.take k h4 hx';have hq: ¬q.1=k:=fun h=>ha (h1.trans h);refine ⟨v,ch,ch0++s',by simp only[Qq,hq,if_false];exact e1,?_,e3,?_⟩
   ·have h5:=e2.append_left ch0;refine h5.trans ?_
    rw[←List.append_assoc,←List.append_assoc]
    exact List.perm_append_comm.append_right s'
   ·simp only[Q4,ha,if_false]
    exact ⟨h1,ch0,s',rfl,h3,e4⟩
theorem YM.fill (k:Int) {x:α} {v:Value} {ch:Seg} (hO:O μ v x ch): ∀{m:List (Int×Option α)} {mv:List (Int×Value)} {s:Seg},YM O μ (Q4 k none m) mv s→Qq k mv=some v →
  ∃s2,(s++ch).Perm s2∧YM O μ (Q4 k (some x) m) mv s2
 | [],[q],s,h,hv=>by
  obtain ⟨h1,h2⟩:=h;have h2':s=[]:=h2;subst h2';have hq:q.1=k:=h1.symm;have hv':q.2=v:=by simpa [Qq,hq] using hv
  exact ⟨ch++[],by simp,h1,ch,[],rfl,hv'▸hO,rfl⟩
 | [],[],s,h,hv=>by cases hv
 | [],q::q2::mv,s,h,hv=>by exact h.2.elim
 | (a,y)::m,[],s,h,hv=>by cases hv
 | (a,y)::m,q::mv,s,h,hv=>by
  by_cases ha:a=k
  ·simp only[Q4,ha,if_true] at h ⊢
   obtain ⟨h1,h2⟩:=h;have hv':q.2=v:=by simpa [Qq,←h1] using hv
   exact ⟨ch++s,List.perm_append_comm,h1,ch,s,rfl,hv'▸hO,h2⟩
  ·simp only[Q4,ha,if_false] at h ⊢
   have h1:a=q.1:=by cases y<;>exact h.1
   have hq: ¬q.1=k:=fun h=>ha (h1.trans h);have hv':Qq k mv=some v:=by simpa [Qq,hq] using hv
   cases y with
   | none =>
    obtain ⟨s2,e1,e2⟩:=YM.fill k hO h.2 hv';exact ⟨s2,e1,h1,e2⟩
   | some y =>
    obtain ⟨_,c0,s0,rfl,h3,h4⟩:=h;obtain ⟨s2,e1,e2⟩:=YM.fill k hO h4 hv';refine ⟨c0++s2,?_,h1,c0,s2,rfl,h3,e2⟩
    rw[List.append_assoc]
    exact e1.append_left c0
theorem YM.add (k:Int) (v:Value): ∀{m:List (Int×Option α)} {mv:List (Int×Value)} {s:Seg},YM O μ m mv s→(Qq k m).isSome=false→YM O μ (Q4 k none m) (Q4 k v mv) s
 | [],[],s,h,_=>⟨rfl,h⟩
 | [],q::mv,s,h,_=>h.elim
 | p::m,[],s,h,_=>by cases p with | mk a b=>cases b<;>exact h.elim
 | (a,y)::m,q::mv,s,h,hx=>by
  have h1:a=q.1:=by cases y<;>exact h.1
  by_cases ha:a=k
  ·simp[Qq,ha] at hx
  ·have hx':(Qq k m).isSome=false:=by simpa [Qq,ha] using hx
   have hq: ¬q.1=k:=fun h=>ha (h1.trans h)
   simp only[Q4,ha,hq,if_false]
   cases y with
   | none=>exact ⟨h1,YM.add k v h.2 hx'⟩
   | some y=>obtain ⟨_,c0,s0,rfl,h3,h4⟩:=h;exact ⟨h1,c0,s0,rfl,h3,YM.add k v h4 hx'⟩
theorem YM.del (k:Int): ∀{m:List (Int×Option α)} {mv:List (Int×Value)} {s:Seg},YM O μ (Q4 k none m) mv s→YM O μ (ZX k m) (ZX k mv) s
 | [],[q],s,h=>by
  obtain ⟨h1,h2⟩:=h;have hq:q.1=k:=h1.symm
  simp only[ZX,hq,if_true]
  exact h2
 | [],[],s,h=>h.elim
 | [],q::q2::mv,s,h=>h.2.elim
 | (a,y)::m,[],s,h=>by
  by_cases ha:a=k
  ·simp only[Q4,ha,if_true] at h;exact h.elim
  ·simp only[Q4,ha,if_false] at h;cases y<;>exact h.elim
 | (a,y)::m,q::mv,s,h=>by
  by_cases ha:a=k
  ·simp only[Q4,ha,if_true] at h
   obtain ⟨h1,h2⟩:=h;have hq:q.1=k:=h1.symm
   simp only[ZX,ha,hq,if_true]
   exact h2
  ·simp only[Q4,ha,if_false] at h
   have h1:a=q.1:=by cases y<;>exact h.1
   have hq: ¬q.1=k:=fun h=>ha (h1.trans h)
   simp only[ZX,ha,hq,if_false]
   cases y with
   | none=>exact ⟨h1,YM.del k h.2⟩
   | some y=>obtain ⟨_,c0,s0,rfl,h3,h4⟩:=h;exact ⟨h1,c0,s0,rfl,h3,YM.del k h4⟩
variable {es:Array MapEntry} {c:Nat} {m:List (Int×Option α)} {so:Seg}
def Zj (O:Gh→Value→α→Seg→Prop) (μ:Gh) (es:Array MapEntry) (c:Nat) (m:List (Int×Option α)) (so:Seg):Prop :=
 Qfl O∧ ∃(mv:List (Int×Value)) (s:Seg),YK (fun v=>v) es c mv∧so.Perm s∧YM O μ m mv s
theorem Zj.nil (h:Qfl O):Zj O μ #[] 0 [] []:=⟨h,[],[],YK.nil,.refl _,rfl⟩
theorem Zj.mono (h:Zj O μ es c m so) (hm:μ.le μ'):Zj O μ' es c m so:=by
 obtain ⟨hO,mv,s,h1,h2,h3⟩:=h;exact ⟨hO,mv,s,h1,h2,h3.mono hO hm⟩
def LkP (es:Array MapEntry) (c:Nat) (k:Int) (v:Value):Prop:= ∃mv:List (Int×Value),YK (fun v=>v) es c mv∧(Qq k mv).getD (.pointer none)=v∧(v≠ .pointer none→Qq k mv=some v)
theorem YK.one {mv mv':List (Int×Value)} (h:YK (fun v=>v) es c mv) (h':YK (fun v=>v) es c mv'):mv=mv':=by
 have e:=(Jy.ps h).symm.trans (Jy.ps h')
 simp only[List.map_map] at e
 have hf: ∀(a b:List (Int×Value)),a.map ((fun p:Int×Value=>(Value.int .i64 p.1,p.2)) ∘ fun p=>(p.1,p.2))=b.map ((fun p:Int×Value=>(Value.int .i64 p.1,p.2)) ∘ fun p=>(p.1,p.2))→a=b:=by
  intro a
  induction a with
  | nil=>intro b h;cases b with
   | nil=>rfl
   | cons _ _=>simp at h
  | cons x a ih =>
   intro b h;cases b with
   | nil=>simp at h
   | cons y b =>
    simp only[List.map_cons,List.cons.injEq,Function.comp,Prod.mk.injEq,Value.int.injEq,true_and] at h
    rw[ih b h.2]
    congr 1
    exact Prod.ext h.1.1 h.1.2
 exact hf _ _ e
theorem Zj.look (h:Zj O μ es c m so) {k:Int} {x:α} (hx:JW k m=some x): ∃g,LkP es c k (Qae g):=by
 obtain ⟨hO,mv,s,h1,h2,h3⟩:=h;obtain ⟨v,ch,s',e1,e2,e3,e4⟩:=h3.take k hx;obtain ⟨g,rfl⟩:=hO.ptr e3;exact ⟨g,mv,h1,by rw[e1];rfl,fun _=>e1⟩
theorem Zj.look0 (h:Zj O μ es c m so) {k:Int} (hx:(Qq k m).isSome=false):LkP es c k (.pointer none):=by
 obtain ⟨hO,mv,s,h1,h2,h3⟩:=h;exact ⟨mv,h1,by rw[h3.absent k hx];rfl,fun h=>absurd rfl h⟩
theorem LkP.look {L:List Seg} {k:Int} {v:Value} (h:LkP es c k v) {g:Nat} (ho:YV μ L g (.map es c)) :
  ∃b:Bool,∃es' c',YV μ L g (.map es' c')∧JE .i64 es'.toList∧((v,b):Value×Bool)=(match JR k es'.toList with | some v=>(v,true) | none=>(.pointer none,false)):=by
 obtain ⟨mv,h1,h2,_⟩:=h;obtain ⟨es',c',k1,k2,k3⟩:=h1.look ho (z:= .pointer none) (zb:= .pointer none) rfl k;refine ⟨(Qq k mv).isSome,es',c',k1,k2,?_⟩
 rw[←h2];exact k3
theorem Zj.take (h:Zj O μ es c m so) {k:Int} {x:α} (hx:JW k m=some x) {g:Nat} (hl:LkP es c k (Qae g)) :
  ∃ch so',[ch,so'].flatten.Perm so∧O μ (Qae g) x ch∧Zj O μ es c (Q4 k none m) so':=by
 obtain ⟨hO,mv,s,h1,h2,h3⟩:=h;obtain ⟨v,ch,s',e1,e2,e3,e4⟩:=h3.take k hx;obtain ⟨mv',k1,k2,k3⟩:=hl;obtain rfl:=h1.one k1;have:v=Qae g:=by
  have:=k3 (by intro h;cases h)
  rw[e1] at this;exact Option.some.inj this
 subst this;refine ⟨ch,s',?_,e3,hO,mv,s',h1,.refl _,e4⟩
 simp only[List.flatten_cons,List.flatten_nil,List.append_nil]
 exact (h2.trans e2).symm
theorem Zj.back {k:Int} (h:Zj O μ es c (Q4 k none m) so) {g:Nat} (hl:LkP es c k (Qae g)) {x:α} {ch:Seg} (hO:O μ (Qae g) x ch):Zj O μ es c (Q4 k (some x) m) (so++ch):=by
 obtain ⟨hP,mv,s,h1,h2,h3⟩:=h;obtain ⟨mv',k1,k2,k3⟩:=hl;obtain rfl:=h1.one k1;obtain ⟨s2,e1,e2⟩:=h3.fill k hO (k3 (by intro h;cases h));exact ⟨hP,mv,s2,h1,(h2.append_right ch).trans e1,e2⟩
theorem QbD {α:Type} {k:Int} {x:α}: ∀{m:List (Int×Option α)},JW k m=some x→Q4 k (some x) m=m
 | [],h=>by cases h
 | (a,y)::m,h=>by
  by_cases ha:a=k
  ·simp only[Q4,ha,if_true]
   cases y with
   | none=>simp[JW,Qq,ha] at h
   | some y =>
    have:y=x:=by simpa [JW,Qq,ha] using h
    rw[this]
  ·simp only[Q4,ha,if_false]
   rw[QbD (by simpa [JW,Qq,ha] using h)]
theorem Zj.back0 {k:Int} (h:Zj O μ es c (Q4 k none m) so) {g:Nat} (hl:LkP es c k (Qae g)) {x:α} {ch:Seg} (hO:O μ (Qae g) x ch) (hx:JW k m=some x):Zj O μ es c m (so++ch):=by
 have:=h.back hl hO
 rwa [QbD hx] at this
variable {P:Program} {T:TT} {L:List Seg}
theorem Qed (hT:TOk P T) {t kt et:TypeId} {it ik:TyI} (ht:T t=some it) (hu:it.u= .map kt et) (hkt:T kt=some ik) (hku:ik.u= .int .i64)
  (i:Nat) {g g':Nat} {n:Int} {k:Gh→List Seg→Prop} (hi:L[i]? =some [(g,.map es c)]) (hm:Zj O μ es c m so) (hx:(Qq n m).isSome=false)
  (hk: ∀es' c',Zj O μ es' c' (Q4 n none m) so→LkP es' c' n (Qae g')→k μ (L.set i [(g,.map es' c')])):Jz P (Instr.mapUpdate t (.map (some g)) (.int .i64 n) (.pointer (some ⟨g',0,none⟩))) μ L k:=by
 obtain ⟨hO,mv,s,h1,h2,h3⟩:=hm;refine V3 hT ht hu hkt hku i 0 hi rfl h1 fun es' c' h=> ?_;have hm2:YK (fun v=>v) es' c' (Q4 n (Qae g') mv):=by
  have e:=QaT (fun v:Value=>v) n (Qae g') mv;unfold YK
  rw[←e]
  exact h
 exact hk es' c' ⟨hO,_,s,hm2,h2,h3.add n _ hx⟩ ⟨_,hm2,by rw[YP];rfl,fun _=>YP _⟩
theorem Qfa (hT:TOk P T) {t kt et ty:TypeId} {it ik:TyI} (ht:T t=some it) (hu:it.u= .map kt et) (hkt:T kt=some ik) (hku:ik.u= .int .i64)
  (i:Nat) {g:Nat} {n:Int} {k:Value→Gh→List Seg→Prop} (hi:L[i]? =some [(g,.map es c)]) (hm:Zj O μ es c (Q4 n none m) so)
  (hk: ∀es',Zj O μ es' c (ZX n m) so→k (.tuple #[]) μ (L.set i [(g,.map es' c)])):Q5 P (Builtin.delete_ #[t,kt] ty #[.map (some g),.int .i64 n]) μ L k:=by
 obtain ⟨hO,mv,s,h1,h2,h3⟩:=hm;exact Qe9 hT ht hu hkt hku i hi h1 fun es' h=>hk es' ⟨hO,_,s,h,h2,h3.del n⟩
end
end Go.Proofs.Ytfdjjdhnfaklbaa
namespace Go.Proofs.Ytfdjjdhnfaklbaa
open Go.RowKit
set_option linter.unusedSimpArgs false
set_option linter.unusedVariables false
def QcQ (m:List (Int×Bool)):Prop:=m.length≤1000000∧ ∀p∈m,wfI .i64 p.1
instance decI (k:IntKind) (n:Int):Decidable (wfI k n):=by unfold wfI;infer_instance
instance (m:List (Int×Bool)):Decidable (QcQ m):=by unfold QcQ;infer_instance
def QaK (m:List (Int×Bool)):Option (List Int):=if QcQ m then some (YW (m.map Prod.fst)) else none
end Go.Proofs.Ytfdjjdhnfaklbaa
