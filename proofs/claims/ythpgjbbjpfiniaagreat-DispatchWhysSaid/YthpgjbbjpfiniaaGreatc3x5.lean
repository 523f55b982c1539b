/- DispatchWhys: for every input the given law returns true, and its arguments read as before. No condition. -/
import Derived.Test.YthpgjbbjpfiniaaGreatc3x4
import Derived.RangeFuncIn
import Derived.RangeFuncRecord
import Derived.RangeFuncLeaves
import Derived.Shelf.Small.Bits
import Derived.Shelf.Small.Wraps
import Derived.Shelf.Strconv.Itoa0
import Derived.Shelf.Sort.Plain
import Derived.Ground.Names2Prog
import Derived.Shelf.Slices.SearchI
import Derived.Shelf.Slices.In.SortNone
import Derived.Test.YthpgjbbjpfiniaaGreatProg
namespace Go.Proofs.YthpgjbbjpfiniaaGreat
open Go.RowKit
set_option linter.unusedSimpArgs false
set_option linter.unusedVariables false
structure QfF where
 fn:FuncId
 tm:Array Value
 ps:Array Tmp
 asg:Code
 bd:Code
 D:Nat
def yr (st:LoopState) (q:QfF):Obj:= .loop { state:=st,pending:=none,fn:=q.fn,tmps:=q.tm,params:=q.ps,assign:=q.asg,body:=q.bd,defers:=q.D }
inductive QqC where
 | ok (ps:Array Tmp) (asg bd:Code)
 | bad
def rfO:Code→QqC
 | .rangeFunc _ ps asg bd=> .ok ps asg bd
 | .seq a b=>(match rfO a with | .ok ps asg bd=> .ok ps asg bd | .bad=>rfO b)
 | .block _ a=>rfO a
 | _=> .bad
def rfC:Option Code→QqC
 | some c=>rfO c
 | none=> .bad
structure YOk (n l:Nat) (q:QfF) (fr:Fr) (c:Option Code):Prop where
 frame:Agr ⟨n,[],some l⟩ fr { tmps:=q.tm,defers:=[] }
 code:rfC c= .ok q.ps q.asg q.bd
theorem YOk.sub {n l:Nat} {q:QfF} {fr F:Fr} {c:Option Code} (h:YOk n l q fr c) (hF:Qk (QcT F) fr=F):YOk n l q F c:=⟨h.frame.sub (fE hF),h.code⟩
def Rnd (P:Program) (l:Nat) (vs:List Value) (μ:Gh) (L:List Seg) (R:Value→Gh→List Seg→Prop):Prop :=
 ∀w,Inv w μ L→ ∃f tmps asg bd,(Instr.yield l vs.toArray).run P w= .ok (.round l f tmps asg bd) w ∧
  RoundIn (fw none) 0 P l f tmps asg bd w fun e w'=> ∃v μ' L',e= .returned v∧μ.le μ'∧Inv w' μ' L'∧R v μ' L'
section
variable {P:Program} {N:NN} {K:Yh} {fr:Fr} {μ:Gh} {L:List Seg} {all rest:List Oper} {o:Oper} {l:Nat} {vs:List Value} {R:Value→Gh→List Seg→Prop}
theorem Rnd.gp {L2:List Seg} (gs:List (List Nat)) (k m:Nat) (hn:nfL m (Qh2 gs k L) (fun l=> .ok [] [] l [] [])= .ok [] [] L2 [] []) (h:Rnd P l vs μ L2 R):Rnd P l vs μ L R:=by
 rw[V9] at hn
 injection hn with _ _ hn _ _
 subst hn;exact fun w hw=>h w (Qd.grp gs k L w μ hw)
theorem Qaq.yld (hN:N.rd=none) {f:Operand} {args:Array Operand} {tys:Array TypeId} (ho:o.op= .call ⟨.value f,args,tys⟩) (hf:evV fr f=some (.func (.yield l) #[] #[])) (hv:QbW fr args.toList=some vs)
  (h:Wo all fr o.guard (Rnd P l vs μ L fun v μ' L'=>Z8 N o.dst v fr fun fr'=>Qaq P N all rest K fr' μ' L') (Z8 N o.dst undef fr fun fr'=>Qaq P N all rest K fr' μ L)) :
  Qaq P N all (o::rest) K fr μ L:=by
 intro a w Q ha hw hQ;refine wpListIn_step fun K' hK'=> ?_;rcases WL ha h with ⟨hg,h⟩ | ⟨hg,h⟩
 ·rw[if_pos hg]
  obtain ⟨f',tmps,asg,bd,hy,hr⟩:=h w hw;refine ⟨fun _ _=>trivial,?_⟩;have h1:a.eval f= .func (.yield l) #[] #[]:=QV ha (k:=fun v=>v= .func (.yield l) #[] #[]) (ev_of hf rfl);have h2:args.toList.map a.eval=vs:=Qb6 ha (k:=fun us=>us=vs) (evs_of hv rfl);have h3:args.map a.eval=vs.toArray:=by rw[←Array.toList_inj];simpa using h2
  have he:(o.semAt (fw N.rd).round a.eval).run P w= .ok (.round l f' tmps asg bd) w:=by
   rw[hN]
   show (o.semAt none a.eval).run P w=_
   rw[Oper.semAt_none]
   unfold execOp
   rw[ho]
   simp only[resolve,h1,h3,Deferred.ofValue,invoke,Sem.run_bind,Sem.run_pure,Result.andThen_ok]
   simpa using hy
  rw[he,hN]
  refine ⟨fun e=>(by cases e),hr.mono ?_⟩;rintro e w' ⟨v,μ',L',rfl,hm,hi,hk⟩;obtain ⟨fr',hk,ha'⟩:=Zr ha hk;refine hK' _ _ ?_;have:=hk _ w' Q ha' hi fun fr2 μ2 L2 a2 w2 hm2=>hQ fr2 μ2 L2 a2 w2 (hm.trans hm2);exact this
 ·rw[if_neg (by rw[hg];exact Bool.false_ne_true)]
  refine ⟨fun _ _=>trivial,?_⟩;obtain ⟨fr',hk,ha'⟩:=Zr ha h;exact hK' _ _ (hk _ w Q ha' hw hQ)
end
section
variable {N:NN} {R:Yh} {fr:Fr} {μ:Gh} {L:List Seg} {s s':List MIt}
def cyO (s:List MIt) (fr:Fr):QpN:=match s with
 | .ops all (o::r)::s=>(match gdB all fr o.guard with
  | true=>(match o.op with
   | .call ⟨.value f,args,_⟩=>(match evV fr f,QbW fr args.toList with
    | some (.func (.yield l) ⟨[]⟩ ⟨[]⟩),some vs=> .ok o (.ops all r::s) l vs
    | _,_=> .bad)
   | _=> .bad)
  | false=> .bad)
 | _=> .bad
theorem ClY {o:Oper} {l:Nat} {vs:List Value} (hN:N.rd=none) (h:cyO s fr= .ok o s' l vs) (k:Rnd Tryz.prog l vs μ L fun v μ' L'=>Z8 N o.dst v fr fun f=>KS Tryz.prog N R s' f μ' L'):KS Tryz.prog N R s fr μ L:=by
 unfold cyO at h
 split at h
 ·split at h
  ·rename_i hg
   split at h
   ·rename_i hop
    split at h
    ·rename_i hf hv
     injection h with e1 e2 e3 e4
     subst e1 e2 e3 e4;exact Qaq.yld hN hop hf hv (Qch hg k)
    ·cases h
   ·cases h
  ·cases h
 ·cases h
end
section
variable {P:Program} {fr:Fr} {μ:Gh} {L:List Seg}
theorem Inv.chunk {w:World} {i g:Nat} {o:Obj} (h:Inv w μ L) (hi:Qeo L i=some [(g,o)]):w.heap[g]? =some o:=by
 have h1:=Qhi hi;refine h.own (g,o) ?_;exact List.mem_flatten.2 ⟨_,List.mem_of_getElem? h1,by simp⟩
theorem Inv.putAt {w:World} {i g:Nat} {o:Obj} (o':Obj) (h:Inv w μ L) (hi:Qeo L i=some [(g,o)]):Inv (w.putObj g o') μ (QeA L i [(g,o')]):=by
 have h1:=Qhi hi
 rw[Qf6]
 have:=h.upd (w':=w.putObj g o') (j:=0) (o':=o') h1 rfl rfl rfl rfl (World.putObj_heap_same (Jw (h.chunk hi))) (fun k hk=>World.putObj_heap_other hk);exact this
theorem Inv.delAt {w:World} {i:Nat} (h:Inv w μ L):Inv w μ (Qd4 i L):=by
 refine h.sub ?_
 induction i generalizing L with
 | zero=>cases L with
  | nil=>exact List.Sublist.refl _
  | cons s r=>simp[Qd4]
 | succ i ih=>cases L with
  | nil=>exact List.Sublist.refl _
  | cons s r=>simp only[Qd4,List.flatten_cons];exact (List.Sublist.refl _).append (ih h.drop)
theorem QiX: ∀(i:Nat) (L:List Seg) (x:Seg),Qd4 i (QeA L i x)=Qd4 i L
 | 0,[],x=>rfl
 | 0,_::_,x=>rfl
 | i+1,[],x=>rfl
 | i+1,s::r,x=>by simp only[QeA,Qd4,QiX i r x]
theorem Qkq {w:World} {i:Nat} {x:Seg} (h:Inv w μ (QeA L i x)):Inv w μ (Qd4 i L):=by
 have:=h.delAt (i:=i)
 rwa [QiX] at this
end
section
variable {fr:Fr} {μ:Gh} {L:List Seg}
def NoK:Yh:=fun _ _ _=>False
def QmZ (l:Nat) (q:QfF) (R:Value→Gh→List Seg→Prop):Yh:=fun fr μ L=> ∃i,Qeo L i=some [(l,yr .busy q)]∧Upd μ (QeA L i [(l,yr .ready q)]) (R (.bool true))
def Qo6 (n l:Nat) (q:QfF) (bd:Code) (R:Value→Gh→List Seg→Prop):Yh:=fun fr μ L=> ∃i,Qeo L i=some [(l,yr .ready q)]∧KS Tryz.prog ⟨n,[],some l⟩ NoK [.code bd,.cut (QmZ l q R)] fr μ (QeA L i [(l,yr .busy q)])
theorem Qo6.mk {n l:Nat} {q:QfF} {bd:Code} {R:Value→Gh→List Seg→Prop} {L2:List Seg} (i m:Nat) (hi:Qeo L i=some [(l,yr .ready q)]) (hn:nfL m (QeA L i [(l,yr .busy q)]) (fun l=> .ok [] [] l [] [])= .ok [] [] L2 [] [])
  (h:KS Tryz.prog ⟨n,[],some l⟩ NoK [.code bd,.cut (QmZ l q R)] fr μ L2):Qo6 n l q bd R fr μ L:=by
 rw[V9] at hn
 injection hn with _ _ hn _ _
 subst hn;exact ⟨i,hi,h⟩
theorem QmZ.mk {l:Nat} {q:QfF} {R:Value→Gh→List Seg→Prop} {L2:List Seg} (i m:Nat) (hi:Qeo L i=some [(l,yr .busy q)]) (hn:nfL m (QeA L i [(l,yr .ready q)]) (fun l=> .ok [] [] l [] [])= .ok [] [] L2 [] [])
  (h:Upd μ L2 (R (.bool true))):QmZ l q R fr μ L:=by
 rw[V9] at hn
 injection hn with _ _ hn _ _
 subst hn;exact ⟨i,hi,h⟩
theorem Rnd.ok {n l p:Nat} {q:QfF} {c:Option Code} {asg bd:Code} {v:Value} {R:Value→Gh→List Seg→Prop} (hq:YOk n l q fr c) (hc:rfC c= .ok #[p] asg bd) (hp:Nat.blt p n=true)
  (k:KS Tryz.prog ⟨n,[],some l⟩ NoK [.code asg,.cut (Qo6 n l q bd R)] ((p,v)::fr) μ L) (i:Nat) (hi:Qeo L i=some [(l,yr .ready q)]):Rnd Tryz.prog l [v] μ L R:=by
 intro w hw;have e0:=hq.code
 rw[hc] at e0
 injection e0 with e1 e2 e3
 subst e2 e3;refine ⟨q.fn,_,q.asg,q.bd,run_yield (hw.chunk hi) (by show 1=q.ps.size;rw[←e1];rfl),?_⟩;refine roundIn_of_wpIn (F:=fw none) (l:=l) trivial ?_;have ha:Agr ⟨n,[],some l⟩ ((p,v)::fr) { tmps:=(q.ps.zip [v].toArray).foldl (fun tmps (t,a)=>tmps.setIfInBounds t a) q.tm,defers:=[] }:=by
  have:=hq.frame.put (d:=p) (by simpa using hp) v
  rw[←e1]
  simpa [Act.put] using this
 have hA:=k _ w ha hw
 show q.asg.wpIn (fw (some l)) 0 Tryz.prog _ _ w
 refine Code.wpIn_mono (fun e a1 w1 hl=> ?_) hA;cases e with
 | normal =>
  obtain ⟨fr1,μ1,L1,a2,m2,i2,j,hj,k2⟩:=hl;refine ⟨_,run_beginRound (i2.chunk hj) rfl,?_⟩;have i3:=i2.putAt (yr .busy q) hj;have hB:=k2 a1 _ a2 i3;refine Code.wpIn_mono (fun e a3 w3 hl=> ?_) hB;cases e with
  | normal =>
   obtain ⟨fr3,μ3,L3,a4,m4,i4,j3,hj3,k4⟩:=hl;obtain ⟨μ5,L5,m5,i5,k5⟩:=k4 _ (i4.putAt (yr .ready q) hj3);exact ⟨_,_,run_endRound none (i4.chunk hj3),_,μ5,L5,rfl,(m2.trans m4).trans m5,i5,k5⟩
  | ret =>
   obtain ⟨fr3,μ3,L3,a4,m4,i4,k4⟩:=hl;obtain ⟨_,_,_,_,_,_,h⟩:=k4 a3 w3 a4 i4;exact h.elim
  | exit j =>
   obtain ⟨fr3,μ3,L3,a4,m4,i4,k4⟩:=hl;exact k4.elim
  | _=>exact hl.elim
 | ret =>
  obtain ⟨fr3,μ3,L3,a4,m4,i4,k4⟩:=hl;obtain ⟨_,_,_,_,_,_,h⟩:=k4 a1 w1 a4 i4;exact h.elim
 | exit j =>
  obtain ⟨fr3,μ3,L3,a4,m4,i4,k4⟩:=hl;exact k4.elim
 | _=>exact hl.elim
abbrev mkD (D:Nat):Deferred:={ target:= .collected D,args:= #[] }
def RKm (D:Nat) (rs:List ResultVar) (Rv:Value→Gh→List Seg→Prop):Yh:=fun fr μ L=> ∃i,Qeo L i=some [(D,.deferred (some []))]∧Qbc Tt rs fr μ (Qd4 i L) fun vs=>Upd μ (Qd4 i L) (Rv (Qfs vs))
def QmY (μ0:Gh) (Rv:Value→Gh→List Seg→Prop):Ending→World→Prop:=fun e w'=> ∃v μ' L',e= .returned v∧μ0.le μ'∧Inv w' μ' L'∧Rv v μ' L'
def Qju (fn:Func) (μ0:Gh) (Rv:Value→Gh→List Seg→Prop):Exit→Act→World→Prop:=bodyPostM (fw none) 0 Tryz.prog fn (QmY μ0 Rv)
def RST (fn:Func) (n:Nat) (μ0:Gh) (Rv:Value→Gh→List Seg→Prop) (b:Code) (post:Code):Yh:=fun fr μ L=> ∀a w,μ0.le μ→Agr ⟨n,[],none⟩ fr a→Inv w μ L →
 b.wpIn (fw none) 0 Tryz.prog (Exit.then (fun a w=>post.wpIn (fw none) 0 Tryz.prog (Qju fn μ0 Rv) a w) (Qju fn μ0 Rv)) a w
theorem Qij {fn:Func} {a:Act} {N:NN} {w:World} {μ0:Gh} {Rv:Value→Gh→List Seg→Prop} (h1:Agr N fr a) (hm:μ0.le μ) (h3:Inv w μ L) (h4:Qbc Tt fn.results.toList fr μ L fun vs=>Upd μ L (Rv (Qfs vs))) :
  ∃v,(results fn a.tmps).run Tryz.prog w= .ok v w∧QmY μ0 Rv (.returned v) w:=by
 obtain ⟨vs,h5,h6⟩:=QdJ (P:=Tryz.prog) QU h1 h3.holds fn.results.toList h4;obtain ⟨μ3,L3,k1,k2,k3⟩:=h5 w h3;refine ⟨Qfs vs,?_,Qfs vs,μ3,L3,rfl,hm.trans k1,k2,k3⟩;have h7:(fn.results.mapM (Qfr a.tmps)).run Tryz.prog w= .ok vs.toArray w:=by
  rw[Array.mapM_eq_mapM_toList,Sem.run_map,h6];rfl
 have h8:results fn a.tmps=(do
   let vs ←fn.results.mapM (Qfr a.tmps)
   pure (if h:vs.size=1 then vs[0] else .tuple vs)):=rfl
 rw[h8,Sem.run_bind,h7]
 simp only[Result.andThen_ok,Sem.run_pure]
 congr 1
 match vs with
 | []=>rfl
 | [v]=>rfl
 | v::u::r=>simp[Qfs]
theorem Qrf {fn:Func} {a:Act} {n:Nat} {w:World} {μ0:Gh} {Rv:Value→Gh→List Seg→Prop} (h1:Agr ⟨n,[],none⟩ fr a) (hm:μ0.le μ) (h3:Inv w μ L) (h4:KEn ⟨n,[],none⟩ (RK fn.results.toList Rv) fr μ L) :
  LeavesInM (fw none) 0 Tryz.prog fn a.tmps (QmY μ0 Rv) a.defers .returning w:=by
 obtain ⟨f2,μ2,L2,h5,h6,h7,h8⟩:=h4 a w h1 h3
 rw[h1.defers]
 exact Qij h5 (hm.trans h6) h7 h8
theorem Qq2 {fn:Func} {a:Act} {n D:Nat} {w:World} {μ0:Gh} {Rv:Value→Gh→List Seg→Prop} (h1:Agr ⟨n,[mkD D],none⟩ fr a) (hm:μ0.le μ) (h3:Inv w μ L) (h4:KEn ⟨n,[mkD D],none⟩ (RKm D fn.results.toList Rv) fr μ L) :
  LeavesInM (fw none) 0 Tryz.prog fn a.tmps (QmY μ0 Rv) a.defers .returning w:=by
 obtain ⟨f2,μ2,L2,h5,h6,h7,i,hi,h8⟩:=h4 a w h1 h3
 rw[h1.defers]
 have h9:Inv (w.putObj D (.deferred none)) μ2 (Qd4 i L2):=by
  exact Qkq (h7.putAt (.deferred none) hi)
 exact ⟨by simp,.inl ⟨D,_,rfl,run_takeDeferred (h7.chunk hi),Qij h5 (hm.trans h6) h9 h8⟩⟩
theorem RtM {N:NN} {rs:List ResultVar} {Rv:Value→Gh→List Seg→Prop} {s:List MIt} {v:Value} {e:List Value} {D:Nat} {L2:List Seg} (i m:Nat) (hs:List Nat) (hi:Qeo L i=some [(D,.deferred (some []))]) (hn:nfL m (Qd4 i L) (fun l=> .ok [] [] l [] [])= .ok [] [] L2 [] [])
  (hb:QoH s=true) (h:QlX Tt L2 fr rs hs [] [] Qpb= .ok [] [(0,v)] [] e e) (k:Upd μ L2 (Rv v)):KS Tryz.prog N (RKm D rs Rv) s fr μ L:=by
 rw[V9] at hn
 injection hn with _ _ hn _ _
 subst hn;refine KS.ret ⟨i,hi,?_⟩ s hb;obtain ⟨vs,a',b',h1,h2,h3⟩:=QeP (μ:=μ) (e:=e) h (by simp);unfold Qpb at h2
 split at h2
 ·injection h2 with _ h2 _ h4 h5
  injection h2 with h2 _
  injection h2 with _ h2
  subst h2 h4;exact h3 _ h5.symm k
 ·rename_i hn
  injection h2 with _ h2 _ h4 h5
  injection h2 with h2 _
  injection h2 with _ h2
  subst h2 h4;refine h3 _ h5.symm ?_;have:Qfs vs= .tuple vs.toArray:=by
   match vs,hn with
   | [],_=>rfl
   | [v],hn=>exact absurd rfl (hn v)
   | _::_::_,_=>rfl
  rw[this];exact k
def RgE (l:Nat) (q:QfF) (X:Gh→List Seg→Prop):Value→Gh→List Seg→Prop:=fun _ μ L=> ∃i,Qeo L i=some [(l,yr .ready q)]∧X μ (Qd4 i L)
theorem RgE.mk {l:Nat} {q:QfF} {X:Gh→List Seg→Prop} {v:Value} {L2:List Seg} (i m:Nat) (hi:Qeo L i=some [(l,yr .ready q)]) (hn:nfL m (Qd4 i L) (fun l=> .ok [] [] l [] [])= .ok [] [] L2 [] []) (h:X μ L2):RgE l q X v μ L:=by
 rw[V9] at hn
 injection hn with _ _ hn _ _
 subst hn;exact ⟨i,hi,h⟩
theorem Rg {fn:Func} {n bi gf:Nat} {ca:List Value} {μ0:Gh} {Rv:Value→Gh→List Seg→Prop} {g:Operand} {ps:Array Tmp} {asg bd post:Code} {c:Option Code} {N0:NN} {R0:Yh} (F0:Fr) (hg:evV fr g=some (.func (.func gf) #[] ⟨ca⟩)) (hF:Qk (QcT F0) fr=F0) (hc:rfC c= .ok ps asg bd) {fg:Func} (hfg:Tryz.prog.funcs[gf]? =some fg) (hbg:fg.body.isNone=false)
  (h: ∀(l:Nat) (q:QfF),YOk n l q F0 c→Fn Tryz.prog gf (.func (.yield l) #[] #[]::ca) μ ([(l,yr .ready q)]::[(q.D,.deferred (some []))]::L)
   (RgE l q fun μ' L'=>KS Tryz.prog ⟨n,[mkD q.D],none⟩ (RKm q.D fn.results.toList Rv) [.code post] fr μ' L')) :
  KS Tryz.prog N0 R0 [.cut (RST fn n μ0 Rv (.block bi (.rangeFunc g ps asg bd)) post)] fr μ L:=by
 intro a w hm0 ha hw;refine wpIn_block (wpIn_rangeFunc ?_);intro fn' _
 let q:QfF:={ fn:=fn',tm:=a.tmps,ps:=ps,asg:=asg,bd:=bd,D:=w.heap.size }
 have h1:a.eval g= .func (.func gf) #[] ⟨ca⟩:=QV ha (k:=fun v=>v= .func (.func gf) #[] ⟨ca⟩) (ev_of hg rfl);have hYk:YOk n (w.heap.size+1) q F0 c:=⟨(show Agr ⟨n,[],some (w.heap.size+1)⟩ fr { tmps:=a.tmps,defers:=[] } from ⟨rfl,ha.size,ha.get⟩).sub (fE hF),hc⟩
 have hF:=h (w.heap.size+1) q hYk;have i1:Inv ((w.alloc (.deferred (some []))).alloc (yr .ready q)) μ ([(w.heap.size+1,yr .ready q)]::[(q.D,.deferred (some []))]::L):=by
  have:=(hw.alloc (.deferred (some []))).alloc (yr .ready q)
  rwa [World.size_alloc] at this
 refine ⟨w.heap.size+1,[mkD w.heap.size],(w.alloc (.deferred (some []))).alloc (yr .ready q),{ target:= .fn (.func gf) ⟨ca⟩,args:= #[.func (.yield (w.heap.size+1)) #[] #[]] },(w.alloc (.deferred (some []))).alloc (yr .ready q),gf, #[.func (.yield (w.heap.size+1)) #[] #[]]++⟨ca⟩,(w.alloc (.deferred (some []))).alloc (yr .ready q),run_enterLoop_outer _ _ _ _ _,?_,fun _ _=>trivial,?_,fun e=>(by cases e),?_⟩
 ·simp only[resolve,h1]
  simp[go_sem]
 ·rcases hF with ⟨⟨fn2,hfn,hnm,hbd⟩,_⟩ | ⟨fn2,ex,hfn,hnm,hbd,hx1,hx2,hc2⟩
  ·simp only[invoke,callFunc,program,Sem.run_bind,Sem.run,Sem.run_pure,Result.andThen_ok,hfn,hnm,hbd,Bool.false_eq_true,if_false]
  ·rw[hfg] at hfn;cases hfn;rw[hbg] at hbd;cases hbd
 ·rcases hF with ⟨⟨fn2,hfn,hnm,hbd⟩,hcall⟩ | ⟨fn2,ex,hfn,hnm,hbd,hx1,hx2,hc2⟩
  ·have h2:=hcall _ i1;have h3:=(callsIn_wide (n:=0)).2 h2;have e5:(Value.func (.yield (w.heap.size+1)) #[] #[]::ca).toArray= #[.func (.yield (w.heap.size+1)) #[] #[]]++⟨ca⟩:=by rw[←Array.toList_inj];simp
   rw[←e5]
   refine CallsIn.mono (F:=fw none) (n:=0) h3 ?_;rintro e w3 ⟨v,μ',L',rfl,hm,hi,i,hi2,hk⟩;refine ⟨none,_,run_endLoop (hi.chunk hi2) (by simp[yr]),?_⟩
   show Exit.inBlock bi _ .normal _ _
   have i4:Inv (w3.putObj (w.heap.size+1) (.loop { state:= .exhausted,pending:=none,fn:=q.fn,tmps:=q.tm,params:=q.ps,assign:=q.asg,body:=q.bd,defers:=q.D })) μ' (Qd4 i L'):=Qkq (hi.putAt _ hi2);have ha2:Agr ⟨n,[mkD q.D],none⟩ fr { a with defers:=[mkD w.heap.size]++a.defers }:=⟨by rw[ha.defers];rfl,ha.size,ha.get⟩
   refine Code.wpIn_mono (fun e a1 w1 hl=> ?_) (hk _ _ ha2 i4);cases e with
   | normal=>obtain ⟨f1,μ1,L1,k1,k2,k3,k4⟩:=hl;exact Qq2 k1 ((hm0.trans hm).trans k2) k3 k4
   | ret=>obtain ⟨f1,μ1,L1,k1,k2,k3,k4⟩:=hl;exact Qq2 k1 ((hm0.trans hm).trans k2) k3 k4
   | exit i=>obtain ⟨f1,μ1,L1,k1,k2,k3,k4⟩:=hl;exact k4.elim
   | _=>exact hl.elim
  ·rw[hfg] at hfn;cases hfn;rw[hbg] at hbd;cases hbd
theorem QkW {fn:Func} {n:Nat} {μ0:Gh} {Rv:Value→Gh→List Seg→Prop} {c d:Code} {s:List MIt} {Q:Exit→Act→World→Prop} (hB:BS Tryz.prog ⟨n,[],none⟩ (RK fn.results.toList Rv) s=fun _ _ _ _=>False) (hQ: ∀a w,LeavesInM (fw none) 0 Tryz.prog fn a.tmps (QmY μ0 Rv) a.defers .returning w→Q .ret a w)
  (hd: ∀fr μ L a w,μ0.le μ→KS Tryz.prog ⟨n,[],none⟩ (RK fn.results.toList Rv) s fr μ L→Agr ⟨n,[],none⟩ fr a→Inv w μ L→d.wpIn (fw none) 0 Tryz.prog Q a w)
  {fr:Fr} {μ:Gh} {L:List Seg} {a:Act} {w:World} (hm:μ0.le μ) (h:KS Tryz.prog ⟨n,[],none⟩ (RK fn.results.toList Rv) (.code c::s) fr μ L) (ha:Agr ⟨n,[],none⟩ fr a) (hw:Inv w μ L):(Code.seq c d).wpIn (fw none) 0 Tryz.prog Q a w:=by
 have h1:=h a w ha hw;refine wpIn_seq (Code.wpIn_mono (fun e a1 w1 hl=> ?_) h1);cases e with
 | normal=>obtain ⟨f1,μ1,L1,k1,k2,k3,k4⟩:=hl;exact hd f1 μ1 L1 a1 w1 (hm.trans k2) k4 k1 k3
 | ret=>obtain ⟨f1,μ1,L1,k1,k2,k3,k4⟩:=hl;exact hQ a1 w1 (Qrf k1 (hm.trans k2) k3 k4)
 | exit i =>
  obtain ⟨f1,μ1,L1,k1,k2,k3,k4⟩:=hl;have k4:BS Tryz.prog ⟨n,[],none⟩ (RK fn.results.toList Rv) s i f1 μ1 L1:=k4
  rw[hB] at k4
  exact k4.elim
 | _=>exact hl.elim
theorem Qra {f:FuncId} {fn:Func} {c0 c1 c2 c3 c4 b post:Code} {args:List Value} {n:Nat} {Rv:Value→Gh→List Seg→Prop} (hf:Tryz.prog.funcs[f]? =some fn) (hnm:(fn.name== "runtime.NumGoroutine")=false)
  (hb:fn.body=some (.seq c0 (.seq c1 (.seq c2 (.seq c3 (.seq (.seq c4 b) post)))))) (hn:fn.ntmps=n) (hl:Nat.ble args.length n=true)
  (ha:Qki ixs args (fun F=> .ok [] F [] [] [])= .ok [] fr [] [] []) (k:KS Tryz.prog ⟨n,[],none⟩ (RK fn.results.toList Rv) [.code c0,.code c1,.code c2,.code c3,.code c4,.cut (RST fn n μ Rv b post)] fr μ L):Fn Tryz.prog f args μ L Rv:=by
 have e1:=Qgh (by simp) 16 0 args _ (show Qki (List.range' 0 16) args _=_ from ha);injection e1 with _ e1 _ _ _
 subst e1;refine .inl ⟨⟨fn,hf,hnm,by rw[hb];rfl⟩,fun w hw=> ?_⟩;refine (callsIn_wide (n:=0)).1 (callsIn_of_wp_marks (F:=Fence.wide) hf hb trivial ?_);have hl:=Nat.le_of_ble_eq_true hl;have ha:Agr ⟨n,[],none⟩ (Qmm args) { tmps:=args.toArray++Array.replicate (fn.ntmps-args.toArray.size) undef,defers:=[] }:=by
  refine ⟨rfl,by simp[hn];omega,fun t v hv=> ?_⟩;obtain ⟨_,h2⟩:=QkH args 0 t v hv;have hlt:t<args.length:=by
   rcases Nat.lt_or_ge t args.length with h | h
   ·exact h
   ·rw[List.getElem?_eq_none (by simpa using h)] at h2;cases h2
  have h2':args[t]? =some v:=h2;have hg:args[t]=v:=by rw[List.getElem?_eq_getElem hlt] at h2';injection h2'
  simp[Array.getElem?_append,hlt,hg]
 have hQ: ∀(d:Code) a w,LeavesInM (fw none) 0 Tryz.prog fn a.tmps (QmY μ Rv) a.defers .returning w→Qju fn μ Rv .ret a w:=fun _ _ _ h=>h;refine QkW (Q:=Qju fn μ Rv) rfl (hQ c0) ?_ (Gh.le.refl _) k ha hw;refine fun fr μ1 L a w hm k ha hw=>QkW (Q:=Qju fn μ Rv) rfl (hQ c0) ?_ hm k ha hw;refine fun fr μ1 L a w hm k ha hw=>QkW (Q:=Qju fn μ Rv) rfl (hQ c0) ?_ hm k ha hw;refine fun fr μ1 L a w hm k ha hw=>QkW (Q:=Qju fn μ Rv) rfl (hQ c0) ?_ hm k ha hw;refine fun fr μ1 L a w hm k ha hw=>wpIn_seq (QkW (Q:=Exit.then (post.wpIn (fw none) 0 Tryz.prog (Qju fn μ Rv)) (Qju fn μ Rv)) rfl (hQ c0) ?_ hm k ha hw);exact fun fr μ1 L a w hm k ha hw=>k a w hm ha hw
end
end Go.Proofs.YthpgjbbjpfiniaaGreat
namespace Go.Proofs
open Go.Shelf
def Tryz.lays215_ren:Go.Shelf.Ren:=⟨fun | 215=>95 | n=>n,fun | 3=>3 | 4=>4 | n=>n,fun | n=>n⟩
theorem Tryz.lays215:Go.Proofs.Lays.n215 Tryz.prog Tryz.lays215_ren:={
 mixed:=by kernel_rfl
 f215:=Tryz.func95.trans (congrArg some (by kernel_rfl))
 t3:=Tryz.underlying3
 a3:=Tryz.isAgg3
 z3:=Tryz.sizeOf3
 v3:=Tryz.zeroValue3
 t4:=Tryz.underlying4
 a4:=Tryz.isAgg4
 z4:=Tryz.sizeOf4
 v4:=Tryz.zeroValue4 }
open Go.RowKit in
theorem Tryz.cmp_isNaN_int (x:Int) (w:World) :
  Calls Tryz.prog 95 #[.int .i64 x] w fun e w'=>e= .returned (.bool false)∧w'=w:=Any.cmp_isNaN_int Tryz.lays215 x w
def Tryz.lays122_ren:Go.Shelf.Ren:=⟨fun | 122=>62 | 215=>95 | n=>n,fun | 3=>3 | 4=>4 | n=>n,fun | n=>n⟩
theorem Tryz.lays122:Go.Proofs.Lays.n122 Tryz.prog Tryz.lays122_ren:={
 mixed:=by kernel_rfl
 f122:=Tryz.func62.trans (congrArg some (by kernel_rfl))
 f215:=Tryz.func95.trans (congrArg some (by kernel_rfl))
 t3:=Tryz.underlying3
 a3:=Tryz.isAgg3
 z3:=Tryz.sizeOf3
 v3:=Tryz.zeroValue3
 t4:=Tryz.underlying4
 a4:=Tryz.isAgg4
 z4:=Tryz.sizeOf4
 v4:=Tryz.zeroValue4 }
open Go.RowKit in
theorem Tryz.cmp_Compare_int (x y:Int) (w:World) :
  Calls Tryz.prog 62 #[.int .i64 x,.int .i64 y] w fun e w'=>e= .returned (.int .i64 (Lib.compareInt x y))∧w'=w:=Any.cmp_Compare_int Tryz.lays122 x y w
def Tryz.lays189_ren:Go.Shelf.Ren:=⟨fun | 189=>94 | 125=>119 | 257=>118 | 128=>138 | 129=>139 | 294=>129 | 295=>130 | 296=>131 | 297=>132 | 298=>133 | 299=>134 | 216=>135 | 300=>136 | 301=>137 | 328=>145 | 329=>146 | 330=>147 | 331=>148 | 332=>149 | 215=>95 | 343=>158 | n=>n,fun | 28=>31 | 3=>3 | 46=>146 | 0=>0 | 51=>185 | 53=>187 | 4=>4 | 183=>177 | 182=>176 | 131=>182 | 5=>5 | 9=>9 | 218=>190 | 222=>194 | 228=>207 | 229=>205 | n=>n,fun | n=>n⟩
theorem Tryz.lays189:Go.Proofs.Lays.n189 Tryz.prog Tryz.lays189_ren:={
 mixed:=by kernel_rfl
 f125:=Tryz.func119.trans (congrArg some (by kernel_rfl))
 f128:=Tryz.func138.trans (congrArg some (by kernel_rfl))
 f129:=Tryz.func139.trans (congrArg some (by kernel_rfl))
 f189:=Tryz.func94.trans (congrArg some (by kernel_rfl))
 f215:=Tryz.func95.trans (congrArg some (by kernel_rfl))
 f216:=Tryz.func135.trans (congrArg some (by kernel_rfl))
 f257:=Tryz.func118.trans (congrArg some (by kernel_rfl))
 f294:=Tryz.func129.trans (congrArg some (by kernel_rfl))
 f295:=Tryz.func130.trans (congrArg some (by kernel_rfl))
 f296:=Tryz.func131.trans (congrArg some (by kernel_rfl))
 f297:=Tryz.func132.trans (congrArg some (by kernel_rfl))
 f298:=Tryz.func133.trans (congrArg some (by kernel_rfl))
 f299:=Tryz.func134.trans (congrArg some (by kernel_rfl))
 f300:=Tryz.func136.trans (congrArg some (by kernel_rfl))
 f301:=Tryz.func137.trans (congrArg some (by kernel_rfl))
 f328:=Tryz.func145.trans (congrArg some (by kernel_rfl))
 f329:=Tryz.func146.trans (congrArg some (by kernel_rfl))
 f330:=Tryz.func147.trans (congrArg some (by kernel_rfl))
 f331:=Tryz.func148.trans (congrArg some (by kernel_rfl))
 f332:=Tryz.func149.trans (congrArg some (by kernel_rfl))
 f343:=Tryz.func158.trans (congrArg some (by kernel_rfl))
 t0:=Tryz.underlying0
 a0:=Tryz.isAgg0
 z0:=Tryz.sizeOf0
 v0:=Tryz.zeroValue0
 t3:=Tryz.underlying3
 a3:=Tryz.isAgg3
 z3:=Tryz.sizeOf3
 v3:=Tryz.zeroValue3
 t4:=Tryz.underlying4
 a4:=Tryz.isAgg4
 z4:=Tryz.sizeOf4
 v4:=Tryz.zeroValue4
 t5:=Tryz.underlying5
 a5:=Tryz.isAgg5
 z5:=Tryz.sizeOf5
 v5:=Tryz.zeroValue5
 t9:=Tryz.underlying9
 a9:=Tryz.isAgg9
 z9:=Tryz.sizeOf9
 v9:=Tryz.zeroValue9
 t28:=Tryz.underlying31
 a28:=Tryz.isAgg31
 z28:=Tryz.sizeOf31
 v28:=Tryz.zeroValue31
 t46:=Tryz.underlying146
 a46:=Tryz.isAgg146
 z46:=Tryz.sizeOf146
 v46:=Tryz.zeroValue146
 t51:=Tryz.underlying185
 a51:=Tryz.isAgg185
 z51:=Tryz.sizeOf185
 v51:=Tryz.zeroValue185
 t53:=Tryz.underlying187
 a53:=Tryz.isAgg187
 z53:=Tryz.sizeOf187
 v53:=Tryz.zeroValue187
 t131:=Tryz.underlying182
 a131:=Tryz.isAgg182
 z131:=Tryz.sizeOf182
 v131:=Tryz.zeroValue182
 t182:=Tryz.underlying176
 a182:=Tryz.isAgg176
 z182:=Tryz.sizeOf176
 v182:=Tryz.zeroValue176
 t183:=Tryz.underlying177
 a183:=Tryz.isAgg177
 z183:=Tryz.sizeOf177
 v183:=Tryz.zeroValue177
 t218:=Tryz.underlying190
 a218:=Tryz.isAgg190
 z218:=Tryz.sizeOf190
 v218:=Tryz.zeroValue190
 t222:=Tryz.underlying194
 a222:=Tryz.isAgg194
 z222:=Tryz.sizeOf194
 v222:=Tryz.zeroValue194
 t228:=Tryz.underlying207
 a228:=Tryz.isAgg207
 z228:=Tryz.sizeOf207
 v228:=Tryz.zeroValue207
 t229:=Tryz.underlying205
 a229:=Tryz.isAgg205
 z229:=Tryz.sizeOf205
 v229:=Tryz.zeroValue205 }
open Go.Sort Go.RowKit in
theorem Tryz.slices_Sort_int (blk off cap:Nat) (zs:List Int) (w:World) (hH:Holds (Value.int .i64) w blk off zs.toArray) (hblk:blk<w.heap.size) (hsz:zs.length<4611686018427387904) :
  Calls Tryz.prog 94 #[.slice (some ⟨blk,off,none⟩) zs.length cap] w fun e w' =>
   e= .returned (.tuple #[])∧ ∃n os,w'=grow (putRow (Value.int .i64) (Sort.ahead w n) blk off (zs.mergeSort fun x y=>decide (x≤y)).toArray) os:=Any.slices_Sort_int Tryz.lays189 blk off cap zs w hH hblk hsz
open Go.RowKit Go.Sort in
theorem Tryz.slices_Sort_int_none (p:Option Addr) (cap:Nat) (w:World) :
  Calls Tryz.prog 94 #[.slice p 0 cap] w fun e w'=>e= .returned (.tuple #[])∧w'=w:=Any.slices_Sort_int_none Tryz.lays189 p cap w
end Go.Proofs
