/- LedgerCopies: for every input the given law returns true, and its arguments read as before. No condition. -/
import Derived.Test.Ytpghcnpheabbgaac8x2
import Derived.Defers
import Derived.Shelf.Small.Bits
import Derived.Shelf.Small.Wraps
import Derived.Shelf.Strconv.Itoa0
import Derived.Shelf.Sort.Plain
import Derived.Ground.Names2Prog
import Derived.Shelf.Slices.SearchI
import Derived.Shelf.Slices.In.SortNone
import Derived.Test.YtpghcnpheabbgaaProg
import Derived.Shelf.SlGeneric
import Derived.Shelf.SlIterI.Sorted
import Derived.Ground.GgzProg
import Derived.Test.Ytpghcnpheabbgaac8x1
import Derived.Test.Ytpghcnpheabbgaac8x0
import Derived.Shelf.SlMaps.Clone
import Derived.Ground.SlmcProg
namespace Go.Proofs.Ytpghcnpheabbgaa
open Go.RowKit
set_option linter.unusedSimpArgs false
set_option linter.unusedVariables false
def ixs:List Nat:=[0,1,2,3,4,5,6,7,8,9,10,11,12,13,14,15]
def Wn:List Nat→List Value→(Fr→Out)→Out
 | _,[],k=>k []
 | [],_::_,_=> .bad
 | i::is,v::r,k=>Wn is r fun f=>k ((i,v)::f)
def nfF:Fr→(Fr→Out)→Out
 | [],k=>k []
 | (t,v)::r,k=>nfF r fun f=>k ((t,v)::f)
def nfL:Nat→List Seg→(List Seg→Out)→Out
 | 0,L,k=>k L
 | _+1,[],k=>k []
 | n+1,s::r,k=>nfL n r fun l=>k (s::l)
def QbJ (vs:List Value) (a b:List Value):Out:=match vs with
 | [v]=> .ok [] [(0,v)] [] a b
 | vs=> .ok [] [(0,.tuple ⟨vs⟩)] [] a b
def V1 (T:TT) (L:List Seg) (fr:Fr):List ResultVar→List Nat→List Value→List Value→(List Value→List Value→List Value→Out)→Out
 | [],_,a,b,k=>k [] a b
 | .tmp t::r,hs,a,b,k=>(match Yh fr t with | some v=>V1 T L fr r hs a b fun vs a b=>k (v::vs) a b | none=> .bad)
 | .cell p t::r,hs,a,b,k=>(match Yh fr p,hs with | some v,h::hs=>Qai T [] L t v h a b fun u a b=>V1 T L fr r hs a b fun vs a b=>k (u::vs) a b | _,_=> .bad)
theorem ZV {o:Out} (ho:o≠ .bad): ∀(m i:Nat) (args:List Value) (k:Fr→Out),Wn (List.range' i m) args k=o→k ((args.zipIdx i).map fun p=>(p.2,p.1))=o
 | _,i,[],k,h=>by cases ‹Nat› <;>simpa [Wn] using h
 | 0,i,v::r,k,h=>absurd h.symm ho
 | m+1,i,v::r,k,h=>by
  have:=ZV ho m (i+1) r _ (by simpa [List.range'_succ,Wn] using h)
  simpa using this
theorem Jr: ∀(F:Fr) (k:Fr→Out),nfF F k=k F
 | [],k=>rfl
 | (t,v)::r,k=>Jr r _
theorem YJ: ∀(n:Nat) (L:List Seg) (k:List Seg→Out),nfL n L k=k L
 | 0,L,k=>by cases L<;>rfl
 | n+1,[],k=>rfl
 | n+1,s::r,k=>YJ n r _
section
variable {o:Out} {T:TT} {fr:Fr} {μ:Gh} {L:List Seg}
theorem ZY: ∀{rs:List ResultVar} {hs:List Nat} {a b:List Value} {k:List Value→List Value→List Value→Out} {e:List Value},V1 T L fr rs hs a b k=o→o≠ .bad →
  ∃vs a' b',(a'=b'→a=b)∧k vs a' b'=o∧ ∀kk:List Value→Prop,a'=b'→kk vs→YT T rs fr μ L kk
 | [],hs,a,b,k,e,h,ho=>⟨[],a,b,id,h,fun kk _ hk=>hk⟩
 | .tmp t::r,hs,a,b,k,e,h,ho=>by
  unfold V1 at h
  split at h
  ·rename_i v hv
   obtain ⟨vs,a',b',h1,h2,h3⟩:=ZY (e:=e) h ho;exact ⟨v::vs,a',b',h1,h2,fun kk e hk=>Qad hv (h3 _ e hk)⟩
  ·exact absurd h.symm ho
 | .cell p t::r,hs,a,b,k,e,h,ho=>by
  unfold V1 at h
  split at h
  ·rename_i v h0 hs hv
   have hx:evV fr (.tmp p)=some v:=hv;obtain ⟨u,a',b',h1,h2,h3⟩:=Wb (P:=default) (μ:=μ) (fr:=fr) (x:= .tmp p) h ho hx (fun p hp=>by cases hp);obtain ⟨vs,a2,b2,h4,h5,h6⟩:=ZY (e:=e) h2 ho;refine ⟨u::vs,a2,b2,fun e=>h1 (h4 e),h5,fun kk e hk=> ?_⟩;have h7:ev fr (.tmp p) fun v=>ZJ T μ L t v fun u=>YT T r fr μ L fun vs=>kk (u::vs):=h3 (fun u=>YT T r fr μ L fun vs=>kk (u::vs)) (h4 e) (h6 _ e hk);exact h7
  ·exact absurd h.symm ho
end
section
variable {N:NN} {R:Ql} {fr:Fr} {μ:Gh} {L:List Seg} {s s':List MIt} {fr':Fr} {L':List Seg} {e:List Value} {dst:Option Tmp} {v:Value}
def RK (rs:List ResultVar) (Rv:Value→Gh→List Seg→Prop):Ql:=fun fr μ L=>YT Tt rs fr μ L fun vs=>Upd μ L (Rv (Jv vs))
theorem FnS {f:FuncId} {fn:Func} {c:Code} {args:List Value} {n:Nat} {Rv:Value→Gh→List Seg→Prop} (hf:Try.prog.funcs[f]? =some fn) (hnm:(fn.name== "runtime.NumGoroutine")=false) (hb:fn.body=some c) (hn:fn.ntmps=n) (hl:Nat.ble args.length n=true)
  (ha:Wn ixs args (fun F=> .ok [] F [] [] [])= .ok [] fr [] [] []) (k:KS Try.prog ⟨n,[],none⟩ (RK fn.results.toList Rv) [.code c] fr μ L):Fn Try.prog f args μ L Rv:=by
 have e1:=ZV (by simp) 16 0 args _ (show Wn (List.range' 0 16) args _=_ from ha);injection e1 with _ e1 _ _ _
 subst e1;refine Fn.of_body Ym hf hnm hb hn (Nat.le_of_ble_eq_true hl) ?_;intro a w ha hw;refine Code.wpIn_mono (fun e a' w' hl=> ?_) (k a w ha hw);cases e with
 | normal =>
  obtain ⟨f1,μ1,L1,h1,h2,h3,h4⟩:=hl;obtain ⟨f2,μ2,L2,h5,h6,h7,h8⟩:=h4 a' w' h1 h3;exact ⟨f2,μ2,L2,h5,h2.trans h6,h7,h8⟩
 | ret =>
  obtain ⟨f1,μ1,L1,h1,h2,h3,h4⟩:=hl;obtain ⟨f2,μ2,L2,h5,h6,h7,h8⟩:=h4 a' w' h1 h3;exact ⟨f2,μ2,L2,h5,h2.trans h6,h7,h8⟩
 | _=>exact hl
variable {rs:List ResultVar} {Rv:Value→Gh→List Seg→Prop}
def Qbr:List MIt→Bool
 | []=>true
 | .code .ret::_=>true
 | .blk _::s=>Qbr s
 | .ops _ []::s=>Qbr s
 | _=>false
theorem KS.ret (h:R fr μ L) (s:List MIt):Qbr s=true→KS Try.prog N R s fr μ L:=by
 induction s with
 | nil=>exact fun _=>KEn.done h
 | cons i s ih =>
  cases i with
  | code c=>cases c<;>first | exact fun _=>WP.ret (KEn.done h) | exact fun hb=>by cases hb
  | blk i=>exact ih
  | ops all r =>
   cases r with
   | nil=>exact fun hb=>YN.nil (ih hb)
   | cons o r=>exact fun hb=>by cases hb
  | pln=>exact fun hb=>by cases hb
  | plp=>exact fun hb=>by cases hb
  | cut=>exact fun hb=>by cases hb
theorem Rt (hs:List Nat) (hb:Qbr s=true) (h:V1 Tt L fr rs hs [] [] QbJ= .ok [] [(0,v)] [] e e) (k:Upd μ L (Rv v)):KS Try.prog N (RK rs Rv) s fr μ L:=by
 refine KS.ret ?_ s hb;unfold RK;obtain ⟨vs,a',b',h1,h2,h3⟩:=ZY (μ:=μ) (e:=e) h (by simp);unfold QbJ at h2
 split at h2
 ·injection h2 with _ h2 _ h4 h5
  injection h2 with h2 _
  injection h2 with _ h2
  subst h2 h4;exact h3 _ h5.symm k
 ·rename_i hn
  injection h2 with _ h2 _ h4 h5
  injection h2 with h2 _
  injection h2 with _ h2
  subst h2 h4;refine h3 _ h5.symm ?_;have:Jv vs= .tuple vs.toArray:=by
   match vs,hn with
   | [],_=>rfl
   | [v],hn=>exact absurd rfl (hn v)
   | _::_::_,_=>rfl
  rw[this];exact k
def QaF (L:List Seg) (i:Nat):Option Seg:=bif Nat.blt i 64 then Je L i else none
theorem Qak {L:List Seg} {i:Nat} {s:Seg} (h:QaF L i=some s):L[i]? =some s:=by
 unfold QaF at h;cases hb:Nat.blt i 64 with
 | true=>rw[hb] at h;rw[←Js];exact h
 | false=>rw[hb] at h;cases h
def JZ:List Nat→List Seg→Seg×List Seg
 | [],L=>([],L)
 | [i],L=>match QaF L i with
  | some s=>(s,W5 L i [])
  | none=>([],L)
 | i::j::r,L=>match QaF L i with
  | some s=>(s++(JZ (j::r) (W5 L i [])).1,(JZ (j::r) (W5 L i [])).2)
  | none=>JZ (j::r) L
def Wq:List (List Nat)→Nat→List Seg→List Seg
 | [],k,L=>L.drop k
 | g::r,k,L=>(JZ g L).1::Wq r k (JZ g L).2
theorem Jy: ∀(g:List Nat) (L:List Seg),L.flatten.Perm ((JZ g L).1++(JZ g L).2.flatten)
 | [],L=>by simp[JZ]
 | [i],L=>by
  unfold JZ;cases hi:QaF L i with
  | none=>simp
  | some s =>
   have hi:=Qak hi;have h1:=QS hi
   rw[←JT] at h1
   simpa using h1
 | i::j::r,L=>by
  unfold JZ;cases hi:QaF L i with
  | none=>exact Jy (j::r) L
  | some s =>
   simp only
   have hi:=Qak hi;have h1:=QS hi
   rw[←JT] at h1
   refine h1.trans ?_
   simp only[List.flatten_cons,List.append_assoc]
   exact (Jy (j::r) _).append_left s
theorem Qg.grp: ∀(gs:List (List Nat)) (k:Nat) (L:List Seg),Qg (Wq gs k L) L:=by
 intro gs k L w μ h;have key: ∀(gs:List (List Nat)) (L:List Seg),∃M,L.flatten.Perm ((Wq gs k L).flatten++M):=by
  intro gs
  induction gs with
  | nil=>intro L;exact ⟨(L.take k).flatten,by
                          simp only[Wq];conv=>lhs;rw[←List.take_append_drop k L,List.flatten_append]
                          exact List.perm_append_comm⟩
  | cons g r ih =>
   intro L;obtain ⟨M,hM⟩:=ih (JZ g L).2;refine ⟨M,(Jy g L).trans ?_⟩
   simp only[Wq,List.flatten_cons,List.append_assoc]
   exact hM.append_left _
 obtain ⟨M,hM⟩:=key gs L;exact (h.perm (L':=[(Wq gs k L).flatten,M]) (by simpa using hM)).sub (by simp)
theorem Gp {L2:List Seg} (gs:List (List Nat)) (k m:Nat) (hb:VB s=true) (hn:nfL m (Wq gs k L) (fun l=> .ok [] [] l [] [])= .ok [] [] L2 [] []) (h:KS Try.prog N R s fr μ L2):KS Try.prog N R s fr μ L:=by
 rw[YJ] at hn
 injection hn with _ _ hn _ _
 subst hn;exact KS.seg (Qg.grp gs k L) hb h
theorem Upd.gp {kk:Gh→List Seg→Prop} (gs:List (List Nat)) (k:Nat) (h:Upd μ (Wq gs k L) kk):Upd μ L kk:=fun w hw=>h w (Qg.grp gs k L w μ hw)
theorem Fn.gp {f:FuncId} {args:List Value} {Rv:Value→Gh→List Seg→Prop} {L2:List Seg} (gs:List (List Nat)) (k m:Nat) (hn:nfL m (Wq gs k L) (fun l=> .ok [] [] l [] [])= .ok [] [] L2 [] []) (h:Fn Try.prog f args μ L2 Rv):Fn Try.prog f args μ L Rv:=by
 rw[YJ] at hn
 injection hn with _ _ hn _ _
 subst hn;exact Fn.seg (Qg.grp gs k L) h
def QaB:List Seg→Nat→List Seg→List Seg
 | [],_,_=>[]
 | _::r,0,xs=>xs++r
 | s::r,n+1,xs=>s::QaB r n xs
theorem Qg.ins {xs:List Seg} {so:Seg} (hx:xs.flatten=so): ∀{L:List Seg} {i:Nat},Je L i=some so→Qg (QaB L i xs) L:=by
 intro L i hi w μ hw;have key: ∀{L:List Seg} {i:Nat},Je L i=some so→(QaB L i xs).flatten=L.flatten:=by
  intro L
  induction L with
  | nil=>intro i h;cases h
  | cons s r ih =>
   intro i h;cases i with
   | zero=>simp only[Je,Option.some.injEq] at h;subst h;simp[QaB,hx]
   | succ i=>simp only[QaB,List.flatten_cons];rw[ih (by simpa [Je] using h)]
 exact hw.perm (by rw[key hi])
theorem In {xs:List Seg} {so:Seg} {L2:List Seg} (hx:xs.flatten=so) (i m:Nat) (hb:VB s=true) (hi:Je L i=some so) (hn:nfL m (QaB L i xs) (fun l=> .ok [] [] l [] [])= .ok [] [] L2 [] []) (h:KS Try.prog N R s fr μ L2):KS Try.prog N R s fr μ L:=by
 rw[YJ] at hn
 injection hn with _ _ hn _ _
 subst hn;exact KS.seg (Qg.ins hx hi) hb h
def ZQ:Fr→List Nat
 | []=>[]
 | (t,_)::r=>t::ZQ r
theorem WF {fr:Fr}: ∀{F:Fr},QU (ZQ F) fr=F→Qaw F fr
 | [],_=>trivial
 | (t,v)::r,h=>by
  simp only[ZQ,QU] at h
  split at h
  ·rename_i u hu
   injection h with h1 h2
   injection h1 with _ h1
   subst h1;exact ⟨hu,WF h2⟩
  ·
   exfalso
   have key: ∀(ts:List Nat),(QU ts fr).length≤ts.length:=by
    intro ts
    induction ts with
    | nil=>exact Nat.le_refl _
    | cons t ts ih =>
     simp only[QU]
     split
     ·simp only[List.length_cons];omega
     ·simp only[List.length_cons];omega
   have h1:=key (ZQ r);have h2: ∀F:Fr,(ZQ F).length=F.length:=by
    intro F
    induction F with
    | nil=>rfl
    | cons p F ih=>obtain ⟨t,v⟩:=p;simp only[ZQ,List.length_cons,ih]
   rw[h,h2] at h1
   simp only[List.length_cons] at h1
   omega
theorem fE {F fr:Fr} (h:QU (ZQ F) fr=F):Qs F fr:=Qs.of (WF h)
theorem sE {M L:List Seg} (idx:List (Option Nat)) (n:Nat) (h:Yp idx n L=M):Qg M L:=by subst h;exact Qg.sel L idx n
theorem s0 {L:List Seg} (n:Nat):Qg (Yp [] n L) L:=Qg.sel L [] n
theorem Ug {kk:Gh→List Seg→Prop} (gs:List (List Nat)) (k:Nat) (h:kk μ (Wq gs k L)):Upd μ L kk:=fun w hw=>⟨μ,_,Gh.le.refl _,Qg.grp gs k L w μ hw,h⟩
theorem Qs.tr {F G fr:Fr} (h:Qs F fr) (hg:QU (ZQ G) F=G):Qs G fr:=(fE hg).trans h
theorem Qg.tr {A M B:List Seg} (h:Qg M B) (hg:Qg A M):Qg A B:=hg.trans h
theorem Cd {c:Code} (h:WP Try.prog N c (KS Try.prog N R s) (BS Try.prog N R s) (KEn N R) fr μ L):KS Try.prog N R (.code c::s) fr μ L:=h
def drB (ops:List Oper) (plan:List (Bool×Nat)):Bool:=Nat.beq plan.length ops.length&&(Region.noSelect ops.toArray&&(ZL ops&&ZN ops plan (List.replicate ops.length false)))
theorem Dr {id:Nat} {ops:List Oper} (keep:List Seg) (hk:Yf keep L) (plan:List (Bool×Nat)) (hp:drB ops plan=true) (h:KS Try.prog N R (.pln ops (List.replicate ops.length false) plan μ keep::s) fr μ L):KS Try.prog N R (.code (.region id ops.toArray true)::s) fr μ L:=by
 unfold drB at hp
 simp only[Bool.and_eq_true] at hp
 exact WP.drawS Qdg keep hk plan (Nat.eq_of_beq_eq_true hp.1) hp.2.1 hp.2.2.1 hp.2.2.2 h
def Qcu:Nat→List Seg→List Seg
 | 0,L=>match L with | []=>[] | _::r=>r
 | n+1,L=>match L with | []=>[] | s::r=>s::Qcu n r
def rmS:List Nat→List Seg→List Seg
 | [],L=>L
 | i::r,L=>rmS r (Qcu i L)
theorem Vj: ∀(n:Nat) (L:List Seg),∀x∈Qcu n L,x∈L
 | 0,[],x,h=>h
 | 0,_::r,x,h=>List.mem_cons_of_mem _ h
 | n+1,[],x,h=>h
 | n+1,s::r,x,h=>by
  rcases List.mem_cons.1 h with rfl | h
  ·exact List.mem_cons_self
  ·exact List.mem_cons_of_mem _ (Vj n r x h)
theorem Qam: ∀(idx:List Nat) (L:List Seg),∀x∈rmS idx L,x∈L
 | [],L,x,h=>h
 | i::r,L,x,h=>Vj i L x (Qam r _ x h)
theorem Drk {id:Nat} {ops:List Oper} {keep:List Seg} (idx:List Nat) (m:Nat) (hn:nfL m (rmS idx L) (fun l=> .ok [] [] l [] [])= .ok [] [] keep [] []) (plan:List (Bool×Nat)) (hp:drB ops plan=true)
  (h:KS Try.prog N R (.pln ops (List.replicate ops.length false) plan μ keep::s) fr μ L):KS Try.prog N R (.code (.region id ops.toArray true)::s) fr μ L:=by
 rw[YJ] at hn
 injection hn with _ _ hn _ _
 exact Dr keep (Yf.of fun x hx=>Qam idx L x (by rw[hn];exact hx)) plan hp h
def Qbo:List Nat→Nat→List Seg→List Seg
 | [],n,L=>L.drop n
 | i::r,n,L=>(Je L i).getD []::Qbo r n L
theorem Kp {keep:List Seg} (idx:List Nat) (n:Nat) (h:Qbo idx n L=keep):Yf keep L:=by
 subst h
 induction idx with
 | nil =>
  intro c hc;obtain ⟨x,h1,h2⟩:=List.mem_flatten.1 hc;exact List.mem_flatten.2 ⟨x,List.mem_of_mem_drop h1,h2⟩
 | cons i r ih =>
  intro c hc
  simp only[Qbo,List.flatten_cons,List.mem_append] at hc
  rcases hc with hc | hc
  ·cases hi:Je L i with
   | none=>rw[hi] at hc;cases hc
   | some x =>
    rw[hi] at hc
    rw[Js] at hi
    exact List.mem_flatten.2 ⟨x,List.mem_of_getElem? hi,hc⟩
  ·exact ih c hc
theorem Cut {ρ β:Type} {m:Option ρ} {f:ρ→Option β} {r:β} {c:Code} (h:Option.bind m f=some r) (M:Fr→List Seg→ρ→Ql) (h1: ∀o,m=some o→f o=some r→KS Try.prog N R (.code c:: .cut (M fr L o)::s) fr μ L)
  (h2: ∀o fr' μ' L',f o=some r→μ.le μ'→M fr L o fr' μ' L'→KS Try.prog N R s fr' μ' L'):KS Try.prog N R (.code c::s) fr μ L:=by
 obtain ⟨o,ho,h⟩:=QE h;exact WP.cutK (M fr L o) (h1 o ho h) fun fr' μ' L' hm hM=>h2 o fr' μ' L' h hm hM
theorem Atn {F F':Fr} {L2 L2':List Seg} (n:Nat) (hF:Qs F fr) (hs:Qg L2 L) (hb:VB s=true) (hn:nfF F (fun f=>nfL n L2 fun l=> .ok [] f l [] [])= .ok [] F' L2' [] []) (h:KS Try.prog N R s F' μ L2'):KS Try.prog N R s fr μ L:=by
 rw[Jr,YJ] at hn
 injection hn with _ h1 h2 _ _
 subst h1 h2;exact Att hF hs hb h
def QbR:List MIt→Option Ql
 | .cut M::_=>some M
 | .blk _::s=>QbR s
 | .ops _ []::s=>QbR s
 | _=>none
theorem Ce {M:Ql} (hb:QbR s=some M) (h:M fr μ L):KS Try.prog N R s fr μ L:=by
 induction s with
 | nil=>cases hb
 | cons i s ih =>
  cases i with
  | code c=>cases hb
  | blk i=>exact ih hb
  | ops all r =>
   cases r with
   | nil=>exact YN.nil (ih hb)
   | cons o r=>cases hb
  | pln=>cases hb
  | plp=>cases hb
  | cut M'=>simp only[QbR,Option.some.injEq] at hb;subst hb;exact h
theorem Lp {σ ρ:Type} {body:σ→Option (σ⊕ρ)} {n i:Nat} {s0:σ} {o:ρ} {c:Code} (h:iter body n s0=some o) (I:Fr→List Seg→σ→Ql) (h0:I fr L s0 fr μ L)
  (round: ∀st q fr' μ' L',μ.le μ'→I fr L st fr' μ' L'→body st=some q→(∀r,q= .inr r→r=o)→KS Try.prog N R (.code c:: .cut (fun fr2 μ2 L2=> ∃st',q= .inl st'∧I fr L st' fr2 μ2 L2):: .blk i::s) fr' μ' L') :
  KS Try.prog N R (.code (.block i (.loop c))::s) fr μ L :=
 WP.block (WP.iter h (I fr L) h0 round)
inductive QcN where
 | ok (o:Oper) (s:List MIt) (n:Nat) (vs:List Value)
 | bad
def clO (s:List MIt) (fr:Fr):QcN:=match hdS s fr with
 | some (o,s')=>(match o.op with
  | .call ⟨.value f,args,_⟩=>(match evV fr f,Zc fr args.toList with
   | some (.func (.func g) ⟨fi⟩ ⟨ca⟩),some vs=> .ok o s' g (fi++(vs++ca))
   | _,_=> .bad)
  | _=> .bad)
 | none=> .bad
theorem Cl {o:Oper} {f:Nat} {args:List Value} (h:clO s fr= .ok o s' f args) (k:Fn Try.prog f args μ L fun v μ' L'=>kpt s L' (QQ N o.dst v fr fun f=>KS Try.prog N R s' f μ' L')):KS Try.prog N R s fr μ L:=by
 unfold clO at h
 split at h
 ·rename_i o1 s1 h1
  split at h
  ·rename_i hop
   split at h
   ·rename_i hf hv
    injection h with e1 e2 e3 e4
    subst e1 e2 e3 e4;refine So h1 ?_
    rw[hop]
    exact QaU hf hv (by simp) k
   ·cases h
  ·cases h
 ·cases h
def alO (s:List MIt) (fr:Fr):QcN:=match hdS s fr with
 | some (o,s')=>(match o.op with
  | .alloc t=>(match Tt t with | some i=>(match i.zero.cells with | ⟨cs⟩=> .ok o s' t cs) | none=> .bad)
  | .box t x=>(match evV fr x with | some v=>(match v.cells with | ⟨cs⟩=> .ok o s' t cs) | none=> .bad)
  | _=> .bad)
 | none=> .bad
theorem Al {o:Oper} {t:Nat} {cs:List Value} (h:alO s fr= .ok o s' t cs) (k: ∀g,kpt s ([(g,.cells ⟨cs⟩ t)]::L) (QQ N o.dst (.pointer (some ⟨g,0,none⟩)) fr fun f=>KS Try.prog N R s' f μ ([(g,.cells ⟨cs⟩ t)]::L))):KS Try.prog N R s fr μ L:=by
 unfold alO at h
 split at h
 ·rename_i o1 s1 h1
  split at h
  ·rename_i hop
   split at h
   ·rename_i hT
    split at h
    rename_i hz
    injection h with e1 e2 e3 e4
    subst e1 e2 e3 e4;refine So h1 ?_
    rw[hop]
    exact QbC hT hz k
   ·cases h
  ·rename_i hop
   split at h
   ·rename_i hv
    split at h
    rename_i hz
    injection h with e1 e2 e3 e4
    subst e1 e2 e3 e4;refine So h1 ?_
    rw[hop]
    exact QbY hv hz k
   ·cases h
  ·cases h
 ·cases h
inductive Qdh where
 | ok (o:Oper) (s:List MIt) (A:Option Addr) (len:Nat) (ix:Int) (sz:Nat)
 | bad
def ixO (s:List MIt) (fr:Fr):Qdh:=match hdO s fr with
 | some (true,o,s')=>(match o.op with
  | .indexAddr t x n=>(match evV fr x,evV fr n,Tt t with
   | some (.slice A len _),some (.int _ ix),some i=>(match i.u with
    | .slice e=>(match Tt e with | some ⟨_,sz,_,_,_⟩=> .ok o s' A len ix sz | none=> .bad)
    | _=> .bad)
   | _,_,_=> .bad)
  | _=> .bad)
 | _=> .bad
theorem Ix {α β:Type} {μ1:Gh} {L1:List Seg} {r:Rp α} {xs:List α} {ix:Int} {f:α→Option β} {res:β} {A:Option Addr} {o:Oper} {sz:Nat} (h:Option.bind (Q6 xs ix) f=some res) (hR:Rds r μ1 L1 A xs) (hi:ixO s fr= .ok o s' A xs.length ix sz) (hz:r.sz=sz)
  (k: ∀x a cs,Q6 xs ix=some x→r.rep μ1 x cs→QI μ1 L1 (a.add (ix.toNat*sz)) cs→A=some a→f x=some res→QQ N o.dst (.pointer (some (a.add (ix.toNat*sz)))) fr fun f=>KS Try.prog N R s' f μ L):KS Try.prog N R s fr μ L:=by
 subst hz;obtain ⟨x,hx,hh⟩:=QE h;obtain ⟨a,cs,hA,hr,_,hc⟩:=Rds.getI hR hx;unfold ixO at hi
 split at hi
 ·rename_i o1 s1 h1
  split at hi
  ·rename_i hop
   split at hi
   ·rename_i hx1 hn1 hT1
    split at hi
    ·rename_i hu
     split at hi
     ·rename_i hT2
      injection hi with e1 e2 e3 e4 e5 e6
      subst e1 e2 e3 e4 e5;refine Rdo h1 (by rw[hop];rfl) ?_
      rw[hop]
      refine W8 hx1 hn1 hT1 hu hT2 e6 ⟨(Yq hx).1,(Yq hx).2.1⟩ hA ?_;exact k x a cs hx hr hc hA hh
     ·cases hi
    ·cases hi
   ·cases hi
  ·cases hi
 ·cases hi
theorem IxN {α β:Type} {μ1:Gh} {L1:List Seg} {r:Rp α} {xs:List α} {ix:Int} {f:α→Option β} {res:β} {A:Option Addr} {o:Oper} {sz:Nat} {n:Nat} (hn:n=xs.length) (h:Option.bind (Q6 xs ix) f=some res) (hR:Rds r μ1 L1 A xs) (hi:ixO s fr= .ok o s' A n ix sz) (hz:r.sz=sz)
  (k: ∀x a cs,Q6 xs ix=some x→r.rep μ1 x cs→QI μ1 L1 (a.add (ix.toNat*sz)) cs→A=some a→f x=some res→QQ N o.dst (.pointer (some (a.add (ix.toNat*sz)))) fr fun f=>KS Try.prog N R s' f μ L):KS Try.prog N R s fr μ L:=by
 subst hn;exact Ix h hR hi hz k
theorem IxA {α β:Type} {all rest:List Oper} {s1:List MIt} {r:Rp α} {xs:List α} {ix:Int} {f:α→Option β} {res:β} {A:Option Addr} {o:Oper} {sz:Nat} (h:Option.bind (Q6 xs ix) f=some res) (hR:Rds r μ L A xs) (hi:ixO (.ops all rest::s1) fr= .ok o s' A xs.length ix sz) (hz:r.sz=sz)
  (k: ∀x a cs,Q6 xs ix=some x→r.rep μ x cs→QI μ L (a.add (ix.toNat*sz)) cs→A=some a→f x=some res→QQ N o.dst (.pointer (some (a.add (ix.toNat*sz)))) fr fun f=>KS Try.prog N R s' f μ L):KS Try.prog N R (.ops all rest::s1) fr μ L:=Ix h hR hi hz k
end
end Go.Proofs.Ytpghcnpheabbgaa
namespace Go.Proofs.Ytpghcnpheabbgaa
open Go.RowKit
set_option linter.unusedSimpArgs false
set_option linter.unusedVariables false
abbrev ND (n:Nat) (ds:List Deferred):NN:=⟨n,ds,none⟩
def WPG (n:Nat) (ds:List Deferred) (c:Code) (Q:Exit→Act→World→Prop) (μ0:Gh) (fr:Fr) (μ:Gh) (L:List Seg):Prop :=
 μ0.le μ→ ∀a w,Agr (ND n ds) fr a→Inv w μ L→c.wp Try.prog Q a w
def Ye (n:Nat) (ds:List Deferred) (e:Exit) (Q:Exit→Act→World→Prop) (μ0:Gh):Ql:=fun fr μ L =>
 μ0.le μ→ ∀a w,Agr (ND n ds) fr a→Inv w μ L→Q e a w
def QD (rs:List ResultVar) (μ0:Gh) (Rv:Value→Gh→List Seg→Prop) (e:Exit) (a:Act) (w:World):Prop :=
 ∀fn:Func,fn.results.toList=rs→bodyPostD Try.prog fn (fun e w'=> ∃v μ' L',e= .returned v∧μ0.le μ'∧Inv w' μ' L'∧Rv v μ' L') e a w
section
variable {n:Nat} {ds:List Deferred} {Q:Exit→Act→World→Prop} {μ0 μ:Gh} {fr:Fr} {L:List Seg}
theorem Ye.en {e:Exit} (h:KEn (ND n ds) (Ye n ds e Q μ0) fr μ L):Ye n ds e Q μ0 fr μ L:=by
 intro hm a w ha hw;obtain ⟨fr',μ',L',h1,h2,h3,h4⟩:=h a w ha hw;exact h4 (hm.trans h2) a w h1 h3
theorem WPG.at {c:Code} {F F':Fr} {L2 L2':List Seg} (k:Nat) (hF:Qs F fr) (hL:Qg L2 L) (hn:nfF F (fun f=>nfL k L2 fun l=> .ok [] f l [] [])= .ok [] F' L2' [] []) (h:WPG n ds c Q μ0 F' μ L2'):WPG n ds c Q μ0 fr μ L:=by
 rw[Jr,YJ] at hn
 injection hn with _ h1 h2 _ _
 subst h1 h2;exact fun hm a w ha hw=>h hm a w (ha.sub hF) (hL w μ hw)
theorem Ye.at {e:Exit} {F F':Fr} {L2 L2':List Seg} (k:Nat) (hF:Qs F fr) (hL:Qg L2 L) (hn:nfF F (fun f=>nfL k L2 fun l=> .ok [] f l [] [])= .ok [] F' L2' [] []) (h:Ye n ds e Q μ0 F' μ L2'):Ye n ds e Q μ0 fr μ L:=by
 rw[Jr,YJ] at hn
 injection hn with _ h1 h2 _ _
 subst h1 h2;exact fun hm a w ha hw=>h hm a w (ha.sub hF) (hL w μ hw)
theorem Ye.upd {e:Exit} (h:Upd μ L fun μ' L'=>Ye n ds e Q μ0 fr μ' L'):Ye n ds e Q μ0 fr μ L:=fun hm a w ha hw=>by
 obtain ⟨μ1,L1,h1,h2,h3⟩:=h w hw;exact h3 (hm.trans h1) a w ha h2
theorem WPG.seqK {x y:Code} (h: ∀K':Ql,(∀fr μ L,WPG n ds y Q μ0 fr μ L→K' fr μ L)→KS Try.prog (ND n ds) (Ye n ds .ret Q μ0) [.code x,.cut K'] fr μ L):WPG n ds (.seq x y) Q μ0 fr μ L:=by
 intro hm a w ha hw;have h0:=wpIn_wide.1 (h (fun fr μ L=>WPG n ds y Q μ0 fr μ L) (fun _ _ _ h=>h) a w ha hw);refine wp_seq (Code.wp_mono (fun e a' w' hl=> ?_) h0);cases e with
 | normal =>
  obtain ⟨fr1,μ1,L1,h1,h2,h3,h4⟩:=hl;exact h4 (hm.trans h2) a' w' h1 h3
 | ret =>
  obtain ⟨fr1,μ1,L1,h1,h2,h3,h4⟩:=hl;exact Ye.en h4 (hm.trans h2) a' w' h1 h3
 | exit i=>obtain ⟨_,_,_,_,_,_,h4⟩:=hl;exact h4.elim
 | _=>exact hl.elim
theorem WPG.lastK {x:Code} (h:KS Try.prog (ND n ds) (Ye n ds .ret Q μ0) [.code x,.cut (Ye n ds .normal Q μ0)] fr μ L):WPG n ds x Q μ0 fr μ L:=by
 intro hm a w ha hw;have h0:=wpIn_wide.1 (h a w ha hw);refine Code.wp_mono (fun e a' w' hl=> ?_) h0;cases e with
 | normal =>
  obtain ⟨fr1,μ1,L1,h1,h2,h3,h4⟩:=hl;exact h4 (hm.trans h2) a' w' h1 h3
 | ret =>
  obtain ⟨fr1,μ1,L1,h1,h2,h3,h4⟩:=hl;exact Ye.en h4 (hm.trans h2) a' w' h1 h3
 | exit i=>obtain ⟨_,_,_,_,_,_,h4⟩:=hl;exact h4.elim
 | _=>exact hl.elim
theorem Ye.ret {s:List MIt} (hb:Qbr s=true) (h:Ye n ds .ret Q μ0 fr μ L):KS Try.prog (ND n ds) (Ye n ds .ret Q μ0) s fr μ L:=KS.ret h s hb
theorem WPG.defer2 {id d1:Nat} {op1:Op} {ty1 ty2:TypeId} {p1 p2:String} {af1 af2:Array Edge} {at2:Array TypeId} {y:Code} {g:FuncId} {cap:Array Value}
  (h:vcO Try.prog Tt op1 ty1 fr μ L fun v μ' L'=>v= .func (.func g) #[] cap∧d1<n∧WPG n ({ target:= .fn (.func g) cap,args:= #[] }::ds) y Q μ0 ((d1,v)::fr) μ' L') :
  WPG n ds (.seq (.region id #[{ dst:=some d1,op:=op1,type:=ty1,pos:=p1,after:=af1,guard:=none },{ dst:=none,op:= .defer { callee:= .value (.tmp d1),args:= #[],argTypes:=at2 },type:=ty2,pos:=p2,after:=af2,guard:=none }] false) y) Q μ0 fr μ L:=by
 intro hm a w ha hw;refine wp_seq ?_;refine wp_region_lit (l:=[_,_]) (wpList_step fun K1 hK1=> ?_)
 rw[if_pos (by simp[Region.wanted])]
 refine YG Ym ha h hw fun v μ' L' w' hm' hw' hk=> ?_;obtain ⟨rfl,hd1,hy⟩:=hk;have ha1:=ha.put (d:=d1) hd1 (.func (.func g) #[] cap);refine hK1 _ _ (wpList_step fun K2 hK2=> ?_)
 rw[if_pos (by simp[Region.wanted])]
 unfold Oper.wp;have he:(a.put (some d1) (.func (.func g) #[] cap)).eval (.tmp d1)= .func (.func g) #[] cap:=ha1.get d1 _ (by simp[YW]);have hx:(execOp (a.put (some d1) (.func (.func g) #[] cap)).eval { dst:=none,op:= .defer { callee:= .value (.tmp d1),args:= #[],argTypes:=at2 },type:=ty2,pos:=p2,after:=af2,guard:=none }).run Try.prog w' =
   .ok (.defer { target:= .fn (.func g) cap,args:= #[] }) w':=by
  simp[execOp,resolve,he,Deferred.ofValue,Sem.run_bind,Sem.run_pure,Result.andThen_ok]
 rw[hx,Oper.upon_defer]
 refine hK2 _ _ ?_;refine wpList_nil ?_;refine hy (hm.trans hm') _ _ ⟨?_,?_,?_⟩ hw'
 ·show _::_=_
  rw[ha1.defers]
 ·exact ha1.size
 ·exact ha1.get
theorem Ye.nil0 {e:Exit} (he:e= .normal∨e= .ret) {rs:List ResultVar} {Rv:Value→Gh→List Seg→Prop} (h:YT Tt rs fr μ L fun vs=>Upd μ L (Rv (Jv vs))):Ye n [] e (QD rs μ0 Rv) μ0 fr μ L:=by
 intro hm a w ha hw fn hfn;subst hfn;have key:Leaves Try.prog fn a.tmps (fun e w'=> ∃v μ' L',e= .returned v∧μ0.le μ'∧Inv w' μ' L'∧Rv v μ' L') a.defers .returning w:=by
  rw[ha.defers]
  obtain ⟨vs,h5,h6⟩:=ZA Ym ha hw.holds fn.results.toList h;obtain ⟨μ3,L3,k1,k2,k3⟩:=h5 w hw;refine ⟨Jv vs,?_,Jv vs,μ3,L3,rfl,hm.trans k1,k2,k3⟩;have h7:(fn.results.mapM (ZB a.tmps)).run Try.prog w= .ok vs.toArray w:=by
   rw[Array.mapM_eq_mapM_toList,Sem.run_map,h6];rfl
  have h8:results fn a.tmps=(do
    let vs ←fn.results.mapM (ZB a.tmps)
    pure (if h:vs.size=1 then vs[0] else .tuple vs)):=rfl
  rw[h8,Sem.run_bind,h7]
  simp only[Result.andThen_ok,Sem.run_pure]
  congr 1
  match vs with
  | []=>rfl
  | [v]=>rfl
  | v::u::r=>simp[Jv]
 rcases he with rfl | rfl<;>exact key
theorem Ye.nil {rs:List ResultVar} {Rv:Value→Gh→List Seg→Prop} {v:Value} {e:List Value} (hs:List Nat) {x:Exit} (he:x= .normal∨x= .ret) (h:V1 Tt L fr rs hs [] [] QbJ= .ok [] [(0,v)] [] e e) (k:Upd μ L (Rv v)):Ye n [] x (QD rs μ0 Rv) μ0 fr μ L:=by
 refine Ye.nil0 he ?_;obtain ⟨vs,a',b',h1,h2,h3⟩:=ZY (μ:=μ) (e:=e) h (by simp);unfold QbJ at h2
 split at h2
 ·injection h2 with _ h2 _ h4 h5
  injection h2 with h2 _
  injection h2 with _ h2
  subst h2 h4;exact h3 _ h5.symm k
 ·rename_i hn
  injection h2 with _ h2 _ h4 h5
  injection h2 with h2 _
  injection h2 with _ h2
  subst h2 h4;refine h3 _ h5.symm ?_;have:Jv vs= .tuple vs.toArray:=by
   match vs,hn with
   | [],_=>rfl
   | [v],hn=>exact absurd rfl (hn v)
   | _::_::_,_=>rfl
  rw[this];exact k
theorem Ye.cons {e:Exit} (he:e= .normal∨e= .ret) {m:Nat} {g:FuncId} {cap:List Value} {rs:List ResultVar} {Rv:Value→Gh→List Seg→Prop} {fg:Func} {cg:Code} {fr2:Fr}
  (hf:Try.prog.funcs[g]? =some fg) (hnm:(fg.name== "runtime.NumGoroutine")=false) (hb:fg.body=some cg) (hn:fg.ntmps=m) (hr:fg.results= #[]) (hl:Nat.ble cap.length m=true)
  (harg:Wn ixs cap (fun F=> .ok [] F [] [] [])= .ok [] fr2 [] [] [])
  (h:KS Try.prog ⟨m,[],none⟩ (fun _ μ' L'=>Ye n ds .ret (QD rs μ0 Rv) μ0 fr μ' L') [.code cg,.cut (fun _ μ' L'=>Ye n ds .ret (QD rs μ0 Rv) μ0 fr μ' L')] fr2 μ L) :
  Ye n ({ target:= .fn (.func g) cap.toArray,args:= #[] }::ds) e (QD rs μ0 Rv) μ0 fr μ L:=by
 have e1:=ZV (by simp) 16 0 cap _ (show Wn (List.range' 0 16) cap _=_ from harg);injection e1 with _ e1 _ _ _
 have hl:=Nat.le_of_ble_eq_true hl;intro hm a w ha hw fn hfn;have key:Leaves Try.prog fn a.tmps (fun e w'=> ∃v μ' L',e= .returned v∧μ0.le μ'∧Inv w' μ' L'∧Rv v μ' L') a.defers .returning w:=by
  rw[ha.defers]
  refine leaves_cons (f:=g) (args:= #[]++cap.toArray) (by simp) ?_ ?_
  ·show (callFunc g (#[]++cap.toArray)).run Try.prog w=_
   have h1:fg.name≠ "runtime.NumGoroutine" :=by simpa using hnm
   simp[callFunc,hf,h1,hb,mark]
  ·have hag:Agr ⟨m,[],none⟩ (Ww cap) { tmps:=(#[]++cap.toArray)++Array.replicate (fg.ntmps-(#[]++cap.toArray).size) undef,defers:=[] }:=by
    refine ⟨rfl,by simp[hn];omega,fun t v hv=> ?_⟩;obtain ⟨_,h2⟩:=Wd cap 0 t v hv;have hlt:t<cap.length:=by
     rcases Nat.lt_or_ge t cap.length with h | h
     ·exact h
     ·rw[List.getElem?_eq_none (by simpa using h)] at h2;cases h2
    have h2':cap[t]? =some v:=h2;have hg:cap[t]=v:=by simpa [hlt] using h2'
    simp[Array.getElem?_append,hlt,hg]
   have hag2:Agr ⟨m,[],none⟩ fr2 { tmps:=(#[]++cap.toArray)++Array.replicate (fg.ntmps-(#[]++cap.toArray).size) undef,defers:=[] }:=by
    rw[←e1];exact hag
   have fin: ∀a' w',(∃fr' μ' L',Agr ⟨m,[],none⟩ fr' a'∧μ.le μ'∧Inv w' μ' L'∧Ye n ds .ret (QD rs μ0 Rv) μ0 fr μ' L') →
     a'.defers=[]∧ ∃v,(results fg a'.tmps).run Try.prog w'= .ok v w'∧Leaves Try.prog fn a.tmps (fun e w'=> ∃v μ' L',e= .returned v∧μ0.le μ'∧Inv w' μ' L'∧Rv v μ' L') ds .returning w':=by
    rintro a' w' ⟨fr',μ',L',k1,k2,k3,k4⟩;refine ⟨k1.defers,.tuple #[],?_,?_⟩
    ·have h8:results fg a'.tmps=(do
      let vs ←fg.results.mapM (ZB a'.tmps)
      pure (if h:vs.size=1 then vs[0] else .tuple vs)):=rfl
     have h7:(fg.results.mapM (ZB a'.tmps)).run Try.prog w'= .ok #[] w':=by
      rw[hr,Array.mapM_eq_mapM_toList,Sem.run_map]
      simp[Sem.run_pure]
     rw[h8,Sem.run_bind,h7]
     simp[Sem.run_pure]
    ·have:=k4 (hm.trans k2) { a with defers:=ds } w' ⟨rfl,ha.size,ha.get⟩ k3 fn hfn;exact this
   refine (callsD_of_wp (R:=fun e w'=> ∃v,e= .returned v∧Leaves Try.prog fn a.tmps (fun e w'=> ∃v μ' L',e= .returned v∧μ0.le μ'∧Inv w' μ' L'∧Rv v μ' L') ds .returning w') hf hb ?_).mono ?_
   ·refine Code.wp_mono (fun e a' w' hl=> ?_) (wpIn_wide.1 (h _ w hag2 hw));cases e with
    | normal=>obtain ⟨h1,v,h2,h3⟩:=fin a' w' hl;exact ⟨h1,v,h2,v,rfl,h3⟩
    | ret =>
     obtain ⟨fr1,μ1,L1,k1,k2,k3,k4⟩:=hl;obtain ⟨fr3,μ3,L3,j1,j2,j3,j4⟩:=k4 a' w' k1 k3;obtain ⟨h1,v,h2,h3⟩:=fin a' w' ⟨fr3,μ3,L3,j1,k2.trans j2,j3,j4⟩;exact ⟨h1,v,h2,v,rfl,h3⟩
    | exit i=>obtain ⟨_,_,_,_,_,_,h4⟩:=hl;exact h4.elim
    | _=>exact hl.elim
   ·rintro e u' w' ⟨rfl,v,rfl,h3⟩;exact h3
 rcases he with rfl | rfl<;>exact key
theorem FnD {f:FuncId} {fn:Func} {c:Code} {args:List Value} {rs:List ResultVar} {Rv:Value→Gh→List Seg→Prop} (hf:Try.prog.funcs[f]? =some fn)
  (hnm:(fn.name== "runtime.NumGoroutine")=false) (hb:fn.body=some c) (hrs:fn.results.toList=rs) (hn:fn.ntmps=n) (hl:Nat.ble args.length n=true)
  (harg:Wn ixs args (fun F=> .ok [] F [] [] [])= .ok [] fr [] [] [])
  (h:WPG n [] c (QD rs μ Rv) μ fr μ L):Fn Try.prog f args μ L Rv:=by
 have e1:=ZV (by simp) 16 0 args _ (show Wn (List.range' 0 16) args _=_ from harg);injection e1 with _ e1 _ _ _
 have hl:=Nat.le_of_ble_eq_true hl;refine .inl ⟨⟨fn,hf,hnm,by rw[hb];rfl⟩,fun w hw=> ?_⟩;refine calls_of_wp_defers hf hb ?_;have ha:Agr ⟨n,[],none⟩ (Ww args) { tmps:=args.toArray++Array.replicate (fn.ntmps-args.toArray.size) undef,defers:=[] }:=by
  refine ⟨rfl,by simp[hn];omega,fun t v hv=> ?_⟩;obtain ⟨_,h2⟩:=Wd args 0 t v hv;have hlt:t<args.length:=by
   rcases Nat.lt_or_ge t args.length with h | h
   ·exact h
   ·rw[List.getElem?_eq_none (by simpa using h)] at h2;cases h2
  have h2':args[t]? =some v:=h2;have hg:args[t]=v:=by rw[List.getElem?_eq_getElem hlt] at h2';injection h2'
  simp[Array.getElem?_append,hlt,hg]
 have ha2:Agr ⟨n,[],none⟩ fr { tmps:=args.toArray++Array.replicate (fn.ntmps-args.toArray.size) undef,defers:=[] }:=by
  rw[←e1];exact ha
 exact Code.wp_mono (fun e a' w' hl=>hl fn hrs) (h (Gh.le.refl _) _ w ha2 hw)
end
end Go.Proofs.Ytpghcnpheabbgaa
namespace Go.Proofs
open Go.Shelf
def Try.lays189_ren:Go.Shelf.Ren:=⟨fun | 189=>42 | 125=>47 | 257=>46 | 128=>57 | 129=>58 | 294=>48 | 295=>49 | 296=>50 | 297=>51 | 298=>52 | 299=>53 | 216=>54 | 300=>55 | 301=>56 | 328=>59 | 329=>60 | 330=>61 | 331=>62 | 332=>63 | 215=>64 | 343=>65 | n=>n,fun | 28=>38 | 3=>3 | 46=>76 | 0=>0 | 51=>87 | 53=>52 | 4=>4 | 183=>79 | 182=>78 | 131=>84 | 5=>5 | 9=>9 | 218=>89 | 222=>93 | 228=>95 | 229=>96 | n=>n,fun | n=>n⟩
theorem Try.lays189:Go.Proofs.Lays.n189 Try.prog Try.lays189_ren:={
 mixed:=by kernel_rfl
 f125:=Try.func47.trans (congrArg some (by kernel_rfl))
 f128:=Try.func57.trans (congrArg some (by kernel_rfl))
 f129:=Try.func58.trans (congrArg some (by kernel_rfl))
 f189:=Try.func42.trans (congrArg some (by kernel_rfl))
 f215:=Try.func64.trans (congrArg some (by kernel_rfl))
 f216:=Try.func54.trans (congrArg some (by kernel_rfl))
 f257:=Try.func46.trans (congrArg some (by kernel_rfl))
 f294:=Try.func48.trans (congrArg some (by kernel_rfl))
 f295:=Try.func49.trans (congrArg some (by kernel_rfl))
 f296:=Try.func50.trans (congrArg some (by kernel_rfl))
 f297:=Try.func51.trans (congrArg some (by kernel_rfl))
 f298:=Try.func52.trans (congrArg some (by kernel_rfl))
 f299:=Try.func53.trans (congrArg some (by kernel_rfl))
 f300:=Try.func55.trans (congrArg some (by kernel_rfl))
 f301:=Try.func56.trans (congrArg some (by kernel_rfl))
 f328:=Try.func59.trans (congrArg some (by kernel_rfl))
 f329:=Try.func60.trans (congrArg some (by kernel_rfl))
 f330:=Try.func61.trans (congrArg some (by kernel_rfl))
 f331:=Try.func62.trans (congrArg some (by kernel_rfl))
 f332:=Try.func63.trans (congrArg some (by kernel_rfl))
 f343:=Try.func65.trans (congrArg some (by kernel_rfl))
 t0:=Try.underlying0
 a0:=Try.isAgg0
 z0:=Try.sizeOf0
 v0:=Try.zeroValue0
 t3:=Try.underlying3
 a3:=Try.isAgg3
 z3:=Try.sizeOf3
 v3:=Try.zeroValue3
 t4:=Try.underlying4
 a4:=Try.isAgg4
 z4:=Try.sizeOf4
 v4:=Try.zeroValue4
 t5:=Try.underlying5
 a5:=Try.isAgg5
 z5:=Try.sizeOf5
 v5:=Try.zeroValue5
 t9:=Try.underlying9
 a9:=Try.isAgg9
 z9:=Try.sizeOf9
 v9:=Try.zeroValue9
 t28:=Try.underlying38
 a28:=Try.isAgg38
 z28:=Try.sizeOf38
 v28:=Try.zeroValue38
 t46:=Try.underlying76
 a46:=Try.isAgg76
 z46:=Try.sizeOf76
 v46:=Try.zeroValue76
 t51:=Try.underlying87
 a51:=Try.isAgg87
 z51:=Try.sizeOf87
 v51:=Try.zeroValue87
 t53:=Try.underlying52
 a53:=Try.isAgg52
 z53:=Try.sizeOf52
 v53:=Try.zeroValue52
 t131:=Try.underlying84
 a131:=Try.isAgg84
 z131:=Try.sizeOf84
 v131:=Try.zeroValue84
 t182:=Try.underlying78
 a182:=Try.isAgg78
 z182:=Try.sizeOf78
 v182:=Try.zeroValue78
 t183:=Try.underlying79
 a183:=Try.isAgg79
 z183:=Try.sizeOf79
 v183:=Try.zeroValue79
 t218:=Try.underlying89
 a218:=Try.isAgg89
 z218:=Try.sizeOf89
 v218:=Try.zeroValue89
 t222:=Try.underlying93
 a222:=Try.isAgg93
 z222:=Try.sizeOf93
 v222:=Try.zeroValue93
 t228:=Try.underlying95
 a228:=Try.isAgg95
 z228:=Try.sizeOf95
 v228:=Try.zeroValue95
 t229:=Try.underlying96
 a229:=Try.isAgg96
 z229:=Try.sizeOf96
 v229:=Try.zeroValue96 }
open Go.Sort Go.RowKit in
theorem Try.slices_Sort_int (blk off cap:Nat) (zs:List Int) (w:World) (hH:Holds (Value.int .i64) w blk off zs.toArray) (hblk:blk<w.heap.size) (hsz:zs.length<4611686018427387904) :
  Calls Try.prog 42 #[.slice (some ⟨blk,off,none⟩) zs.length cap] w fun e w' =>
   e= .returned (.tuple #[])∧ ∃n os,w'=grow (putRow (Value.int .i64) (Sort.ahead w n) blk off (zs.mergeSort fun x y=>decide (x≤y)).toArray) os:=Any.slices_Sort_int Try.lays189 blk off cap zs w hH hblk hsz
open Go.RowKit Go.Sort in
theorem Try.slices_Sort_int_none (p:Option Addr) (cap:Nat) (w:World) :
  Calls Try.prog 42 #[.slice p 0 cap] w fun e w'=>e= .returned (.tuple #[])∧w'=w:=Any.slices_Sort_int_none Try.lays189 p cap w
end Go.Proofs
namespace Go.Proofs
open Go.Shelf
def Try.sortedA_ren:Go.Shelf.Ren:=⟨fun | 6=>35 | 8=>41 | 9=>42 | 11=>45 | 13=>47 | 12=>46 | 23=>57 | 24=>58 | 14=>48 | 15=>49 | 16=>50 | 17=>51 | 18=>52 | 19=>53 | 20=>54 | 21=>55 | 22=>56 | 25=>59 | 26=>60 | 27=>61 | 28=>62 | 29=>63 | 30=>64 | 31=>65 | n=>n,fun | 26=>3 | 28=>65 | 24=>38 | 0=>0 | 3=>3 | 37=>76 | 48=>87 | 50=>52 | 4=>4 | 40=>79 | 39=>78 | 45=>84 | 5=>5 | 9=>9 | 51=>89 | 55=>93 | 57=>95 | 58=>96 | 33=>71 | n=>n,fun | n=>n⟩
theorem Try.sortedA:Go.Proofs.SlLaysZI.n6 Try.prog Try.sortedA_ren:={
 mixed:=by kernel_rfl
 f6:=⟨Try.f35.name,by decide,Try.func35.trans (congrArg some (by kernel_rfl))⟩
 f8:=⟨Try.f41.name,by decide,Try.func41.trans (congrArg some (by kernel_rfl))⟩
 f11:=⟨Try.f45.name,by decide,Try.func45.trans (congrArg some (by kernel_rfl))⟩
 t0:=Try.underlying0
 a0:=Try.isAgg0
 z0:=Try.sizeOf0
 v0:=Try.zeroValue0
 t24:=Try.underlying38
 a24:=Try.isAgg38
 z24:=Try.sizeOf38
 v24:=Try.zeroValue38
 t26:=Try.underlying3
 a26:=Try.isAgg3
 z26:=Try.sizeOf3
 v26:=Try.zeroValue3
 t28:=Try.underlying65
 a28:=Try.isAgg65
 z28:=Try.sizeOf65
 v28:=Try.zeroValue65
 i26:=by kernel_rfl }
def Try.keysA_ren:Go.Shelf.Ren:=⟨fun | 10=>43 | n=>n,fun | 33=>71 | 23=>58 | 0=>0 | 4=>4 | 26=>3 | 3=>3 | n=>n,fun | n=>n⟩
theorem Try.keysA:Go.Proofs.SlLaysZI.n10 Try.prog Try.keysA_ren:={
 mixed:=by kernel_rfl
 f10:=⟨Try.f43.name,by decide,Try.func43.trans (congrArg some (by kernel_rfl))⟩
 t0:=Try.underlying0
 a0:=Try.isAgg0
 z0:=Try.sizeOf0
 v0:=Try.zeroValue0
 t4:=Try.underlying4
 a4:=Try.isAgg4
 z4:=Try.sizeOf4
 v4:=Try.zeroValue4
 t23:=Try.underlying58
 a23:=Try.isAgg58
 z23:=Try.sizeOf58
 v23:=Try.zeroValue58
 t26:=Try.underlying3
 a26:=Try.isAgg3
 z26:=Try.sizeOf3
 v26:=Try.zeroValue3
 t33:=Try.underlying71
 a33:=Try.isAgg71
 z33:=Try.sizeOf71
 v33:=Try.zeroValue71 }
end Go.Proofs
namespace Go.Proofs.Ytpghcnpheabbgaa
open Go.RowKit Go.Maps Go.Sort Go.Shelf
set_option linter.unusedSimpArgs false
set_option linter.unusedVariables false
section
variable {es:Array MapEntry} {cn:Nat} {m:List (Int×Int)}
theorem VU (hm:Yz (Value.int .i64) es cn m):es.toList.map (fun e=>(e.key,e.val))=m.map fun p=>(Value.int .i64 p.1,Value.int .i64 p.2):=by
 have:=hm.ps
 rw[List.map_map] at this
 exact this
theorem WW (hm:Yz (Value.int .i64) es cn m) {e:MapEntry} (he:e∈es.toList): ∃p∈m,e.key= .int .i64 p.1∧e.val= .int .i64 p.2:=by
 have h1:(e.key,e.val)∈es.toList.map (fun e=>(e.key,e.val)):=List.mem_map.2 ⟨e,he,rfl⟩
 rw[VU hm] at h1
 obtain ⟨p,hp,h2⟩:=List.mem_map.1 h1;injection h2 with h2 h3
 exact ⟨p,hp,h2.symm,h3.symm⟩
theorem QbN (hm:Yz (Value.int .i64) es cn m) {p:Int×Int} (hp:p∈m): ∃e∈es.toList,e.key= .int .i64 p.1∧e.val= .int .i64 p.2:=by
 have h1:(Value.int .i64 p.1,Value.int .i64 p.2)∈m.map fun p=>(Value.int .i64 p.1,Value.int .i64 p.2):=List.mem_map.2 ⟨p,hp,rfl⟩
 rw[←VU hm] at h1
 obtain ⟨e,he,h2⟩:=List.mem_map.1 h1;injection h2 with h2 h3
 exact ⟨e,he,h2,h3⟩
theorem QbL {n:Int} (hw:wfI .i64 n):keyOf Try.prog 3 (.int .i64 n)=some (.int .i64 n):=by
 have:(Lit.int .i64 n).wf=true:=hw
 simp[keyOf,mapKey,Try.underlying3,this]
theorem QbT {H:Type} {e:MapEntry} {p:Int×Int} (hk:e.key= .int .i64 p.1) (hv:e.val= .int .i64 p.2) (h1:wfI .i64 p.1) (h2:wfI .i64 p.2) :
  WideElems.rd Try.prog 3 (plainElem (H:=H) Try.prog 3) e=some (.int .i64 p.1,.lit (.int .i64 p.2)):=by
 obtain ⟨k,v,b⟩:=e
 simp only at hk hv
 subst hk hv;have:=plainElem_int (H:=H) Try.underlying3 (a:=p.2) h2;exact WideElems.rd_mk (QbL h1) this
theorem Qb1 {H:Type} (hm:Yz (Value.int .i64) es cn m) (hw:wfM m):WideElems.Fit Try.prog 3 (plainElem (H:=H) Try.prog 3) es cn:=by
 refine ⟨?_,(MapKept.stamped_iff es cn).2 ⟨hm.lt,hm.born,?_⟩,fun e he=> ?_⟩
 ·have h1:=Yz.size hm;have h2:=hw.1;unfold maxLen;omega
 ·have h1:(es.toList.map (·.key))=m.map fun p=>Value.int .i64 p.1:=by
   have:=congrArg (List.map Prod.fst) (VU hm)
   simpa [List.map_map,Function.comp_def] using this
  have h2:(es.toList.map (·.key)).Nodup:=by
   rw[h1]
   have h3:(m.map (·.1)).Nodup:=by
    have:=hm.nd
    simpa [List.map_map,Function.comp_def] using this
   have h4:(m.map fun p=>Value.int .i64 p.1)=(m.map (·.1)).map (Value.int .i64):=by simp[List.map_map,Function.comp_def]
   rw[h4]
   exact List.pairwise_map.2 (h3.imp fun hne e=>hne (by injection e))
  exact List.pairwise_map.1 h2
 ·obtain ⟨p,hp,hk,hv⟩:=WW hm he;exact ⟨_,QbT hk hv (hw.2 p hp).1 (hw.2 p hp).2⟩
end
section
variable {es:Array MapEntry} {cn:Nat} {m:List (Int×Int)} {H:Type}
noncomputable abbrev rgI (H:Type):=WideElems.rg (H:=H) Try.prog 3 (plainElem Try.prog 3)
noncomputable abbrev Vi (H:Type) (es:Array MapEntry):DataW H:= .map ((es.toList.map (rgI H)).foldr DataW.insert [])
theorem QcB (hm:Yz (Value.int .i64) es cn m) (hw:wfM m) {x:Int} (hx:x∈_root_.Go.intKeys (Vi H es)): ∃v,(x,v)∈m:=by
 obtain ⟨q,hq,rfl⟩:=List.mem_map.1 hx;obtain ⟨e,he,rfl⟩:=List.mem_map.1 (mem_sorted.1 hq);obtain ⟨p,hp,hk,hv⟩:=WW hm he;have hr:rgI H e=(.int .i64 p.1,.lit (.int .i64 p.2)):=WideElems.rg_of (QbT hk hv (hw.2 p hp).1 (hw.2 p hp).2);refine ⟨p.2,?_⟩;have:_root_.Go.intOf (rgI H e).1=p.1:=by rw[hr];rfl
 rw[this]
 exact hp
theorem QcC (hm:Yz (Value.int .i64) es cn m) (hw:wfM m) {p:Int×Int} (hp:p∈m):p.1∈_root_.Go.intKeys (Vi H es):=by
 obtain ⟨e,he,hk,hv⟩:=QbN hm hp;have hr:rgI H e=(.int .i64 p.1,.lit (.int .i64 p.2)):=WideElems.rg_of (QbT hk hv (hw.2 p hp).1 (hw.2 p hp).2);have hmem:rgI H e∈es.toList.map (rgI H):=List.mem_map.2 ⟨e,he,rfl⟩;refine List.mem_map.2 ⟨rgI H e,mem_sorted.2 hmem,?_⟩
 rw[hr];rfl
theorem VZ (hm:Yz (Value.int .i64) es cn m) (hw:wfM m):(_root_.Go.intKeys (Vi H es)).Nodup:=by
 have h1:((es.toList.map (rgI H)).foldr DataW.insert []).Pairwise (fun p q=>p.1≠q.1):=List.Pairwise.imp (fun {a b} hab (e:a.1=b.1)=>by rw[e,Go.WideShapes.before_irrefl] at hab;cases hab) (Go.WideShapes.rising_pairwise _ (Maps.fit_rising (int_keyed Try.underlying3) (Qb1 (H:=H) hm hw)));have hk: ∀p∈((es.toList.map (rgI H)).foldr DataW.insert []),∃x,p.1= .int .i64 x:=by
  intro p hp;obtain ⟨e,he,rfl⟩:=List.mem_map.1 (mem_sorted.1 hp);obtain ⟨q,hq,hk,hv⟩:=WW hm he;have hr:rgI H e=(.int .i64 q.1,.lit (.int .i64 q.2)):=WideElems.rg_of (QbT hk hv (hw.2 q hq).1 (hw.2 q hq).2);exact ⟨q.1,by rw[hr]⟩
 show (((es.toList.map (rgI H)).foldr DataW.insert []).map fun p=>_root_.Go.intOf p.1).Nodup
 refine List.pairwise_map.2 (h1.imp_of_mem fun {p q} hp' hq' hne e=>hne ?_);obtain ⟨a,ha⟩:=hk p hp';obtain ⟨b,hb⟩:=hk q hq'
 rw[ha,hb] at e ⊢
 exact congrArg _ e
theorem QaD (hm:Yz (Value.int .i64) es cn m) (hw:wfM m):(_root_.Go.intKeys (Vi H es)).Perm (m.map (·.1)):=by
 have hnd:(m.map (·.1)).Nodup:=by
  have:=hm.nd
  simpa [List.map_map,Function.comp_def] using this
 refine (List.perm_ext_iff_of_nodup (VZ hm hw) hnd).2 fun x=>⟨fun hx=> ?_,fun hx=> ?_⟩
 ·obtain ⟨v,hv⟩:=QcB (H:=H) hm hw hx;exact List.mem_map.2 ⟨_,hv,rfl⟩
 ·obtain ⟨p,hp,rfl⟩:=List.mem_map.1 hx;exact QcC hm hw hp
theorem Wr {a b:List Int} (h:a.Perm b):J8 a=J8 b :=
 sorted_unique ((Zw a).trans (h.trans (Zw b).symm)) (YS a) (YS b)
end
theorem QcI (n:Nat):AnyZI.SortsIn Try.prog Try.sortedA_ren Fence.wide n :=
 ⟨fun blk off cap ss W hH hblk hsz=>callsIn_wide.2 (Try.slices_Sort_int blk off cap ss W hH hblk hsz),fun p cap W=>callsIn_wide.2 (Try.slices_Sort_int_none p cap W)⟩
theorem WE {w w':World} {μ:Gh} {L:List Seg} (hw:Inv w μ L) (h:Below w.heap.size w w'):Inv w' μ L :=
 ⟨h.os.trans hw.os,h.output.trans hw.out,h.tape.trans hw.tape,fun b o hb=>by have h6:=hw.mem b o hb;rw[h.block b (QG h6)];exact h6,
  fun c hc=>by have h6:=hw.own c hc;rw[h.block c.1 (QG h6)];exact h6,hw.sep,hw.nd⟩
theorem QbK {w w':World} {μ:Gh} {L:List Seg} (hw:Inv w μ L) (h:Below w.heap.size w w') {g:Nat} {o:Obj} (hg:w.heap.size≤g) (ho:w'.heap[g]? =some o):Inv w' μ ([(g,o)]::L):=by
 have hi:=WE hw h;refine ⟨hi.os,hi.out,hi.tape,hi.mem,fun c hc=> ?_,fun c hc=> ?_,?_⟩
 ·simp only[List.flatten_cons,List.singleton_append,List.mem_cons] at hc
  rcases hc with rfl | hc
  ·exact ho
  ·exact hi.own c hc
 ·simp only[List.flatten_cons,List.singleton_append,List.mem_cons] at hc
  rcases hc with rfl | hc
  ·cases hm:μ.mem g with
   | none=>rfl
   | some o'=>have:=QG (hw.mem g o' hm);omega
  ·exact hi.sep c hc
 ·simp only[List.flatten_cons,List.singleton_append,List.map_cons,List.nodup_cons]
  refine ⟨fun hc=> ?_,hi.nd⟩;obtain ⟨c,hc,e⟩:=List.mem_map.1 hc;have:=QG (hw.own c hc)
  omega
theorem Ws {μ:Gh} {L:List Seg} {R:Value→Gh→List Seg→Prop} {b g cn:Nat} {es:Array MapEntry} {m:List (Int×Int)} {ys:List Int} (i j:Nat)
  (hi:L[i]? =some [(b,.cells #[.map (some g)] 58 (0,0))]) (hj:L[j]? =some [(g,.map es cn)]) (hm:Yz (Value.int .i64) es cn m) (hs:Qbf m=some ys)
  (hR: ∀(A:Option Addr) (c:Nat) (ch:Seg),Own QaL 3 μ (.slice A ys.length c) ys ch→R (.slice A ys.length c) μ (ch::L)) :
  Fn Try.prog 35 [.func (.func 43) #[] #[.pointer (some ⟨b,0,none⟩)]] μ L R:=by
 unfold Qbf at hs
 split at hs
 case isFalse=>cases hs
 rename_i hwf
 injection hs with hs
 refine .inl ⟨⟨Try.f35,Try.func35,by kernel_rfl,rfl⟩,fun w hw=> ?_⟩;have hb:w.heap[b]? =some (.cells #[.map (some g)] 58 (0,0)):=hw.own (b,_) (List.mem_flatten.2 ⟨_,List.mem_of_getElem? hi,by simp⟩);have hg:w.heap[g]? =some (.map es cn):=hw.own (g,_) (List.mem_flatten.2 ⟨_,List.mem_of_getElem? hj,by simp⟩);have hown:w.ownsMap Try.prog 3 (plainElem (H:=Unit) Try.prog 3) g es.size (Vi Unit es):=⟨es,cn,hg,Qb1 hm hwf,Nat.le_refl _,rfl⟩
 have hsz:Maps.size (Vi Unit es)=m.length:=by rw[←Yz.size hm];simp[Maps.size,length_sorted]
 have hml:=hwf.1;have hseq:=AnyZI.keys_gives Try.keysA Fence.wide 2 trivial rfl (by omega) b g es.size (Vi Unit es) w (QG hb) (cell_of_box_a hb).1 hown;have cS:=AnyZI.sorted_in Try.sortedA Fence.wide 5 trivial trivial trivial trivial rfl (by omega) (QcI _) (enters_of Try.func42 (by kernel_rfl) rfl) 43 #[.pointer (some ⟨b,0,none⟩)] trivial (enters_of Try.func43 (by kernel_rfl) rfl) _ (Maps.size (Vi Unit es)) (by rw[hsz];unfold maxLen;omega) (by rw[hsz];omega) w hseq
 change CallsIn _ _ Try.prog 35 _ _ _ at cS
 refine ((callsIn_wide (n:=5)).1 cS).mono ?_;rintro e' w' ⟨v,ss,rfl,hps,hrow,hnil,hbel⟩;have hys:ss.mergeSort (fun x y=>decide (x≤y))=ys:=by rw[Qbd,Wr (hps.trans (QaD hm hwf)),hs]
 rw[hys] at hrow
 have hlen:ss.length=ys.length:=by rw[←hys,List.length_mergeSort]
 rw[hlen] at hrow
 rcases hrow.2 with ⟨rfl,hz⟩ | ⟨gb,cap,cur,rfl,hbase,hgb,r1,r2,r3,r4⟩
 ·have hy0:ys=[]:=List.eq_nil_of_length_eq_zero hz;subst hy0;have hi2:=WE hw hbel;exact ⟨_,μ,[]::L,rfl,Gh.le.refl _,hi2.perm (by simp),hR none 0 [] Own.nil⟩
 ·refine ⟨_,μ,_,rfl,Gh.le.refl _,QbK hw hbel hbase hgb,hR _ _ _ ⟨ys.map fun x=>[Value.int .i64 x],⟨?_,.inr ⟨gb,cap,cur,?_,rfl,?_,r2,?_,?_⟩⟩,?_⟩⟩
  ·intro cs hc;obtain ⟨x,_,rfl⟩:=List.mem_map.1 hc
   rfl
  ·simp
  ·simpa using r1
  ·exact r3
  ·rw[WY,List.length_map]
   have:QaL.sz=1:=rfl
   rw[this]
   exact r4
  ·refine ⟨by simp,fun j x y hx hy=> ?_⟩
   rw[List.getElem?_map,hx] at hy
   simp only[Option.map_some,Option.some.injEq] at hy
   exact hy.symm
set_option linter.unusedSimpArgs false
set_option linter.unusedVariables false
attribute [local irreducible] WP QJ YR Fn AN Upd vcR vcO ZR QP QQ YO YT ZH Zb ZG Yf
theorem Qbe {μ:Gh} {L:List Seg} {R:Value→Gh→List Seg→Prop} {g:Nat}
  (hR: ∀b,R (.func (.func 43) #[] #[.pointer (some ⟨b,0,none⟩)]) μ ([(b,.cells #[.map (some g)] 58 (0,0))]::L)):Fn Try.prog 36 [.map (some g)] μ L R:=by
 refine Fn.of_body Ym Try.func36 (by kernel_rfl) rfl Try.ntmps36 (by simp) ?_
 simp only[Try.f36,Ww,List.zipIdx,List.map,Nat.reduceAdd]
 repeat' first | (apply VL) | (apply Zr;exact rfl) | (apply WR) | ((first | (apply Z7;exact rfl));first | (apply Jl;exact rfl) | (apply Qa1;exact rfl;exact rfl)) | (apply QaW) | (apply WP.seq_k;intro K hK) | refine WP.region Ym ?_ | (apply WP.ret) | (apply Qa4) | (apply Qad;exact rfl) | (first | (apply QbY;exact rfl;(focus (simp only[YB,List.set_cons_zero,List.set_cons_succ,List.take_succ_cons,List.take_zero,List.drop_succ_cons,List.drop_zero,Value.cells,Nat.reduceAdd,Nat.reduceMul,Nat.zero_add,Nat.add_zero,List.toList_toArray,List.cons_append,List.nil_append,cyc];first | done | exact rfl));intro g)) | (fail) | (first | (refine hK _ _ _ ?_;clear hK K) | (clear hK K;refine hK _ _ _ ?_;clear hK K) | (clear hK K;clear hK K;refine hK _ _ _ ?_;clear hK K) | (clear hK K;clear hK K;clear hK K;refine hK _ _ _ ?_;clear hK K)) | intro g
 exact Upd.done (hR _)
end Go.Proofs.Ytpghcnpheabbgaa
namespace Go.Proofs
open Go.Shelf
def Try.mclA_ren:Go.Shelf.Ren:=⟨fun | 5=>32 | 7=>39 | n=>n,fun | 23=>58 | 25=>3 | 3=>3 | 4=>4 | 20=>20 | n=>n,fun | n=>n⟩
theorem Try.mclA:Go.Proofs.SlLaysW.n5 Try.prog Try.mclA_ren:={
 mixed:=by kernel_rfl
 f5:=⟨Try.f32.name,by decide,Try.func32.trans (congrArg some (by kernel_rfl))⟩
 f7:=Try.func39.trans (congrArg some (by kernel_rfl))
 t4:=Try.underlying4
 a4:=Try.isAgg4
 z4:=Try.sizeOf4
 v4:=Try.zeroValue4
 t20:=Try.underlying20
 a20:=Try.isAgg20
 z20:=Try.sizeOf20
 v20:=Try.zeroValue20
 t23:=Try.underlying58
 a23:=Try.isAgg58
 z23:=Try.sizeOf58
 v23:=Try.zeroValue58 }
end Go.Proofs
namespace Go.Proofs.Ytpghcnpheabbgaa
open Go.RowKit Go.Maps Go.Shelf
set_option linter.unusedSimpArgs false
set_option linter.unusedVariables false
theorem Vv {μ:Gh} {L:List Seg} {R:Value→Gh→List Seg→Prop} {g cn:Nat} {es:Array MapEntry} (i:Nat) (hi:L[i]? =some [(g,.map es cn)])
  (hR: ∀b,R (.map (some b)) μ ([(b,.map es cn)]::L)):Fn Try.prog 32 [.map (some g)] μ L R:=by
 refine .inl ⟨⟨Try.f32,Try.func32,by kernel_rfl,rfl⟩,fun w hw=> ?_⟩;have hg:w.heap[g]? =some (.map es cn):=hw.own (g,_) (List.mem_flatten.2 ⟨_,List.mem_of_getElem? hi,by simp⟩);have h:=AnyW.maps_Clone Try.mclA g es cn w hg
 change Calls Try.prog 32 _ _ _ at h
 refine h.mono ?_;rintro e w' ⟨rfl,rfl⟩;exact ⟨_,μ,_,rfl,Gh.le.refl _,hw.alloc _,hR _⟩
end Go.Proofs.Ytpghcnpheabbgaa
namespace Go.Proofs.Ytpghcnpheabbgaa
open Go.RowKit
set_option linter.unusedSimpArgs false
set_option linter.unusedVariables false
section
variable {α:Type} {r:Rp α} {e:TypeId} {μ μ' μb μ2:Gh} {L:List Seg} {A:Option Addr} {n c:Nat} {v:Value} {xs:List α} {ch:Seg}
def Wl (μb μ:Gh) (ch:Seg):Prop:= ∀q∈ch,μ.mem q.1=some q.2∧μb.mem q.1=none
theorem Wl.mono (h:Wl μb μ ch) (hm:μ.le μ'):Wl μb μ' ch:=fun q hq=>⟨hm.mem _ _ (h q hq).1,(h q hq).2⟩
theorem Wl.nil:Wl μb μ []:=fun q hq=>by cases hq
theorem Own.nodup (h:Own r e μ v xs ch):(ch.map (·.1)).Nodup:=by
 obtain ⟨css,h1,_⟩:=h;rcases h1.2 with ⟨_,_,rfl⟩ | ⟨g,cap,cur,_,rfl,_⟩<;>simp
theorem Upd.frzNew {K:Gh→List Seg→Prop} (hb:μb.le μ) (i:Nat) (hi:L[i]? =some ch) (h:Own r e μ v xs ch) (hk: ∀μ',μ.le μ'→Wl μb μ' ch→Upd μ' (L.set i []) K):Upd μ L K:=by
 refine Upd.know fun ⟨w,hw⟩=> ?_;have hs: ∀q∈ch,μ.mem q.1=none:=fun q hq=>hw.sep q (List.mem_flatten.2 ⟨ch,List.mem_of_getElem? hi,hq⟩);refine Upd.frzAt i hi fun hm=>hk _ hm fun q hq=>⟨Gh.add_at hq h.nodup,?_⟩
 cases hx:μb.mem q.1 with
 | none=>rfl
 | some o =>
  have:=hb.mem _ _ hx
  rw[hs q hq] at this
  cases this
def Gh.dels (μ:Gh) (ch:Seg):Gh:={ μ with mem:=fun b=>if b∈ch.map (·.1) then none else μ.mem b }
theorem Fn.thaw {f:FuncId} {fn:Func} {args:List Value} {R0 R:Value→Gh→List Seg→Prop} (hf:Try.prog.funcs[f]? =some fn) (hnm:(fn.name== "runtime.NumGoroutine")=false) (hb:fn.body.isNone=false)
  (h:Fn Try.prog f args μ L R0) (hk: ∀v μ' L',μ.le μ'→R0 v μ' L'→ ∃ch:Seg,(ch.map (·.1)).Nodup∧Wl μ μ' ch∧ ∀μ2,μ.le μ2→R v μ2 (ch::L')):Fn Try.prog f args μ L R:=by
 refine .inl ⟨⟨fn,hf,hnm,hb⟩,fun w hw=> ?_⟩;rcases h with ⟨_,h2⟩ | ⟨fn',_,hf',_,hb',_⟩
 ·refine (h2 w hw).mono fun _ w' ⟨v,μ',L',he,hm,hi,hR⟩=> ?_;obtain ⟨ch,hnd,hN,hR2⟩:=hk v μ' L' hm hR;have hle:μ.le (μ'.dels ch):=by
   refine ⟨fun b o hbo=> ?_,hm.os,hm.out,hm.tape⟩
   show (if b∈ch.map (·.1) then none else μ'.mem b)=some o
   rw[if_neg ?_]
   ·exact hm.mem b o hbo
   ·intro hmm;obtain ⟨q,hq,rfl⟩:=List.mem_map.1 hmm
    rw[(hN q hq).2] at hbo
    cases hbo
  refine ⟨v,μ'.dels ch,ch::L',he,hle,?_,hR2 _ hle⟩;refine ⟨hi.os,hi.out,hi.tape,fun b o hbo=> ?_,fun q hq=> ?_,fun q hq=> ?_,?_⟩
  ·change (if b∈ch.map (·.1) then none else μ'.mem b)=some o at hbo
   split at hbo
   ·cases hbo
   ·exact hi.mem b o hbo
  ·simp only[List.flatten_cons,List.mem_append] at hq
   rcases hq with hq | hq
   ·exact hi.mem _ _ (hN q hq).1
   ·exact hi.own q hq
  ·show (if q.1∈ch.map (·.1) then none else μ'.mem q.1)=none
   split
   ·rfl
   ·rename_i hn
    simp only[List.flatten_cons,List.mem_append] at hq
    rcases hq with hq | hq
    ·exact absurd (List.mem_map.2 ⟨q,hq,rfl⟩) hn
    ·exact hi.sep q hq
  ·simp only[List.flatten_cons,List.map_append,List.nodup_append]
   refine ⟨hnd,hi.nd,fun a ha b hb2 hab=> ?_⟩;obtain ⟨q,hq,rfl⟩:=List.mem_map.1 ha;obtain ⟨p,hp,rfl⟩:=List.mem_map.1 hb2;have h1:=hi.sep p hp
   rw[←hab,(hN q hq).1] at h1
   cases h1
 ·rw[hf] at hf'
  injection hf' with hf'
  subst hf'
  rw[hb] at hb';cases hb'
end
def QaM (eL:TypeId) (μb:Gh):Rp Qa where
 sz:=3
 rep μ x cs:= ∃(A:Option Addr) (c:Nat) (ch:Seg),cs=[.int .i64 x.ID,.int .i64 x.At,.slice A x.Lines.length c]∧Own Qh eL μb (.slice A x.Lines.length c) x.Lines ch∧Wl μb μ ch
 len:=by rintro μ x cs ⟨A,c,ch,rfl,_⟩;rfl
 mono:=by rintro μ μ' x cs hm ⟨A,c,ch,h,h1,h2⟩;exact ⟨A,c,ch,h,h1,h2.mono hm⟩
 one:=by rintro μ x cs ⟨A,c,ch,rfl,_⟩ u hu;simp only[List.mem_cons,List.not_mem_nil,or_false] at hu;rcases hu with rfl | rfl | rfl<;>rfl
theorem Own.line {μ μ':Gh} {e:TypeId} {v:Value} {xs:List Qb} {ch:Seg} (h:Own Qh e μ v xs ch):Own Qh e μ' v xs ch:=by
 obtain ⟨css,h1,h2⟩:=h;exact ⟨css,h1,h2.mono fun _ _ h=>h⟩
def Qcv (A:Option Addr) (c:Nat) (x:Qa):List Value:=[.int .i64 x.ID,.int .i64 x.At,.slice A x.Lines.length c]
def rAt (A:Option Addr) (c:Nat):Rp Qa:=Qb3 3 (Qcv A c) (fun _=>rfl) (by intro x u hu;simp only[Qcv,List.mem_cons,List.not_mem_nil,or_false] at hu;rcases hu with rfl | rfl | rfl<;>rfl)
set_option maxHeartbeats 2000000
set_option maxRecDepth 4000
attribute [local irreducible] WP QJ YR Fn AN Upd vcR vcO ZR QP QQ YO YT ZH Zb ZG Yf KS
variable {μ:Gh} {L:List Seg} {R:Value→Gh→List Seg→Prop}
theorem WV {μb:Gh} (hb:μb.le μ) {p1:Qa} {A1:Option Addr} {c1:Nat} {res1:Qa}
  (hl1:p1.Lines.length≤c1∧c1≤maxLen) (hA1:Rds Qh μ L A1 p1.Lines) (h:QN p1=some res1)
  (hR: ∀(μ':Gh) (A:Option Addr) (c:Nat) (ch:Seg),μ.le μ'→Own Qh 49 μb (.slice A res1.Lines.length c) res1.Lines ch→Wl μb μ' ch→R (.agg #[.int .i64 res1.ID,.int .i64 res1.At,.slice A res1.Lines.length c]) μ' (L)) :
  Fn Try.prog 34 [.agg #[.int .i64 p1.ID,.int .i64 p1.At,.slice A1 p1.Lines.length c1]] μ (L) R:=by
 unfold QN at h;refine FnS Try.func34 (by kernel_rfl) E Try.ntmps34 E E ?_;refine G0 2 E (Al E fun _=>Q0 0 E (Al E fun _=>Q1 5 [1] E (Cl E ?_)));obtain ⟨_,hs1,h⟩:=QE h;refine Qa7 (r:=Qh) Wx E E (Rds.push (Rds.push hA1)) hs1 fun A2 c2 ch2 hO1=>Q1 8 [2,2,1] E ?_;cases h;refine Rt [1] E E ?_;refine Upd.frzNew hb 0 E hO1 fun μ' hm hN=> ?_;exact (Ug [] 3 (hR μ' A2 c2 ch2 hm hO1.line hN))
theorem JW {l1:Qc} {pv1:Value} {so1:Seg} {res1:(List Qa)}
  (hP1:Qd μ pv1 l1 so1) (h:Qj l1=some res1)
  (hR: ∀(μ':Gh) (A0:Option Addr) (c0:Nat) (ch0:Seg),μ.le μ'→Own (QaM 49 μ) 24 μ' (.slice A0 res1.length c0) res1 ch0→R (.slice A0 res1.length c0) μ' (ch0::so1::L)) :
  Fn Try.prog 19 [pv1] μ (so1::L) R:=by
 unfold Qj at h;refine FnS Try.func19 (by kernel_rfl) E Try.ntmps19 E E ?_;obtain ⟨_,_,_,_,_,_,_,hv1,rfl,hO1,_⟩:=hP1;subst hv1;refine G0 6 E (In Qd.fl 0 3 E E E (G2 13 [] [7] [0] E (So E (QaV E E ?_))));obtain ⟨_,hn1,h⟩:=QE h;refine Qaq (r:=QaM 49 μ) (z:=(Qa.mk 0 0 [])) (zc:=[.int .i64 0,.int .i64 0,.slice none 0 0]) Ym E E E E E (⟨none,0,[],E,Own.nil,Wl.nil⟩) E hn1 fun A2 c2 ch2 hO2=>Q1 12 [1] E ?_;refine Cut h (fun f l o_ f_ μ_ l_=> ∃(out2:(List Qa)) (A8:Option Addr) (c8:Nat) (ch5:Seg),out2=o_∧Qs ((3,.slice A8 out2.length c8)::[]) f_∧Qg (ch5::Yp [] 1 l) l_∧Own (QaM 49 μ) 24 μ_ (.slice A8 out2.length c8) out2 ch5) ?_ ?_
 ·intro _ h768 h;refine Lp h768 (fun f l (j_:(List Qa)×Int) f_ μ_ l_=>QaI j_ fun out1 v1=> ∃(A3:Option Addr) (c3:Nat) (ch3:Seg),Qs ((3,.slice A3 out1.length c3)::(19,.int .i64 v1)::QU [17,18] f) f_∧Qg (ch3::Yp [some 2,some 1,some 3] 4 l) l_∧Own (QaM 49 μ) 24 μ_ (.slice A3 out1.length c3) out1 ch3) ⟨A2,c2,ch2,fE E,sE [some 0,some 2,some 1,some 3] 4 E,(hO2)⟩ ?_;rintro ⟨out1,v1⟩ _ _ _ _ hm783 ⟨A3,c3,ch3,hF783,hS783,hO3⟩ hb783 hq783;unfold Qp at hb783;replace hb783:=YE hb783;replace hO1:=hO1.mono hm783;refine Atn 4 hF783 hS783 E E (G0 5 E ?_);refine Br hb783 20 E E (fun hc1 hb783=> ?_) (fun hc1 hb783=> ?_)
  ·refine G2 7 [20] [] [] E (IxA hb783 (Own.rds hO1 1 E) E E fun _ _ _ _ hr1 hc2 _ hb783=> ?_);obtain ⟨_,_,rfl,hl1,hA2⟩:=hr1;refine Q3 1 [] [] [64] (Z1 hc2) E (Al E fun _=>Q1 7 [0,0] E (Cl E ?_));obtain ⟨r1,hx2,hb783⟩:=QE hb783;refine WV hm783 hl1 (Yt.rds hA2 _) hx2 (fun v2 A5 c5 ch6 hm_1 hO6 hN6=> ?_);replace hO3:=hO3.mono hm_1;refine Q0 0 E (IxA hb783 (Own.rds hO3 1 E) E E fun _ a2 _ hx3 hr2 _ hA4 hb783=> ?_);obtain ⟨_,_,_,rfl,_,_⟩:=hr2;refine Q0 0 E (So E (Y6 (vs:=[.int .i64 r1.ID,.int .i64 r1.At,.slice A5 r1.Lines.length c5]) E E E E E E ?_))
   rw[←Addr.add_zero' ((a2.add (v1.toNat*3)))]
   refine Own.store (μ:=v2) (r:=QaM 49 μ) (x':=r1) (o:=0) (sz:=3) 1 rfl hO3 hA4 hx3 rfl rfl (by rintro _ ⟨A7,c7,ch7,rfl,hl4,hA6⟩;exact ⟨A5,c5,ch6,rfl,hO6,hN6⟩) fun ch4 hO4=> ?_
   rw[←Y8 out1 v1 r1] at hO4 ⊢
   refine Q0 6 E ?_;cases hb783;exact Ce E ⟨_,rfl,A3,c3,ch4,fE E,sE [some 1,some 2,some 3,some 4] 5 E,(hO4)⟩
  refine G2 2 [] [20] [] E ?_;cases hb783;have hq_:=hq783 _ E;subst hq_;exact Ce E ⟨_,A3,c3,ch3,rfl,fE E,sE [some 0,some 2,some 1,some 3] 4 E,(hO3)⟩
 rintro _ _ _ _ h hm768 ⟨out2,A8,c8,ch5,rfl,hF768,hS768,hO5⟩;refine Atn 4 hF768 hS768 E E (G0 5 E ?_);cases h;exact Rt [] E E (Ug [[0],[1,2,3]] 4 (hR _ A8 c8 ch5 hm768 hO5))
theorem Jk {l1:Qc} {pv1:Value} {so1:Seg} {res1:(List Qa)} {row:Qa}
  (hP1:Qd μ pv1 l1 so1) (h:Qj l1=some res1) (h1:QaG res1=some row)
  (hR: ∀(μ2:Gh) (A:Option Addr) (c:Nat) (ch:Seg) (A0:Option Addr) (c0:Nat) (ch0:Seg),μ.le μ2→Own (rAt A0 c0) 24 μ2 (.slice A [row].length c) [row] ch→Own Qh 49 μ2 (.slice A0 row.Lines.length c0) row.Lines ch0→R (.slice A [row].length c) μ2 (ch0::ch::so1::L)) :
  Fn Try.prog 19 [pv1] μ (so1::L) R:=by
 obtain rfl:=QaH h1;refine Fn.thaw Try.func19 (by kernel_rfl) rfl (JW (R:=fun v μ' L'=> ∃(A:Option Addr) (c:Nat) (ch:Seg),v= .slice A [row].length c∧Own (QaM 49 μ) 24 μ' v [row] ch∧L'=ch::so1::L) hP1 h (fun μ' A c ch hm hO=>⟨A,c,ch,rfl,hO,rfl⟩)) ?_;rintro v μ' L' hm ⟨A,c,ch,rfl,⟨css,o1,o2⟩,rfl⟩;obtain ⟨cs,rfl⟩: ∃cs,css=[cs]:=by
  have hl:=o2.1
  match css,hl with
  | [cs],_=>exact ⟨cs,rfl⟩
 obtain ⟨A0,c0,ch0,rfl,hO0,hN⟩:=o2.2 0 row cs rfl rfl;exact ⟨ch0,hO0.nodup,hN,fun μ2 hm2=>hR μ2 A c ch A0 c0 ch0 hm2 ⟨[Qcv A0 c0 row],o1,Qq.cons rfl Qq.nil⟩ hO0.line⟩
end Go.Proofs.Ytpghcnpheabbgaa
