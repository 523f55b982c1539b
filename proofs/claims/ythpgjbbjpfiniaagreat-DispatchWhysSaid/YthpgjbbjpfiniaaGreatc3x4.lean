/- DispatchWhys: for every input the given law returns true, and its arguments read as before. No condition. -/
import Derived.Test.YthpgjbbjpfiniaaGreatc3x1
import Derived.Test.YthpgjbbjpfiniaaGreatc3x2
namespace Go.Proofs.YthpgjbbjpfiniaaGreat
open Go.RowKit
set_option linter.unusedSimpArgs false
set_option linter.unusedVariables false
attribute [local irreducible] WP Zt Qap Fn AN Upd vcR vcO Qcq Jp Z8 QaL Qbc Qci Qa5 Ws Qct Qz
theorem Qlt {μ:Gh} {L:List Seg} {A:Option Addr} {n c:Nat} {css:List (List Value)} (hr:Rd μ L A 1 css) (hn:css.length=n) (h1: ∀cs∈css,∀u∈cs,u.oneCell'=true) (hb:n≤1000000)
  {R:Value→Gh→List Seg→Prop} (hR: ∀v ch,VK 3 1 v css ch→R v μ (ch::L)):Fn Tryz.prog 115 [.slice A n c] μ L R:=by
 refine Fn.of_body QU Tryz.func115 (by kernel_rfl) rfl Tryz.ntmps115 (by simp) ?_
 simp only[Tryz.f115,Qmm,List.zipIdx,List.map,Nat.reduceAdd]
 repeat' first | (apply QnB) | (apply QP;exact rfl) | (apply ZF) | ((first | (apply VA;exact rfl));first | (apply QA;exact rfl) | (apply Qce;exact rfl) | (apply QnD;exact rfl;exact rfl;all_goals (intro h;try (exfalso;omega))) | (apply QiS;exact rfl;exact rfl) | (apply Qli;exact rfl;exact rfl;exact rfl;exact rfl) | (apply Qlj;exact rfl;exact rfl;exact rfl;exact rfl) | (apply QpB;exact rfl;exact rfl;exact rfl;exact rfl;all_goals (intro h)) | (apply QnC;exact rfl;exact rfl;exact rfl;exact rfl;all_goals (intro h))) | (apply QpA) | (apply YM) | (apply QR;exact rfl;exact rfl;exact rfl;(focus (simp only[Qbh,List.set_cons_zero,List.set_cons_succ,List.take_succ_cons,List.take_zero,List.drop_succ_cons,List.drop_zero,Value.cells,Nat.reduceAdd,Nat.reduceMul,Nat.zero_add,Nat.add_zero,List.toList_toArray,List.cons_append,List.nil_append,cyc];first | done | exact rfl))) | (apply WP.seq_k;intro K hK) | refine WP.region QU ?_ | (apply QfE;exact rfl) | (apply QfD;exact rfl) | (apply Qkb;exact rfl;all_goals (intro h)) | (apply WP.skip) | (apply WP.ret) | (apply QpF) | (apply QnJ;exact rfl) | (first | (apply Zs;exact rfl;exact rfl;exact rfl;exact rfl;exact rfl;exact rfl;(focus (simp only[Qbh,List.set_cons_zero,List.set_cons_succ,List.take_succ_cons,List.take_zero,List.drop_succ_cons,List.drop_zero,Value.cells,Nat.reduceAdd,Nat.reduceMul,Nat.zero_add,Nat.add_zero,List.toList_toArray,List.cons_append,List.nil_append,cyc];first | done | exact rfl))) | (apply Yo;exact rfl)) | (fail) | (first | (refine hK _ _ _ ?_;clear hK K) | (clear hK K;refine hK _ _ _ ?_;clear hK K) | (clear hK K;clear hK K;refine hK _ _ _ ?_;clear hK K) | (clear hK K;clear hK K;clear hK K;refine hK _ _ _ ?_;clear hK K)) | intro g
 ·subst h;obtain rfl:css=[]:=by
   cases css with
   | nil=>rfl
   | cons a r=>obtain ⟨a,ha,_⟩:=hr.2 (by simp);cases ha
  exact Upd.know fun ⟨w,hw⟩=>Upd.sub (L':=[]::L) (by simp) (Upd.done (hR _ _ VK.nil))
 ·refine QmM QU rfl rfl rfl rfl (by decide) 0 rfl (css:=[]) ⟨by simp,.inr ⟨g,0, #[],rfl,rfl,by simp,by simp[maxLen],by simp,by simp⟩⟩ hn hr.cons h1 (by simp;omega) (by simp;omega) fun v' ch' hv _=> ?_
  repeat' first | (apply QnB) | (apply QP;exact rfl) | (apply ZF) | ((first | (apply VA;exact rfl));first | (apply QA;exact rfl) | (apply Qce;exact rfl) | (apply QnD;exact rfl;exact rfl;all_goals (intro h;try (exfalso;omega))) | (apply QiS;exact rfl;exact rfl) | (apply Qli;exact rfl;exact rfl;exact rfl;exact rfl) | (apply Qlj;exact rfl;exact rfl;exact rfl;exact rfl) | (apply QpB;exact rfl;exact rfl;exact rfl;exact rfl;all_goals (intro h)) | (apply QnC;exact rfl;exact rfl;exact rfl;exact rfl;all_goals (intro h))) | (apply QpA) | (apply YM) | (apply QR;exact rfl;exact rfl;exact rfl;(focus (simp only[Qbh,List.set_cons_zero,List.set_cons_succ,List.take_succ_cons,List.take_zero,List.drop_succ_cons,List.drop_zero,Value.cells,Nat.reduceAdd,Nat.reduceMul,Nat.zero_add,Nat.add_zero,List.toList_toArray,List.cons_append,List.nil_append,cyc];first | done | exact rfl))) | (apply WP.seq_k;intro K hK) | refine WP.region QU ?_ | (apply QfE;exact rfl) | (apply QfD;exact rfl) | (apply Qkb;exact rfl;all_goals (intro h)) | (apply WP.skip) | (apply WP.ret) | (apply QpF) | (apply QnJ;exact rfl) | (first | (apply Zs;exact rfl;exact rfl;exact rfl;exact rfl;exact rfl;exact rfl;(focus (simp only[Qbh,List.set_cons_zero,List.set_cons_succ,List.take_succ_cons,List.take_zero,List.drop_succ_cons,List.drop_zero,Value.cells,Nat.reduceAdd,Nat.reduceMul,Nat.zero_add,Nat.add_zero,List.toList_toArray,List.cons_append,List.nil_append,cyc];first | done | exact rfl))) | (apply Yo;exact rfl)) | (fail) | (first | (refine hK _ _ _ ?_;clear hK K) | (clear hK K;refine hK _ _ _ ?_;clear hK K) | (clear hK K;clear hK K;refine hK _ _ _ ?_;clear hK K) | (clear hK K;clear hK K;clear hK K;refine hK _ _ _ ?_;clear hK K)) | intro g
  rw[List.nil_append] at hv
  exact Upd.done (hR _ _ hv)
end Go.Proofs.YthpgjbbjpfiniaaGreat
namespace Go.Proofs.YthpgjbbjpfiniaaGreat
open Go.RowKit
set_option linter.unusedSimpArgs false
set_option linter.unusedVariables false
section
variable {P:Program} {ops:Array Oper} {Q:Exit→Act→World→Prop} {S S0:World→Prop} {b:List Nat}
def Qkd (P:Program) (ops:Array Oper) (Q:Exit→Act→World→Prop) (S S0:World→Prop) (b:List Nat):Nat→Array Bool→Act→World→Prop
 | 0,listed,a,w=>Region.ready .any ops listed=[]∧Q .normal a w
 | fuel+1,listed,a,w=>(Region.ready .any ops listed=[]→Q .normal a w) ∧
  ∀i∈Region.ready .any ops listed,wpOp P ops Q i (fun a' w'=>S0 w'∧(i∉b→S w→S w')∧Qkd P ops Q S S0 b fuel (listed.setIfInBounds i true) a' w') a w
theorem Qkh: ∀(fuel:Nat) (listed:Array Bool) (a:Act) (w:World),Qkd P ops Q S S0 b fuel listed a w→wpAny P .any ops Q fuel listed a w
 | 0,_,_,_,h=>h
 | fuel+1,_,_,_,h=>⟨h.1,fun i hi=>wpOp_mono (fun a' w' h'=>Qkh fuel _ a' w' h'.2.2) (h.2 i hi)⟩
def QaW (ops:Array Oper) (l:Array Bool):Prop:= ∀j oj,ops[j]? =some oj→l.getD j false=true→ ∀e∈oj.after,Region.binds .any e=true→l.getD e.on false=true
theorem QaW.start (n:Nat):QaW ops (List.replicate n false).toArray:=by
 intro j oj _ h;rcases Nat.lt_or_ge j n with h' | h'<;>simp[h'] at h
theorem QaW.set {l:Array Bool} {i:Nat} (h:QaW ops l) (hr:i∈Region.ready .any ops l):QaW ops (l.setIfInBounds i true):=by
 intro j oj hj hl e he hb
 by_cases hij:i=j
 ·subst hij;obtain ⟨_,o,ho,hall⟩:=mem_ready.1 hr
  rw[hj] at ho;injection ho with ho;subst ho
  exact getD_set_true (hall e he hb)
 ·rw[getD_set_ne false hij] at hl
  exact getD_set_true (h j oj hj hl e he hb)
def QaY (ops:Array Oper) (b i:Nat):Prop:= ∀l:Array Bool,QaW ops l→(∃ob,ops[b]? =some ob∧ ∀e∈ob.after,Region.binds .any e=true→l.getD e.on false=true)→l.getD i false=true
theorem QaY.trans {d c i:Nat} {oc:Oper} (h1:QaY ops d c) (hc:ops[c]? =some oc) (h2:QaY ops c i):QaY ops d i:=fun l hl hd=>by
 have h3:=h1 l hl hd;exact h2 l hl ⟨oc,hc,fun e he hb=>hl c oc hc h3 e he hb⟩
theorem Qfa {Sx:World→Prop} {i:Nat} {oi:Oper} {v:Value} (hi:ops[i]? =some oi) (hsel: ∀(j:Nat) (o:Oper) cs c,ops[j]? =some o→o.op≠ .select cs c)
  (hQ: ∀c a w,Q (.panic c) (a.put oi.dst v) w→Q (.panic c) a w) (hb:(∀w,S0 w→Sx w)∨(Sx=S∧ ∀d∈b,QaY ops d i)) :
  ∀(fuel:Nat) (listed:Array Bool) (a:Act) (w:World),
   (∀j oj,ops[j]? =some oj→j≠i→listed.getD j true=false→(∀e∈oj.after,Region.binds .any e=true→e.on≠i)→oi.apart ops oj=true) →
   i∈Region.ready .any ops listed→QaW ops listed→YieldsIf P ops Sx oi v a→S0 w→Sx w →
   Qkd P ops Q S S0 b fuel (listed.setIfInBounds i true) (a.put oi.dst v) w→Qkd P ops Q S S0 b (fuel+1) listed a w:=by
 intro fuel
 induction fuel with
 | zero =>
  intro listed a w _ hr _ hy hS0 hS H;refine ⟨fun h=>(by rw[h] at hr;cases hr),fun j hj=> ?_⟩
  by_cases hji:j=i
  ·subst hji;exact hy.wpOp hi hS ⟨hS0,fun _ h=>h,H⟩
  ·have:=ready_mono hj hji
   rw[H.1] at this
   cases this
 | succ fuel ih =>
  intro listed a w hfree hr hcl hy hS0 hS H;refine ⟨fun h=>(by rw[h] at hr;cases hr),fun j hj=> ?_⟩
  by_cases hji:j=i
  ·subst hji;exact hy.wpOp hi hS ⟨hS0,fun _ h=>h,H⟩
  ·have h1:=H.2 j (ready_mono hj hji);obtain ⟨hjun,oj,hoj,hall⟩:=mem_ready.1 hj;have hnot: ∀e∈oj.after,Region.binds .any e=true→e.on≠i:=fun e he hb heq=>by
    have h1:=hall e he hb;have h0:=(mem_ready.1 hr).1
    rw[heq] at h1
    rcases Nat.lt_or_ge i listed.size with h' | h'
    ·simp[h'] at h0 h1;rw[h0] at h1;cases h1
    ·simp[Array.getElem?_eq_none h'] at h1
   have hSx: ∀w',S0 w'→(j∉b→S w→S w')→Sx w':=fun w' q0 q1=>by
    rcases hb with hb | ⟨rfl,hb⟩
    ·exact hb w' q0
    ·refine q1 (fun hjm=> ?_) hS;have h3:=hb j hjm listed hcl ⟨oj,hoj,hall⟩;have h0:=(mem_ready.1 hr).1;rcases Nat.lt_or_ge i listed.size with h' | h'
     ·simp[h'] at h0 h3;rw[h0] at h3;cases h3
     ·simp[Array.getElem?_eq_none h'] at h3
   have h2:=wpOp_putIf hoj (hfree j oj hoj hji hjun hnot) (fun cs c=>hsel i oi cs c hi) (fun cs c=>hsel j oj cs c hoj) hQ hy h1;have hfree': ∀k ok,ops[k]? =some ok→k≠i→(listed.setIfInBounds j true).getD k true=false →
     (∀e∈ok.after,Region.binds .any e=true→e.on≠i)→oi.apart ops ok=true:=fun k ok hk hki hun hno=>by
    refine hfree k ok hk hki ?_ hno
    by_cases hjk:j=k
    ·subst hjk;exact hjun
    ·rw[getD_set_ne true hjk] at hun;exact hun
   refine wpOp_mono (fun a' w' h3=>⟨h3.2.1,h3.2.2.1,ih (listed.setIfInBounds j true) a' w' hfree' (ready_mono hr (Ne.symm hji)) (hcl.set hj) h3.1 h3.2.1 (hSx w' h3.2.1 h3.2.2.1) ?_⟩) h2
   rw[Array.setIfInBounds_comm _ _ hji]
   exact h3.2.2.2
end
def Qoy:Op→Bool
 | .load _ _ | .lookup _ _ _ _ | .call _=>false
 | _=>true
theorem Qo0 {P:Program} {T:TT} {o:Op} {fr:Fr} {μ μ':Gh} {L L':List Seg} {k:Value→Prop} (hp:Qoy o=true) (h:vcR P T o fr μ L k):vcR P T o fr μ' L' k:=by
 cases o<;>first | exact h | cases hp
def QhG (ops:List Oper) (b i:Nat):Bool:=match Vt ops b with
 | some o=>o.after.toList.any fun e=>Region.binds .any e&&e.on==i
 | none=>false
def QgC (ops:List Oper):Nat→List Nat→Nat→Bool
 | b,[],i=>QhG ops b i
 | b,k::r,i=>QhG ops b k&&QgC ops k r i
theorem Qdq {ops:List Oper} {b i:Nat} (h:QhG ops b i=true): ∃ob,ops.toArray[b]? =some ob∧ ∃e∈ob.after,Region.binds .any e=true∧e.on=i:=by
 unfold QhG at h
 rw[Qck] at h
 cases hob:ops[b]? with
 | none=>rw[hob] at h;cases h
 | some ob =>
  rw[hob] at h
  simp only[List.any_eq_true,Bool.and_eq_true,beq_iff_eq] at h
  obtain ⟨e,h10,h11,h12⟩:=h;exact ⟨ob,by simpa using hob,e,by simpa using h10,h11,h12⟩
theorem QeF {ops:List Oper}: ∀{p:List Nat} {b i:Nat} (_:QgC ops b p i=true),QaY ops.toArray b i
 | [],b,i,h,l,hc,⟨ob,h1,h2⟩=>by
  obtain ⟨ob',h3,e,h4,h5,h6⟩:=Qdq h
  rw[h1] at h3;injection h3 with h3;subst h3
  rw[←h6];exact h2 e h4 h5
 | k::r,b,i,h,l,hc,⟨ob,h1,h2⟩=>by
  unfold QgC at h
  rw[Bool.and_eq_true] at h
  obtain ⟨ob',h3,e,h4,h5,h6⟩:=Qdq h.1
  rw[h1] at h3;injection h3 with h3;subst h3
  have hk:l.getD k false=true:=by rw[←h6];exact h2 e h4 h5
  have hok: ∃ok,ops.toArray[k]? =some ok:=by
   cases r with
   | nil=>obtain ⟨o,h7,_⟩:=Qdq (show QhG ops k i=true from h.2);exact ⟨o,h7⟩
   | cons k' r'=>obtain ⟨o,h7,_⟩:=Qdq (Bool.and_eq_true _ _▸(show (QhG ops k k'&&QgC ops k' r' i)=true from h.2):QhG ops k k'=true∧_).1;exact ⟨o,h7⟩
  obtain ⟨ok,h7⟩:=hok;exact QeF h.2 l hc ⟨ok,h7,fun e he hb=>hc k ok h7 hk e he hb⟩
def Qop (ps:List (Nat×List Nat)) (i:Nat):List Nat:=match ps with
 | []=>[]
 | p::r=>bif p.1==i then p.2 else Qop r i
def Qev (ops:List Oper) (ps:List (Nat×List Nat)) (b:Nat):List (Bool×Nat)→List Bool→Option (List Bool)
 | [],l=>some l
 | p::r,l=>match (match p.1 with
   | true=>Region.free .any ops.toArray l.toArray p.2&&(Region.ready .any ops.toArray l.toArray).contains p.2&&((match Vt ops p.2 with | some o=>Qoy o.op | none=>false)||QgC ops b (Qop ps p.2) p.2)
   | false=>Region.ready .any ops.toArray l.toArray==[p.2]) with
  | true=>Qev ops ps b r (l.set p.2 true)
  | false=>none
def QkE (ops:List Oper) (ps:List (Nat×List Nat)) (b:Nat):List Nat→Bool
 | []=>true
 | d::r=>QgC ops d (Qop ps d) b&&QkE ops ps b r
def Qfv (ops:List Oper):List Nat→List Bool→Bool
 | [],l=>Region.ready .any ops.toArray l.toArray==[]
 | i::r,l=>(Region.ready .any ops.toArray l.toArray==[i])&&Qfv ops r (l.set i true)
section
variable {P:Program} {T:TT} {N:NN} {ops:List Oper} {μ0:Gh} {keep:List Seg} {K:Yh} {fr:Fr} {μ:Gh} {L:List Seg} {fuel:Nat} {listed:List Bool} {b:Nat} {ds:List Nat} {ps:List (Nat×List Nat)}
def ANB (P:Program) (N:NN) (ops:List Oper) (μ0:Gh) (keep:List Seg) (ds:List Nat) (fuel:Nat) (listed:List Bool) (K:Yh) (fr:Fr) (μ:Gh) (L:List Seg):Prop :=
 μ0.le μ→Qz keep L→ ∀(a:Act) (w:World) (Q:Exit→Act→World→Prop),Agr N fr a→Inv w μ L →
  (∀fr' μ' L' a' w',μ.le μ'→Agr N fr' a'→Inv w' μ' L'→K fr' μ' L'→Q .normal a' w') →
  (∀c a d v w,Q (.panic c) (Act.put a d v) w→Q (.panic c) a w)→Qkd P ops.toArray Q (fun w=>Vy w μ0 keep) (fun w=>Vy w μ0 []) ds fuel listed.toArray a w
def Qk4 (P:Program) (T:TT) (N:NN) (ops:List Oper):List Nat→Yh→Yh
 | [],K=>K
 | i::r,K=>fun fr μ L=> ∃o,Vt ops i=some o∧o.guard=none∧vcO P T o.op o.type fr μ L fun v μ' L'=>Z8 N o.dst v fr fun fr'=>Qk4 P T N ops r K fr' μ' L'
theorem Qd1 {dst:Option Tmp} {op:Op} {ty:TypeId} {pos:String} {aft:Array Edge} {r:List Nat} (hi:Vt ops b=some ⟨dst,op,ty,pos,aft,none⟩) (h:vcO P T op ty fr μ L fun v μ' L'=>Z8 N dst v fr fun fr'=>Qk4 P T N ops r K fr' μ' L'):Qk4 P T N ops (b::r) K fr μ L :=
 ⟨_,hi,rfl,h⟩
theorem Qc6 {dst:Option Tmp} {op:Op} {ty:TypeId} {pos:String} {aft:Array Edge} (hi:Vt ops b=some ⟨dst,op,ty,pos,aft,none⟩) (h:vcO P T op ty fr μ L fun v μ' L'=>Z8 N dst v fr fun fr'=>K fr' μ' L'):Qk4 P T N ops [b] K fr μ L :=
 ⟨_,hi,rfl,h⟩
theorem Qke {S:World→Prop} {μ0:Gh} {Q:Exit→Act→World→Prop} (hT:TOk P T): ∀(r:List Nat) (listed:List Bool) (_: ∀i∈r,i∈ds) (_:Qfv ops r listed=true) {fr:Fr} {μ:Gh} {L:List Seg} (_:Qk4 P T N ops r K fr μ L) (_:μ0.le μ) (a:Act) (w:World) (_:Agr N fr a) (_:Inv w μ L)
  (_: ∀fr' μ' L' a' w',μ.le μ'→Agr N fr' a'→Inv w' μ' L'→K fr' μ' L'→Q .normal a' w'),Qkd P ops.toArray Q S (fun w=>Vy w μ0 []) ds r.length listed.toArray a w
 | [],listed,_,hs,fr,μ,L,h,hm,a,w,ha,hw,hQ=>by
  simp only[Qfv,beq_iff_eq] at hs
  exact ⟨hs,hQ fr μ L a w (Gh.le.refl _) ha hw h⟩
 | i::r,listed,hd,hs,fr,μ,L,h,hm,a,w,ha,hw,hQ=>by
  simp only[Qfv,Bool.and_eq_true,beq_iff_eq] at hs
  obtain ⟨hr,hs⟩:=hs;obtain ⟨o,ho,hg,h⟩:=h
  rw[Qck] at ho
  have ho':ops.toArray[i]? =some o:=by simpa using ho
  refine ⟨fun h0=>absurd (hr▸h0) (by simp),fun j hj=> ?_⟩
  rw[hr] at hj
  have hj':j=i:=by simpa using hj
  subst hj';unfold wpOp
  rw[ho']
  simp only
  have hwt:Region.wanted o (yielded ops.toArray a.tmps)=true:=by unfold Region.wanted;rw[hg]
  rw[if_pos hwt]
  refine .inl (Qbw hT ha h hw fun v μ' L' w' hm' hw' hv=> ?_);obtain ⟨fr',hv',ha'⟩:=Zr ha hv;refine ⟨Wv (hm.trans hm') Qz.nil hw',fun hne=>absurd (hd j (by simp)) hne,?_⟩
  rw[ZV]
  exact Qke hT r _ (fun k hk=>hd k (by simp[hk])) hs hv' (hm.trans hm') _ _ ha' hw' fun fr2 μ2 L2 a2 w2 h2=>hQ fr2 μ2 L2 a2 w2 (hm'.trans h2)
theorem Qh5: ∀{r:List Nat} (_:QkE ops ps b r=true),∀d∈r,QaY ops.toArray d b
 | c::r,h,d,hd=>by
  simp only[QkE,Bool.and_eq_true] at h
  rcases List.mem_cons.1 hd with rfl | hd
  ·exact QeF h.1
  ·exact Qh5 h.2 d hd
theorem ANB.steps (hT:TOk P T) (hs:Region.noSelect ops.toArray=true) {listed':List Bool} {r0:List Nat} (hsr:Qfv ops (b::r0) listed'=true) (hlt:QkE ops ps b r0=true) :
  ∀(plan:List (Bool×Nat)) (listed:List Bool) (_:Qev ops ps b plan listed=some listed') (_:QaW ops.toArray listed.toArray) {fr:Fr} {μ:Gh} {L:List Seg}
  (_:Jp P T N ops μ0 keep plan fr μ L (Qk4 P T N ops (b::r0) K)),ANB P N ops μ0 keep (b::r0) ((b::r0).length+plan.length) listed K fr μ L
 | [],listed,hp,_,fr,μ,L,h=>by
  simp only[Qev,Option.some.injEq] at hp
  subst hp;intro hm hk a w Q ha hw hQ hQp;exact Qke hT (b::r0) _ (fun i hi=>hi) hsr h hm a w ha hw hQ
 | (q,i)::r,listed,hp,hcl,fr,μ,L,h=>by
  intro hm hk a w Qx ha hw hQ hQp;unfold Qev at hp
  split at hp
  ·rename_i hc
   unfold Jp at h
   simp only[Qck] at h hc
   cases ho:ops[i]? with
   | none=>rw[ho] at h;exact h.elim
   | some o =>
    rw[ho] at h
    have ho':ops.toArray[i]? =some o:=by simpa using ho
    show Qkd P ops.toArray Qx _ _ (b::r0) (((b::r0).length+r.length)+1) listed.toArray a w
    cases q with
    | true =>
     simp only[Bool.and_eq_true,Bool.or_eq_true,ho] at h hc
     have hri:i∈Region.ready .any ops.toArray listed.toArray:=by simpa using hc.1.2
     have hcl2:QaW ops.toArray (listed.set i true).toArray:=by rw[←ZV];exact hcl.set hri
     have hcont: ∀v,Z8 N o.dst v fr (fun fr'=>Jp P T N ops μ0 keep r fr' μ L (Qk4 P T N ops (b::r0) K)) →
       Qkd P ops.toArray Qx (fun w=>Vy w μ0 keep) (fun w=>Vy w μ0 []) (b::r0) ((b::r0).length+r.length) (listed.toArray.setIfInBounds i true) (a.put o.dst v) w:=by
      intro v hv;obtain ⟨fr',hv',ha'⟩:=Zr ha hv
      rw[ZV]
      exact ANB.steps hT hs hsr hlt r _ hp hcl2 hv' hm hk _ w Qx ha' hw hQ hQp
     have h00:Vy w μ0 []:=Wv hm Qz.nil hw;rcases WL ha h with ⟨hg,h⟩ | ⟨hg,h⟩
     ·rcases hc.2 with hpu | hwt
      ·obtain ⟨v,hv,hrun⟩:=Qdl hT ha (Qo0 (μ':=μ0) (L':=[]) hpu h);exact Qfa (Sx:=fun w=>Vy w μ0 []) ho' (Region.noSelect_spec hs) (fun c a w h=>hQp c a _ _ w h) (.inl fun _ h=>h) _ _ a w (Region.free_spec ho' hc.1.1) hri hcl (.inl ⟨hg,fun w hw=>hrun w hw⟩) h00 h00 (hcont v hv)
      ·have hw0:QaY ops.toArray b i:=QeF hwt;have hwb: ∀d∈b::r0,QaY ops.toArray d i:=fun d hd=>by
        rcases List.mem_cons.1 hd with rfl | hd
        ·exact hw0
        ·simp only[Qfv,Bool.and_eq_true,beq_iff_eq] at hsr
         obtain ⟨_,ob,hob,_⟩:=mem_ready.1 (show b∈Region.ready .any ops.toArray listed'.toArray by rw[hsr.1];simp);exact (Qh5 hlt d hd).trans hob hw0
       obtain ⟨v,hv,hrun⟩:=Qdl hT ha h;exact Qfa (Sx:=fun w=>Vy w μ0 keep) ho' (Region.noSelect_spec hs) (fun c a w h=>hQp c a _ _ w h) (.inr ⟨rfl,hwb⟩) _ _ a w (Region.free_spec ho' hc.1.1) hri hcl (.inl ⟨hg,fun w hw=>hrun w hw⟩) h00 (Wv hm hk hw) (hcont v hv)
     ·exact Qfa (Sx:=fun w=>Vy w μ0 []) ho' (Region.noSelect_spec hs) (fun c a w h=>hQp c a _ _ w h) (.inl fun _ h=>h) _ _ a w (Region.free_spec ho' hc.1.1) hri hcl (.inr ⟨hg,rfl⟩) h00 h00 (hcont undef h)
    | false =>
     simp only[beq_iff_eq] at h hc
     refine ⟨fun h0=>absurd (hc▸h0) (by simp),fun j hj=> ?_⟩
     rw[hc] at hj
     have hj':j=i:=by simpa using hj
     subst hj';have hcl2:QaW ops.toArray (listed.set j true).toArray:=by rw[←ZV];exact hcl.set (by rw[hc];simp)
     unfold wpOp
     rw[ho']
     simp only
     rcases WL ha h with ⟨hg,h⟩ | ⟨hg,h⟩
     ·rw[if_pos hg]
      refine .inl (Qbw hT ha h hw fun v μ' L' w' hm' hw' hv=> ?_);obtain ⟨fr',hv',ha'⟩:=Zr ha hv.2;refine ⟨Wv (hm.trans hm') Qz.nil hw',fun _ _=>Wv (hm.trans hm') hv.1 hw',?_⟩
      rw[ZV]
      exact ANB.steps hT hs hsr hlt r _ hp hcl2 hv' (hm.trans hm') hv.1 _ w' Qx ha' hw' (fun fr2 μ2 L2 a2 w2 h2=>hQ fr2 μ2 L2 a2 w2 (hm'.trans h2)) hQp
     ·rw[if_neg (by rw[hg];exact Bool.false_ne_true)]
      obtain ⟨fr',hv',ha'⟩:=Zr ha h;refine ⟨Wv hm Qz.nil hw,fun _ h=>h,?_⟩
      rw[ZV]
      exact ANB.steps hT hs hsr hlt r _ hp hcl2 hv' hm hk _ w Qx ha' hw hQ hQp
  ·cases hp
theorem WP.drawB {B:Nat→Yh} {R:Yh} (hx:P.follows .mixedOrders=true) (hT:TOk P T) {id:Nat} (keep:List Seg) (hk:Qz keep L) (b:Nat) (ps:List (Nat×List Nat)) (plan:List (Bool×Nat)) {l':List Bool}
  (hs:Region.noSelect ops.toArray=true) (hp:Qev ops ps b plan (List.replicate ops.length false)=some l') (r0:List Nat) (hl:plan.length+(b::r0).length=ops.length)
  (hsr:Qfv ops (b::r0) l'=true) (hlt:QkE ops ps b r0=true)
  (h:Jp P T N ops μ keep plan fr μ L (Qk4 P T N ops (b::r0) K)) (hnd:N.rd=none∨Qen ops=true:=by first | exact .inl rfl | exact .inr (by kernel_rfl)):WP P N (.region id ops.toArray true) K B R fr μ L:=by
 intro a w ha hw;refine Qjg hx hnd QfU (Qkh (S:=fun w=>Vy w μ keep) (S0:=fun w=>Vy w μ []) (b:=b::r0) _ _ _ _ ?_);have e1:ops.toArray.size=(b::r0).length+plan.length:=by simp at hl ⊢;omega
 have e2:Array.replicate ((b::r0).length+plan.length) false=(List.replicate ops.length false).toArray:=by simp at hl ⊢;omega
 rw[e1,e2]
 exact ANB.steps hT hs hsr hlt plan _ hp (QaW.start _) h (Gh.le.refl _) hk a _ _ ha hw.drew (fun fr' μ' L' a' w' hm ha' hw' hk'=>⟨fr',μ',L',ha',hm,hw',hk'⟩) (fun _ _ _ _ _ h=>h)
end
theorem E.{u} {α:Sort u} {a:α}:a=a:=rfl
section
variable {P:Program} {T:TT} {N:NN} {ops r:List Oper} {dst:Option Tmp} {op:Op} {ty:TypeId} {pos:String} {aft:Array Edge} {K:Yh} {d:Tmp} {fr:Fr} {μ:Gh} {L:List Seg} {v:Value}
theorem Pt {μ0:Gh} {keep:List Seg} {pl:List (Bool×Nat)} {i:Nat} (hd:Nat.blt d N.n=true) (hi:Vt ops i=some ⟨dst,op,ty,pos,aft,none⟩) (h:vcR P T op ((d,v)::fr) μ0 keep fun u=>Z8 N dst u ((d,v)::fr) fun fr'=>Jp P T N ops μ0 keep pl fr' μ L K) :
  Z8 N (some d) v fr fun fr'=>Jp P T N ops μ0 keep ((true,i)::pl) fr' μ L K:=QP hd (Vx hi h)
end
end Go.Proofs.YthpgjbbjpfiniaaGreat
namespace Go.Proofs.YthpgjbbjpfiniaaGreat
open Go.RowKit
set_option linter.unusedSimpArgs false
set_option linter.unusedVariables false
def Qaq (P:Program) (N:NN) (all rest:List Oper) (K:Yh):Yh:=fun fr μ L=> ∀(a:Act) (w:World) (Q:Exit→Act→World→Prop),Agr N fr a→Inv w μ L →
 (∀fr' μ' L' a' w',μ.le μ'→Agr N fr' a'→Inv w' μ' L'→K fr' μ' L'→Q .normal a' w')→wpListIn (fw N.rd) 0 P all.toArray Q rest a w
def Qeu (all:List Oper) (plan:List (Bool×Nat)) (l:List Bool):Bool:=match VD all plan l with
 | some l'=>(Region.ready .any all.toArray l'.toArray).isEmpty
 | none=>false
def QdW (P:Program) (N:NN) (all:List Oper) (l:List Bool) (plan:List (Bool×Nat)) (μ0:Gh) (keep:List Seg) (K:Yh):Yh:=fun fr μ L =>
 Region.noSelect all.toArray=true→Qeu all plan l=true→AN P N all μ0 keep plan.length l K fr μ L
def Qgf (P:Program) (N:NN) (all:List Oper) (l:List Bool) (plan:List (Bool×Nat)) (n:Nat) (l':List Bool) (μ0:Gh) (keep:List Seg) (K:Yh):Yh:=fun fr μ L =>
 Region.noSelect all.toArray=true→VD all plan l=some l'→AN P N all μ0 keep (n+plan.length) l K fr μ L
inductive MIt where
 | code (c:Code)
 | blk (i:Nat)
 | ops (all rest:List Oper)
 | pln (all:List Oper) (l:List Bool) (plan:List (Bool×Nat)) (μ0:Gh) (keep:List Seg)
 | plp (all:List Oper) (l:List Bool) (plan:List (Bool×Nat)) (n:Nat) (l':List Bool) (μ0:Gh) (keep:List Seg)
 | cut (M:Yh)
def KEn (N:NN) (K:Yh):Yh:=fun fr μ L=> ∀a w,Agr N fr a→Inv w μ L→ ∃fr' μ' L',Agr N fr' a∧μ.le μ'∧Inv w μ' L'∧K fr' μ' L'
section
variable (P:Program) (N:NN) (R:Yh)
def KB:List MIt→Yh×(Nat→Yh)
 | []=>(KEn N R,fun _ _ _ _=>False)
 | .code c::s=>(fun fr μ L=>WP P N c (KB s).1 (KB s).2 (KEn N R) fr μ L,(KB s).2)
 | .blk i::s=>((KB s).1,Qci i (KB s).1 (KB s).2)
 | .ops all rest::s=>(Qaq P N all rest (KB s).1,(KB s).2)
 | .pln all l plan μ0 keep::s=>(QdW P N all l plan μ0 keep (KB s).1,(KB s).2)
 | .plp all l plan n l' μ0 keep::s=>(Qgf P N all l plan n l' μ0 keep (KB s).1,(KB s).2)
 | .cut M::s=>(M,(KB s).2)
def KS (s:List MIt):Yh:=(KB P N R s).1
def BS (s:List MIt):Nat→Yh:=(KB P N R s).2
end
section
variable {P:Program} {T:TT} {N:NN} {R K:Yh} {fr:Fr} {μ:Gh} {L:List Seg} {all rest:List Oper} {o:Oper} {l l':List Bool} {plan:List (Bool×Nat)} {μ0:Gh} {keep:List Seg} {i n:Nat}
theorem KEn.done (h:K fr μ L):KEn N K fr μ L:=fun _ _ ha hw=>⟨fr,μ,L,ha,Gh.le.refl _,hw,h⟩
theorem Qaq.nil (h:K fr μ L):Qaq P N all [] K fr μ L:=fun a w Q ha hw hQ=>hQ fr μ L a w (Gh.le.refl _) ha hw h
theorem Qaq.cons (hT:TOk P T) (h:Wo all fr o.guard (vcO P T o.op o.type fr μ L fun v μ' L'=>Z8 N o.dst v fr fun fr'=>Qaq P N all rest K fr' μ' L') (Z8 N o.dst undef fr fun fr'=>Qaq P N all rest K fr' μ L)) :
  Qaq P N all (o::rest) K fr μ L:=by
 intro a w Q ha hw hQ;refine wpListIn_step fun K' hK'=> ?_;rcases WL ha h with ⟨hg,h⟩ | ⟨hg,h⟩
 ·rw[if_pos hg]
  refine Qqo (QgT h) (Qbw hT ha h hw fun v μ' L' w' hm hw' hk=> ?_);obtain ⟨fr',hk,ha'⟩:=Zr ha hk;exact hK' _ _ (hk _ w' Q ha' hw' fun fr2 μ2 L2 a2 w2 hm2=>hQ fr2 μ2 L2 a2 w2 (hm.trans hm2))
 ·rw[if_neg (by rw[hg];exact Bool.false_ne_true)]
  refine ⟨fun _ _=>trivial,?_⟩;obtain ⟨fr',hk,ha'⟩:=Zr ha h;exact hK' _ _ (hk _ w Q ha' hw hQ)
theorem WP.regionS {B:Nat→Yh} {id:Nat} (h:Qaq P N all all K fr μ L):WP P N (.region id all.toArray false) K B R fr μ L:=fun a w ha hw =>
 wpIn_region_lit (h a w _ ha hw fun fr' μ' L' a' w' hm ha' hw' hk=>⟨fr',μ',L',ha',hm,hw',hk⟩)
theorem AN.one (hT:TOk P T) (hs:Region.noSelect all.toArray=true) {b:Bool} {m:Nat} {X:Yh} (hX: ∀fr μ L,X fr μ L→AN P N all μ0 keep m (l.set i true) K fr μ L) (hp:VD all ((b,i)::plan) l=some l') (ho:Vt all i=some o)
  (h:(match b with
   | true=>Wo all fr o.guard (vcR P T o.op fr μ0 keep fun v=>Z8 N o.dst v fr fun fr'=>X fr' μ L) (Z8 N o.dst undef fr fun fr'=>X fr' μ L)
   | false=>Wo all fr o.guard (vcO P T o.op o.type fr μ L fun v μ' L'=>Qz keep L'∧Z8 N o.dst v fr fun fr'=>X fr' μ' L') (Z8 N o.dst undef fr fun fr'=>X fr' μ L))) :
  AN P N all μ0 keep (m+1) l K fr μ L:=by
 intro hm hk a w Qx ha hw hQ hQp;unfold VD at hp
 split at hp
 ·rename_i hc
  rw[Qck] at ho
  have ho':all.toArray[i]? =some o:=by simpa using ho
  show wpAnyH P .any all.toArray Qx _ (m+1) l.toArray a w
  cases b with
  | true =>
   simp only[Bool.and_eq_true] at h hc
   have hcont: ∀v,Z8 N o.dst v fr (fun fr'=>X fr' μ L)→wpAnyH P .any all.toArray Qx (fun w=>Vy w μ0 keep) m (l.toArray.setIfInBounds i true) (a.put o.dst v) w:=by
    intro v hv;obtain ⟨fr',hv',ha'⟩:=Zr ha hv
    rw[ZV]
    exact hX _ _ _ hv' hm hk _ w Qx ha' hw hQ hQp
   rcases WL ha h with ⟨hg,h⟩ | ⟨hg,h⟩
   ·obtain ⟨v,hv,hrun⟩:=Qdl hT ha h;exact wpAnyH_take ho' hs hc.1 hc.2 (fun c a w h=>hQp c a _ _ w h) (.inl ⟨hg,fun w hw=>hrun w hw⟩) (Wv hm hk hw) (hcont v hv)
   ·exact wpAnyH_take ho' hs hc.1 hc.2 (fun c a w h=>hQp c a _ _ w h) (.inr ⟨hg,rfl⟩) (Wv hm hk hw) (hcont undef h)
  | false =>
   simp only[beq_iff_eq] at h hc
   refine wpAnyH_all hc (by simp) fun j hj=> ?_;have hj':j=i:=by simpa using hj
   subst hj';unfold wpOp
   rw[ho']
   simp only
   rcases WL ha h with ⟨hg,h⟩ | ⟨hg,h⟩
   ·rw[if_pos hg]
    refine .inl (Qbw hT ha h hw fun v μ' L' w' hm' hw' hv=> ?_);obtain ⟨fr',hv',ha'⟩:=Zr ha hv.2;refine ⟨Wv (hm.trans hm') hv.1 hw',?_⟩
    rw[ZV]
    exact hX _ _ _ hv' (hm.trans hm') hv.1 _ w' Qx ha' hw' (fun fr2 μ2 L2 a2 w2 h2=>hQ fr2 μ2 L2 a2 w2 (hm'.trans h2)) hQp
   ·rw[if_neg (by rw[hg];exact Bool.false_ne_true)]
    obtain ⟨fr',hv',ha'⟩:=Zr ha h;refine ⟨Wv hm hk hw,?_⟩
    rw[ZV]
    exact hX _ _ _ hv' hm hk _ w Qx ha' hw hQ hQp
 ·cases hp
theorem QdB {b:Bool} (hp:VD all ((b,i)::plan) l=some l'):VD all plan (l.set i true)=some l':=by
 unfold VD at hp
 split at hp
 ·exact hp
 ·cases hp
theorem QdA (h:Qeu all plan l=true): ∃l',VD all plan l=some l'∧Region.ready .any all.toArray l'.toArray=[]:=by
 unfold Qeu at h
 split at h
 ·exact ⟨_,by assumption,by simpa using h⟩
 ·cases h
theorem QgQ {b:Bool} (h:Qeu all ((b,i)::plan) l=true):Qeu all plan (l.set i true)=true:=by
 obtain ⟨l',h1,h2⟩:=QdA h;unfold Qeu
 rw[QdB h1]
 simp only[h2];rfl
theorem QdW.nil (h:K fr μ L):QdW P N all l [] μ0 keep K fr μ L:=by
 intro _ hp;obtain ⟨l',h1,h2⟩:=QdA hp
 simp only[VD,Option.some.injEq] at h1
 subst h1;exact AN.done h2 h
theorem QdW.t (hT:TOk P T) (ho:Vt all i=some o) (h:Wo all fr o.guard (vcR P T o.op fr μ0 keep fun v=>Z8 N o.dst v fr fun fr'=>QdW P N all (l.set i true) plan μ0 keep K fr' μ L) (Z8 N o.dst undef fr fun fr'=>QdW P N all (l.set i true) plan μ0 keep K fr' μ L)) :
  QdW P N all l ((true,i)::plan) μ0 keep K fr μ L:=by
 intro hs hp;have hp2:=QgQ hp;obtain ⟨l',h1,_⟩:=QdA hp;exact AN.one (b:=true) hT hs (fun _ _ _ h=>h hs hp2) h1 ho h
theorem QdW.f (hT:TOk P T) (ho:Vt all i=some o) (h:Wo all fr o.guard (vcO P T o.op o.type fr μ L fun v μ' L'=>Qz keep L'∧Z8 N o.dst v fr fun fr'=>QdW P N all (l.set i true) plan μ0 keep K fr' μ' L') (Z8 N o.dst undef fr fun fr'=>QdW P N all (l.set i true) plan μ0 keep K fr' μ L)) :
  QdW P N all l ((false,i)::plan) μ0 keep K fr μ L:=by
 intro hs hp;have hp2:=QgQ hp;obtain ⟨l',h1,_⟩:=QdA hp;exact AN.one (b:=false) hT hs (fun _ _ _ h=>h hs hp2) h1 ho h
theorem Qgf.t {l1:List Bool} (hT:TOk P T) (ho:Vt all i=some o) (h:Wo all fr o.guard (vcR P T o.op fr μ0 keep fun v=>Z8 N o.dst v fr fun fr'=>Qgf P N all (l.set i true) plan n l1 μ0 keep K fr' μ L) (Z8 N o.dst undef fr fun fr'=>Qgf P N all (l.set i true) plan n l1 μ0 keep K fr' μ L)) :
  Qgf P N all l ((true,i)::plan) n l1 μ0 keep K fr μ L:=by
 intro hs hp;exact AN.one (b:=true) hT hs (fun _ _ _ h=>h hs (QdB hp)) hp ho h
theorem Qgf.f {l1:List Bool} (hT:TOk P T) (ho:Vt all i=some o) (h:Wo all fr o.guard (vcO P T o.op o.type fr μ L fun v μ' L'=>Qz keep L'∧Z8 N o.dst v fr fun fr'=>Qgf P N all (l.set i true) plan n l1 μ0 keep K fr' μ' L') (Z8 N o.dst undef fr fun fr'=>Qgf P N all (l.set i true) plan n l1 μ0 keep K fr' μ L)) :
  Qgf P N all l ((false,i)::plan) n l1 μ0 keep K fr μ L:=by
 intro hs hp;exact AN.one (b:=false) hT hs (fun _ _ _ h=>h hs (QdB hp)) hp ho h
theorem WP.drawS {B:Nat→Yh} (hx:P.follows .mixedOrders=true) {id:Nat} (keep:List Seg) (hk:Qz keep L) (plan:List (Bool×Nat)) (hl:plan.length=all.length)
  (hs:Region.noSelect all.toArray=true) (hnd:Qen all=true) (hp:Qeu all plan (List.replicate all.length false)=true) (h:QdW P N all (List.replicate all.length false) plan μ keep K fr μ L):WP P N (.region id all.toArray true) K B R fr μ L :=
 WP.draw hx keep hk rfl (by rw[←hl];have:=h hs hp;rw[←hl] at this;exact this) (.inr hnd)
end
def QfZ (i:Nat):List MIt→Option (List MIt)
 | []=>none
 | .blk j::s=>bif Nat.beq i j then some s else QfZ i s
 | .code _::s=>QfZ i s
 | .ops _ _::s=>QfZ i s
 | .pln _ _ _ _ _::s=>QfZ i s
 | .plp _ _ _ _ _ _ _::s=>QfZ i s
 | .cut _::s=>QfZ i s
section
variable {P:Program} {N:NN} {R:Yh} {fr:Fr} {μ:Gh} {L:List Seg}
theorem Qaa {i:Nat}: ∀{s s':List MIt},QfZ i s=some s'→KS P N R s' fr μ L→BS P N R s i fr μ L
 | [],s',h,_=>by cases h
 | .blk j::s,s',h,hk=>by
  simp only[QfZ] at h
  show Qci j (KS P N R s) (BS P N R s) i fr μ L
  cases hb:Nat.beq i j with
  | true =>
   rw[hb] at h
   simp only[cond_true,Option.some.injEq] at h
   subst h
   simp only[Qci,if_pos (Nat.eq_of_beq_eq_true hb)];exact hk
  | false =>
   rw[hb] at h
   simp only[Qci,if_neg (Nat.ne_of_beq_eq_false hb)]
   exact Qaa (s:=s) h hk
 | .code _::s,s',h,hk=>Qaa (s:=s) h hk
 | .ops _ _::s,s',h,hk=>Qaa (s:=s) h hk
 | .pln _ _ _ _ _::s,s',h,hk=>Qaa (s:=s) h hk
 | .plp _ _ _ _ _ _ _::s,s',h,hk=>Qaa (s:=s) h hk
 | .cut _::s,s',h,hk=>Qaa (s:=s) h hk
end
inductive Out where
 | ok (s:List MIt) (fr:Fr) (L:List Seg) (a b:List Value)
 | bad
def evK (fr:Fr) (x:Operand) (k:Value→Out):Out:=match evV fr x with
 | some v=>k v
 | none=> .bad
def QnW (fr:Fr):List Operand→(List Value→Out)→Out
 | [],k=>k []
 | x::xs,k=>evK fr x fun v=>QnW fr xs fun vs=>k (v::vs)
def Qqg (fr:Fr):List (Nat×Operand)→(List (Nat×Value)→Out)→Out
 | [],k=>k []
 | x::xs,k=>evK fr x.2 fun v=>Qqg fr xs fun vs=>k ((x.1,v)::vs)
def Qk8:Nat→List Value→(List Value→Out)→Out
 | 0,_,k=>k []
 | _+1,[],_=> .bad
 | n+1,v::r,k=>Qk8 n r fun t=>k (v::t)
def Qks:Nat→List Value→(List Value→Out)→Out
 | 0,l,k=>k l
 | _+1,[],_=> .bad
 | n+1,_::r,k=>Qks n r k
def Qok:Nat→List Value→(Value→Out)→Out
 | _,[],_=> .bad
 | 0,v::_,k=>k v
 | n+1,_::r,k=>Qok n r k
def QoR:List Value→Nat→List Value→(List Value→Out)→Out
 | cs,_,[],k=>k cs
 | [],_,_::_,_=> .bad
 | c::r,0,v::vs,k=>QoR r 0 vs fun t=>k (v::t)
 | c::r,o+1,v::vs,k=>QoR r o (v::vs) fun t=>k (c::t)
def QjA (v:Value) (k:List Value→Out):Out:=match v with
 | .agg ⟨cs⟩=>k cs
 | .bool b=>k [.bool b]
 | .int kd n=>k [.int kd n]
 | .string s=>k [.string s]
 | .pointer a=>k [.pointer a]
 | .slice a n c=>k [.slice a n c]
 | .map r=>k [.map r]
 | .func f a b=>k [.func f a b]
 | .nilFunc=>k [.nilFunc]
 | _=> .bad
def QoP:IntKind→IntKind→Bool
 | .i8,.i8=>true | .i16,.i16=>true | .i32,.i32=>true | .i64,.i64=>true
 | .u8,.u8=>true | .u16,.u16=>true | .u32,.u32=>true | .u64,.u64=>true
 | _,_=>false
def Qh4 (x y:Value) (k:IntKind→Int→Int→Out):Out:=match x,y with
 | .int kd a,.int kd' b=>(match QoP kd kd' with | true=>k kd a b | false=> .bad)
 | _,_=> .bad
def QcZ (b:Bool) (x:Out):Out:=match b with | true=>x | false=> .bad
def tyK (T:TT) (t:TypeId) (k:TyI→Out):Out:=match T t with | some i=>k i | none=> .bad
def eqV (T:TT) (t:TypeId) (x y:Value) (k:Bool→Out):Out:=match x,y with
 | .int kd a,.int kd' b=>QcZ (QoP kd kd') (k (decide (a=b)))
 | .bool a,.bool b=>tyK T t fun i=>QcZ (QlF i.u) (k (a==b))
 | .pointer none,.pointer none=>tyK T t fun i=>QcZ (QgP i.u) (k true)
 | .pointer (some _),.pointer none=>tyK T t fun i=>QcZ (QgP i.u) (k false)
 | _,_=> .bad
def Qqc (T:TT) (op:BinOp) (t:TypeId) (x y:Value) (k:Value→Out):Out:=match op with
 | .add=>Qh4 x y fun kd a b=>k (.int kd (kd.wrap (a+b)))
 | .sub=>Qh4 x y fun kd a b=>k (.int kd (kd.wrap (a-b)))
 | .mul=>Qh4 x y fun kd a b=>k (.int kd (kd.wrap (a*b)))
 | .lss=>Qh4 x y fun kd a b=>k (.bool (decide (a<b)))
 | .leq=>Qh4 x y fun kd a b=>k (.bool (decide (a≤b)))
 | .gtr=>Qh4 x y fun kd a b=>k (.bool (decide (b<a)))
 | .geq=>Qh4 x y fun kd a b=>k (.bool (decide (b≤a)))
 | .eql=>eqV T t x y fun b=>k (.bool b)
 | .neq=>eqV T t x y fun b=>k (.bool !b)
 | _=> .bad
def Qmu (pl:Nat→Option (Nat×Nat)) (cells:List Value) (parts:List (Nat×Value)) (k:List Value→Out):Out:=match parts with
 | []=>k cells
 | p::r=>match pl p.1 with
  | some (q1,q2)=>QjA p.2 fun vs=>QcZ (Nat.beq vs.length q2) <| QcZ (Nat.blt 0 q2) (QoR cells q1 vs fun cells'=>Qmu pl cells' r k)
  | none=> .bad
def Qqh (T:TT) (s:TypeId) (f:Nat) (k:Nat→Nat→Bool→Out):Out:=tyK T s fun i=>QcZ (QcD i.u) (match i.flds[f]? with
 | some (some (q1,q2,q3))=>k q1 q2 q3
 | _=> .bad)
def opV (T:TT) (fr:Fr) (o:Op) (k:Value→Out):Out:=match o with
 | .move x=>evK fr x k
 | .assign x=>evK fr x k
 | .nilCheck x=>evK fr x fun v=>(match v with
  | .pointer (some a)=>k (.pointer (some a))
  | .func (.func f) fi ca=>k (.func (.func f) fi ca)
  | _=> .bad)
 | .binOp op t x y _=>evK fr x fun a=>evK fr y fun b=>Qqc T op t a b k
 | .unOp .not _ x=>evK fr x fun a=>(match a with | .bool b=>k (.bool !b) | _=> .bad)
 | .unOp .neg _ x=>evK fr x fun a=>(match a with | .int kd n=>k (.int kd (kd.wrap (0-n))) | _=> .bad)
 | .convert s d x=>evK fr x fun a=>(match a with
  | .int _ n=>tyK T s fun _=>tyK T d fun i=>(match i.u with | .int kd=>k (.int kd (kd.wrap n)) | _=> .bad)
  | _=> .bad)
 | .build t ps=>Qqg fr ps.toList fun vs=>tyK T t fun i=>QcZ (QcD i.u) (QcZ (i.flds.all (·.isSome)) (Qmu (Qor i) i.zero.cells.toList vs fun cs=>k (.agg ⟨cs⟩)))
 | .fieldAddr s x f=>evK fr x fun v=>(match v with
  | .pointer (some a)=>Qqh T s f fun q1 q2 _=>(match Nat.beq q2 0 with
   | false=>(match Nat.beq q1 0 with | true=>k (.pointer (some a)) | false=>k (.pointer (some (a.add q1))))
   | true=> .bad)
  | _=> .bad)
 | .field s x f=>evK fr x fun v=>(match v with
  | .agg ⟨cs⟩=>Qqh T s f fun q1 q2 q3=>(match q3 with
   | true=>Qks q1 cs fun d=>Qk8 q2 d fun vs=>k (.agg ⟨vs⟩)
   | false=>Qok q1 cs k)
  | _=> .bad)
 | .extract x i=>evK fr x fun v=>(match v with | .tuple ⟨vs⟩=>Qok i vs k | _=> .bad)
 | .makeFunc f fi ca=>QnW fr fi.toList fun a=>QnW fr ca.toList fun b=>k (.func f ⟨a⟩ ⟨b⟩)
 | .call ⟨.builtin b,args,tys⟩=>QnW fr args.toList fun vs=>(match b with
  | .len=>(match vs,tys.toList with
   | [.slice _ n _],[t]=>tyK T t fun i=>QcZ (Qef i.u) (k (.int .i64 n))
   | [.string s],[t]=>tyK T t fun i=>QcZ (Qqj i.u) (k (.int .i64 s.size))
   | _,_=> .bad)
  | .cap=>(match vs,tys.toList with
   | [.slice _ _ c],[t]=>tyK T t fun i=>QcZ (Qef i.u) (k (.int .i64 c))
   | _,_=> .bad)
  | .min=>(match vs with | [.int kd x,.int _ y]=>k (.int kd (min x y)) | _=> .bad)
  | .max=>(match vs with | [.int kd x,.int _ y]=>k (.int kd (max x y)) | _=> .bad)
  | _=> .bad)
 | _=> .bad
section
variable {fr:Fr} {o:Out}
theorem ZS {x:Operand} {k:Value→Out} (h:evK fr x k=o) (ho:o≠ .bad): ∃v,evV fr x=some v∧k v=o:=by
 unfold evK at h
 split at h
 ·exact ⟨_,by assumption,h⟩
 ·exact absurd h.symm ho
theorem QeK: ∀{xs:List Operand} {k:List Value→Out},QnW fr xs k=o→o≠ .bad→ ∃vs,QbW fr xs=some vs∧k vs=o
 | [],k,h,ho=>⟨[],rfl,h⟩
 | x::xs,k,h,ho=>by
  obtain ⟨v,h1,h2⟩:=ZS (x:=x) h ho;obtain ⟨vs,h3,h4⟩:=QeK h2 ho;exact ⟨v::vs,by simp only[QbW,h1,h3],h4⟩
theorem QiY: ∀{xs:List (Nat×Operand)} {k:List (Nat×Value)→Out},Qqg fr xs k=o→o≠ .bad→ ∃vs,QjE fr xs=some vs∧k vs=o
 | [],k,h,ho=>⟨[],rfl,h⟩
 | x::xs,k,h,ho=>by
  obtain ⟨v,h1,h2⟩:=ZS (x:=x.2) h ho;obtain ⟨vs,h3,h4⟩:=QiY h2 ho;exact ⟨(x.1,v)::vs,by simp only[QjE,h1,h3],h4⟩
theorem Qfw: ∀{n:Nat} {l:List Value} {k:List Value→Out},Qk8 n l k=o→o≠ .bad→k (l.take n)=o∧(l.take n).length=n
 | 0,l,k,h,_=>⟨by simpa [Qk8] using h,by simp⟩
 | n+1,[],k,h,ho=>absurd h.symm ho
 | n+1,v::r,k,h,ho=>by
  obtain ⟨h1,h2⟩:=Qfw (n:=n) (l:=r) h ho;exact ⟨by simpa using h1,by simpa using h2⟩
theorem Qfg: ∀{n:Nat} {l:List Value} {k:List Value→Out},Qks n l k=o→o≠ .bad→k (l.drop n)=o
 | 0,l,k,h,_=>by simpa [Qks] using h
 | n+1,[],k,h,ho=>absurd h.symm ho
 | n+1,v::r,k,h,ho=>by simpa using Qfg (n:=n) (l:=r) h ho
theorem QeN: ∀{n:Nat} {l:List Value} {k:Value→Out},Qok n l k=o→o≠ .bad→ ∃v,l[n]? =some v∧k v=o
 | n,[],k,h,ho=>absurd (by cases n<;>exact h.symm) ho
 | 0,v::r,k,h,ho=>⟨v,rfl,h⟩
 | n+1,v::r,k,h,ho=>by simpa using QeN (n:=n) (l:=r) h ho
theorem Qgw (c:Value): ∀(vs r:List Value) (o:Nat),Qbh (c::r) (o+1) vs=c::Qbh r o vs
 | [],r,o=>rfl
 | v::vs,r,o=>by simp only[Qbh,List.set_cons_succ];exact Qgw c vs _ (o+1)
theorem QeS: ∀{cs:List Value} {q:Nat} {vs:List Value} {k:List Value→Out},QoR cs q vs k=o→o≠ .bad→k (Qbh cs q vs)=o∧(vs≠[]→q+vs.length≤cs.length)
 | [],q,[],k,h,ho=>⟨by cases q<;>exact h,fun h=>absurd rfl h⟩
 | c::r,q,[],k,h,ho=>⟨by cases q<;>exact h,fun h=>absurd rfl h⟩
 | [],q,v::vs,k,h,ho=>absurd (by cases q<;>exact h.symm) ho
 | c::r,0,v::vs,k,h,ho=>by
  obtain ⟨h1,h2⟩:=QeS (cs:=r) (q:=0) (vs:=vs) h ho;refine ⟨?_,fun _=> ?_⟩
  ·rw[Qbh,List.set_cons_zero,Nat.zero_add,Qgw];exact h1
  ·cases vs with
   | nil=>simp
   | cons u us=>have:=h2 (by simp);simp at this ⊢;omega
 | c::r,q+1,v::vs,k,h,ho=>by
  obtain ⟨h1,h2⟩:=QeS (cs:=r) (q:=q) (vs:=v::vs) h ho;refine ⟨?_,fun _=> ?_⟩
  ·rw[Qgw];exact h1
  ·have:=h2 (by simp);simp at this ⊢;omega
theorem QgG {v:Value} {k:List Value→Out} (h:QjA v k=o) (ho:o≠ .bad):k v.cells.toList=o:=by
 unfold QjA at h
 split at h<;>first | exact h | exact absurd h.symm ho
theorem Qin {a b:IntKind} (h:QoP a b=true):a=b:=by
 cases a<;>cases b<;>first | rfl | cases h
theorem Qgq {x y:Value} {k:IntKind→Int→Int→Out} (h:Qh4 x y k=o) (ho:o≠ .bad): ∃kd a b,x= .int kd a∧y= .int kd b∧k kd a b=o:=by
 unfold Qh4 at h
 split at h
 ·split at h
  ·rename_i hs
   have:=Qin hs;subst this;exact ⟨_,_,_,rfl,rfl,h⟩
  ·exact absurd h.symm ho
 ·exact absurd h.symm ho
theorem ZX {b:Bool} {x:Out} (h:QcZ b x=o) (ho:o≠ .bad):b=true∧x=o:=by
 unfold QcZ at h
 split at h
 ·exact ⟨rfl,h⟩
 ·exact absurd h.symm ho
theorem VO {T:TT} {t:TypeId} {k:TyI→Out} (h:tyK T t k=o) (ho:o≠ .bad): ∃i,T t=some i∧k i=o:=by
 unfold tyK at h
 split at h
 ·exact ⟨_,by assumption,h⟩
 ·exact absurd h.symm ho
theorem Qi3 {T:TT} {s:TypeId} {f:Nat} {k:Nat→Nat→Bool→Out} (h:Qqh T s f k=o) (ho:o≠ .bad): ∃i q1 q2 q3,T s=some i∧QcD i.u=true∧i.flds[f]? =some (some (q1,q2,q3))∧k q1 q2 q3=o:=by
 obtain ⟨i,h1,h2⟩:=VO h ho;obtain ⟨h3,h4⟩:=ZX h2 ho
 split at h4
 ·exact ⟨i,_,_,_,h1,h3,by assumption,h4⟩
 ·exact absurd h4.symm ho
theorem QhL {pl:Nat→Option (Nat×Nat)}: ∀{parts:List (Nat×Value)} {cells:List Value} {k:List Value→Out},Qmu pl cells parts k=o→o≠ .bad→ ∃cs,k cs=o∧ ∀kk:List Value→Prop,kk cs→QaL pl cells parts kk
 | [],cells,k,h,ho=>⟨cells,h,fun _ h=>h⟩
 | p::r,cells,k,h,ho=>by
  unfold Qmu at h
  split at h
  ·rename_i q1 q2 hq
   have h1:=QgG h ho;obtain ⟨h2,h3⟩:=ZX h1 ho;obtain ⟨h8,h3⟩:=ZX h3 ho;have h2:=Nat.eq_of_beq_eq_true h2;have h8:0<q2:=by simpa [Nat.blt_eq] using h8
   obtain ⟨h4,h5⟩:=QeS h3 ho;obtain ⟨cs,h6,h7⟩:=QhL (parts:=r) h4 ho;refine ⟨cs,h6,fun kk hkk=> ?_⟩;obtain ⟨n,v⟩:=p
   simp only at hq h2 h5 h7
   refine QR (q1:=q1) (q2:=q2) hq (by rw[←h2];simp) ?_ rfl (h7 kk hkk);have:=h5 (by intro e;rw[e] at h2;simp at h2;omega)
   rw[h2] at this
   exact Nat.ble_eq_true_of_le this
  ·exact absurd h.symm ho
variable {T:TT} {P:Program} {μ:Gh} {L:List Seg}
theorem Qkt {t yt:TypeId} {x y:Operand} {u w:Value} {k:Bool→Out} (h:eqV T t u w k=o) (ho:o≠ .bad) (hx:evV fr x=some u) (hy:evV fr y=some w): ∃b,k b=o ∧
  (∀kk:Value→Prop,kk (.bool b)→vcR P T (.binOp .eql t x y yt) fr μ L kk)∧ ∀kk:Value→Prop,kk (.bool !b)→vcR P T (.binOp .neq t x y yt) fr μ L kk:=by
 unfold eqV at h
 split at h
 ·obtain ⟨h1,h2⟩:=ZX h ho;have:=Qin h1;subst this;exact ⟨_,h2,fun kk hk=>QnE hx hy hk,fun kk hk=>Qp7 hx hy hk⟩
 ·obtain ⟨i,h1,h2⟩:=VO h ho;obtain ⟨h3,h4⟩:=ZX h2 ho;exact ⟨_,h4,fun kk hk=>QpQ hx hy h1 h3 hk,fun kk hk=>Qp4 hx hy h1 h3 hk⟩
 ·obtain ⟨i,h1,h2⟩:=VO h ho;obtain ⟨h3,h4⟩:=ZX h2 ho;exact ⟨_,h4,fun kk hk=>Qli hx hy h1 h3 hk,fun kk hk=>Qp5 hx hy h1 h3 hk⟩
 ·obtain ⟨i,h1,h2⟩:=VO h ho;obtain ⟨h3,h4⟩:=ZX h2 ho;exact ⟨_,h4,fun kk hk=>Qlj hx hy h1 h3 hk,fun kk hk=>Qp6 hx hy h1 h3 hk⟩
 ·exact absurd h.symm ho
theorem Qm3 {op:BinOp} {t yt:TypeId} {x y:Operand} {u w:Value} {k:Value→Out} (h:Qqc T op t u w k=o) (ho:o≠ .bad) (hx:evV fr x=some u) (hy:evV fr y=some w) :
  ∃v,k v=o∧ ∀kk:Value→Prop,kk v→vcR P T (.binOp op t x y yt) fr μ L kk:=by
 cases op<;>simp only[Qqc] at h<;>try exact absurd h.symm ho
 case eql=>obtain ⟨b,h1,h2,_⟩:=Qkt (P:=P) (μ:=μ) (L:=L) (yt:=yt) h ho hx hy;exact ⟨_,h1,h2⟩
 case neq=>obtain ⟨b,h1,_,h2⟩:=Qkt (P:=P) (μ:=μ) (L:=L) (yt:=yt) h ho hx hy;exact ⟨_,h1,h2⟩
 all_goals
  obtain ⟨kd,a,b,rfl,rfl,h1⟩:=Qgq h ho;refine ⟨_,h1,fun kk hk=> ?_⟩
 case add=>exact Qcz hx hy hk
 case sub=>exact QfC hx hy hk
 case mul=>exact QqN hx hy hk
 case lss=>exact QpZ hx hy hk
 case leq=>exact QpX hx hy hk
 case gtr=>exact QpU hx hy hk
 case geq=>exact QpT hx hy hk
theorem Qep {α:Type} {a:Array α} {x:α} (h:a.toList=[x]):a= #[x]:=by rw[←Array.toList_inj];simp[h]
theorem Qom {op:Op} {k:Value→Out} (h:opV T fr op k=o) (ho:o≠ .bad): ∃v,k v=o∧QkD op=true∧ ∀kk:Value→Prop,kk v→vcR P T op fr μ L kk:=by
 cases op with
 | move x=>obtain ⟨v,h1,h2⟩:=ZS h ho;exact ⟨v,h2,rfl,fun kk hk=>QA h1 hk⟩
 | assign x=>obtain ⟨v,h1,h2⟩:=ZS h ho;exact ⟨v,h2,rfl,fun kk hk=>Qce h1 hk⟩
 | nilCheck x =>
  obtain ⟨v,h1,h2⟩:=ZS h ho
  split at h2
  ·exact ⟨_,h2,rfl,fun kk hk=>Vq h1 hk⟩
  ·exact ⟨_,h2,rfl,fun kk hk=>Qp8 h1 hk⟩
  ·exact absurd h2.symm ho
 | binOp op t x y yt =>
  obtain ⟨u,h1,h2⟩:=ZS h ho;obtain ⟨w,h3,h4⟩:=ZS h2 ho;obtain ⟨v,h5,h6⟩:=Qm3 (P:=P) (μ:=μ) (L:=L) (yt:=yt) h4 ho h1 h3;exact ⟨v,h5,rfl,h6⟩
 | unOp op t x =>
  cases op<;>simp only[opV] at h<;>try exact absurd h.symm ho
  case not =>
   obtain ⟨v,h1,h2⟩:=ZS h ho
   split at h2
   ·exact ⟨_,h2,rfl,fun kk hk=>QqR h1 hk⟩
   ·exact absurd h2.symm ho
  case neg =>
   obtain ⟨v,h1,h2⟩:=ZS h ho
   split at h2
   ·exact ⟨_,h2,rfl,fun kk hk=>QqP h1 hk⟩
   ·exact absurd h2.symm ho
 | convert s d x =>
  obtain ⟨v,h1,h2⟩:=ZS h ho
  split at h2
  ·obtain ⟨j,h3,h4⟩:=VO h2 ho;obtain ⟨i,h5,h6⟩:=VO h4 ho
   split at h6
   ·exact ⟨_,h6,rfl,fun kk hk=>QpP h1 h3 h5 (by assumption) hk⟩
   ·exact absurd h6.symm ho
  ·exact absurd h2.symm ho
 | build t ps =>
  obtain ⟨vs,h1,h2⟩:=QiY h ho;obtain ⟨i,h3,h4⟩:=VO h2 ho;obtain ⟨h5,h6⟩:=ZX h4 ho;obtain ⟨h7,h8⟩:=ZX h6 ho;obtain ⟨cs,h9,h10⟩:=QhL h8 ho;exact ⟨_,h9,rfl,fun kk hk=>QbT h1 h3 h5 h7 (h10 _ hk)⟩
 | fieldAddr s x f =>
  obtain ⟨v,h1,h2⟩:=ZS h ho
  split at h2
  ·obtain ⟨i,q1,q2,q3,h3,h4,h5,h6⟩:=Qi3 h2 ho
   split at h6
   ·rename_i h7
    split at h6
    ·rename_i h8
     have:=Nat.eq_of_beq_eq_true h8;subst this;exact ⟨_,h6,rfl,fun kk hk=>QqG h1 h3 h4 h5 h7 hk⟩
    ·exact ⟨_,h6,rfl,fun kk hk=>QpS h1 h3 h4 h5 h7 hk⟩
   ·exact absurd h6.symm ho
  ·exact absurd h2.symm ho
 | field s x f =>
  obtain ⟨v,h1,h2⟩:=ZS h ho
  split at h2
  ·obtain ⟨i,q1,q2,q3,h3,h4,h5,h6⟩:=Qi3 h2 ho;cases q3 with
   | true =>
    have h7:=Qfg h6 ho;obtain ⟨h8,_⟩:=Qfw h7 ho;exact ⟨_,h8,rfl,fun kk hk=>QnF h1 h3 h4 h5 rfl hk⟩
   | false =>
    obtain ⟨u,h7,h8⟩:=QeN h6 ho;exact ⟨_,h8,rfl,fun kk hk=>Qjv h1 h3 h4 h5 h7 hk⟩
  ·exact absurd h2.symm ho
 | extract x i =>
  obtain ⟨v,h1,h2⟩:=ZS h ho
  split at h2
  ·obtain ⟨u,h7,h8⟩:=QeN h2 ho;exact ⟨_,h8,rfl,fun kk hk=>QfB h1 h7 hk⟩
  ·exact absurd h2.symm ho
 | makeFunc f fi ca =>
  obtain ⟨a,h1,h2⟩:=QeK h ho;obtain ⟨b,h3,h4⟩:=QeK h2 ho;exact ⟨_,h4,rfl,fun kk hk=>QqM h1 h3 hk⟩
 | call c =>
  obtain ⟨ce,args,tys⟩:=c;cases ce with
  | value f=>exact absurd h.symm ho
  | invoke r m=>exact absurd h.symm ho
  | builtin b =>
   obtain ⟨vs,h1,h2⟩:=QeK h ho;cases b<;>simp only at h2<;>try exact absurd h2.symm ho
   case len =>
    split at h2
    ·rename_i ht
     obtain ⟨i,h3,h4⟩:=VO h2 ho;obtain ⟨h5,h6⟩:=ZX h4 ho;have:=Qep ht;subst this;exact ⟨_,h6,rfl,fun kk hk=>QpW h1 h3 h5 hk⟩
    ·rename_i ht
     obtain ⟨i,h3,h4⟩:=VO h2 ho;obtain ⟨h5,h6⟩:=ZX h4 ho;have:=Qep ht;subst this;exact ⟨_,h6,rfl,fun kk hk=>QpV h1 h3 h5 hk⟩
    ·exact absurd h2.symm ho
   case cap =>
    split at h2
    ·rename_i ht
     obtain ⟨i,h3,h4⟩:=VO h2 ho;obtain ⟨h5,h6⟩:=ZX h4 ho;have:=Qep ht;subst this;exact ⟨_,h6,rfl,fun kk hk=>QqE h1 h3 h5 hk⟩
    ·exact absurd h2.symm ho
   case min =>
    split at h2
    ·exact ⟨_,h2,rfl,fun kk hk=>Qp3 h1 hk⟩
    ·exact absurd h2.symm ho
   case max =>
    split at h2
    ·exact ⟨_,h2,rfl,fun kk hk=>Qp1 h1 hk⟩
    ·exact absurd h2.symm ho
 | _=>exact absurd h.symm ho
end
end Go.Proofs.YthpgjbbjpfiniaaGreat
namespace Go.Proofs.YthpgjbbjpfiniaaGreat
open Go.RowKit
set_option linter.unusedSimpArgs false
set_option linter.unusedVariables false
abbrev Els:=List (Addr×List Value)
def QeW (n:Nat) (dst:Option Tmp) (v:Value) (fr:Fr) (k:Fr→Out):Out:=match dst with
 | none=>k fr
 | some d=>QcZ (Nat.blt d n) (k ((d,v)::fr))
def Qog:List (Nat×Bool)→Nat→Option Bool
 | [],_=>none
 | (s,v)::r,t=>bif Nat.beq s t then some v else Qog r t
def Qpa (kn:List (Nat×Bool)) (fr:Fr) (d:Nat) (a b:List Value) (k:Bool→List Value→List Value→Out):Out:=match V4 fr d with
 | some (.bool z)=>(match Qog kn d with | some t=>k t (.bool z::a) (.bool t::b) | none=> .bad)
 | _=> .bad
def gdO (kn:List (Nat×Bool)) (all:List Oper) (fr:Fr) (g:Option (Nat×Bool)) (a b:List Value) (yes no:List Value→List Value→Out):Out:=match g with
 | none=>yes a b
 | some (j,w)=>match QgN all j with
  | some d=>(match V4 fr d with
   | some (.bool z)=>(match Qog kn d with
    | some true=>(match w with | true=>yes (.bool z::a) (.bool true::b) | false=>no (.bool z::a) (.bool true::b))
    | some false=>(match w with | true=>no (.bool z::a) (.bool false::b) | false=>yes (.bool z::a) (.bool false::b))
    | none=> .bad)
   | some (.tuple _)=>no a b
   | _=> .bad)
  | none=> .bad
def Qfp:List Seg→Nat→Option Seg
 | [],_=>none
 | s::_,0=>some s
 | _::r,n+1=>Qfp r n
def QeA:List Seg→Nat→Seg→List Seg
 | [],_,_=>[]
 | _::r,0,t=>t::r
 | s::r,n+1,t=>s::QeA r n t
def Qpj:Els→Nat→Option (Addr×List Value)
 | [],_=>none
 | s::_,0=>some s
 | _::r,n+1=>Qpj r n
def QmR (i:TyI) (off:Nat) (cs:List Value) (k:Value→Out):Out:=match QiB i.u with
 | true=>Qks off cs fun d=>Qk8 i.size d fun vs=>k (.agg ⟨vs⟩)
 | false=>Qok off cs k
def QmD (T:TT) (els:Els) (L:List Seg) (t:TypeId) (v:Value) (h:Nat) (a b:List Value) (k:Value→List Value→List Value→Out):Out:=match v with
 | .pointer (some ad)=>tyK T t fun i=>(match Nat.blt h 64 with
  | true=>(match ad with
   | ⟨g,off,none⟩=>(match Qfp L h with
    | some ((g',.cells ⟨cs⟩ _ _)::_)=>QmR i off cs fun u=>k u (.map (some g)::a) (.map (some g')::b)
    | _=> .bad)
   | _=> .bad)
  | false=>(match Qpj els (h/64-1) with
   | some (ad',cs)=>QmR i (h%64) cs fun u=>(match Nat.beq (h%64) 0 with
    | true=>k u (.pointer (some ad)::a) (.pointer (some ad')::b)
    | false=>k u (.pointer (some ad)::a) (.pointer (some (ad'.add (h%64)))::b))
   | none=> .bad))
 | _=> .bad
def Qpk:List Value→Bool
 | []=>true
 | v::r=>match v.oneCell' with | true=>Qpk r | false=>false
def Qmd (T:TT) (L:List Seg) (t:TypeId) (p v:Value) (h:Nat) (a b:List Value) (k:List Seg→List Value→List Value→Out):Out:=match p with
 | .pointer (some ⟨g,off,none⟩)=>tyK T t fun i=>QjA v fun vs=>QcZ (Nat.beq vs.length i.size) (QcZ (Qpk vs) (QcZ (Nat.blt 0 i.size) (match Qfp L h with
  | some ((g',.cells ⟨cs⟩ e (0,0))::r)=>QoR cs off vs fun cs'=>k (QeA L h ((g',.cells ⟨cs'⟩ e (0,0))::r)) (.map (some g)::a) (.map (some g')::b)
  | _=> .bad)))
 | _=> .bad
def nz (b:Int):Bool:=match b with | .ofNat (_+1)=>true | .negSucc _=>true | _=>false
def rdO (T:TT) (n:Nat) (kn:List (Nat×Bool)) (els:Els) (hs:List Nat) (fr:Fr) (L:List Seg) (op:Op) (dst:Option Tmp) (a b:List Value) (k:List Nat→Fr→List Value→List Value→Out):Out:=match op with
 | .load t x=>(match hs with
  | h::hs=>evK fr x fun v=>QmD T els L t v h a b fun u a b=>QeW n dst u fr fun fr=>k hs fr a b
  | []=> .bad)
 | .pick (.tmp d) x y=>Qpa kn fr d a b fun t a b=>(match t with
  | true=>evK fr x fun v=>QeW n dst v fr fun fr=>k hs fr a b
  | false=>evK fr y fun v=>QeW n dst v fr fun fr=>k hs fr a b)
 | .binOp .quo t x y yt=>(match hs with
  | _::hs=>evK fr x fun u=>evK fr y fun w=>Qh4 u w fun kd p q=>QcZ (nz q) (QeW n dst (.int kd (kd.wrap (p.tdiv q))) fr fun fr=>k hs fr a b)
  | []=> .bad)
 | .binOp .rem t x y yt=>(match hs with
  | _::hs=>evK fr x fun u=>evK fr y fun w=>Qh4 u w fun kd p q=>QcZ (nz q) (QeW n dst (.int kd (p.tmod q)) fr fun fr=>k hs fr a b)
  | []=> .bad)
 | op=>opV T fr op fun v=>QeW n dst v fr fun fr=>k hs fr a b
def Qqi (c:Code):Bool:=match c with | .loop _=>true | _=>false
def QnT (kn:List (Nat×Bool)) (c:Code) (s:List MIt) (fr:Fr) (a b:List Value) (k:List MIt→List Value→List Value→Out):Out:=match c with
 | .skip=>k s a b
 | .seq x y=>k (.code x:: .code y::s) a b
 | .region _ ⟨ops⟩ false=>k (.ops ops ops::s) a b
 | .cond (.tmp d) x y=>Qpa kn fr d a b fun t a b=>(match t with | true=>k (.code x::s) a b | false=>k (.code y::s) a b)
 | .cond (.const (.bool true)) x _=>k (.code x::s) a b
 | .cond (.const (.bool false)) _ y=>k (.code y::s) a b
 | .block i c=>(match Qqi c with | true=> .bad | false=>k (.code c:: .blk i::s) a b)
 | .exit i=>(match QfZ i s with | some s'=>k s' a b | none=> .bad)
 | .scope c=>k (.code c::s) a b
 | .label _=>k s a b
 | _=> .bad
def Qms (s:List MIt) (els:Els):Els:=match s with | .pln _ _ _ _ _::_=>[] | .plp _ _ _ _ _ _ _::_=>[] | _=>els
def QpH (T:TT) (n:Nat) (kn:List (Nat×Bool)) (els:Els) (hs:List Nat) (s:List MIt) (fr:Fr) (L:List Seg) (a b:List Value)
  (k:Els→List Nat→List MIt→Fr→List Seg→List Value→List Value→Out):Out:=match s with
 | .ops all (o::r)::s=>gdO kn all fr o.guard a b
   (fun a b=>match o.op with
    | .store t x y=>(match hs with
     | h::hs=>evK fr x fun p=>evK fr y fun v=>Qmd T L t p v h a b fun L a b=>QeW n o.dst undef fr fun fr=>k [] hs (.ops all r::s) fr L a b
     | []=> .bad)
    | op=>rdO T n kn els hs fr L op o.dst a b fun hs fr a b=>k els hs (.ops all r::s) fr L a b)
   (fun a b=>QeW n o.dst undef fr fun fr=>k els hs (.ops all r::s) fr L a b)
 | .ops _ []::s=>k (Qms s els) hs s fr L a b
 | .blk _::s=>k (Qms s els) hs s fr L a b
 | .code c::s=>QnT kn c s fr a b fun s a b=>k (Qms s els) hs s fr L a b
 | .pln all l ((true,i)::pl) μ0 keep::s=>(match Vt all i with
  | some o=>gdO kn all fr o.guard a b (fun a b=>rdO T n kn els hs fr keep o.op o.dst a b fun hs fr a b=>k els hs (.pln all (l.set i true) pl μ0 keep::s) fr L a b)
    (fun a b=>QeW n o.dst undef fr fun fr=>k els hs (.pln all (l.set i true) pl μ0 keep::s) fr L a b)
  | none=> .bad)
 | .pln all l ((false,i)::pl) μ0 keep::s=>(match Vt all i with
  | some o=>gdO kn all fr o.guard a b (fun _ _=> .bad) (fun a b=>QeW n o.dst undef fr fun fr=>k els hs (.pln all (l.set i true) pl μ0 keep::s) fr L a b)
  | none=> .bad)
 | .pln _ _ [] _ _::s=>k [] hs s fr L a b
 | .plp all l ((true,i)::pl) m l1 μ0 keep::s=>(match Vt all i with
  | some o=>gdO kn all fr o.guard a b (fun a b=>rdO T n kn els hs fr keep o.op o.dst a b fun hs fr a b=>k els hs (.plp all (l.set i true) pl m l1 μ0 keep::s) fr L a b)
    (fun a b=>QeW n o.dst undef fr fun fr=>k els hs (.plp all (l.set i true) pl m l1 μ0 keep::s) fr L a b)
  | none=> .bad)
 | _=> .bad
def Qhd (T:TT) (n:Nat) (kn:List (Nat×Bool)):Nat→Els→List Nat→List MIt→Fr→List Seg→List Value→List Value→Out
 | 0,_,_,s,fr,L,a,b=> .ok s fr L a b
 | m+1,els,hs,s,fr,L,a,b=>QpH T n kn els hs s fr L a b (Qhd T n kn m)
def cxM (s:List MIt) (μ:Gh):Gh:=match s with | .pln _ _ _ μ0 _::_=>μ0 | .plp _ _ _ _ _ μ0 _::_=>μ0 | _=>μ
def cxL (s:List MIt) (L:List Seg):List Seg:=match s with | .pln _ _ _ _ keep::_=>keep | .plp _ _ _ _ _ _ keep::_=>keep | _=>L
theorem Qhm {μ:Gh} {L:List Seg} {els:Els} (h: ∀p∈els,Jb μ L p.1 p.2) (s:List MIt): ∀p∈Qms s els,Jb (cxM s μ) (cxL s L) p.1 p.2:=by
 cases s with
 | nil=>exact h
 | cons i s=>cases i<;>first | exact h | (intro p hp;cases hp)
def QgD (μ:Gh) (L:List Seg) (els:Els):Prop:= ∀p∈els,Jb μ L p.1 p.2
section
variable {fr:Fr} {o:Out} {a b:List Value}
theorem Vc {N:NN} {dst:Option Tmp} {v:Value} {k:Fr→Out} (h:QeW N.n dst v fr k=o) (ho:o≠ .bad): ∃fr',k fr'=o∧ ∀kk:Fr→Prop,kk fr'→Z8 N dst v fr kk:=by
 cases dst with
 | none=>exact ⟨fr,h,fun kk hk=>hk⟩
 | some d=>obtain ⟨h1,h2⟩:=ZX h ho;exact ⟨_,h2,fun kk hk=>QP h1 hk⟩
theorem QiW {kn:List (Nat×Bool)} {d:Nat} {k:Bool→List Value→List Value→Out} (h:Qpa kn fr d a b k=o) (ho:o≠ .bad): ∃z t,V4 fr d=some (.bool z)∧k t (.bool z::a) (.bool t::b)=o:=by
 unfold Qpa at h
 split at h
 ·split at h
  ·exact ⟨_,_,by assumption,h⟩
  ·exact absurd h.symm ho
 ·exact absurd h.symm ho
theorem VX {z t:Bool} (h:Value.bool z::a= .bool t::b):z=t∧a=b:=by
 injection h with h1 h2;injection h1 with h1;exact ⟨h1,h2⟩
theorem QfQ {kn:List (Nat×Bool)} {all:List Oper} {g:Option (Nat×Bool)} {yes no:List Value→List Value→Out} (h:gdO kn all fr g a b yes no=o) (ho:o≠ .bad) :
  ∃a' b',(a'=b'→a=b)∧((yes a' b'=o∧ ∀y n:Prop,a'=b'→y→Wo all fr g y n)∨(no a' b'=o∧ ∀y n:Prop,a'=b'→n→Wo all fr g y n)):=by
 unfold gdO at h
 split at h
 ·exact ⟨a,b,id,.inl ⟨h,fun y n _ hy=>hy⟩⟩
 ·rename_i j w
  split at h
  ·rename_i d hd
   split at h
   ·rename_i z hz
    split at h
    ·refine ⟨.bool z::a,.bool true::b,fun e=>(VX e).2,?_⟩;cases w with
     | true=>exact .inl ⟨h,fun y n e hy=>by simp only[Wo,hd,hz,(VX e).1];exact hy⟩
     | false=>exact .inr ⟨h,fun y n e hy=>by simp only[Wo,hd,hz,(VX e).1];exact hy⟩
    ·refine ⟨.bool z::a,.bool false::b,fun e=>(VX e).2,?_⟩;cases w with
     | true=>exact .inr ⟨h,fun y n e hy=>by simp only[Wo,hd,hz,(VX e).1];exact hy⟩
     | false=>exact .inl ⟨h,fun y n e hy=>by simp only[Wo,hd,hz,(VX e).1];exact hy⟩
    ·exact absurd h.symm ho
   ·rename_i hz
    exact ⟨a,b,id,.inr ⟨h,fun y n _ hy=>by simp only[Wo,hd,hz];exact hy⟩⟩
   ·exact absurd h.symm ho
  ·exact absurd h.symm ho
theorem QfW: ∀(L:List Seg) (i:Nat),Qfp L i=L[i]?
 | [],i=>by simp[Qfp]
 | s::r,0=>by simp[Qfp]
 | s::r,i+1=>by simp[Qfp,QfW r i]
theorem Qf6: ∀(L:List Seg) (i:Nat) (t:Seg),QeA L i t=L.set i t
 | [],i,t=>by simp[QeA]
 | s::r,0,t=>by simp[QeA]
 | s::r,i+1,t=>by simp[QeA,Qf6 r i t]
theorem QkR: ∀{els:Els} {i:Nat} {p:Addr×List Value},Qpj els i=some p→p∈els
 | [],i,p,h=>by cases h
 | s::r,0,p,h=>by simp only[Qpj,Option.some.injEq] at h;simp[h]
 | s::r,i+1,p,h=>by simp[QkR (els:=r) h]
variable {T:TT} {P:Program} {μ:Gh} {L:List Seg}
theorem Qiy {i:TyI} {off:Nat} {cs:List Value} {k:Value→Out} (h:QmR i off cs k=o) (ho:o≠ .bad) :
  ∃u,k u=o∧ ∀{t:TypeId} {x:Operand} {ad:Addr} (kk:Value→Prop),evV fr x=some (.pointer (some ad))→T t=some i→(∀j v,(cs.drop off)[j]? =some v→Ws μ L (ad.add j) v)→kk u→vcR P T (.load t x) fr μ L kk:=by
 unfold QmR at h
 split at h
 ·rename_i hag
  have h1:=Qfg h ho;obtain ⟨h2,h3⟩:=Qfw h1 ho;refine ⟨_,h2,fun kk hx hT hc hk=>Z3 hx hT hag rfl (Ex.mk _ ⟨h3,fun j v hj=>hc j v ?_⟩ hk)⟩
  rw[List.getElem?_take] at hj
  split at hj
  ·exact hj
  ·cases hj
 ·rename_i hag
  obtain ⟨v,h1,h2⟩:=QeN h ho;refine ⟨v,h2,fun kk hx hT hc hk=>JN hx hT hag (Ex.mk v ?_ hk)⟩;have:=hc 0 v (by rw[List.getElem?_drop];simpa using h1)
  rwa [Addr.add_zero'] at this
theorem QjQ {g g':Nat} (h:Value.map (some g)::a= .map (some g')::b):g=g'∧a=b:=by
 injection h with h1 h2;injection h1 with h1;injection h1 with h1;exact ⟨h1,h2⟩
theorem QjY {g g':Addr} (h:Value.pointer (some g)::a= .pointer (some g')::b):g=g'∧a=b:=by
 injection h with h1 h2;injection h1 with h1;injection h1 with h1;exact ⟨h1,h2⟩
theorem Qh8 {els:Els} {t:TypeId} {v:Value} {h:Nat} {x:Operand} {k:Value→List Value→List Value→Out} (hr:QmD T els L t v h a b k=o) (ho:o≠ .bad) (hx:evV fr x=some v) (hel:QgD μ L els) :
  ∃u a' b',(a'=b'→a=b)∧k u a' b'=o∧ ∀kk:Value→Prop,a'=b'→kk u→vcR P T (.load t x) fr μ L kk:=by
 unfold QmD at hr
 split at hr
 ·rename_i ad
  obtain ⟨i,hT,hr⟩:=VO hr ho
  split at hr
  ·split at hr
   ·rename_i g off
    split at hr
    ·rename_i g' cs e f r hL
     rw[QfW] at hL
     obtain ⟨u,h1,h2⟩:=Qiy (fr:=fr) (T:=T) (P:=P) (μ:=μ) (L:=L) hr ho;refine ⟨u,_,_,fun e=>(QjQ e).2,h1,fun kk e hk=>h2 kk hx hT (fun j v hj=> ?_) hk⟩;obtain ⟨rfl,_⟩:=QjQ e
     rw[Qar]
     refine Ws.seg h 0 hL rfl ?_
     rw[List.getElem?_drop] at hj
     exact hj
    ·exact absurd hr.symm ho
   ·exact absurd hr.symm ho
  ·split at hr
   ·rename_i ad' cs he
    obtain ⟨u,h1,h2⟩:=Qiy (fr:=fr) (T:=T) (P:=P) (μ:=μ) (L:=L) hr ho;have hc:Jb μ L ad' cs:=hel _ (QkR he)
    split at h1
    ·rename_i hz
     have hz:=Nat.eq_of_beq_eq_true hz;refine ⟨u,_,_,fun e=>(QjY e).2,h1,fun kk e hk=>h2 kk hx hT (fun j v hj=> ?_) hk⟩;obtain ⟨rfl,_⟩:=QjY e
     rw[hz] at hj
     exact hc j v (by simpa using hj)
    ·refine ⟨u,_,_,fun e=>(QjY e).2,h1,fun kk e hk=>h2 kk hx hT (fun j v hj=> ?_) hk⟩;obtain ⟨rfl,_⟩:=QjY e
     rw[Addr.add_add']
     refine hc _ v ?_
     rw[List.getElem?_drop] at hj
     exact hj
   ·exact absurd hr.symm ho
 ·exact absurd hr.symm ho
theorem Qjf: ∀{vs:List Value},Qpk vs=true→vs.all (·.oneCell')=true
 | [],_=>rfl
 | v::r,h=>by
  unfold Qpk at h
  split at h
  ·rename_i h1;simp only[List.all_cons,h1,Qjf h,Bool.and_self]
  ·cases h
theorem Qk2 {t:TypeId} {p v:Value} {h:Nat} {x y:Operand} {ty:TypeId} {k:List Seg→List Value→List Value→Out} (hr:Qmd T L t p v h a b k=o) (ho:o≠ .bad) (hx:evV fr x=some p) (hy:evV fr y=some v) :
  ∃L' a' b',(a'=b'→a=b)∧k L' a' b'=o∧ ∀kk:Value→Gh→List Seg→Prop,a'=b'→kk undef μ L'→vcO P T (.store t x y) ty fr μ L kk:=by
 unfold Qmd at hr
 split at hr
 ·rename_i g off
  obtain ⟨i,hT,hr⟩:=VO hr ho;have hr:=QgG hr ho;obtain ⟨h1,hr⟩:=ZX hr ho;obtain ⟨h2,hr⟩:=ZX hr ho;obtain ⟨h3,hr⟩:=ZX hr ho;have h1:=Nat.eq_of_beq_eq_true h1;have h3:0<i.size:=by simpa [Nat.blt_eq] using h3
  split at hr
  ·rename_i g' cs e r hL
   rw[QfW] at hL
   obtain ⟨h4,h5⟩:=QeS hr ho;refine ⟨_,_,_,fun e=>(QjQ e).2,h4,fun kk e hk=> ?_⟩;obtain ⟨rfl,_⟩:=QjQ e;refine QY hx hy hT (by simpa using h1) (Qjf h2) rfl (Ex.mk _ (Qct.seg h 0 hL rfl ?_) ?_)
   ·have:=h5 (by intro e;rw[e] at h1;simp at h1;omega)
    simpa using this
   ·rw[Qf6] at hk
    exact hk
  ·exact absurd hr.symm ho
 ·exact absurd hr.symm ho
theorem QmE {q:Int} (h:nz q=true):q≠0:=by
 cases q with
 | ofNat n =>
  cases n with
  | zero=>cases h
  | succ n=>exact fun e=>Nat.succ_ne_zero n (Int.ofNat.inj e)
 | negSucc n=>intro e;cases e
theorem Qif {N:NN} {kn:List (Nat×Bool)} {els:Els} {hs:List Nat} {op:Op} {dst:Option Tmp} {k:List Nat→Fr→List Value→List Value→Out} (hr:rdO T N.n kn els hs fr L op dst a b k=o) (ho:o≠ .bad) (hel:QgD μ L els) :
  ∃hs' fr' a' b',(a'=b'→a=b)∧k hs' fr' a' b'=o∧QkD op=true∧ ∀kk:Fr→Prop,a'=b'→kk fr'→vcR P T op fr μ L fun v=>Z8 N dst v fr kk:=by
 unfold rdO at hr
 split at hr
 ·split at hr
  ·obtain ⟨v,h1,hr⟩:=ZS hr ho;obtain ⟨u,a',b',h2,hr,h3⟩:=Qh8 (P:=P) (μ:=μ) hr ho h1 hel;obtain ⟨fr',h4,h5⟩:=Vc hr ho;exact ⟨_,fr',a',b',h2,h4,rfl,fun kk e hk=>h3 _ e (h5 kk hk)⟩
  ·exact absurd hr.symm ho
 ·obtain ⟨z,t,hz,hr⟩:=QiW hr ho;cases t with
  | true =>
   obtain ⟨v,h1,hr⟩:=ZS hr ho;obtain ⟨fr',h4,h5⟩:=Vc hr ho;exact ⟨_,fr',_,_,fun e=>(VX e).2,h4,rfl,fun kk e hk=>QnH (by rw[←(VX e).1];exact hz) h1 (h5 kk hk)⟩
  | false =>
   obtain ⟨v,h1,hr⟩:=ZS hr ho;obtain ⟨fr',h4,h5⟩:=Vc hr ho;exact ⟨_,fr',_,_,fun e=>(VX e).2,h4,rfl,fun kk e hk=>QnG (by rw[←(VX e).1];exact hz) h1 (h5 kk hk)⟩
 ·split at hr
  ·obtain ⟨u,h1,hr⟩:=ZS hr ho;obtain ⟨w,h2,hr⟩:=ZS hr ho;obtain ⟨kd,p,q,e1_,e2_,hr2⟩:=Qgq hr ho;subst e1_ e2_;obtain ⟨h3,hr3⟩:=ZX hr2 ho;obtain ⟨fr',h4,h5⟩:=Vc hr3 ho;exact ⟨_,fr',_,_,id,h4,rfl,fun kk e hk=>QpC h1 h2 ⟨QmE h3,h5 kk hk⟩⟩
  ·exact absurd hr.symm ho
 ·split at hr
  ·obtain ⟨u,h1,hr⟩:=ZS hr ho;obtain ⟨w,h2,hr⟩:=ZS hr ho;obtain ⟨kd,p,q,e1_,e2_,hr2⟩:=Qgq hr ho;subst e1_ e2_;obtain ⟨h3,hr3⟩:=ZX hr2 ho;obtain ⟨fr',h4,h5⟩:=Vc hr3 ho;exact ⟨_,fr',_,_,id,h4,rfl,fun kk e hk=>QpD h1 h2 ⟨QmE h3,h5 kk hk⟩⟩
  ·exact absurd hr.symm ho
 ·obtain ⟨v,h1,h2,h3⟩:=Qom (P:=P) (μ:=μ) (L:=L) hr ho;obtain ⟨fr',h4,h5⟩:=Vc h1 ho;exact ⟨_,fr',_,_,id,h4,h2,fun kk _ hk=>h3 _ (h5 kk hk)⟩
theorem Qlu {N:NN} {R:Yh} {kn:List (Nat×Bool)} (hT:TOk P T) {c:Code} {s:List MIt} {k:List MIt→List Value→List Value→Out} (hr:QnT kn c s fr a b k=o) (ho:o≠ .bad) :
  ∃s' a' b',(a'=b'→a=b)∧k s' a' b'=o∧(a'=b'→KS P N R s' fr μ L→KS P N R (.code c::s) fr μ L):=by
 unfold QnT at hr
 split at hr
 ·exact ⟨_,_,_,id,hr,fun _ h=>WP.skip h⟩
 ·exact ⟨_,_,_,id,hr,fun _ h=>WP.seq h⟩
 ·exact ⟨_,_,_,id,hr,fun _ h=>WP.regionS h⟩
 ·obtain ⟨z,t,hz,hr⟩:=QiW hr ho;cases t with
  | true=>exact ⟨_,_,_,fun e=>(VX e).2,hr,fun e h=>QfE (by rw[←(VX e).1];exact hz) h⟩
  | false=>exact ⟨_,_,_,fun e=>(VX e).2,hr,fun e h=>QfD (by rw[←(VX e).1];exact hz) h⟩
 ·exact ⟨_,_,_,id,hr,fun _ h=>QfE rfl h⟩
 ·exact ⟨_,_,_,id,hr,fun _ h=>QfD rfl h⟩
 ·split at hr
  ·exact absurd hr.symm ho
  ·exact ⟨_,_,_,id,hr,fun _ h=>WP.block h⟩
 ·split at hr
  ·exact ⟨_,_,_,id,hr,fun _ h=>WP.exit (Qaa (by assumption) h)⟩
  ·exact absurd hr.symm ho
 ·exact ⟨_,_,_,id,hr,fun _ h=>WP.scope h⟩
 ·exact ⟨_,_,_,id,hr,fun _ h=>WP.label h⟩
 ·exact absurd hr.symm ho
theorem Qjh {N:NN} {R:Yh} {kn:List (Nat×Bool)} (hT:TOk P T) {s':List MIt} {fr':Fr} {L':List Seg} {e1 e2:List Value}: ∀(m:Nat) (els:Els) (hs:List Nat) (s:List MIt) (fr:Fr) (L:List Seg) (a b:List Value),
  Qhd T N.n kn m els hs s fr L a b= .ok s' fr' L' e1 e2→e1=e2→QgD (cxM s μ) (cxL s L) els→a=b∧(KS P N R s' fr' μ L'→KS P N R s fr μ L)
 | 0,els,hs,s,fr,L,a,b,h,e,_=>by
  injection h with h1 h2 h3 h4 h5
  subst h1 h2 h3 h4 h5;exact ⟨e,id⟩
 | m+1,els,hs,s,fr,L,a,b,h,e,hel=>by
  have ih:=fun els hs s fr L a b (h:Qhd T N.n kn m els hs s fr L a b= .ok s' fr' L' e1 e2)=>Qjh (R:=R) hT m els hs s fr L a b h e;have ho:Out.ok s' fr' L' e1 e2≠ .bad:=by simp
  simp only[Qhd] at h
  unfold QpH at h
  split at h
  ·rename_i all op r s
   obtain ⟨a',b',h1,h2⟩:=QfQ h ho;rcases h2 with ⟨h2,h3⟩ | ⟨h2,h3⟩
   ·split at h2
    ·rename_i t x y hop
     split at h2
     ·obtain ⟨p,h4,h2⟩:=ZS h2 ho;obtain ⟨v,h5,h2⟩:=ZS h2 ho;obtain ⟨L2,a2,b2,h6,h2,h7⟩:=Qk2 (P:=P) (μ:=μ) (ty:=op.type) h2 ho h4 h5;obtain ⟨fr2,h8,h9⟩:=Vc h2 ho;obtain ⟨h10,h11⟩:=ih _ _ _ _ _ _ _ h8 (fun p hp=>by cases hp);refine ⟨h1 (h6 h10),fun hk=> ?_⟩;refine Qaq.cons hT (h3 _ _ (h6 h10) ?_)
      rw[hop]
      exact h7 _ h10 (h9 _ (h11 hk))
     ·exact absurd h2.symm ho
    ·obtain ⟨hs2,fr2,a2,b2,h4,h5,h6,h7⟩:=Qif (P:=P) (μ:=μ) h2 ho hel;obtain ⟨h8,h9⟩:=ih _ _ _ _ _ _ _ h5 hel;exact ⟨h1 (h4 h8),fun hk=>Qaq.cons hT (h3 _ _ (h4 h8) (VA h6 (h7 _ h8 (h9 hk))))⟩
   ·obtain ⟨fr2,h4,h5⟩:=Vc h2 ho;obtain ⟨h6,h7⟩:=ih _ _ _ _ _ _ _ h4 hel;exact ⟨h1 h6,fun hk=>Qaq.cons hT (h3 _ _ h6 (h5 _ (h7 hk)))⟩
  ·obtain ⟨h1,h2⟩:=ih _ _ _ _ _ _ _ h (Qhm hel _);exact ⟨h1,fun hk=>Qaq.nil (h2 hk)⟩
  ·obtain ⟨h1,h2⟩:=ih _ _ _ _ _ _ _ h (Qhm hel _);exact ⟨h1,h2⟩
  ·obtain ⟨s2,a',b',h1,h2,h3⟩:=Qlu (R:=R) (μ:=μ) (L:=L) hT h ho;obtain ⟨h4,h5⟩:=ih _ _ _ _ _ _ _ h2 (Qhm hel _);exact ⟨h1 h4,fun hk=>h3 h4 (h5 hk)⟩
  ·rename_i all l i pl μ0 keep s
   split at h
   ·rename_i op hi
    obtain ⟨a',b',h1,h2⟩:=QfQ h ho;rcases h2 with ⟨h2,h3⟩ | ⟨h2,h3⟩
    ·obtain ⟨hs2,fr2,a2,b2,h4,h5,h6,h7⟩:=Qif (P:=P) (μ:=μ0) h2 ho hel;obtain ⟨h8,h9⟩:=ih _ _ _ _ _ _ _ h5 hel;exact ⟨h1 (h4 h8),fun hk=>QdW.t hT hi (h3 _ _ (h4 h8) (h7 _ h8 (h9 hk)))⟩
    ·obtain ⟨fr2,h4,h5⟩:=Vc h2 ho;obtain ⟨h6,h7⟩:=ih _ _ _ _ _ _ _ h4 hel;exact ⟨h1 h6,fun hk=>QdW.t hT hi (h3 _ _ h6 (h5 _ (h7 hk)))⟩
   ·exact absurd h.symm ho
  ·rename_i all l i pl μ0 keep s
   split at h
   ·rename_i op hi
    obtain ⟨a',b',h1,h2⟩:=QfQ h ho;rcases h2 with ⟨h2,h3⟩ | ⟨h2,h3⟩
    ·exact absurd h2.symm ho
    ·obtain ⟨fr2,h4,h5⟩:=Vc h2 ho;obtain ⟨h6,h7⟩:=ih _ _ _ _ _ _ _ h4 hel;exact ⟨h1 h6,fun hk=>QdW.f hT hi (h3 _ _ h6 (h5 _ (h7 hk)))⟩
   ·exact absurd h.symm ho
  ·obtain ⟨h1,h2⟩:=ih _ _ _ _ _ _ _ h (fun p hp=>by cases hp);exact ⟨h1,fun hk=>QdW.nil (h2 hk)⟩
  ·rename_i all l i pl m2 l1 μ0 keep s
   split at h
   ·rename_i op hi
    obtain ⟨a',b',h1,h2⟩:=QfQ h ho;rcases h2 with ⟨h2,h3⟩ | ⟨h2,h3⟩
    ·obtain ⟨hs2,fr2,a2,b2,h4,h5,h6,h7⟩:=Qif (P:=P) (μ:=μ0) h2 ho hel;obtain ⟨h8,h9⟩:=ih _ _ _ _ _ _ _ h5 hel;exact ⟨h1 (h4 h8),fun hk=>Qgf.t hT hi (h3 _ _ (h4 h8) (h7 _ h8 (h9 hk)))⟩
    ·obtain ⟨fr2,h4,h5⟩:=Vc h2 ho;obtain ⟨h6,h7⟩:=ih _ _ _ _ _ _ _ h4 hel;exact ⟨h1 h6,fun hk=>Qgf.t hT hi (h3 _ _ h6 (h5 _ (h7 hk)))⟩
   ·exact absurd h.symm ho
  ·exact absurd h.symm ho
end
end Go.Proofs.YthpgjbbjpfiniaaGreat
namespace Go.Proofs.YthpgjbbjpfiniaaGreat
open Go.RowKit
set_option linter.unusedSimpArgs false
set_option linter.unusedVariables false
section
variable {N:NN} {R:Yh} {fr:Fr} {μ:Gh} {L:List Seg} {s s':List MIt} {fr':Fr} {L':List Seg} {e:List Value} {dst:Option Tmp} {v:Value}
theorem Z1 {a:Addr} {cs:List Value} (h:Jb μ L a cs):QgD μ L [(a,cs)]:=fun p hp=>by simp only[List.mem_singleton] at hp;subst hp;exact h
theorem Z2 {a:Addr} {cs:List Value} {r:Els} (h:Jb μ L a cs) (hr:QgD μ L r):QgD μ L ((a,cs)::r):=fun p hp=>by
 rcases List.mem_cons.1 hp with rfl | hp
 ·exact h
 ·exact hr p hp
def knF:List Nat→List (Nat×Bool)
 | []=>[]
 | x::r=>(x,false)::knF r
def knT:List Nat→List Nat→List (Nat×Bool)
 | [],b=>knF b
 | x::r,b=>(x,true)::knT r b
theorem G3 (m:Nat) (ka kb hs:List Nat) {els:Els} (hel:QgD (cxM s μ) (cxL s L) els) (h:Qhd Tt N.n (knT ka kb) m els hs s fr L [] []= .ok s' fr' L' e e) (k:KS Tryz.prog N R s' fr' μ L'):KS Tryz.prog N R s fr μ L :=
 (Qjh QU m els hs s fr L [] [] h rfl hel).2 k
theorem G2 (m:Nat) (ka kb hs:List Nat) (h:Qhd Tt N.n (knT ka kb) m [] hs s fr L [] []= .ok s' fr' L' e e) (k:KS Tryz.prog N R s' fr' μ L'):KS Tryz.prog N R s fr μ L:=G3 m ka kb hs (fun p hp=>by cases hp) h k
theorem G1 (m:Nat) (hs:List Nat) (h:Qhd Tt N.n [] m [] hs s fr L [] []= .ok s' fr' L' e e) (k:KS Tryz.prog N R s' fr' μ L'):KS Tryz.prog N R s fr μ L:=G2 m [] [] hs h k
theorem G0 (m:Nat) (h:Qhd Tt N.n [] m [] [] s fr L [] []= .ok s' fr' L' e e) (k:KS Tryz.prog N R s' fr' μ L'):KS Tryz.prog N R s fr μ L:=G2 m [] [] [] h k
theorem Q3 (m:Nat) (ka kb hs:List Nat) {els:Els} (hel:QgD (cxM s μ) (cxL s L) els) (h:QeW N.n dst v fr (fun f=>Qhd Tt N.n (knT ka kb) m els hs s f L [] [])= .ok s' fr' L' e e) (k:KS Tryz.prog N R s' fr' μ L'):Z8 N dst v fr fun f=>KS Tryz.prog N R s f μ L:=by
 obtain ⟨f,h1,h2⟩:=Vc h (by simp);exact h2 _ (G3 m ka kb hs hel h1 k)
theorem Q2 (m:Nat) (ka kb hs:List Nat) (h:QeW N.n dst v fr (fun f=>Qhd Tt N.n (knT ka kb) m [] hs s f L [] [])= .ok s' fr' L' e e) (k:KS Tryz.prog N R s' fr' μ L'):Z8 N dst v fr fun f=>KS Tryz.prog N R s f μ L:=Q3 m ka kb hs (fun p hp=>by cases hp) h k
theorem Q1 (m:Nat) (hs:List Nat) (h:QeW N.n dst v fr (fun f=>Qhd Tt N.n [] m [] hs s f L [] [])= .ok s' fr' L' e e) (k:KS Tryz.prog N R s' fr' μ L'):Z8 N dst v fr fun f=>KS Tryz.prog N R s f μ L:=Q2 m [] [] hs h k
theorem Q0 (m:Nat) (h:QeW N.n dst v fr (fun f=>Qhd Tt N.n [] m [] [] s f L [] [])= .ok s' fr' L' e e) (k:KS Tryz.prog N R s' fr' μ L'):Z8 N dst v fr fun f=>KS Tryz.prog N R s f μ L:=Q2 m [] [] [] h k
def gdB (all:List Oper) (fr:Fr) (g:Option (Nat×Bool)):Bool:=match g with
 | none=>true
 | some (j,w)=>match QgN all j with
  | some d=>(match V4 fr d with | some (.bool true)=>w | some (.bool false)=> !w | _=>false)
  | none=>false
theorem Qch {all:List Oper} {g:Option (Nat×Bool)} (h:gdB all fr g=true) {y n:Prop} (hy:y):Wo all fr g y n:=by
 unfold gdB at h
 split at h
 ·exact hy
 ·rename_i j w
  split at h
  ·rename_i d hd
   split at h
   ·rename_i hl;subst h;simp only[Wo,hd,hl];exact hy
   ·rename_i hl;have:w=false:=by simpa using h
    subst this;simp only[Wo,hd,hl];exact hy
   ·cases h
  ·cases h
def hdO (s:List MIt) (fr:Fr):Option (Bool×Oper×List MIt):=match s with
 | .ops all (o::r)::s=>(match gdB all fr o.guard with | true=>some (true,o,.ops all r::s) | false=>none)
 | .pln all l ((b,i)::pl) μ0 keep::s=>(match Vt all i with
  | some o=>(match gdB all fr o.guard with | true=>some (b,o,.pln all (l.set i true) pl μ0 keep::s) | false=>none)
  | none=>none)
 | .plp all l ((b,i)::pl) n l1 μ0 keep::s=>(match Vt all i with
  | some o=>(match gdB all fr o.guard with | true=>some (b,o,.plp all (l.set i true) pl n l1 μ0 keep::s) | false=>none)
  | none=>none)
 | _=>none
abbrev kpt (s:List MIt) (L:List Seg) (X:Prop):Prop:=match s with
 | .pln _ _ _ _ keep::_=>Qz keep L∧X
 | .plp _ _ _ _ _ _ keep::_=>Qz keep L∧X
 | _=>X
theorem Rdo {o:Oper} (h:hdO s fr=some (true,o,s')) (hr:QkD o.op=true) (k:vcR Tryz.prog Tt o.op fr (cxM s μ) (cxL s L) fun v=>Z8 N o.dst v fr fun f=>KS Tryz.prog N R s' f μ L):KS Tryz.prog N R s fr μ L:=by
 unfold hdO at h
 split at h
 ·split at h
  ·rename_i hg
   simp only[Option.some.injEq,Prod.mk.injEq] at h
   obtain ⟨_,rfl,rfl⟩:=h;exact Qaq.cons QU (Qch hg (VA hr k))
  ·cases h
 ·split at h
  ·rename_i ho
   split at h
   ·rename_i hg
    simp only[Option.some.injEq,Prod.mk.injEq] at h
    obtain ⟨rfl,rfl,rfl⟩:=h;exact QdW.t QU ho (Qch hg k)
   ·cases h
  ·cases h
 ·split at h
  ·rename_i ho
   split at h
   ·rename_i hg
    simp only[Option.some.injEq,Prod.mk.injEq] at h
    obtain ⟨rfl,rfl,rfl⟩:=h;exact Qgf.t QU ho (Qch hg k)
   ·cases h
  ·cases h
 ·cases h
def hdS (s:List MIt) (fr:Fr):Option (Oper×List MIt):=match s with
 | .ops all (o::r)::s=>(match gdB all fr o.guard with | true=>some (o,.ops all r::s) | false=>none)
 | .pln all l ((false,i)::pl) μ0 keep::s=>(match Vt all i with
  | some o=>(match gdB all fr o.guard with | true=>some (o,.pln all (l.set i true) pl μ0 keep::s) | false=>none)
  | none=>none)
 | .plp all l ((false,i)::pl) n l1 μ0 keep::s=>(match Vt all i with
  | some o=>(match gdB all fr o.guard with | true=>some (o,.plp all (l.set i true) pl n l1 μ0 keep::s) | false=>none)
  | none=>none)
 | _=>none
theorem So {o:Oper} (h:hdS s fr=some (o,s')) (k:vcO Tryz.prog Tt o.op o.type fr μ L fun v μ' L'=>kpt s L' (Z8 N o.dst v fr fun f=>KS Tryz.prog N R s' f μ' L')):KS Tryz.prog N R s fr μ L:=by
 unfold hdS at h
 split at h
 ·split at h
  ·rename_i hg
   simp only[Option.some.injEq,Prod.mk.injEq] at h
   obtain ⟨rfl,rfl⟩:=h;exact Qaq.cons QU (Qch hg k)
  ·cases h
 ·split at h
  ·rename_i ho
   split at h
   ·rename_i hg
    simp only[Option.some.injEq,Prod.mk.injEq] at h
    obtain ⟨rfl,rfl⟩:=h;exact QdW.f QU ho (Qch hg k)
   ·cases h
  ·cases h
 ·split at h
  ·rename_i ho
   split at h
   ·rename_i hg
    simp only[Option.some.injEq,Prod.mk.injEq] at h
    obtain ⟨rfl,rfl⟩:=h;exact Qgf.f QU ho (Qch hg k)
   ·cases h
  ·cases h
 ·cases h
def Qpw:List MIt→Bool
 | []=>true
 | .code _::_=>true
 | .ops _ _::_=>true
 | .pln _ _ _ _ _::_=>true
 | .plp _ _ _ _ _ _ _::_=>true
 | .blk _::s=>Qpw s
 | .cut _::_=>false
theorem KS.frm {F:Fr}: ∀{s:List MIt},Qpw s=true→Qh F fr→KS Tryz.prog N R s F μ L→KS Tryz.prog N R s fr μ L
 | [],_,hF,h=>fun a w ha hw=>h a w (ha.sub hF) hw
 | .code _::_,_,hF,h=>fun a w ha hw=>h a w (ha.sub hF) hw
 | .ops _ _::_,_,hF,h=>fun a w Q ha hw hQ=>h a w Q (ha.sub hF) hw hQ
 | .pln _ _ _ _ _::_,_,hF,h=>fun h1 h2 h3 h4 a w Q ha hw hQ=>h h1 h2 h3 h4 a w Q (ha.sub hF) hw hQ
 | .plp _ _ _ _ _ _ _::_,_,hF,h=>fun h1 h2 h3 h4 a w Q ha hw hQ=>h h1 h2 h3 h4 a w Q (ha.sub hF) hw hQ
 | .blk _::s,hb,hF,h=>KS.frm (s:=s) hb hF h
 | .cut _::_,hb,_,_=>by cases hb
def QkT:List MIt→Bool
 | []=>true
 | .code _::_=>true
 | .ops _ _::_=>true
 | .blk _::s=>QkT s
 | _=>false
theorem KS.upd: ∀{s:List MIt},QkT s=true→Upd μ L (fun μ' L'=>KS Tryz.prog N R s fr μ' L')→KS Tryz.prog N R s fr μ L
 | [],_,h=>fun a w ha hw=>by
  obtain ⟨μ1,L1,h1,h2,h3⟩:=h w hw;obtain ⟨f,μ2,L2,h4,h5,h6,h7⟩:=h3 a w ha h2;exact ⟨f,μ2,L2,h4,h1.trans h5,h6,h7⟩
 | .code _::_,_,h=>WP.upd h
 | .ops _ _::_,_,h=>fun a w Q ha hw hQ=>by
  obtain ⟨μ1,L1,h1,h2,h3⟩:=h w hw;exact h3 a w Q ha h2 fun fr2 μ2 L2 a2 w2 hm=>hQ fr2 μ2 L2 a2 w2 (h1.trans hm)
 | .blk _::s,hb,h=>KS.upd (s:=s) hb h
 | .pln _ _ _ _ _::_,hb,_=>by cases hb
 | .plp _ _ _ _ _ _ _::_,hb,_=>by cases hb
 | .cut _::_,hb,_=>by cases hb
theorem KS.seg {L2:List Seg} (hs:Qd L2 L) (hb:QkT s=true) (h:KS Tryz.prog N R s fr μ L2):KS Tryz.prog N R s fr μ L:=KS.upd hb fun w hw=>⟨μ,L2,Gh.le.refl _,hs w μ hw,h⟩
theorem QmO: ∀{s:List MIt},QkT s=true→Qpw s=true
 | [],_=>rfl
 | .code _::_,_=>rfl
 | .ops _ _::_,_=>rfl
 | .blk _::s,h=>QmO (s:=s) h
theorem Att {F:Fr} {L2:List Seg} (hF:Qh F fr) (hs:Qd L2 L) (hb:QkT s=true) (h:KS Tryz.prog N R s F μ L2):KS Tryz.prog N R s fr μ L:=KS.frm (QmO hb) hF (KS.seg hs hb h)
theorem QkG {d:Nat} {u:Value} (hl:V4 fr d=some u):Qh ((d,u)::fr) fr:=fun t v hv=>by
 rw[Qc8] at hv
 split at hv
 ·rename_i hd;simp only at hd;subst hd;rw[hl];exact hv
 ·exact hv
theorem Br {β:Type} {z:Bool} {A B r:Option β} (h:(bif z then A else B)=r) (d:Nat) (hl:V4 fr d=some (.bool z)) (hb:Qpw s=true)
  (ht:z=true→A=r→KS Tryz.prog N R s ((d,.bool true)::fr) μ L) (hf:z=false→B=r→KS Tryz.prog N R s ((d,.bool false)::fr) μ L):KS Tryz.prog N R s fr μ L:=by
 cases z with
 | true=>exact KS.frm hb (QkG hl) (ht rfl h)
 | false=>exact KS.frm hb (QkG hl) (hf rfl h)
end
end Go.Proofs.YthpgjbbjpfiniaaGreat
namespace Go.Proofs.YthpgjbbjpfiniaaGreat
open Go.RowKit
set_option linter.unusedSimpArgs false
set_option linter.unusedVariables false
def ixs:List Nat:=[0,1,2,3,4,5,6,7,8,9,10,11,12,13,14,15]
def Qki:List Nat→List Value→(Fr→Out)→Out
 | _,[],k=>k []
 | [],_::_,_=> .bad
 | i::is,v::r,k=>Qki is r fun f=>k ((i,v)::f)
def nfF:Fr→(Fr→Out)→Out
 | [],k=>k []
 | (t,v)::r,k=>nfF r fun f=>k ((t,v)::f)
def nfL:Nat→List Seg→(List Seg→Out)→Out
 | 0,L,k=>k L
 | _+1,[],k=>k []
 | n+1,s::r,k=>nfL n r fun l=>k (s::l)
def Qpb (vs:List Value) (a b:List Value):Out:=match vs with
 | [v]=> .ok [] [(0,v)] [] a b
 | vs=> .ok [] [(0,.tuple ⟨vs⟩)] [] a b
def QlX (T:TT) (L:List Seg) (fr:Fr):List ResultVar→List Nat→List Value→List Value→(List Value→List Value→List Value→Out)→Out
 | [],_,a,b,k=>k [] a b
 | .tmp t::r,hs,a,b,k=>(match V4 fr t with | some v=>QlX T L fr r hs a b fun vs a b=>k (v::vs) a b | none=> .bad)
 | .cell p t::r,hs,a,b,k=>(match V4 fr p,hs with | some v,h::hs=>QmD T [] L t v h a b fun u a b=>QlX T L fr r hs a b fun vs a b=>k (u::vs) a b | _,_=> .bad)
theorem Qgh {o:Out} (ho:o≠ .bad): ∀(m i:Nat) (args:List Value) (k:Fr→Out),Qki (List.range' i m) args k=o→k ((args.zipIdx i).map fun p=>(p.2,p.1))=o
 | _,i,[],k,h=>by cases ‹Nat› <;>simpa [Qki] using h
 | 0,i,v::r,k,h=>absurd h.symm ho
 | m+1,i,v::r,k,h=>by
  have:=Qgh ho m (i+1) r _ (by simpa [List.range'_succ,Qki] using h)
  simpa using this
theorem QkP: ∀(F:Fr) (k:Fr→Out),nfF F k=k F
 | [],k=>rfl
 | (t,v)::r,k=>QkP r _
theorem V9: ∀(n:Nat) (L:List Seg) (k:List Seg→Out),nfL n L k=k L
 | 0,L,k=>by cases L<;>rfl
 | n+1,[],k=>rfl
 | n+1,s::r,k=>V9 n r _
section
variable {o:Out} {T:TT} {fr:Fr} {μ:Gh} {L:List Seg}
theorem QeP: ∀{rs:List ResultVar} {hs:List Nat} {a b:List Value} {k:List Value→List Value→List Value→Out} {e:List Value},QlX T L fr rs hs a b k=o→o≠ .bad →
  ∃vs a' b',(a'=b'→a=b)∧k vs a' b'=o∧ ∀kk:List Value→Prop,a'=b'→kk vs→Qbc T rs fr μ L kk
 | [],hs,a,b,k,e,h,ho=>⟨[],a,b,id,h,fun kk _ hk=>hk⟩
 | .tmp t::r,hs,a,b,k,e,h,ho=>by
  unfold QlX at h
  split at h
  ·rename_i v hv
   obtain ⟨vs,a',b',h1,h2,h3⟩:=QeP (e:=e) h ho;exact ⟨v::vs,a',b',h1,h2,fun kk e hk=>QnJ hv (h3 _ e hk)⟩
  ·exact absurd h.symm ho
 | .cell p t::r,hs,a,b,k,e,h,ho=>by
  unfold QlX at h
  split at h
  ·rename_i v h0 hs hv
   have hx:evV fr (.tmp p)=some v:=hv;obtain ⟨u,a',b',h1,h2,h3⟩:=Qh8 (P:=default) (μ:=μ) (fr:=fr) (x:= .tmp p) h ho hx (fun p hp=>by cases hp);obtain ⟨vs,a2,b2,h4,h5,h6⟩:=QeP (e:=e) h2 ho;refine ⟨u::vs,a2,b2,fun e=>h1 (h4 e),h5,fun kk e hk=> ?_⟩;have h7:ev fr (.tmp p) fun v=>Qei T μ L t v fun u=>Qbc T r fr μ L fun vs=>kk (u::vs):=h3 (fun u=>Qbc T r fr μ L fun vs=>kk (u::vs)) (h4 e) (h6 _ e hk);exact h7
  ·exact absurd h.symm ho
end
section
variable {N:NN} {R:Yh} {fr:Fr} {μ:Gh} {L:List Seg} {s s':List MIt} {fr':Fr} {L':List Seg} {e:List Value} {dst:Option Tmp} {v:Value}
def RK (rs:List ResultVar) (Rv:Value→Gh→List Seg→Prop):Yh:=fun fr μ L=>Qbc Tt rs fr μ L fun vs=>Upd μ L (Rv (Qfs vs))
theorem FnS {f:FuncId} {fn:Func} {c:Code} {args:List Value} {n:Nat} {Rv:Value→Gh→List Seg→Prop} (hf:Tryz.prog.funcs[f]? =some fn) (hnm:(fn.name== "runtime.NumGoroutine")=false) (hb:fn.body=some c) (hn:fn.ntmps=n) (hl:Nat.ble args.length n=true)
  (ha:Qki ixs args (fun F=> .ok [] F [] [] [])= .ok [] fr [] [] []) (k:KS Tryz.prog ⟨n,[],none⟩ (RK fn.results.toList Rv) [.code c] fr μ L):Fn Tryz.prog f args μ L Rv:=by
 have e1:=Qgh (by simp) 16 0 args _ (show Qki (List.range' 0 16) args _=_ from ha);injection e1 with _ e1 _ _ _
 subst e1;refine Fn.of_body QU hf hnm hb hn (Nat.le_of_ble_eq_true hl) ?_;intro a w ha hw;refine Code.wpIn_mono (fun e a' w' hl=> ?_) (k a w ha hw);cases e with
 | normal =>
  obtain ⟨f1,μ1,L1,h1,h2,h3,h4⟩:=hl;obtain ⟨f2,μ2,L2,h5,h6,h7,h8⟩:=h4 a' w' h1 h3;exact ⟨f2,μ2,L2,h5,h2.trans h6,h7,h8⟩
 | ret =>
  obtain ⟨f1,μ1,L1,h1,h2,h3,h4⟩:=hl;obtain ⟨f2,μ2,L2,h5,h6,h7,h8⟩:=h4 a' w' h1 h3;exact ⟨f2,μ2,L2,h5,h2.trans h6,h7,h8⟩
 | _=>exact hl
variable {rs:List ResultVar} {Rv:Value→Gh→List Seg→Prop}
def QoH:List MIt→Bool
 | []=>true
 | .code .ret::_=>true
 | .blk _::s=>QoH s
 | .ops _ []::s=>QoH s
 | _=>false
theorem KS.ret (h:R fr μ L) (s:List MIt):QoH s=true→KS Tryz.prog N R s fr μ L:=by
 induction s with
 | nil=>exact fun _=>KEn.done h
 | cons i s ih =>
  cases i with
  | code c=>cases c<;>first | exact fun _=>WP.ret (KEn.done h) | exact fun hb=>by cases hb
  | blk i=>exact ih
  | ops all r =>
   cases r with
   | nil=>exact fun hb=>Qaq.nil (ih hb)
   | cons o r=>exact fun hb=>by cases hb
  | pln=>exact fun hb=>by cases hb
  | plp=>exact fun hb=>by cases hb
  | cut=>exact fun hb=>by cases hb
theorem Rt (hs:List Nat) (hb:QoH s=true) (h:QlX Tt L fr rs hs [] [] Qpb= .ok [] [(0,v)] [] e e) (k:Upd μ L (Rv v)):KS Tryz.prog N (RK rs Rv) s fr μ L:=by
 refine KS.ret ?_ s hb;unfold RK;obtain ⟨vs,a',b',h1,h2,h3⟩:=QeP (μ:=μ) (e:=e) h (by simp);unfold Qpb at h2
 split at h2
 ·injection h2 with _ h2 _ h4 h5
  injection h2 with h2 _
  injection h2 with _ h2
  subst h2 h4;exact h3 _ h5.symm k
 ·rename_i hn
  injection h2 with _ h2 _ h4 h5
  injection h2 with h2 _
  injection h2 with _ h2
  subst h2 h4;refine h3 _ h5.symm ?_;have:Qfs vs= .tuple vs.toArray:=by
   match vs,hn with
   | [],_=>rfl
   | [v],hn=>exact absurd rfl (hn v)
   | _::_::_,_=>rfl
  rw[this];exact k
def Qeo (L:List Seg) (i:Nat):Option Seg:=bif Nat.blt i 64 then Qfp L i else none
theorem Qhi {L:List Seg} {i:Nat} {s:Seg} (h:Qeo L i=some s):L[i]? =some s:=by
 unfold Qeo at h;cases hb:Nat.blt i 64 with
 | true=>rw[hb] at h;rw[←QfW];exact h
 | false=>rw[hb] at h;cases h
def QhA:List Nat→List Seg→Seg×List Seg
 | [],L=>([],L)
 | [i],L=>match Qeo L i with
  | some s=>(s,QeA L i [])
  | none=>([],L)
 | i::j::r,L=>match Qeo L i with
  | some s=>(s++(QhA (j::r) (QeA L i [])).1,(QhA (j::r) (QeA L i [])).2)
  | none=>QhA (j::r) L
def Qh2:List (List Nat)→Nat→List Seg→List Seg
 | [],k,L=>L.drop k
 | g::r,k,L=>(QhA g L).1::Qh2 r k (QhA g L).2
theorem Qgi: ∀(g:List Nat) (L:List Seg),L.flatten.Perm ((QhA g L).1++(QhA g L).2.flatten)
 | [],L=>by simp[QhA]
 | [i],L=>by
  unfold QhA;cases hi:Qeo L i with
  | none=>simp
  | some s =>
   have hi:=Qhi hi;have h1:=JC hi
   rw[←Qf6] at h1
   simpa using h1
 | i::j::r,L=>by
  unfold QhA;cases hi:Qeo L i with
  | none=>exact Qgi (j::r) L
  | some s =>
   simp only
   have hi:=Qhi hi;have h1:=JC hi
   rw[←Qf6] at h1
   refine h1.trans ?_
   simp only[List.flatten_cons,List.append_assoc]
   exact (Qgi (j::r) _).append_left s
theorem Qd.grp: ∀(gs:List (List Nat)) (k:Nat) (L:List Seg),Qd (Qh2 gs k L) L:=by
 intro gs k L w μ h;have key: ∀(gs:List (List Nat)) (L:List Seg),∃M,L.flatten.Perm ((Qh2 gs k L).flatten++M):=by
  intro gs
  induction gs with
  | nil=>intro L;exact ⟨(L.take k).flatten,by
                          simp only[Qh2];conv=>lhs;rw[←List.take_append_drop k L,List.flatten_append]
                          exact List.perm_append_comm⟩
  | cons g r ih =>
   intro L;obtain ⟨M,hM⟩:=ih (QhA g L).2;refine ⟨M,(Qgi g L).trans ?_⟩
   simp only[Qh2,List.flatten_cons,List.append_assoc]
   exact hM.append_left _
 obtain ⟨M,hM⟩:=key gs L;exact (h.perm (L':=[(Qh2 gs k L).flatten,M]) (by simpa using hM)).sub (by simp)
theorem Gp {L2:List Seg} (gs:List (List Nat)) (k m:Nat) (hb:QkT s=true) (hn:nfL m (Qh2 gs k L) (fun l=> .ok [] [] l [] [])= .ok [] [] L2 [] []) (h:KS Tryz.prog N R s fr μ L2):KS Tryz.prog N R s fr μ L:=by
 rw[V9] at hn
 injection hn with _ _ hn _ _
 subst hn;exact KS.seg (Qd.grp gs k L) hb h
theorem Upd.gp {kk:Gh→List Seg→Prop} (gs:List (List Nat)) (k:Nat) (h:Upd μ (Qh2 gs k L) kk):Upd μ L kk:=fun w hw=>h w (Qd.grp gs k L w μ hw)
theorem Fn.gp {f:FuncId} {args:List Value} {Rv:Value→Gh→List Seg→Prop} {L2:List Seg} (gs:List (List Nat)) (k m:Nat) (hn:nfL m (Qh2 gs k L) (fun l=> .ok [] [] l [] [])= .ok [] [] L2 [] []) (h:Fn Tryz.prog f args μ L2 Rv):Fn Tryz.prog f args μ L Rv:=by
 rw[V9] at hn
 injection hn with _ _ hn _ _
 subst hn;exact Fn.seg (Qd.grp gs k L) h
def Qnd:List Seg→Nat→List Seg→List Seg
 | [],_,_=>[]
 | _::r,0,xs=>xs++r
 | s::r,n+1,xs=>s::Qnd r n xs
theorem Qd.ins {xs:List Seg} {so:Seg} (hx:xs.flatten=so): ∀{L:List Seg} {i:Nat},Qfp L i=some so→Qd (Qnd L i xs) L:=by
 intro L i hi w μ hw;have key: ∀{L:List Seg} {i:Nat},Qfp L i=some so→(Qnd L i xs).flatten=L.flatten:=by
  intro L
  induction L with
  | nil=>intro i h;cases h
  | cons s r ih =>
   intro i h;cases i with
   | zero=>simp only[Qfp,Option.some.injEq] at h;subst h;simp[Qnd,hx]
   | succ i=>simp only[Qnd,List.flatten_cons];rw[ih (by simpa [Qfp] using h)]
 exact hw.perm (by rw[key hi])
theorem In {xs:List Seg} {so:Seg} {L2:List Seg} (hx:xs.flatten=so) (i m:Nat) (hb:QkT s=true) (hi:Qfp L i=some so) (hn:nfL m (Qnd L i xs) (fun l=> .ok [] [] l [] [])= .ok [] [] L2 [] []) (h:KS Tryz.prog N R s fr μ L2):KS Tryz.prog N R s fr μ L:=by
 rw[V9] at hn
 injection hn with _ _ hn _ _
 subst hn;exact KS.seg (Qd.ins hx hi) hb h
def QcT:Fr→List Nat
 | []=>[]
 | (t,_)::r=>t::QcT r
theorem Qi9 {fr:Fr}: ∀{F:Fr},Qk (QcT F) fr=F→Qm0 F fr
 | [],_=>trivial
 | (t,v)::r,h=>by
  simp only[QcT,Qk] at h
  split at h
  ·rename_i u hu
   injection h with h1 h2
   injection h1 with _ h1
   subst h1;exact ⟨hu,Qi9 h2⟩
  ·
   exfalso
   have key: ∀(ts:List Nat),(Qk ts fr).length≤ts.length:=by
    intro ts
    induction ts with
    | nil=>exact Nat.le_refl _
    | cons t ts ih =>
     simp only[Qk]
     split
     ·simp only[List.length_cons];omega
     ·simp only[List.length_cons];omega
   have h1:=key (QcT r);have h2: ∀F:Fr,(QcT F).length=F.length:=by
    intro F
    induction F with
    | nil=>rfl
    | cons p F ih=>obtain ⟨t,v⟩:=p;simp only[QcT,List.length_cons,ih]
   rw[h,h2] at h1
   simp only[List.length_cons] at h1
   omega
theorem fE {F fr:Fr} (h:Qk (QcT F) fr=F):Qh F fr:=Qh.of (Qi9 h)
theorem sE {M L:List Seg} (idx:List (Option Nat)) (n:Nat) (h:QC idx n L=M):Qd M L:=by subst h;exact Qd.sel L idx n
theorem s0 {L:List Seg} (n:Nat):Qd (QC [] n L) L:=Qd.sel L [] n
theorem Ug {kk:Gh→List Seg→Prop} (gs:List (List Nat)) (k:Nat) (h:kk μ (Qh2 gs k L)):Upd μ L kk:=fun w hw=>⟨μ,_,Gh.le.refl _,Qd.grp gs k L w μ hw,h⟩
theorem Qh.tr {F G fr:Fr} (h:Qh F fr) (hg:Qk (QcT G) F=G):Qh G fr:=(fE hg).trans h
theorem Qd.tr {A M B:List Seg} (h:Qd M B) (hg:Qd A M):Qd A B:=hg.trans h
theorem Cd {c:Code} (h:WP Tryz.prog N c (KS Tryz.prog N R s) (BS Tryz.prog N R s) (KEn N R) fr μ L):KS Tryz.prog N R (.code c::s) fr μ L:=h
def drB (ops:List Oper) (plan:List (Bool×Nat)):Bool:=Nat.beq plan.length ops.length&&(Region.noSelect ops.toArray&&(Qen ops&&Qeu ops plan (List.replicate ops.length false)))
theorem Dr {id:Nat} {ops:List Oper} (keep:List Seg) (hk:Qz keep L) (plan:List (Bool×Nat)) (hp:drB ops plan=true) (h:KS Tryz.prog N R (.pln ops (List.replicate ops.length false) plan μ keep::s) fr μ L):KS Tryz.prog N R (.code (.region id ops.toArray true)::s) fr μ L:=by
 unfold drB at hp
 simp only[Bool.and_eq_true] at hp
 exact WP.drawS Qd2 keep hk plan (Nat.eq_of_beq_eq_true hp.1) hp.2.1 hp.2.2.1 hp.2.2.2 h
def Qd4:Nat→List Seg→List Seg
 | 0,L=>match L with | []=>[] | _::r=>r
 | n+1,L=>match L with | []=>[] | s::r=>s::Qd4 n r
def rmS:List Nat→List Seg→List Seg
 | [],L=>L
 | i::r,L=>rmS r (Qd4 i L)
theorem Qkr: ∀(n:Nat) (L:List Seg),∀x∈Qd4 n L,x∈L
 | 0,[],x,h=>h
 | 0,_::r,x,h=>List.mem_cons_of_mem _ h
 | n+1,[],x,h=>h
 | n+1,s::r,x,h=>by
  rcases List.mem_cons.1 h with rfl | h
  ·exact List.mem_cons_self
  ·exact List.mem_cons_of_mem _ (Qkr n r x h)
theorem QmI: ∀(idx:List Nat) (L:List Seg),∀x∈rmS idx L,x∈L
 | [],L,x,h=>h
 | i::r,L,x,h=>Qkr i L x (QmI r _ x h)
theorem Drk {id:Nat} {ops:List Oper} {keep:List Seg} (idx:List Nat) (m:Nat) (hn:nfL m (rmS idx L) (fun l=> .ok [] [] l [] [])= .ok [] [] keep [] []) (plan:List (Bool×Nat)) (hp:drB ops plan=true)
  (h:KS Tryz.prog N R (.pln ops (List.replicate ops.length false) plan μ keep::s) fr μ L):KS Tryz.prog N R (.code (.region id ops.toArray true)::s) fr μ L:=by
 rw[V9] at hn
 injection hn with _ _ hn _ _
 exact Dr keep (Qz.of fun x hx=>QmI idx L x (by rw[hn];exact hx)) plan hp h
def Qoq:List Nat→Nat→List Seg→List Seg
 | [],n,L=>L.drop n
 | i::r,n,L=>(Qfp L i).getD []::Qoq r n L
theorem Kp {keep:List Seg} (idx:List Nat) (n:Nat) (h:Qoq idx n L=keep):Qz keep L:=by
 subst h
 induction idx with
 | nil =>
  intro c hc;obtain ⟨x,h1,h2⟩:=List.mem_flatten.1 hc;exact List.mem_flatten.2 ⟨x,List.mem_of_mem_drop h1,h2⟩
 | cons i r ih =>
  intro c hc
  simp only[Qoq,List.flatten_cons,List.mem_append] at hc
  rcases hc with hc | hc
  ·cases hi:Qfp L i with
   | none=>rw[hi] at hc;cases hc
   | some x =>
    rw[hi] at hc
    rw[QfW] at hi
    exact List.mem_flatten.2 ⟨x,List.mem_of_getElem? hi,hc⟩
  ·exact ih c hc
theorem Cut {ρ β:Type} {m:Option ρ} {f:ρ→Option β} {r:β} {c:Code} (h:Option.bind m f=some r) (M:Fr→List Seg→ρ→Yh) (h1: ∀o,m=some o→f o=some r→KS Tryz.prog N R (.code c:: .cut (M fr L o)::s) fr μ L)
  (h2: ∀o fr' μ' L',f o=some r→μ.le μ'→M fr L o fr' μ' L'→KS Tryz.prog N R s fr' μ' L'):KS Tryz.prog N R (.code c::s) fr μ L:=by
 obtain ⟨o,ho,h⟩:=Qi h;exact WP.cutK (M fr L o) (h1 o ho h) fun fr' μ' L' hm hM=>h2 o fr' μ' L' h hm hM
theorem Atn {F F':Fr} {L2 L2':List Seg} (n:Nat) (hF:Qh F fr) (hs:Qd L2 L) (hb:QkT s=true) (hn:nfF F (fun f=>nfL n L2 fun l=> .ok [] f l [] [])= .ok [] F' L2' [] []) (h:KS Tryz.prog N R s F' μ L2'):KS Tryz.prog N R s fr μ L:=by
 rw[QkP,V9] at hn
 injection hn with _ h1 h2 _ _
 subst h1 h2;exact Att hF hs hb h
def Qpp:List MIt→Option Yh
 | .cut M::_=>some M
 | .blk _::s=>Qpp s
 | .ops _ []::s=>Qpp s
 | _=>none
theorem Ce {M:Yh} (hb:Qpp s=some M) (h:M fr μ L):KS Tryz.prog N R s fr μ L:=by
 induction s with
 | nil=>cases hb
 | cons i s ih =>
  cases i with
  | code c=>cases hb
  | blk i=>exact ih hb
  | ops all r =>
   cases r with
   | nil=>exact Qaq.nil (ih hb)
   | cons o r=>cases hb
  | pln=>cases hb
  | plp=>cases hb
  | cut M'=>simp only[Qpp,Option.some.injEq] at hb;subst hb;exact h
theorem Lp {σ ρ:Type} {body:σ→Option (σ⊕ρ)} {n i:Nat} {s0:σ} {o:ρ} {c:Code} (h:iter body n s0=some o) (I:Fr→List Seg→σ→Yh) (h0:I fr L s0 fr μ L)
  (round: ∀st q fr' μ' L',μ.le μ'→I fr L st fr' μ' L'→body st=some q→(∀r,q= .inr r→r=o)→KS Tryz.prog N R (.code c:: .cut (fun fr2 μ2 L2=> ∃st',q= .inl st'∧I fr L st' fr2 μ2 L2):: .blk i::s) fr' μ' L') :
  KS Tryz.prog N R (.code (.block i (.loop c))::s) fr μ L :=
 WP.block (WP.iter h (I fr L) h0 round)
inductive QpN where
 | ok (o:Oper) (s:List MIt) (n:Nat) (vs:List Value)
 | bad
def clO (s:List MIt) (fr:Fr):QpN:=match hdS s fr with
 | some (o,s')=>(match o.op with
  | .call ⟨.value f,args,_⟩=>(match evV fr f,QbW fr args.toList with
   | some (.func (.func g) ⟨fi⟩ ⟨ca⟩),some vs=> .ok o s' g (fi++(vs++ca))
   | _,_=> .bad)
  | _=> .bad)
 | none=> .bad
theorem Cl {o:Oper} {f:Nat} {args:List Value} (h:clO s fr= .ok o s' f args) (k:Fn Tryz.prog f args μ L fun v μ' L'=>kpt s L' (Z8 N o.dst v fr fun f=>KS Tryz.prog N R s' f μ' L')):KS Tryz.prog N R s fr μ L:=by
 unfold clO at h
 split at h
 ·rename_i o1 s1 h1
  split at h
  ·rename_i hop
   split at h
   ·rename_i hf hv
    injection h with e1 e2 e3 e4
    subst e1 e2 e3 e4;refine So h1 ?_
    rw[hop]
    exact QaC hf hv (by simp) k
   ·cases h
  ·cases h
 ·cases h
def alO (s:List MIt) (fr:Fr):QpN:=match hdS s fr with
 | some (o,s')=>(match o.op with
  | .alloc t=>(match Tt t with | some i=>(match i.zero.cells with | ⟨cs⟩=> .ok o s' t cs) | none=> .bad)
  | .box t x=>(match evV fr x with | some v=>(match v.cells with | ⟨cs⟩=> .ok o s' t cs) | none=> .bad)
  | _=> .bad)
 | none=> .bad
theorem Al {o:Oper} {t:Nat} {cs:List Value} (h:alO s fr= .ok o s' t cs) (k: ∀g,kpt s ([(g,.cells ⟨cs⟩ t)]::L) (Z8 N o.dst (.pointer (some ⟨g,0,none⟩)) fr fun f=>KS Tryz.prog N R s' f μ ([(g,.cells ⟨cs⟩ t)]::L))):KS Tryz.prog N R s fr μ L:=by
 unfold alO at h
 split at h
 ·rename_i o1 s1 h1
  split at h
  ·rename_i hop
   split at h
   ·rename_i hT
    split at h
    rename_i hz
    injection h with e1 e2 e3 e4
    subst e1 e2 e3 e4;refine So h1 ?_
    rw[hop]
    exact Qad hT hz k
   ·cases h
  ·rename_i hop
   split at h
   ·rename_i hv
    split at h
    rename_i hz
    injection h with e1 e2 e3 e4
    subst e1 e2 e3 e4;refine So h1 ?_
    rw[hop]
    exact QqB hv hz k
   ·cases h
  ·cases h
 ·cases h
inductive Qrb where
 | ok (o:Oper) (s:List MIt) (A:Option Addr) (len:Nat) (ix:Int) (sz:Nat)
 | bad
def ixO (s:List MIt) (fr:Fr):Qrb:=match hdO s fr with
 | some (true,o,s')=>(match o.op with
  | .indexAddr t x n=>(match evV fr x,evV fr n,Tt t with
   | some (.slice A len _),some (.int _ ix),some i=>(match i.u with
    | .slice e=>(match Tt e with | some ⟨_,sz,_,_,_⟩=> .ok o s' A len ix sz | none=> .bad)
    | _=> .bad)
   | _,_,_=> .bad)
  | _=> .bad)
 | _=> .bad
theorem Ix {α β:Type} {μ1:Gh} {L1:List Seg} {r:Rp α} {xs:List α} {ix:Int} {f:α→Option β} {res:β} {A:Option Addr} {o:Oper} {sz:Nat} (h:Option.bind (getI xs ix) f=some res) (hR:Rds r μ1 L1 A xs) (hi:ixO s fr= .ok o s' A xs.length ix sz) (hz:r.sz=sz)
  (k: ∀x a cs,getI xs ix=some x→r.rep μ1 x cs→Jb μ1 L1 (a.add (ix.toNat*sz)) cs→A=some a→f x=some res→Z8 N o.dst (.pointer (some (a.add (ix.toNat*sz)))) fr fun f=>KS Tryz.prog N R s' f μ L):KS Tryz.prog N R s fr μ L:=by
 subst hz;obtain ⟨x,hx,hh⟩:=Qi h;obtain ⟨a,cs,hA,hr,_,hc⟩:=Rds.getI hR hx;unfold ixO at hi
 split at hi
 ·rename_i o1 s1 h1
  split at hi
  ·rename_i hop
   split at hi
   ·rename_i hx1 hn1 hT1
    split at hi
    ·rename_i hu
     split at hi
     ·rename_i hT2
      injection hi with e1 e2 e3 e4 e5 e6
      subst e1 e2 e3 e4 e5;refine Rdo h1 (by rw[hop];rfl) ?_
      rw[hop]
      refine Jq hx1 hn1 hT1 hu hT2 e6 ⟨(QE hx).1,(QE hx).2.1⟩ hA ?_;exact k x a cs hx hr hc hA hh
     ·cases hi
    ·cases hi
   ·cases hi
  ·cases hi
 ·cases hi
theorem IxN {α β:Type} {μ1:Gh} {L1:List Seg} {r:Rp α} {xs:List α} {ix:Int} {f:α→Option β} {res:β} {A:Option Addr} {o:Oper} {sz:Nat} {n:Nat} (hn:n=xs.length) (h:Option.bind (getI xs ix) f=some res) (hR:Rds r μ1 L1 A xs) (hi:ixO s fr= .ok o s' A n ix sz) (hz:r.sz=sz)
  (k: ∀x a cs,getI xs ix=some x→r.rep μ1 x cs→Jb μ1 L1 (a.add (ix.toNat*sz)) cs→A=some a→f x=some res→Z8 N o.dst (.pointer (some (a.add (ix.toNat*sz)))) fr fun f=>KS Tryz.prog N R s' f μ L):KS Tryz.prog N R s fr μ L:=by
 subst hn;exact Ix h hR hi hz k
theorem IxA {α β:Type} {all rest:List Oper} {s1:List MIt} {r:Rp α} {xs:List α} {ix:Int} {f:α→Option β} {res:β} {A:Option Addr} {o:Oper} {sz:Nat} (h:Option.bind (getI xs ix) f=some res) (hR:Rds r μ L A xs) (hi:ixO (.ops all rest::s1) fr= .ok o s' A xs.length ix sz) (hz:r.sz=sz)
  (k: ∀x a cs,getI xs ix=some x→r.rep μ x cs→Jb μ L (a.add (ix.toNat*sz)) cs→A=some a→f x=some res→Z8 N o.dst (.pointer (some (a.add (ix.toNat*sz)))) fr fun f=>KS Tryz.prog N R s' f μ L):KS Tryz.prog N R (.ops all rest::s1) fr μ L:=Ix h hR hi hz k
end
end Go.Proofs.YthpgjbbjpfiniaaGreat
