/- LedgerCopies: for every input the given law returns true, and its arguments read as before. No condition. -/
import Derived.Test.Ytpghcnpheabbgaac8x0
import Derived.Maps.AppendAt
import Derived.Lib.Overlaps
import Derived.Laws.MakeOwn
import Derived.Laws.Entries
import Derived.Scope
import Derived.Laws.StructEq
namespace Go.Proofs.Ytpghcnpheabbgaa
open Go.RowKit
set_option linter.unusedSimpArgs false
set_option linter.unusedVariables false
section
variable {μ:Gh} {L:List Seg} {k:Gh→List Seg→Prop}
theorem Upd.done (h:k μ L):Upd μ L k:=fun _ hw=>⟨μ,L,Gh.le.refl _,hw,h⟩
theorem Upd.drop {s:Seg} (h:Upd μ L k):Upd μ (s::L) k:=fun w hw=>h w hw.drop
theorem Upd.sub {L':List Seg} (hs:L'.flatten.Sublist L.flatten) (h:Upd μ L' k):Upd μ L k:=fun w hw=>h w (hw.sub hs)
theorem Upd.perm {L':List Seg} (hs:L.flatten.Perm L'.flatten) (h:Upd μ L' k):Upd μ L k:=fun w hw=>h w (hw.perm hs)
theorem Upd.swap {s t:Seg} (h:Upd μ (t::s::L) k):Upd μ (s::t::L) k :=
 h.perm (by simp only[List.flatten_cons,←List.append_assoc];exact List.perm_append_comm.append_right _)
theorem Upd.frz {s:Seg} (h:μ.le (μ.add s)→Upd (μ.add s) L k):Upd μ (s::L) k:=fun w hw=>by
 obtain ⟨hm,hi⟩:=hw.freeze;obtain ⟨μ',L',h1,h2,h3⟩:=h hm w hi;exact ⟨μ',L',hm.trans h1,h2,h3⟩
theorem Upd.mono {k':Gh→List Seg→Prop} (h:Upd μ L k) (hk: ∀μ' L',μ.le μ'→k μ' L'→k' μ' L'):Upd μ L k':=fun w hw=>by
 obtain ⟨μ',L',h1,h2,h3⟩:=h w hw;exact ⟨μ',L',h1,h2,hk _ _ h1 h3⟩
theorem Upd.know (h:(∃w,Inv w μ L)→Upd μ L k):Upd μ L k:=fun w hw=>h ⟨w,hw⟩ w hw
theorem WP.upd {P:Program} {N:NN} {c:Code} {K:Ql} {B:Nat→Ql} {R:Ql} {fr:Fr} (h:Upd μ L fun μ' L'=>WP P N c K B R fr μ' L'):WP P N c K B R fr μ L:=fun a w ha hw=>by
 obtain ⟨μ',L',h1,h2,h3⟩:=h w hw;exact Code.wpIn_mono (YV h1 (fun _ _ _ _ h=>h) (fun _ _ _ _ _ h=>h) (fun _ _ _ _ h=>h)) (h3 a w ha h2)
theorem QJ.upd {P:Program} {s:Sem Value} {R:Value→Gh→List Seg→Prop} (h:QJ P s μ L fun v μ' L'=>Upd μ' L' (R v)):QJ P s μ L R:=fun w hw=>by
 obtain ⟨v,w',μ',L',h1,h2,h3,h4⟩:=h w hw;obtain ⟨μ2,L2,k1,k2,k3⟩:=h4 w' h3;exact ⟨v,w',μ2,L2,h1,h2.trans k1,k2,k3⟩
theorem QJ.pre {P:Program} {s:Sem Value} {R:Value→Gh→List Seg→Prop} (h:Upd μ L fun μ' L'=>QJ P s μ' L' R):QJ P s μ L R:=fun w hw=>by
 obtain ⟨μ',L',h1,h2,h3⟩:=h w hw;obtain ⟨v,w',μ2,L2,k1,k2,k3,k4⟩:=h3 w h2;exact ⟨v,w',μ2,L2,k1,h1.trans k2,k3,k4⟩
theorem Fn.upd {P:Program} {f:FuncId} {args:List Value} {R:Value→Gh→List Seg→Prop} (h:Fn P f args μ L fun v μ' L'=>Upd μ' L' (R v)):Fn P f args μ L R:=by
 rcases h with ⟨h1,h2⟩ | ⟨fn,e,h1,h2,h3,h4,h5,h6⟩
 ·exact .inl ⟨h1,fun w hw=>(h2 w hw).mono fun _ w' ⟨v,μ',L',he,hm,hi,hR⟩=>by
   obtain ⟨μ2,L2,h1,h2,h3⟩:=hR w' hi;exact ⟨v,μ2,L2,he,hm.trans h1,h2,h3⟩⟩
 ·exact .inr ⟨fn,e,h1,h2,h3,h4,h5,h6.upd⟩
theorem QS {L:List Seg} {i:Nat} {s:Seg} (hi:L[i]? =some s):L.flatten.Perm (s::L.set i []).flatten:=by
 induction L generalizing i with
 | nil=>simp at hi
 | cons t L ih =>
  cases i with
  | zero=>simp at hi;subst hi;simp
  | succ i =>
   simp at hi
   have:=ih hi
   simp only[List.flatten_cons,List.set_cons_succ] at this ⊢
   refine (this.append_left t).trans ?_
   rw[←List.append_assoc,←List.append_assoc]
   exact List.perm_append_comm.append_right _
theorem Upd.frzAt (i:Nat) {s:Seg} (hi:L[i]? =some s) (h:μ.le (μ.add s)→Upd (μ.add s) (L.set i []) k):Upd μ L k :=
 Upd.perm (QS hi) (Upd.frz h)
end
def Ya (e:TypeId) (sz:Nat) (v:Value) (css:List (List Value)) (ch:Seg):Prop :=
 (∀cs∈css,cs.length=sz) ∧
 (
  (v= .slice none 0 0∧css=[]∧ch=[]) ∨
  ∃g cap cur,v= .slice (some ⟨g,0,none⟩) css.length cap∧ch=[(g,.cells cur e (0,0))]∧css.length≤cap∧cap≤maxLen∧cur.size=cap*sz∧cur.toList.take (css.length*sz)=css.flatten)
theorem Ya.nil {e:TypeId} {sz:Nat}:Ya e sz (.slice none 0 0) [] []:=⟨by simp,.inl ⟨rfl,rfl,rfl⟩⟩
theorem QK {sz:Nat}: ∀{css:List (List Value)},(∀cs∈css,cs.length=sz)→css.flatten.length=css.length*sz
 | [],_=>by simp
 | c::r,h=>by
  rw[List.flatten_cons,List.length_append,h c (by simp),QK (fun c hc=>h c (by simp[hc])),List.length_cons,Nat.succ_mul];omega
theorem J4 {sz:Nat}: ∀{css:List (List Value)} {i j:Nat} {cs:List Value} {v:Value},(∀cs∈css,cs.length=sz)→css[i]? =some cs→cs[j]? =some v→css.flatten[i*sz+j]? =some v
 | [],i,j,cs,v,_,hi,_=>by simp at hi
 | c::r,0,j,cs,v,h,hi,hj=>by
  simp at hi;subst hi
  have hlt:j<c.length:=by
   rcases Nat.lt_or_ge j c.length with h | h
   ·exact h
   ·rw[List.getElem?_eq_none h] at hj;cases hj
  rw[List.flatten_cons,Nat.zero_mul,Nat.zero_add,List.getElem?_append_left hlt];exact hj
 | c::r,i+1,j,cs,v,h,hi,hj=>by
  have hc:=h c (by simp)
  rw[List.flatten_cons,List.getElem?_append_right (by rw[hc,Nat.succ_mul];omega)]
  have:(i+1)*sz+j-c.length=i*sz+j:=by rw[hc,Nat.succ_mul];omega
  rw[this]
  exact J4 (fun c hc=>h c (by simp[hc])) (by simpa using hi) hj
theorem Ya.form {e:TypeId} {sz:Nat} {v:Value} {css:List (List Value)} {ch:Seg} (h:Ya e sz v css ch): ∃A cap,v= .slice A css.length cap∧css.length≤cap∧cap≤maxLen:=by
 rcases h.2 with ⟨rfl,rfl,rfl⟩ | ⟨g,cap,cur,rfl,_,h1,h2,_⟩
 ·exact ⟨none,0,rfl,by simp,by simp[maxLen]⟩
 ·exact ⟨_,cap,rfl,h1,h2⟩
theorem Ya.arr {e:TypeId} {sz:Nat} {A:Option Addr} {n cap:Nat} {css:List (List Value)} {ch:Seg} (h:Ya e sz (.slice A n cap) css ch) {μ:Gh} (hm: ∀c∈ch,μ.mem c.1=some c.2):Arr μ A sz css:=by
 intro i cs hi;have hcs:=h.1 cs (List.mem_of_getElem? hi);refine ⟨hcs,?_⟩;rcases h.2 with ⟨_,rfl,_⟩ | ⟨g,cap',cur,hv,rfl,h1,h2,h3,h4⟩
 ·cases hi
 ·injection hv with hv _ _
  refine ⟨⟨g,0,none⟩,hv,fun j v hj=> ?_⟩
  rw[Yw,Yw]
  refine ⟨rfl,cur,e,(0,0),.inl (hm (g,.cells cur e (0,0)) (by simp)),?_⟩;have hf:=J4 h.1 hi hj
  rw[←h4,List.getElem?_take] at hf
  split at hf
  ·simpa using hf
  ·cases hf
theorem QcD {w:World} {μ:Gh} {L:List Seg} (h:Inv w μ L) {i:Nat} {s:Seg} (hi:L[i]? =some s):(s.map (·.1)).Nodup:=by
 have:=(h.perm (QS hi)).nd
 simp only[List.flatten_cons,List.map_append,List.nodup_append] at this
 exact this.1
theorem Upd.arr {e:TypeId} {sz:Nat} {v:Value} {css:List (List Value)} {ch:Seg} {μ:Gh} {L:List Seg} {k:Gh→List Seg→Prop} (i:Nat) (hi:L[i]? =some ch) (hown:Ya e sz v css ch)
  (h: ∀A cap μ',v= .slice A css.length cap→cap≤maxLen→css.length≤cap→μ.le μ'→Arr μ' A sz css→Upd μ' (L.set i []) k):Upd μ L k:=by
 refine Upd.know fun ⟨w,hw⟩=> ?_;have hn:=QcD hw hi;refine Upd.frzAt i hi fun hm=> ?_;obtain ⟨A,cap,rfl,h1,h2⟩:=hown.form;exact h A cap _ rfl h2 h1 hm (hown.arr fun c hc=>Gh.add_at hc hn)
section
variable {P:Program} {T:TT} {μ:Gh} {L:List Seg} {k:Value→Gh→List Seg→Prop}
theorem Ya.row {w:World} {e:TypeId} {sz:Nat} {v:Value} {css:List (List Value)} {ch:Seg} (h:Ya e sz v css ch) (hw: ∀c∈ch,w.heap[c.1]? =some c.2) :
  w.ownsRow 0 e sz v css.length css.flatten:=by
 refine ⟨QK h.1,?_⟩;rcases h.2 with ⟨rfl,rfl,rfl⟩ | ⟨g,cap,cur,rfl,rfl,h1,h2,h3,h4⟩
 ·exact .inl ⟨rfl,rfl⟩
 ·exact .inr ⟨g,cap,cur,rfl,Nat.zero_le _,hw (g,.cells cur e (0,0)) (by simp),h1,h2,h3,h4⟩
theorem V5 (hT:TOk P T) {t ty e:TypeId} {it ie:TyI} (ht:T t=some it) (hu:it.u= .slice e) (he:T e=some ie) (hz:ie.zero.cells.size=ie.size) (hsz:0<ie.size)
  {v:Value} {css:List (List Value)} {ch:Seg} (i:Nat) (hi:L[i]? =some ch) (hown:Ya e ie.size v css ch)
  {A:Option Addr} {m c:Nat} {news:List (List Value)} (hm:news.length=m) (hn: ∀cs∈news,cs.length=ie.size) (h1: ∀cs∈news,∀u∈cs,u.oneCell'=true)
  (hr:0<m→ ∃a,A=some a∧QI μ L a news.flatten) (h63:css.length+m≤maxLen) (hb:(css.length+m)*ie.bytes≤140737488355328)
  (hk: ∀v' ch',Ya e ie.size v' (css++news) ch'→(css++news=[]→v'=v∨A≠none)→k v' μ (L.set i ch')) :
  QJ P (Builtin.append_ #[t,t] ty #[v,.slice A m c]) μ L k:=by
 intro w hw;have hself:L.set i ch=L:=by
  apply List.ext_getElem?;intro j
  by_cases hj:i=j
  ·subst hj;have hlt:i<L.length:=by
    rcases Nat.lt_or_ge i L.length with h | h
    ·exact h
    ·rw[List.getElem?_eq_none h] at hi;cases hi
   have he1:L[i]=ch:=by rw[List.getElem?_eq_getElem hlt] at hi;injection hi
   simp[List.getElem?_set,hlt,he1]
  ·simp[List.getElem?_set,hj]
 have hperm:=QS hi;obtain ⟨j,hj1,hj2,hj3,hj4⟩:=WM hT he;have hut:=QbA hT ht hu (by simp);have hchw: ∀c∈ch,w.heap[c.1]? =some c.2:=fun c hc=>hw.own c (List.mem_flatten.2 ⟨ch,List.mem_of_getElem? hi,hc⟩);have hrow:=hown.row hchw;rcases Nat.eq_zero_or_pos m with h0 | h0
 ·
  subst h0;have hne:news=[]:=List.eq_nil_of_length_eq_zero hm;subst hne;have hrun:(Builtin.append_ #[t,t] ty #[v,.slice A 0 c]).run P w= .ok v w:=by
   obtain ⟨A',cap,rfl,hc1,hc2⟩:=hown.form;cases A<;>cases A'<;>simp[Builtin.append_,run_underlying hut,sizeOf,typeInfo,hj1,Builtin.lenOf,hc1,Builtin.firstCells,loadCells,loadCellsFrom,storeCells]
  refine ⟨v,w,μ,L,hrun,Gh.le.refl _,hw,?_⟩;have:=hk v ch (by simpa using hown) (fun _=> .inl rfl)
  rwa [hself] at this
 ·obtain ⟨
      a,rfl,hcs⟩:=hr h0
  obtain ⟨v',w',hrun,h2,h3,_,h5⟩:=run_append_own_at (P:=P) w 0 t ty e j ie.zero ie.size ie.bytes hut hj1 hj4 hj3 hj2 hz hsz v css.length css.flatten hrow a m c news.flatten (by rw[QK hn,hm])
   (fun j u hu=>hw.holds.cell (hcs j u hu)) (fun u hu=>by obtain ⟨cs,h6,h7⟩:=List.mem_flatten.1 hu;exact h1 cs h6 u h7) h63 hb (Nat.zero_le _)
  have hlen:css.length+m=(css++news).length:=by rw[List.length_append,hm]
  rw[hlen,←List.flatten_append] at h2
  have hnn:(css++news).length≠0:=by rw[←hlen];omega
  rcases h2.2 with ⟨_,hz0⟩ | ⟨g,cap,cur,rfl,_,hg,hc1,hc2,hc3,hc4⟩
  ·exact absurd hz0 hnn
  ·have hgo:g=w.heap.size∨ ∃o,ch=[(g,o)]:=by
    simp only[Value.ownBlock] at h5
    rcases h5 with h5 | h5
    ·rcases hown.2 with ⟨rfl,_,_⟩ | ⟨g',cap',cur',rfl,rfl,_⟩
     ·simp at h5
     ·simp at h5;subst h5;exact .inr ⟨_,rfl⟩
    ·injection h5 with h5;exact .inl h5
   refine ⟨_,w',μ,L.set i [(g,.cells cur e (0,0))],hrun,Gh.le.refl _,?_,hk _ _ ⟨?_,.inr ⟨g,cap,cur,rfl,rfl,hc1,hc2,hc3,hc4⟩⟩ (fun h=>absurd (by rw[h];rfl) hnn)⟩
   ·
    have hw1:Inv w μ (ch::L.set i []):=hw.perm hperm;have hsub:(L.set i []).flatten.Sublist (ch::L.set i []).flatten:=by simp
    have hown': ∀c∈(L.set i []).flatten,c.1≠g∧c.1<w.heap.size∧some c.1≠v.ownBlock:=by
     intro c hc;have hlt:=QG (hw1.own c (hsub.subset hc));have hnd:=hw1.nd
     simp only[List.flatten_cons,List.map_append,List.nodup_append] at hnd
     have hnch: ∀d∈ch,d.1≠c.1:=fun d hd=>hnd.2.2 d.1 (List.mem_map.2 ⟨d,hd,rfl⟩) c.1 (List.mem_map.2 ⟨c,hc,rfl⟩);refine ⟨?_,hlt,?_⟩
     ·rcases hgo with rfl | ⟨o,rfl⟩
      ·omega
      ·exact fun e=>hnch (g,o) (by simp) e.symm
     ·rcases hown.2 with ⟨rfl,_,_⟩ | ⟨g',cap',cur',rfl,rfl,_⟩
      ·simp[Value.ownBlock]
      ·simp only[Value.ownBlock,ne_eq,Option.some.injEq]
       exact fun q=>hnch (g',.cells cur' e (0,0)) (by simp) q.symm
    have hkeep: ∀c∈(L.set i []).flatten,w'.heap[c.1]? =some c.2:=fun c hc=>by
     obtain ⟨_,h6,h7⟩:=hown' c hc
     rw[h3.block c.1 h6 h7]
     exact hw1.own c (hsub.subset hc)
    have hgm:μ.mem g=none:=by
     rcases hgo with rfl | ⟨o,rfl⟩
     ·cases hx:μ.mem w.heap.size with
      | none=>rfl
      | some x=>have:=QG (hw.mem _ _ hx);omega
     ·exact hw1.sep (g,o) (by simp)
    have hfin:Inv w' μ ([(g,.cells cur e (0,0))]::L.set i []):=by
     refine ⟨h3.os.trans hw.os,h3.output.trans hw.out,h3.tape.trans hw.tape,fun b o hb=> ?_,fun c hc=> ?_,fun c hc=> ?_,?_⟩
     ·have h6:=hw.mem b o hb
      rw[h3.block b (QG h6) ?_];exact h6
      intro he1;rcases hown.2 with ⟨rfl,_,_⟩ | ⟨g',cap',cur',rfl,rfl,_⟩
      ·simp[Value.ownBlock] at he1
      ·simp only[Value.ownBlock,Option.some.injEq] at he1
       subst he1;have:=hw1.sep (b,.cells cur' e (0,0)) (by simp)
       rw[hb] at this;cases this
     ·simp only[List.flatten_cons,List.singleton_append,List.mem_cons] at hc
      rcases hc with rfl | hc
      ·exact hg
      ·exact hkeep c hc
     ·simp only[List.flatten_cons,List.singleton_append,List.mem_cons] at hc
      rcases hc with rfl | hc
      ·exact hgm
      ·exact hw1.sep c (hsub.subset hc)
     ·simp only[List.flatten_cons,List.singleton_append,List.map_cons,List.nodup_cons]
      refine ⟨fun hmem=> ?_,?_⟩
      ·obtain ⟨c,hc,he⟩:=List.mem_map.1 hmem;exact (hown' c hc).1 he
      ·exact (hsub.map _).nodup hw1.nd
    refine hfin.perm ?_;have hi':(L.set i [(g,Obj.cells cur e (0,0))])[i]? =some [(g,.cells cur e (0,0))]:=by
     have:i<L.length:=by
      rcases Nat.lt_or_ge i L.length with h | h
      ·exact h
      ·rw[List.getElem?_eq_none h] at hi;cases hi
     simp[this]
    have:=QS hi'
    rw[List.set_set] at this
    exact this.symm
   ·intro cs hcs';rcases List.mem_append.1 hcs' with h | h
    ·exact hown.1 cs h
    ·exact hn cs h
end
end Go.Proofs.Ytpghcnpheabbgaa
namespace Go.Proofs.Ytpghcnpheabbgaa
open Go.RowKit
set_option linter.unusedSimpArgs false
set_option linter.unusedVariables false
structure Zq (kd:IntKind) (es:Array MapEntry) (c:Nat) (m:List (Int×Value)):Prop where
 ps:es.toList.map (fun e=>(e.key,e.val))=m.map (fun p=>(Value.int kd p.1,p.2))
 nd:(m.map (·.1)).Nodup
 born:(es.toList.map (·.born)).Nodup
 lt: ∀e∈es.toList,e.born<c
def Y9 (n:Int):List (Int×Value)→Option Value
 | []=>none
 | p::r=>if p.1=n then some p.2 else Y9 n r
def JQ (n:Int) (v:Value):List (Int×Value)→List (Int×Value)
 | []=>[(n,v)]
 | p::r=>if p.1=n then (n,v)::r else p::JQ n v r
theorem Zq.nil {kd:IntKind}:Zq kd #[] 0 []:=⟨rfl,List.nodup_nil,List.nodup_nil,by simp⟩
theorem Qah {kd:IntKind}: ∀{es:List MapEntry} {m:List (Int×Value)},es.map (fun e=>(e.key,e.val))=m.map (fun p=>(Value.int kd p.1,p.2))→Zv kd es
 | [],_,_=>by intro e he;cases he
 | e::es,[],h=>by simp at h
 | e::es,p::m,h=>by
  simp only[List.map_cons,List.cons.injEq,Prod.mk.injEq] at h
  intro x hx;rcases List.mem_cons.1 hx with rfl | hx
  ·exact ⟨_,h.1.1⟩
  ·exact Qah h.2 x hx
theorem Vn {kd:IntKind} (n:Int): ∀{es:List MapEntry} {m:List (Int×Value)},es.map (fun e=>(e.key,e.val))=m.map (fun p=>(Value.int kd p.1,p.2))→ZD n es=Y9 n m
 | [],[],_=>rfl
 | [],p::m,h=>by simp at h
 | e::es,[],h=>by simp at h
 | e::es,p::m,h=>by
  simp only[List.map_cons,List.cons.injEq,Prod.mk.injEq] at h
  simp only[ZD,h.1.1,Y9,h.1.2,Vn n h.2]
theorem Zq.keys {kd:IntKind} {es:Array MapEntry} {c:Nat} {m:List (Int×Value)} (h:Zq kd es c m):Zv kd es.toList:=Qah h.ps
theorem Zq.find {kd:IntKind} {es:Array MapEntry} {c:Nat} {m:List (Int×Value)} (h:Zq kd es c m) (n:Int):ZD n es.toList=Y9 n m:=Vn n h.ps
theorem Zq.size {kd:IntKind} {es:Array MapEntry} {c:Nat} {m:List (Int×Value)} (h:Zq kd es c m):es.size=m.length:=by
 have:=congrArg List.length h.ps
 simpa using this
theorem J3 (kd:IntKind) (n:Int): ∀(es:List MapEntry) (i:Nat) {m:List (Int×Value)},es.map (fun e=>(e.key,e.val))=m.map (fun p=>(Value.int kd p.1,p.2)) →
  (Instr.findNow (.int kd) (.int kd n) es i=some none∧Y9 n m=none) ∨
  ∃j v,Instr.findNow (.int kd) (.int kd n) es i=some (some (i+j,v))∧Y9 n m=some v∧j<es.length∧(es[j]?).map (·.key)=some (.int kd n) ∧
   ∀u,JQ n u m=m.set j (n,u)
 | [],i,[],_=> .inl ⟨rfl,rfl⟩
 | [],i,p::m,h=>by simp at h
 | e::es,i,[],h=>by simp at h
 | e::es,i,p::m,h=>by
  simp only[List.map_cons,List.cons.injEq,Prod.mk.injEq] at h
  obtain ⟨⟨h1,h2⟩,h3⟩:=h
  by_cases hn:p.1=n
  ·refine .inr ⟨0,e.val,?_,by simp[Y9,hn,h2],by simp,by simp[h1,hn],fun u=>by simp[JQ,hn]⟩
   simp[Instr.findNow,Instr.sameNow,h1,hn]
  ·have hne:(n==p.1)=false:=by simpa using fun e=>hn e.symm
   rcases J3 kd n es (i+1) h3 with ⟨h4,h5⟩ | ⟨j,v,h4,h5,h6,h7,h8⟩
   ·exact .inl ⟨by simp[Instr.findNow,Instr.sameNow,h1,hne,h4],by simp[Y9,hn,h5]⟩
   ·refine .inr ⟨j+1,v,?_,by simp[Y9,hn,h5],by simp;omega,by simpa using h7,fun u=>by simp[JQ,hn,h8 u]⟩
    simp only[Instr.findNow,Instr.sameNow,h1,if_true,hne,h4]
    congr 3
    omega
theorem Vy (n:Int) (u:Value): ∀{m:List (Int×Value)},Y9 n m=none→JQ n u m=m++[(n,u)]∧n∉m.map (·.1)
 | [],_=>⟨rfl,by simp⟩
 | p::m,h=>by
  simp only[Y9] at h
  by_cases hn:p.1=n
  ·rw[if_pos hn] at h;cases h
  ·rw[if_neg hn] at h
   obtain ⟨h1,h2⟩:=Vy n u h;refine ⟨by simp[JQ,hn,h1],?_⟩
   simp only[List.map_cons,List.mem_cons,not_or]
   exact ⟨fun e=>hn e.symm,h2⟩
theorem Zq.push {kd:IntKind} {es:Array MapEntry} {c:Nat} {m:List (Int×Value)} (h:Zq kd es c m) {n:Int} {v:Value} (hn:Y9 n m=none) :
  Zq kd (es.push { key:= .int kd n,val:=v,born:=c }) (c+1) (JQ n v m):=by
 obtain ⟨h1,h2⟩:=Vy n v hn;refine ⟨by rw[h1];simp[h.ps],by rw[h1];simp[List.nodup_append];exact ⟨h.nd,fun a b hb e=>h2 (by subst e;simp;exact ⟨b,hb⟩)⟩,?_,?_⟩
 ·simp[List.nodup_append]
  refine ⟨h.born,fun e he hb=> ?_⟩;have:=h.lt e (by simpa using he)
  omega
 ·intro e he
  simp at he
  rcases he with he | rfl
  ·have:=h.lt e (by simpa using he);omega
  ·simp
theorem ZE {α β:Type} (f:α→β) (g:α→α) (l:List α) (j:Nat) (h: ∀x,l[j]? =some x→f (g x)=f x):(l.modify j g).map f=l.map f:=by
 apply List.ext_getElem?;intro i
 simp only[List.getElem?_map,List.getElem?_modify]
 by_cases hij:j=i
 ·subst hij;cases hx:l[j]? with
  | none=>rfl
  | some x=>simp[h x hx]
 ·simp[hij]
theorem ZK {α β:Type} (f:α→β) (g:α→α) (l:List α) (j:Nat) (y:β) (h: ∀x,l[j]? =some x→f (g x)=y):(l.modify j g).map f=(l.map f).set j y:=by
 apply List.ext_getElem?;intro i
 simp only[List.getElem?_map,List.getElem?_modify,List.getElem?_set,List.length_map]
 by_cases hij:j=i
 ·subst hij;cases hx:l[j]? with
  | none =>
   have hge:l.length≤j:=by
    rcases Nat.lt_or_ge j l.length with h | h
    ·rw[List.getElem?_eq_getElem h] at hx;cases hx
    ·exact h
   simp;omega
  | some x =>
   have hlt:j<l.length:=by
    rcases Nat.lt_or_ge j l.length with h | h
    ·exact h
    ·rw[List.getElem?_eq_none h] at hx;cases hx
   simp[hlt,h x hx]
 ·simp[hij]
theorem Zq.put {kd:IntKind} {es:Array MapEntry} {c:Nat} {m:List (Int×Value)} (h:Zq kd es c m) {n:Int} {v:Value} {j:Nat}
  (hj:(es.toList[j]?).map (·.key)=some (.int kd n)) (hs:JQ n v m=m.set j (n,v)) (hjl:j<es.size) :
  Zq kd (es.modify j fun e=>{ e with key:= .int kd n,val:=v }) c (JQ n v m):=by
 have hl:=h.size;refine ⟨?_,?_,?_,?_⟩
 ·have h1:=ZK (fun e:MapEntry=>(e.key,e.val)) (fun e=>{ e with key:= .int kd n,val:=v }) es.toList j (Value.int kd n,v) (fun x _=>rfl)
  rw[Array.toList_modify,h1,h.ps,hs,List.map_set]
 ·have hk:(m.set j (n,v)).map (·.1)=m.map (·.1):=by
   apply List.ext_getElem?;intro i
   simp only[List.getElem?_map,List.getElem?_set]
   by_cases hij:j=i
   ·subst hij;have h1:=congrArg (fun l=>l[j]?) h.ps
    simp only[List.getElem?_map] at h1
    have hjm:j<m.length:=by omega
    cases hx:es.toList[j]? with
    | none=>rw[hx] at hj;cases hj
    | some x =>
     rw[hx] at hj h1
     simp only[Option.map_some,Option.some.injEq] at hj
     rw[List.getElem?_eq_getElem hjm] at h1 ⊢
     simp only[Option.map_some,Option.some.injEq,Prod.mk.injEq,hj,Value.int.injEq,true_and] at h1
     simp[hjm,h1.1]
   ·simp[hij]
  rw[hs,hk];exact h.nd
 ·have h1:=ZE (fun e:MapEntry=>e.born) (fun e=>{ e with key:= .int kd n,val:=v }) es.toList j (fun x _=>rfl)
  rw[Array.toList_modify,h1];exact h.born
 ·intro e he
  rw[Array.toList_modify] at he
  obtain ⟨i,hi⟩:=List.getElem?_of_mem he
  rw[List.getElem?_modify] at hi
  cases hx:es.toList[i]? with
  | none=>rw[hx] at hi;cases hi
  | some x =>
   rw[hx] at hi
   have:=h.lt x (List.mem_of_getElem? hx)
   by_cases hji:j=i
   ·simp[hji] at hi;subst hi;exact this
   ·simp[hji] at hi;subst hi;exact this
section
variable {P:Program} {T:TT} {μ:Gh} {L:List Seg}
theorem Inv.updObj {w:World} {i j:Nat} {s:Seg} {g:Nat} {o o':Obj} (h:Inv w μ L) (hi:L[i]? =some s) (hj:s[j]? =some (g,o)) :
  Inv { w with heap:=w.heap.setIfInBounds g o' } μ (L.set i (s.set j (g,o'))):=by
 have hb:=h.own _ (List.mem_flatten.2 ⟨s,List.mem_of_getElem? hi,List.mem_of_getElem? hj⟩);have hlt:=QG hb
 simp only at hlt
 refine h.upd (w':={ w with heap:=w.heap.setIfInBounds g o' }) hi hj rfl rfl rfl ?_ fun k hk=> ?_
 ·simp[hlt]
 ·simp[Array.getElem?_setIfInBounds_ne (Ne.symm hk)]
theorem Wf (w:World) (r:Nat) (o o':Obj) (hc: ∀a b c,o≠ .cells a b c) (h:w.heap[r]? =some o):(setObj r o').run P w= .ok () { w with heap:=w.heap.setIfInBounds r o' }:=by
 cases o<;>first | exact absurd rfl (hc _ _ _) | simp only[setObj,Sem.run,h]
theorem VD (hT:TOk P T) {t kt et:TypeId} {it ik:TyI} {kd:IntKind} (ht:T t=some it) (hu:it.u= .map kt et) (hkt:T kt=some ik) (hku:ik.u= .int kd)
  (i j:Nat) {s:Seg} {r:Nat} {es:Array MapEntry} {c:Nat} {m:List (Int×Value)} (hi:L[i]? =some s) (hj:s[j]? =some (r,.map es c)) (hm:Zq kd es c m) {n:Int} {v:Value} {k:Gh→List Seg→Prop}
  (hk: ∀es' c',Zq kd es' c' (JQ n v m)→k μ (L.set i (s.set j (r,.map es' c')))):YR P (Instr.mapUpdate t (.map (some r)) (.int kd n) v) μ L k:=by
 intro w hw;have hb:w.heap[r]? =some (.map es c):=hw.own (r,_) (List.mem_flatten.2 ⟨s,List.mem_of_getElem? hi,List.mem_of_getElem? hj⟩);have hc: ∀b,(Instr.checkKey b 10000 kt (.int kd n)).run P w= .ok () w:=fun b=>YU hT hkt hku b 9999 _ w;rcases J3 kd n es.toList 0 hm.ps with ⟨h1,h2⟩ | ⟨jj,x,h1,h2,h3,h4,h5⟩
 ·refine ⟨_,μ,_,?_,Gh.le.refl _,hw.updObj hi hj (o':= .map (es.push { key:= .int kd n,val:=v,born:=c }) (c+1)),hk _ _ (hm.push h2)⟩
  simp only[Instr.mapUpdate,Sem.run_bind,Qy hT ht hu (by simp),Result.andThen_ok,YZ w _ _ (by simp) hb,hc,Instr.findKey,Qy hT hkt hku (by simp),h1,Sem.run_pure,Wf w r _ _ (by simp) hb]
 ·have hjl:jj<es.size:=by simpa using h3
  refine ⟨_,μ,_,?_,Gh.le.refl _,hw.updObj hi hj (o':= .map (es.modify jj fun e=>{ e with key:= .int kd n,val:=v }) c),hk _ _ (hm.put h4 (h5 v) hjl)⟩;have hold:((es[jj]?).map (·.key)).getD (.int kd n)= .int kd n:=by
   have:(es[jj]?).map (·.key)=some (.int kd n):=by rw[←h4];simp
   rw[this];rfl
  have hks:(Instr.keyThatStays (.int kd n) (.int kd n)).run P w= .ok (.int kd n) w:=by
   simp[Instr.keyThatStays,Instr.sameBits]
  simp only[Instr.mapUpdate,Sem.run_bind,Qy hT ht hu (by simp),Result.andThen_ok,YZ w _ _ (by simp) hb,hc,Instr.findKey,Qy hT hkt hku (by simp),h1,Sem.run_pure,Nat.zero_add,hold,hks,Wf w r _ _ (by simp) hb]
end
end Go.Proofs.Ytpghcnpheabbgaa
namespace Go.Proofs.Ytpghcnpheabbgaa
open Go.RowKit
set_option linter.unusedSimpArgs false
set_option linter.unusedVariables false
def Rd (μ:Gh) (L:List Seg) (A:Option Addr) (sz:Nat) (css:List (List Value)):Prop :=
 (∀cs∈css,cs.length=sz)∧(css≠[]→ ∃a,A=some a∧QI μ L a css.flatten)
section
variable {μ:Gh} {L:List Seg}
theorem Vo {sz:Nat}: ∀{css:List (List Value)} {k:Nat} {v:Value},(∀cs∈css,cs.length=sz)→css.flatten[k]? =some v →
  ∃i j cs,css[i]? =some cs∧cs[j]? =some v∧k=i*sz+j
 | [],k,v,_,h=>by simp at h
 | c::r,k,v,hl,h=>by
  have hc:=hl c (by simp)
  rw[List.flatten_cons] at h
  by_cases hk:k<c.length
  ·rw[List.getElem?_append_left hk] at h
   exact ⟨0,k,c,by simp,h,by simp⟩
  ·rw[List.getElem?_append_right (by omega)] at h
   obtain ⟨i,j,cs,h1,h2,h3⟩:=Vo (fun c hc=>hl c (by simp[hc])) h;exact ⟨i+1,j,cs,by simpa using h1,h2,by rw[Nat.succ_mul];omega⟩
theorem Arr.rd {A:Option Addr} {sz:Nat} {css:List (List Value)} (h:Arr μ A sz css):Rd μ L A sz css:=by
 have hl: ∀cs∈css,cs.length=sz:=fun cs hcs=>by
  obtain ⟨i,hi⟩:=List.getElem?_of_mem hcs;exact (h i cs hi).1
 refine ⟨hl,fun hne=> ?_⟩;have h0:0<css.length:=List.length_pos_iff.2 hne;obtain ⟨_,a,ha,_⟩:=h 0 css[0] (List.getElem?_eq_getElem h0);refine ⟨a,ha,fun k v hk=> ?_⟩;obtain ⟨i,j,cs,h1,h2,rfl⟩:=Vo hl hk;obtain ⟨a',ha',hc⟩:=h.at_ (L:=L) h1
 rw[ha] at ha'
 injection ha' with ha'
 subst ha';have:=hc j v h2
 rwa [Addr.add_add'] at this
theorem Rd.at_ {A:Option Addr} {sz:Nat} {css:List (List Value)} (h:Rd μ L A sz css) {i:Nat} {cs:List Value} (hi:css[i]? =some cs): ∃a,A=some a∧QI μ L (a.add (i*sz)) cs:=by
 obtain ⟨a,ha,hc⟩:=h.2 (fun e=>by rw[e] at hi;cases hi);refine ⟨a,ha,fun j v hj=> ?_⟩
 rw[Addr.add_add']
 exact hc _ v (J4 h.1 hi hj)
theorem Rd.mono {A:Option Addr} {sz:Nat} {css:List (List Value)} {μ':Gh} {L':List Seg} (h:Rd μ L A sz css) (hm:μ.le μ') (hl: ∀c∈L.flatten,c∈L'.flatten):Rd μ' L' A sz css :=
 ⟨h.1,fun hne=>by obtain ⟨a,ha,hc⟩:=h.2 hne;exact ⟨a,ha,hc.mono hm hl⟩⟩
theorem Rd.cons {A:Option Addr} {sz:Nat} {css:List (List Value)} {s:Seg} (h:Rd μ L A sz css):Rd μ (s::L) A sz css:=h.mono (Gh.le.refl _) (by intro c hc;simp[List.flatten_cons];exact .inr (by simpa using hc))
theorem Rd.nil {A:Option Addr} {sz:Nat}:Rd μ L A sz []:=⟨by simp,fun h=>absurd rfl h⟩
theorem Ya.rd {e:TypeId} {sz:Nat} {A:Option Addr} {n cap:Nat} {css:List (List Value)} {ch:Seg} (h:Ya e sz (.slice A n cap) css ch) (i:Nat) (hi:L[i]? =some ch):Rd μ L A sz css:=by
 refine ⟨h.1,fun hne=> ?_⟩;rcases h.2 with ⟨_,rfl,_⟩ | ⟨g,cap',cur,hv,rfl,h1,h2,h3,h4⟩
 ·exact absurd rfl hne
 ·injection hv with hv _ _
  refine ⟨_,hv,fun k v hk=> ?_⟩
  rw[Yw]
  refine Zb.seg i 0 hi rfl ?_
  rw[←h4] at hk
  rw[List.getElem?_take] at hk
  split at hk
  ·simpa using hk
  ·cases hk
theorem Rd.chunk (i:Nat) {g:Nat} {cs:List Value} {e:TypeId} {f:Nat×Nat} {sz:Nat} {css:List (List Value)} (hi:L[i]? =some [(g,.cells cs.toArray e f)]) (hl: ∀c∈css,c.length=sz) (hc:cs=css.flatten) :
  Rd μ L (some ⟨g,0,none⟩) sz css :=
 ⟨hl,fun _=>⟨_,rfl,fun k v hk=>by rw[Yw];exact Zb.seg i 0 hi rfl (by simpa [hc] using hk)⟩⟩
end
section
variable {P:Program} {T:TT} {μ:Gh} {L:List Seg} {k:Value→Gh→List Seg→Prop}
theorem Qap (hT:TOk P T) {t ty e:TypeId} {it ie:TyI} (ht:T t=some it) (hu:it.u= .slice e) (he:T e=some ie) (hz:ie.zero.cells.size=ie.size) (hsz:0<ie.size)
  {v:Value} {css:List (List Value)} {ch:Seg} (i:Nat) (hi:L[i]? =some ch) (hown:Ya e ie.size v css ch)
  {A:Option Addr} {m c:Nat} {news:List (List Value)} (hm:news.length=m) (hr:Rd μ L A ie.size news) (h1: ∀cs∈news,∀u∈cs,u.oneCell'=true)
  (h63:css.length+m≤140737488355328) (hb:(css.length+m)*ie.bytes≤140737488355328)
  (hk: ∀v' ch',Ya e ie.size v' (css++news) ch'→(css++news=[]→v'=v∨A≠none)→k v' μ (L.set i ch')) :
  QJ P (Builtin.append_ #[t,t] ty #[v,.slice A m c]) μ L k :=
 V5 hT ht hu he hz hsz i hi hown hm hr.1 h1 (fun h=>hr.2 (fun e=>by rw[e] at hm;simp at hm;omega)) (by unfold maxLen;omega) hb hk
end
end Go.Proofs.Ytpghcnpheabbgaa
namespace Go.Proofs.Ytpghcnpheabbgaa
open Go.RowKit
set_option linter.unusedSimpArgs false
set_option linter.unusedVariables false
def evV (fr:Fr) (x:Operand):Option Value:=match x with
 | .tmp t=>Yh fr t
 | .const v=>some v
 | .global g=>some (.pointer (some ⟨g,0,none⟩))
 | .func f=>some (.func (.func f) #[] #[])
def Zc (fr:Fr):List Operand→Option (List Value)
 | []=>some []
 | x::xs=>match evV fr x with
  | some v=>(match Zc fr xs with | some vs=>some (v::vs) | none=>none)
  | none=>none
def WX (fr:Fr):List (Nat×Operand)→Option (List (Nat×Value))
 | []=>some []
 | x::xs=>match evV fr x.2 with
  | some v=>(match WX fr xs with | some vs=>some ((x.1,v)::vs) | none=>none)
  | none=>none
section
variable {P:Program} {T:TT} {N:NN} {fr:Fr} {μ:Gh} {L:List Seg}
theorem ev_of {x:Operand} {v:Value} {k:Value→Prop} (h:evV fr x=some v) (hk:k v):ev fr x k:=by
 cases x with
 | tmp t=>simp only[evV] at h;simp only[ev,evT,h];exact hk
 | const u=>simp only[evV,Option.some.injEq] at h;subst h;exact hk
 | global g=>simp only[evV,Option.some.injEq] at h;subst h;exact hk
 | func f=>simp only[evV,Option.some.injEq] at h;subst h;exact hk
theorem evs_of: ∀{xs:List Operand} {vs:List Value} {k:List Value→Prop},Zc fr xs=some vs→k vs→evs fr xs k
 | [],vs,k,h,hk=>by simp only[Zc,Option.some.injEq] at h;subst h;exact hk
 | x::xs,vs,k,h,hk=>by
  simp only[Zc] at h
  cases h1:evV fr x with
  | none=>rw[h1] at h;cases h
  | some v =>
   cases h2:Zc fr xs with
   | none=>rw[h1,h2] at h;cases h
   | some us =>
    rw[h1,h2] at h
    simp only[Option.some.injEq] at h
    subst h;exact ev_of h1 (evs_of (k:=fun vs=>k (v::vs)) h2 hk)
theorem VV: ∀{xs:List (Nat×Operand)} {vs:List (Nat×Value)} {k:List (Nat×Value)→Prop},WX fr xs=some vs→k vs→evp fr xs k
 | [],vs,k,h,hk=>by simp only[WX,Option.some.injEq] at h;subst h;exact hk
 | x::xs,vs,k,h,hk=>by
  simp only[WX] at h
  cases h1:evV fr x.2 with
  | none=>rw[h1] at h;cases h
  | some v =>
   cases h2:WX fr xs with
   | none=>rw[h1,h2] at h;cases h
   | some us =>
    rw[h1,h2] at h
    simp only[Option.some.injEq] at h
    subst h;exact ev_of h1 (VV (k:=fun vs=>k ((x.1,v)::vs)) h2 hk)
section
variable {k:Value→Prop}
theorem VQ {x:Operand} {v:Value} (h:evV fr x=some v) (hk:k v):vcR P T (.move x) fr μ L k:=ev_of h hk
theorem Jl {x:Operand} {v:Value} (h:evV fr x=some v) (hk:k v):vcR P T (.assign x) fr μ L k:=ev_of h hk
theorem Qa3 {c a b:Operand} {v:Value} (h:evV fr c=some (.bool true)) (h2:evV fr a=some v) (hk:k v):vcR P T (.pick c a b) fr μ L k:=ev_of (k:=fun v=>Jt v (ev fr a k) (ev fr b k)) h (ev_of h2 hk)
theorem Qa2 {c a b:Operand} {v:Value} (h:evV fr c=some (.bool false)) (h2:evV fr b=some v) (hk:k v):vcR P T (.pick c a b) fr μ L k:=ev_of (k:=fun v=>Jt v (ev fr a k) (ev fr b k)) h (ev_of h2 hk)
theorem WS {t:TypeId} {a:Operand} {ad:Addr} {i:TyI} (h:evV fr a=some (.pointer (some ad))) (hT:T t=some i) (hi:Wm i.u=false) (hk:Ex (Zb μ L ad) k):vcR P T (.load t a) fr μ L k:=by
 refine ev_of (k:=fun v=>ZJ T μ L t v k) h ?_
 simp only[ZJ,hT,hi];exact hk
theorem Qab {t:TypeId} {a:Operand} {ad:Addr} {i:TyI} {n:Nat} (h:evV fr a=some (.pointer (some ad))) (hT:T t=some i) (hi:Wm i.u=true) (hn:i.size=n)
  (hk:Ex (fun vs:List Value=>vs.length=n∧QI μ L ad vs) fun vs=>k (.agg vs.toArray)):vcR P T (.load t a) fr μ L k:=by
 refine ev_of (k:=fun v=>ZJ T μ L t v k) h ?_
 simp only[ZJ,hT,hi,hn];exact hk
theorem VR {x:Operand} {a:Addr} (h:evV fr x=some (.pointer (some a))) (hk:k (.pointer (some a))):vcR P T (.nilCheck x) fr μ L k:=ev_of (k:=fun v=>QbO v k) h hk
theorem Qcp {x:Operand} {f:FuncId} {a b:Array Value} (h:evV fr x=some (.func (.func f) a b)) (hk:k (.func (.func f) a b)):vcR P T (.nilCheck x) fr μ L k:=ev_of (k:=fun v=>QbO v k) h hk
theorem Yx {op:BinOp} {t yt:TypeId} {x y:Operand} {kd:IntKind} {a b:Int} (h:evV fr x=some (.int kd a)) (h2:evV fr y=some (.int kd b)) (hop:op≠ .shl∧op≠ .shr∧op≠ .and)
  (hk:WZ op kd a b k):vcR P T (.binOp op t x y yt) fr μ L k:=by
 refine ev_of (k:=fun a=>ev fr y fun b=>Y0 P T op t a b k) h (ev_of (k:=fun b=>Y0 P T op t (.int kd a) b k) h2 ?_);have hs: ∀p:Prop,p→WO kd kd p:=by intro p hp;cases kd<;>exact hp
 cases op<;>first | exact hs _ hk | exact absurd rfl hop.1 | exact absurd rfl hop.2.1 | exact absurd rfl hop.2.2
section
variable {t yt:TypeId} {x y:Operand} {kd:IntKind} {a b:Int}
theorem QcP (h:evV fr x=some (.int kd a)) (h2:evV fr y=some (.int kd b)) (hk:k (.int kd (kd.wrap (a+b)))):vcR P T (.binOp .add t x y yt) fr μ L k:=Yx h h2 (by simp) hk
theorem Qc5 (h:evV fr x=some (.int kd a)) (h2:evV fr y=some (.int kd b)) (hk:k (.int kd (kd.wrap (a-b)))):vcR P T (.binOp .sub t x y yt) fr μ L k:=Yx h h2 (by simp) hk
theorem QcY (h:evV fr x=some (.int kd a)) (h2:evV fr y=some (.int kd b)) (hk:k (.int kd (kd.wrap (a*b)))):vcR P T (.binOp .mul t x y yt) fr μ L k:=Yx h h2 (by simp) hk
theorem Qc3 (h:evV fr x=some (.int kd a)) (h2:evV fr y=some (.int kd b)) (hk:b≠0∧k (.int kd (kd.wrap (a.tdiv b)))):vcR P T (.binOp .quo t x y yt) fr μ L k:=Yx h h2 (by simp) hk
theorem Qc4 (h:evV fr x=some (.int kd a)) (h2:evV fr y=some (.int kd b)) (hk:b≠0∧k (.int kd (a.tmod b))):vcR P T (.binOp .rem t x y yt) fr μ L k:=Yx h h2 (by simp) hk
theorem QaZ (h:evV fr x=some (.int kd a)) (h2:evV fr y=some (.int kd b)) (ht:a=b→k (.bool true)) (hf: ¬a=b→k (.bool false)):vcR P T (.binOp .eql t x y yt) fr μ L k:=Yx h h2 (by simp) ⟨ht,hf⟩
theorem Qc1 (h:evV fr x=some (.int kd a)) (h2:evV fr y=some (.int kd b)) (ht: ¬a=b→k (.bool true)) (hf:a=b→k (.bool false)):vcR P T (.binOp .neq t x y yt) fr μ L k:=Yx h h2 (by simp) ⟨ht,fun h=>hf (Classical.not_not.1 h)⟩
theorem QcW (h:evV fr x=some (.int kd a)) (h2:evV fr y=some (.int kd b)) (ht:a<b→k (.bool true)) (hf: ¬a<b→k (.bool false)):vcR P T (.binOp .lss t x y yt) fr μ L k:=Yx h h2 (by simp) ⟨ht,hf⟩
theorem QcV (h:evV fr x=some (.int kd a)) (h2:evV fr y=some (.int kd b)) (ht:a≤b→k (.bool true)) (hf: ¬a≤b→k (.bool false)):vcR P T (.binOp .leq t x y yt) fr μ L k:=Yx h h2 (by simp) ⟨ht,hf⟩
theorem QcU (h:evV fr x=some (.int kd a)) (h2:evV fr y=some (.int kd b)) (ht:b<a→k (.bool true)) (hf: ¬b<a→k (.bool false)):vcR P T (.binOp .gtr t x y yt) fr μ L k:=Yx h h2 (by simp) ⟨ht,hf⟩
theorem QcT (h:evV fr x=some (.int kd a)) (h2:evV fr y=some (.int kd b)) (ht:b≤a→k (.bool true)) (hf: ¬b≤a→k (.bool false)):vcR P T (.binOp .geq t x y yt) fr μ L k:=Yx h h2 (by simp) ⟨ht,hf⟩
end
theorem Yn {t:TypeId} {f:TypeDesc→Bool} {p:Prop} {i:TyI} (hT:T t=some i) (hf:f i.u=true) (hp:p):ZC T t f p:=by
 unfold ZC;rw[hT];simp only[hf];exact hp
section
variable {t yt:TypeId} {x y:Operand} {i:TyI}
theorem QaY {a b:Bool} (h:evV fr x=some (.bool a)) (h2:evV fr y=some (.bool b)) (hT:T t=some i) (hf:VY i.u=true) (ht:a=b→k (.bool true)) (hf: ¬a=b→k (.bool false)):vcR P T (.binOp .eql t x y yt) fr μ L k :=
 ev_of (k:=fun a=>ev fr y fun b=>Y0 P T .eql t a b k) h (ev_of (k:=fun u=>Y0 P T .eql t (.bool a) u k) h2 (Yn hT (by assumption) ⟨ht,hf⟩))
theorem QcZ {a b:Bool} (h:evV fr x=some (.bool a)) (h2:evV fr y=some (.bool b)) (hT:T t=some i) (hf:VY i.u=true) (ht: ¬a=b→k (.bool true)) (hf:a=b→k (.bool false)):vcR P T (.binOp .neq t x y yt) fr μ L k :=
 ev_of (k:=fun a=>ev fr y fun b=>Y0 P T .neq t a b k) h (ev_of (k:=fun u=>Y0 P T .neq t (.bool a) u k) h2 (Yn hT (by assumption) ⟨ht,fun h=>hf (Classical.not_not.1 h)⟩))
theorem VN (h:evV fr x=some (.pointer none)) (h2:evV fr y=some (.pointer none)) (hT:T t=some i) (hf:JM i.u=true) (hk:k (.bool true)):vcR P T (.binOp .eql t x y yt) fr μ L k :=
 ev_of (k:=fun a=>ev fr y fun b=>Y0 P T .eql t a b k) h (ev_of (k:=fun u=>Y0 P T .eql t (.pointer none) u k) h2 (Yn hT hf ⟨fun _=>hk,fun h=>absurd rfl h⟩))
theorem VO {a:Addr} (h:evV fr x=some (.pointer (some a))) (h2:evV fr y=some (.pointer none)) (hT:T t=some i) (hf:JM i.u=true) (hk:k (.bool false)):vcR P T (.binOp .eql t x y yt) fr μ L k :=
 ev_of (k:=fun a=>ev fr y fun b=>Y0 P T .eql t a b k) h (ev_of (k:=fun u=>Y0 P T .eql t (.pointer (some a)) u k) h2 (Yn hT hf ⟨fun h=>(by cases h),fun _=>hk⟩))
theorem Qcm (h:evV fr x=some (.pointer none)) (h2:evV fr y=some (.pointer none)) (hT:T t=some i) (hf:JM i.u=true) (hk:k (.bool false)):vcR P T (.binOp .neq t x y yt) fr μ L k :=
 ev_of (k:=fun a=>ev fr y fun b=>Y0 P T .neq t a b k) h (ev_of (k:=fun u=>Y0 P T .neq t (.pointer none) u k) h2 (Yn hT hf ⟨fun h=>absurd rfl h,fun _=>hk⟩))
theorem Qcn {a:Addr} (h:evV fr x=some (.pointer (some a))) (h2:evV fr y=some (.pointer none)) (hT:T t=some i) (hf:JM i.u=true) (hk:k (.bool true)):vcR P T (.binOp .neq t x y yt) fr μ L k :=
 ev_of (k:=fun a=>ev fr y fun b=>Y0 P T .neq t a b k) h (ev_of (k:=fun u=>Y0 P T .neq t (.pointer (some a)) u k) h2 (Yn hT hf ⟨fun _=>hk,fun h=>absurd (by intro h;cases h) h⟩))
theorem QbZ {p:Option Addr} {n c n' c':Nat} (h:evV fr x=some (.slice p n c)) (h2:evV fr y=some (.slice none n' c')) (hT:T t=some i) (hf:ZI i.u=true) (ht:p=none→k (.bool true)) (hf2: ¬p=none→k (.bool false)) :
  vcR P T (.binOp .eql t x y yt) fr μ L k :=
 ev_of (k:=fun a=>ev fr y fun b=>Y0 P T .eql t a b k) h (ev_of (k:=fun u=>Y0 P T .eql t (.slice p n c) u k) h2 (Yn hT hf ⟨ht,hf2⟩))
theorem QaX {op:BinOp} {xs ys:Array Value} (h:evV fr x=some (.agg xs)) (h2:evV fr y=some (.agg ys))
  (hk:Ex (YH P (do eqGuard op t (.tmp 0) (.tmp 0) (.agg xs) (.agg ys);binOp op t (.agg xs) (.agg ys))) k):vcR P T (.binOp op t x y yt) fr μ L k :=
 ev_of (k:=fun a=>ev fr y fun b=>Y0 P T op t a b k) h (ev_of (k:=fun u=>Y0 P T op t (.agg xs) u k) h2 hk)
end
theorem Qc2 {t:TypeId} {x:Operand} {b:Bool} (h:evV fr x=some (.bool b)) (hk:k (.bool !b)):vcR P T (.unOp .not t x) fr μ L k:=ev_of (k:=fun a=>unK .not a k) h hk
theorem Qc0 {t:TypeId} {x:Operand} {kd:IntKind} {n:Int} (h:evV fr x=some (.int kd n)) (hk:k (.int kd (kd.wrap (0-n)))):vcR P T (.unOp .neg t x) fr μ L k:=ev_of (k:=fun a=>unK .neg a k) h hk
theorem Qch {args:Array Operand} {tys:Array TypeId} {kd kd':IntKind} {x y n:Int} (h:Zc fr args.toList=some [.int kd x,.int kd' y]) (hn:(if y>x then y else x)=n) (hk:k (.int kd n)):vcR P T (.call ⟨.builtin .max,args,tys⟩) fr μ L k:=evs_of (k:=fun vs=>biK T .max tys.toList vs μ L k) h (by show k (.int kd (if y>x then y else x));rw[hn];exact hk)
theorem Qb7 {s d:TypeId} {x:Operand} {kd kd':IntKind} {n:Int} {i j:TyI} (h:evV fr x=some (.int kd n)) (hs:T s=some j) (hd:T d=some i) (hu:i.u= .int kd') (hk:k (.int kd' (kd'.wrap n))):vcR P T (.convert s d x) fr μ L k:=by
 refine ev_of (k:=fun a=>Vh T s d a k) h ?_
 simp only[Vh,hs,hd,hu,QaC];exact hk
theorem QbE {t:TypeId} {ps:Array (Nat×Operand)} {vs:List (Nat×Value)} {i:TyI} (h:WX fr ps.toList=some vs) (hT:T t=some i) (hs:Y7 i.u=true) (hall:i.flds.all (·.isSome)=true)
  (hk:YO (Qbp i) i.zero.cells.toList vs fun cs=>k (.agg cs.toArray)):vcR P T (.build t ps) fr μ L k:=by
 refine VV (k:=fun vs=>JX T t vs k) h ?_
 simp only[JX,hT,hs];exact ⟨hall,hk⟩
theorem Qca {s:TypeId} {x:Operand} {f:Nat} {a:Addr} {i:TyI} {q1 q2:Nat} {q3:Bool} (h:evV fr x=some (.pointer (some a))) (hT:T s=some i) (hs:Y7 i.u=true) (hf:i.flds[f]? =some (some (q1,q2,q3))) (h0:Nat.beq q2 0=false)
  (hk:k (.pointer (some (a.add q1)))):vcR P T (.fieldAddr s x f) fr μ L k:=by
 refine ev_of (k:=fun v=>faK T s v f k) h ?_
 simp only[faK,hT,hs,hf];exact ⟨Nat.ne_of_beq_eq_false h0,hk⟩
theorem Qb0 {s:TypeId} {x:Operand} {f g o:Nat} {i:TyI} {q1 q2:Nat} {q3:Bool} (h:evV fr x=some (.pointer (some ⟨g,o,none⟩))) (hT:T s=some i) (hs:Y7 i.u=true) (hf:i.flds[f]? =some (some (q1,q2,q3))) (h0:Nat.beq q2 0=false)
  {o':Nat} (ho:o+q1=o') (hk:k (.pointer (some ⟨g,o',none⟩))):vcR P T (.fieldAddr s x f) fr μ L k:=by
 refine Qca h hT hs hf h0 ?_
 rw[Yw,ho];exact hk
theorem QcS {s:TypeId} {x:Operand} {f:Nat} {a:Addr} {i:TyI} {q2:Nat} {q3:Bool} (h:evV fr x=some (.pointer (some a))) (hT:T s=some i) (hs:Y7 i.u=true) (hf:i.flds[f]? =some (some (0,q2,q3))) (h0:Nat.beq q2 0=false)
  (hk:k (.pointer (some a))):vcR P T (.fieldAddr s x f) fr μ L k:=by
 refine Qca h hT hs hf h0 ?_
 rw[Addr.add_zero'];exact hk
theorem QbF {s:TypeId} {x:Operand} {f:Nat} {cs:Array Value} {i:TyI} {q1 q2:Nat} {u:Value} (h:evV fr x=some (.agg cs)) (hT:T s=some i) (hs:Y7 i.u=true) (hf:i.flds[f]? =some (some (q1,q2,false)))
  (hu:cs.toList[q1]? =some u) (hk:k u):vcR P T (.field s x f) fr μ L k:=by
 refine ev_of (k:=fun v=>Ja T s v f k) h ?_
 simp only[Ja,hT,hs,hf];exact ⟨u,by simpa using hu,hk⟩
theorem Qa0 {s:TypeId} {x:Operand} {f:Nat} {cs:Array Value} {i:TyI} {q1 q2:Nat} (h:evV fr x=some (.agg cs)) (hT:T s=some i) (hs:Y7 i.u=true) (hf:i.flds[f]? =some (some (q1,q2,true)))
  {vs:List Value} (hu:(cs.toList.drop q1).take q2=vs) (hk:k (.agg vs.toArray)):vcR P T (.field s x f) fr μ L k:=by
 refine ev_of (k:=fun v=>Ja T s v f k) h ?_
 simp only[Ja,hT,hs,hf]
 have:cs.extract q1 (q1+q2)=vs.toArray:=by rw[←hu,←Array.toList_inj];simp[List.extract_eq_take_drop]
 rw[this];exact hk
theorem Vl {t e:TypeId} {i j:TyI} {k:TypeId→TyI→Prop} (hT:T t=some i) (hu:i.u= .slice e) (he:T e=some j) (hk:k e j):JJ T t k:=by
 simp only[JJ,hT,hu,he];exact hk
theorem Qdi {t e:TypeId} {x n:Operand} {A:Option Addr} {len c:Nat} {kd:IntKind} {ix:Int} {i j:TyI} {sz:Nat} (h:evV fr x=some (.slice A len c)) (h2:evV fr n=some (.int kd ix)) (hT:T t=some i) (hu:i.u= .slice e) (he:T e=some j) (hs:j.size=sz)
  (hk:0≤ix∧ix<len∧Ex (fun a=>A=some a) fun a=>k (.pointer (some (a.add (ix.toNat*sz))))):vcR P T (.indexAddr t x n) fr μ L k :=
 ev_of (k:=fun v=>ev fr n fun n=>iaK T t v n k) h (ev_of (k:=fun u=>iaK T t (.slice A len c) u k) h2 (Vl hT hu he (by rw[hs];exact hk)))
theorem QcR {x:Operand} {i:Nat} {vs:Array Value} {u:Value} (h:evV fr x=some (.tuple vs)) (hu:vs.toList[i]? =some u) (hk:k u):vcR P T (.extract x i) fr μ L k:=by
 refine ev_of (k:=fun v=>Qbb v i k) h ?_;have:vs[i]? =some u:=by simpa using hu
 simp only[Qbb,this];exact hk
theorem Qa1 {f:Go.Fn} {fi ca:Array Operand} {a b:List Value} (h:Zc fr fi.toList=some a) (h2:Zc fr ca.toList=some b) (hk:k (.func f a.toArray b.toArray)):vcR P T (.makeFunc f fi ca) fr μ L k :=
 evs_of (k:=fun a=>evs fr ca.toList fun b=>k (.func f a.toArray b.toArray)) h (evs_of (k:=fun b=>k (.func f a.toArray b.toArray)) h2 hk)
theorem QcX {args:Array Operand} {tys:Array TypeId} {kd kd':IntKind} {x y:Int} (h:Zc fr args.toList=some [.int kd x,.int kd' y]) (hk:k (.int kd (if y<x then y else x))):vcR P T (.call ⟨.builtin .min,args,tys⟩) fr μ L k :=
 evs_of (k:=fun vs=>biK T .min tys.toList vs μ L k) h hk
theorem Qcj {args:Array Operand} {tys:Array TypeId} {kd kd':IntKind} {x y n:Int} (h:Zc fr args.toList=some [.int kd x,.int kd' y]) (hn:(if y<x then y else x)=n) (hk:k (.int kd n)):vcR P T (.call ⟨.builtin .min,args,tys⟩) fr μ L k:=QcX h (by rw[hn];exact hk)
theorem Qbh {args:Array Operand} {t:TypeId} {v:Value} (h:Zc fr args.toList=some [v]) (hk:QbM T t v μ L k):vcR P T (.call ⟨.builtin .len,args, #[t]⟩) fr μ L k :=
 evs_of (k:=fun vs=>biK T .len [t] vs μ L k) h hk
theorem Qce {args:Array Operand} {t:TypeId} {A:Option Addr} {n c:Nat} {i:TyI} (h:Zc fr args.toList=some [.slice A n c]) (hT:T t=some i) (hf:ZI i.u=true) (hk:k (.int .i64 n)):vcR P T (.call ⟨.builtin .len,args, #[t]⟩) fr μ L k :=
 Qbh h (Yn hT hf hk)
theorem Qcd {args:Array Operand} {t:TypeId} {s:ByteArray} {i:TyI} (h:Zc fr args.toList=some [.string s]) (hT:T t=some i) (hf:QcA i.u=true) (hk:k (.int .i64 s.size)):vcR P T (.call ⟨.builtin .len,args, #[t]⟩) fr μ L k :=
 Qbh h (Yn hT hf hk)
theorem QcQ {args:Array Operand} {t:TypeId} {A:Option Addr} {n c:Nat} {i:TyI} (h:Zc fr args.toList=some [.slice A n c]) (hT:T t=some i) (hf:ZI i.u=true) (hk:k (.int .i64 c)):vcR P T (.call ⟨.builtin .cap,args, #[t]⟩) fr μ L k :=
 evs_of (k:=fun vs=>biK T .cap [t] vs μ L k) h (Yn hT hf hk)
theorem VP {t kt et:TypeId} {m x:Operand} {ok:Bool} {r:Nat} {kd:IntKind} {n:Int} {i ik ie:TyI} {z:Value} (h:evV fr m=some (.map (some r))) (h2:evV fr x=some (.int kd n)) (hT:T t=some i) (hu:i.u= .map kt et) (hk:T kt=some ik) (hku:ik.u= .int kd) (he:T et=some ie) (hz:ie.zero=z)
  (hk:Ex (fun x:Value×Bool=> ∃es c,Yl μ L r (.map es c)∧Zv kd es.toList∧x=(match ZD n es.toList with | some v=>(v,true) | none=>(z,false))) fun x=>k (okK ok x.1 x.2)):vcR P T (.lookup t m x ok) fr μ L k:=by
 refine ev_of (k:=fun v=>ev fr x fun n=>Wc P T t v n ok μ L k) h (ev_of (k:=fun n=>Wc P T t (.map (some r)) n ok μ L k) h2 ?_);have hs: ∀p:Prop,p→WO kd kd p:=by intro p hp;cases kd<;>exact hp
 simp only[Wc,hT,hu, ‹T kt=some ik›,hku,QaC,he]
 subst hz;exact hs _ hk
end
theorem Ze {pl:Nat→Option (Nat×Nat)} {cells:List Value} {k:List Value→Prop} (h:k cells):YO pl cells [] k:=h
theorem QT {pl:Nat→Option (Nat×Nat)} {cells cells':List Value} {k:List Value→Prop} {i:Nat} {v:Value} {r:List (Nat×Value)} {q1 q2:Nat} (hp:pl i=some (q1,q2)) (h1:v.cells.size=q2) (h2:Nat.ble (q1+q2) cells.length=true)
  (h3:YB cells q1 v.cells.toList=cells') (h:YO pl cells' r k):YO pl cells ((i,v)::r) k:=by
 simp only[YO,hp]
 exact ⟨h1,Nat.le_of_ble_eq_true h2,by rw[h3];exact h⟩
def Vs:Op→Bool
 | .move _ | .assign _ | .pick .. | .load .. | .nilCheck _ | .binOp .. | .unOp .. | .convert .. | .build .. | .fieldAddr .. | .field .. | .indexAddr .. | .extract .. | .makeFunc .. | .slice .. | .lookup .. | .index .. =>true
 | .call ⟨.builtin b,_,_⟩=>(match b with | .len | .cap | .min | .max=>true | _=>false)
 | _=>false
section
variable {k:Value→Gh→List Seg→Prop} {ty:TypeId}
theorem Z7 {o:Op} (h:Vs o=true) (hk:vcR P T o fr μ L fun v=>k v μ L):vcO P T o ty fr μ L k:=by
 cases o<;>first | exact hk | (simp[Vs] at h;done) | skip
 rename_i c
 obtain ⟨ce,args,tys⟩:=c;cases ce with
 | value f=>simp[Vs] at h
 | invoke r m=>simp[Vs] at h
 | builtin b=>cases b<;>first | exact hk | (simp[Vs] at h;done)
theorem Y6 {t:TypeId} {a x:Operand} {ad:Addr} {v:Value} {i:TyI} (h:evV fr a=some (.pointer (some ad))) (h2:evV fr x=some v) (hT:T t=some i) (hs:v.cells.size=i.size) (h1:v.cells.toList.all (·.oneCell')=true)
  {vs:List Value} (hv:v.cells.toList=vs) (hk:Ex (ZG L ad vs) fun L'=>k undef μ L'):vcO P T (.store t a x) ty fr μ L k:=by
 refine ev_of (k:=fun p=>ev fr x fun v=>Jh T t p v L fun L'=>k undef μ L') h (ev_of (k:=fun v=>Jh T t (.pointer (some ad)) v L fun L'=>k undef μ L') h2 ?_)
 simp only[Jh,hT]
 subst hv;exact ⟨hs,fun c hc=>List.all_eq_true.1 h1 c (by simpa using hc),hk⟩
theorem QbC {t:TypeId} {i:TyI} {cs:Array Value} (hT:T t=some i) (hz:i.zero.cells=cs) (hk: ∀g,k (.pointer (some ⟨g,0,none⟩)) μ ([(g,.cells cs t)]::L)):vcO P T (.alloc t) ty fr μ L k:=by
 simp only[vcO,VS,hT,hz];exact hk
theorem QbY {t:TypeId} {x:Operand} {v:Value} {cs:Array Value} (h:evV fr x=some v) (hc:v.cells=cs) (hk: ∀g,k (.pointer (some ⟨g,0,none⟩)) μ ([(g,.cells cs t)]::L)):vcO P T (.box t x) ty fr μ L k:=by
 refine ev_of (k:=fun v=> ∀g,k (.pointer (some ⟨g,0,none⟩)) μ ([(g,.cells v.cells t)]::L)) h ?_
 rw[hc];exact hk
theorem Zf {t e:TypeId} {n:Nat} {ps:Array (Nat×Operand)} {vs:List (Nat×Value)} {i j:TyI} (h:WX fr ps.toList=some vs) (hT:T t=some i) (hu:i.u= .slice e) (he:T e=some j) (hn:Nat.ble (n*j.size) 16777216=true) (hz:j.zero.cells.size=j.size)
  {z:List Value} (hz2:cyc j.zero.cells.toList n=z) (hk:YO (fun i=>some (i*j.size,j.size)) z vs fun cs=> ∀g,k (.slice (some ⟨g,0,none⟩) n n) μ ([(g,.cells cs.toArray e)]::L)):vcO P T (.buildSlice t n ps) ty fr μ L k:=by
 refine VV (k:=fun vs=>JY T t n vs fun e cs=> ∀g,k (.slice (some ⟨g,0,none⟩) n n) μ ([(g,.cells cs.toArray e)]::L)) h ?_;exact Vl hT hu he ⟨Nat.le_of_ble_eq_true hn,hz,by rw[hz2];exact hk⟩
theorem QbD {t:TypeId} (hk: ∀g,k (.map (some g)) μ ([(g,.map #[] 0)]::L)):vcO P T (.makeMap t none) ty fr μ L k:=hk
theorem QaV {t:TypeId} {l c:Operand} {a b:Value} (h:evV fr l=some a) (h2:evV fr c=some b) (hk:QJ P (Instr.makeSlice t a b) μ L k):vcO P T (.makeSlice t l c) ty fr μ L k :=
 ev_of (k:=fun a=>ev fr c fun b=>QJ P (Instr.makeSlice t a b) μ L k) h (ev_of (k:=fun b=>QJ P (Instr.makeSlice t a b) μ L k) h2 hk)
theorem W7 {t:TypeId} {m x v:Operand} {a b c:Value} (h:evV fr m=some a) (h2:evV fr x=some b) (h3:evV fr v=some c) (hk:YR P (Instr.mapUpdate t a b c) μ L fun μ' L'=>k undef μ' L'):vcO P T (.mapUpdate t m x v) ty fr μ L k :=
 ev_of (k:=fun a=>ev fr x fun b=>ev fr v fun c=>YR P (Instr.mapUpdate t a b c) μ L fun μ' L'=>k undef μ' L') h (ev_of (k:=fun b=>ev fr v fun c=>YR P (Instr.mapUpdate t a b c) μ L fun μ' L'=>k undef μ' L') h2
  (ev_of (k:=fun c=>YR P (Instr.mapUpdate t a b c) μ L fun μ' L'=>k undef μ' L') h3 hk))
theorem QaU {f:Operand} {args:Array Operand} {tys:Array TypeId} {g:FuncId} {fi ca:Array Value} {vs all:List Value} (h:evV fr f=some (.func (.func g) fi ca)) (h2:Zc fr args.toList=some vs) (ha:fi.toList++vs++ca.toList=all)
  (hk:Fn P g all μ L k):vcO P T (.call ⟨.value f,args,tys⟩) ty fr μ L k:=by
 refine ev_of (k:=fun fv=>evs fr args.toList fun vs=>Vf P fv vs μ L k) h (evs_of (k:=fun vs=>Vf P (.func (.func g) fi ca) vs μ L k) h2 ?_)
 show Fn P g (fi.toList++vs++ca.toList) μ L k
 rw[ha];exact hk
theorem JV {args:Array Operand} {tys:Array TypeId} {vs:List Value} (h:Zc fr args.toList=some vs) (hk:QJ P (Builtin.append_ tys ty vs.toArray) μ L k):vcO P T (.call ⟨.builtin .append,args,tys⟩) ty fr μ L k :=
 evs_of (k:=fun vs=>biO P T .append tys ty vs μ L k) h hk
end
section
variable {ops r:List Oper} {dst:Option Tmp} {op:Op} {ty:TypeId} {pos:String} {aft:Array Edge} {K:Ql} {j:Nat} {w:Bool} {d:Tmp}
theorem QaW (h:K fr μ L):ZR P T N ops [] fr μ L K:=h
theorem VL (h:vcO P T op ty fr μ L fun v μ' L'=>QQ N dst v fr fun fr'=>ZR P T N ops r fr' μ' L' K):ZR P T N ops (⟨dst,op,ty,pos,aft,none⟩::r) fr μ L K:=h
theorem Zr {v:Value} {k:Fr→Prop} (hd:Nat.blt d N.n=true) (h:k ((d,v)::fr)):QQ N (some d) v fr k:=⟨by simpa [Nat.blt_eq] using hd,h⟩
theorem WR {v:Value} {k:Fr→Prop} (h:k fr):QQ N none v fr k:=h
variable {μ0:Gh} {keep:List Seg} {pl:List (Bool×Nat)} {i:Nat}
theorem Qb6 (h:K fr μ L):QP P T N ops μ0 keep [] fr μ L K:=h
theorem QcO (hi:Yc ops i=some ⟨dst,op,ty,pos,aft,none⟩) (h:vcR P T op fr μ0 keep fun v=>QQ N dst v fr fun fr'=>QP P T N ops μ0 keep pl fr' μ L K):QP P T N ops μ0 keep ((true,i)::pl) fr μ L K:=by
 simp only[QP,hi];exact h
theorem Qb5 (hi:Yc ops i=some ⟨dst,op,ty,pos,aft,none⟩) (h:vcO P T op ty fr μ L fun v μ' L'=>Yf keep L'∧QQ N dst v fr fun fr'=>QP P T N ops μ0 keep pl fr' μ' L' K):QP P T N ops μ0 keep ((false,i)::pl) fr μ L K:=by
 simp only[QP,hi];exact h
variable {fuel:Nat} {listed:List Bool}
theorem AN.run (hT:TOk P T) (plan:List (Bool×Nat)) {listed':List Bool} {n:Nat} (hs:Region.noSelect ops.toArray=true) (hp:Q9 ops plan listed=some listed') (hn:fuel+plan.length=n)
  (h:QP P T N ops μ0 keep plan fr μ L (AN P N ops μ0 keep fuel listed' K)):AN P N ops μ0 keep n listed K fr μ L:=by
 rw[←hn];exact AN.steps hT hs plan listed hp h
end
section
variable {K:Ql} {B:Nat→Ql} {R:Ql}
theorem Jn {c:Operand} {x y:Code} (h:evV fr c=some (.bool true)) (hk:WP P N x K B R fr μ L):WP P N (.cond c x y) K B R fr μ L:=WP.cond (ev_of (k:=fun v=>Jt v (WP P N x K B R fr μ L) (WP P N y K B R fr μ L)) h hk)
theorem Jm {c:Operand} {x y:Code} (h:evV fr c=some (.bool false)) (hk:WP P N y K B R fr μ L):WP P N (.cond c x y) K B R fr μ L:=WP.cond (ev_of (k:=fun v=>Jt v (WP P N x K B R fr μ L) (WP P N y K B R fr μ L)) h hk)
theorem W9 {c:Operand} {x y:Code} {b:Bool} (h:evV fr c=some (.bool b)) (ht:b=true→WP P N x K B R fr μ L) (hf:b=false→WP P N y K B R fr μ L):WP P N (.cond c x y) K B R fr μ L:=by
 refine WP.cond (ev_of (k:=fun v=>Jt v (WP P N x K B R fr μ L) (WP P N y K B R fr μ L)) h ?_);cases b
 ·exact hf rfl
 ·exact ht rfl
theorem Qa4 {k:List Value→Prop} (h:k []):YT T [] fr μ L k:=h
theorem Qad {t:Tmp} {r:List ResultVar} {k:List Value→Prop} {v:Value} (h:Yh fr t=some v) (hk:YT T r fr μ L fun vs=>k (v::vs)):YT T (.tmp t::r) fr μ L k:=by
 simp only[YT,h,evT];exact hk
end
end
theorem ST_ {L L':List Seg} {k:List Seg→Prop} (i j:Nat) {s:Seg} {g off:Nat} {cs:Array Value} {e:TypeId} {vs:List Value} (hi:L[i]? =some s) (hj:s[j]? =some (g,.cells cs e (0,0))) (hl:Nat.ble (off+vs.length) cs.size=true)
  (hL:L.set i (s.set j (g,.cells (YB cs.toList off vs).toArray e (0,0)))=L') (hk:k L'):Ex (ZG L ⟨g,off,none⟩ vs) k:=Ex.mk _ (ZG.seg i j hi hj (Nat.le_of_ble_eq_true hl)) (by rw[hL];exact hk)
theorem LA_ {μ:Gh} {L:List Seg} {k:List Value→Prop} (i j:Nat) {s:Seg} {g off n:Nat} {cs:Array Value} {e:TypeId} {f:Nat×Nat} {vs:List Value} (hi:L[i]? =some s) (hj:s[j]? =some (g,.cells cs e f))
  (hv:(cs.toList.drop off).take n=vs) (hl:Nat.beq vs.length n=true) (hk:k vs):Ex (fun vs:List Value=>vs.length=n∧QI μ L ⟨g,off,none⟩ vs) k:=by
 have hl:=Nat.eq_of_beq_eq_true hl;exact Ex.mk vs ⟨hl,QI.seg i j hi hj (by rw[hl];exact hv)⟩ hk
end Go.Proofs.Ytpghcnpheabbgaa
namespace Go.Proofs.Ytpghcnpheabbgaa
open Go.RowKit
set_option linter.unusedSimpArgs false
set_option linter.unusedVariables false
theorem VE {L:List Seg} {i j:Nat} {t:Seg} (hij:i≠j) (hj:L[j]? =some t):(L.set i [])[j]? =some t:=by
 rw[List.getElem?_set_ne hij];exact hj
theorem Inv.apart {w:World} {μ:Gh} {L:List Seg} (h:Inv w μ L) {i j:Nat} {s t:Seg} (hij:i≠j) (hi:L[i]? =some s) (hj:L[j]? =some t) {c d:W6} (hc:c∈s) (hd:d∈t):c.1≠d.1:=by
 have h1:=(h.perm (QS hi)).nd
 simp only[List.flatten_cons,List.map_append,List.nodup_append] at h1
 exact h1.2.2 c.1 (List.mem_map.2 ⟨c,hc,rfl⟩) d.1 (List.mem_map.2 ⟨d,List.mem_flatten.2 ⟨t,List.mem_of_getElem? (VE hij hj),hd⟩,rfl⟩)
theorem Ya.open {e:TypeId} {sz n:Nat} {v:Value} {css:List (List Value)} {ch:Seg} (h:Ya e sz v css ch) (hn:css.length=n) (h0:0<n) :
  ∃g cap tl,v= .slice (some ⟨g,0,none⟩) n cap∧ch=[(g,.cells (css.flatten++tl).toArray e (0,0))]∧n≤cap∧cap≤maxLen∧css.flatten.length+tl.length=cap*sz:=by
 rcases h.2 with ⟨_,rfl,_⟩ | ⟨g,cap,cur,rfl,rfl,h1,h2,h3,h4⟩
 ·simp at hn;omega
 ·refine ⟨g,cap,cur.toList.drop (n*sz),by rw[hn],?_,by omega,h2,?_⟩
  ·rw[←hn,←h4,List.take_append_drop]
  ·rw[←h4,hn,←List.length_append,List.take_append_drop];simpa using h3
theorem Ya.of {e:TypeId} {sz n g cap:Nat} {css:List (List Value)} {l tl:List Value} (h: ∀cs∈css,cs.length=sz) (hl:l=css.flatten++tl) (hn:css.length=n) (hc:n≤cap) (hm:cap≤maxLen) (hlen:css.flatten.length+tl.length=cap*sz) :
  Ya e sz (.slice (some ⟨g,0,none⟩) n cap) css [(g,.cells l.toArray e (0,0))]:=by
 refine ⟨h,.inr ⟨g,cap,l.toArray,by rw[hn],rfl,by omega,hm,by rw[List.size_toArray,hl,List.length_append,hlen],?_⟩⟩;have:=QK h
 simp only[hl,←this,List.take_left]
theorem ZG.at {L:List Seg} {g off:Nat} {l l' vs:List Value} {e:TypeId} (i:Nat) (hi:L[i]? =some [(g,.cells l.toArray e (0,0))]) (hl:YB l off vs=l') (hlen:off+vs.length≤l.length) :
  ZG L ⟨g,off,none⟩ vs (L.set i [(g,.cells l'.toArray e (0,0))]):=by
 have:=ZG.seg (L:=L) (off:=off) (vs:=vs) i 0 hi rfl (by simpa using hlen)
 simpa [hl] using this
section
variable {μ:Gh} {L:List Seg}
theorem Rd.take {A:Option Addr} {sz:Nat} {css:List (List Value)} (h:Rd μ L A sz css) (k:Nat):Rd μ L A sz (css.take k):=by
 refine ⟨fun cs hc=>h.1 cs (List.mem_of_mem_take hc),fun hne=> ?_⟩;obtain ⟨a,ha,hc⟩:=h.2 (fun e=>hne (by rw[e];simp));refine ⟨a,ha,fun j v hj=>hc j v ?_⟩;have:css.flatten=(css.take k).flatten++(css.drop k).flatten:=by rw[←List.flatten_append,List.take_append_drop]
 rw[this,List.getElem?_append_left (by
  rcases Nat.lt_or_ge j (css.take k).flatten.length with h | h
  ·exact h
  ·rw[List.getElem?_eq_none h] at hj;cases hj)]
 exact hj
theorem Rd.drop {A:Option Addr} {sz:Nat} {css:List (List Value)} (h:Rd μ L A sz css) {k:Nat} (hk:k<css.length): ∃a,A=some a∧QI μ L (a.add (k*sz)) (css.drop k).flatten:=by
 obtain ⟨a,ha,hc⟩:=h.2 (fun e=>by rw[e] at hk;simp at hk);refine ⟨a,ha,fun j v hj=> ?_⟩
 rw[Addr.add_add']
 refine hc _ v ?_;have h1:css.flatten=(css.take k).flatten++(css.drop k).flatten:=by rw[←List.flatten_append,List.take_append_drop]
 have h2:(css.take k).flatten.length=k*sz:=by
  rw[QK fun cs hc=>h.1 cs (List.mem_of_mem_take hc),List.length_take,Nat.min_eq_left (by omega)]
 rw[h1,List.getElem?_append_right (by omega),h2,Nat.add_sub_cancel_left]
 exact hj
end
theorem WP.arr {P:Program} {N:NN} {c:Code} {K:Ql} {B:Nat→Ql} {Rk:Ql} {fr:Fr} {μ:Gh} {L:List Seg} {e:TypeId} {sz n cap:Nat} {A:Option Addr} {css:List (List Value)} {ch:Seg} (i:Nat) (hi:L[i]? =some ch) (hown:Ya e sz (.slice A n cap) css ch)
  (h: ∀μ',μ.le μ'→Arr μ' A sz css→WP P N c K B Rk fr μ' (L.set i [])):WP P N c K B Rk fr μ L:=by
 refine WP.upd (Upd.arr i hi hown fun A' cap' μ' hv _ _ hm hA=>Upd.done ?_);injection hv with hv _ _
 subst hv;exact h μ' hm hA
end Go.Proofs.Ytpghcnpheabbgaa
namespace Go.Proofs.Ytpghcnpheabbgaa
open Go.RowKit
set_option linter.unusedSimpArgs false
set_option linter.unusedVariables false
theorem QE {α β:Type} {m:Option α} {f:α→Option β} {r:β} (h:m.bind f=some r): ∃x,m=some x∧f x=some r:=by
 cases m with
 | none=>cases h
 | some x=>exact ⟨x,rfl,h⟩
def Y4 {α β γ:Type} (o:α⊕β) (f:α→γ) (g:β→γ):γ:=match o with
 | .inl a=>f a
 | .inr b=>g b
theorem JE {α β γ:Type} {a:α} {f:α→γ} {g:β→γ} {r:γ} (h:Y4 (.inl a) f g=r):f a=r:=h
theorem Jf {α β γ:Type} {b:β} {f:α→γ} {g:β→γ} {r:γ} (h:Y4 (.inr b) f g=r):g b=r:=h
def oun {α β γ:Type} (j:α×β) (f:α→β→γ):γ:=f j.1 j.2
abbrev QaI {α β:Type} (j:α×β) (f:α→β→Prop):Prop:=f j.1 j.2
theorem YE {α β γ:Type} {a:α} {b:β} {f:α→β→γ} {r:γ} (h:oun (a,b) f=r):f a b=r:=h
def iter {σ ρ:Type} (body:σ→Option (σ⊕ρ)):Nat→σ→Option ρ
 | 0,_=>none
 | n+1,s=>(body s).bind fun q=>Y4 q (fun s'=>iter body n s') fun r=>some r
def Q6 {α:Type} (xs:List α) (k:Int):Option α:=if 0≤k then xs[k.toNat]? else none
def V6 {α:Type} (xs:List α) (k:Int) (x:α):List α:=xs.set k.toNat x
theorem Y8 {α:Type} (xs:List α) (k:Int) (x:α):(V6 xs k x).length=xs.length:=by simp[V6]
def Qax {α:Type} (xs ys:List α):Option (List α):=if xs.length+ys.length≤1000000 then some (xs++ys) else none
theorem Yq {α:Type} {xs:List α} {k:Int} {x:α} (h:Q6 xs k=some x):0≤k∧k<(xs.length:Nat)∧xs[k.toNat]? =some x:=by
 unfold Q6 at h
 split at h
 ·refine ⟨by omega,?_,h⟩;rcases Nat.lt_or_ge k.toNat xs.length with h1 | h1
  ·omega
  ·rw[List.getElem?_eq_none h1] at h;cases h
 ·cases h
theorem Qay {α:Type} {xs ys zs:List α} (h:Qax xs ys=some zs):xs.length+ys.length≤1000000∧zs=xs++ys:=by
 unfold Qax at h
 split at h
 ·injection h with h;exact ⟨by assumption,h.symm⟩
 ·cases h
def YA {β:Type} (k:Int):List (Int×β)→Option β
 | []=>none
 | p::r=>if p.1=k then some p.2 else YA k r
def V0 {β:Type} (k:Int) (v:β):List (Int×β)→List (Int×β)
 | []=>[(k,v)]
 | p::r=>if p.1=k then (k,v)::r else p::V0 k v r
structure Rp (α:Type) where
 sz:Nat
 rep:Gh→α→List Value→Prop
 len: ∀{μ x cs},rep μ x cs→cs.length=sz
 mono: ∀{μ μ':Gh} {x cs},μ.le μ'→rep μ x cs→rep μ' x cs
 one: ∀{μ x cs},rep μ x cs→ ∀u∈cs,u.oneCell'=true
def rI (k:IntKind):Rp Int:=⟨1,fun _ n cs=>cs=[.int k n],fun h=>by rw[h];rfl,fun _ h=>h,fun h u hu=>by subst h;simp only[List.mem_singleton] at hu;subst hu;rfl⟩
def QaL:Rp Int:=rI .i64
def Qb3 {α:Type} (sz:Nat) (enc:α→List Value) (hl: ∀x,(enc x).length=sz) (h1: ∀x,∀u∈enc x,u.oneCell'=true):Rp α :=
 ⟨sz,fun _ x cs=>cs=enc x,fun h=>by rw[h];exact hl _,fun _ h=>h,fun h u hu=>by subst h;exact h1 _ u hu⟩
def wfI (k:IntKind) (n:Int):Prop:=(Lit.int k n).wf=true
def Qq {α β:Type} (R:α→β→Prop) (xs:List α) (ys:List β):Prop:=xs.length=ys.length∧ ∀(i:Nat) (x:α) (y:β),xs[i]? =some x→ys[i]? =some y→R x y
section
variable {α β:Type} {R:α→β→Prop} {xs:List α} {ys:List β}
theorem Qq.nil:Qq R [] []:=⟨rfl,fun i x y h=>by simp at h⟩
theorem Qq.mono {R':α→β→Prop} (h:Qq R xs ys) (hr: ∀x y,R x y→R' x y):Qq R' xs ys:=⟨h.1,fun i x y h1 h2=>hr _ _ (h.2 i x y h1 h2)⟩
theorem Qq.get (h:Qq R xs ys) {i:Nat} {x:α} (hi:xs[i]? =some x): ∃y,ys[i]? =some y∧R x y:=by
 have hlt:i<xs.length:=by
  rcases Nat.lt_or_ge i xs.length with h | h
  ·exact h
  ·rw[List.getElem?_eq_none h] at hi;cases hi
 have hy:ys[i]? =some (ys[i]'(by rw[←h.1];exact hlt)):=by simp
 exact ⟨_,hy,h.2 i x _ hi hy⟩
theorem Qq.get' (h:Qq R xs ys) {y:β} (hy:y∈ys): ∃x,R x y:=by
 obtain ⟨i,hi⟩:=List.getElem?_of_mem hy;have hlt:i<ys.length:=by
  rcases Nat.lt_or_ge i ys.length with h | h
  ·exact h
  ·rw[List.getElem?_eq_none h] at hi;cases hi
 exact ⟨_,h.2 i (xs[i]'(by rw[h.1];exact hlt)) y (by simp) hi⟩
theorem Qq.append {us:List α} {vs:List β} (h:Qq R xs ys) (k:Qq R us vs):Qq R (xs++us) (ys++vs):=by
 refine ⟨by simp[h.1,k.1],fun i x y h1 h2=> ?_⟩;rcases Nat.lt_or_ge i xs.length with hi | hi
 ·rw[List.getElem?_append_left hi] at h1
  rw[List.getElem?_append_left (by rw[←h.1];exact hi)] at h2
  exact h.2 i x y h1 h2
 ·rw[List.getElem?_append_right hi] at h1
  rw[List.getElem?_append_right (by rw[←h.1];exact hi),←h.1] at h2
  exact k.2 _ x y h1 h2
theorem Qq.cons {x:α} {y:β} (h:R x y) (k:Qq R xs ys):Qq R (x::xs) (y::ys):=by
 refine ⟨by simp[k.1],fun i a b h1 h2=> ?_⟩;cases i with
 | zero=>simp at h1 h2;subst h1 h2;exact h
 | succ i=>exact k.2 i a b (by simpa using h1) (by simpa using h2)
theorem Qq.set (h:Qq R xs ys) (i:Nat) {x:α} {y:β} (hr:R x y):Qq R (xs.set i x) (ys.set i y):=by
 refine ⟨by simp[h.1],fun j a b h1 h2=> ?_⟩
 rw[List.getElem?_set] at h1 h2
 by_cases hij:i=j
 ·subst hij
  by_cases hl:i<xs.length
  ·have hl2:i<ys.length:=by rw[←h.1];exact hl
   simp[hl] at h1
   simp[hl2] at h2
   subst h1 h2;exact hr
  ·simp[hl] at h1
 ·rw[if_neg hij] at h1 h2
  exact h.2 j a b h1 h2
theorem Qq.take (h:Qq R xs ys) (n:Nat):Qq R (xs.take n) (ys.take n):=by
 refine ⟨by simp[h.1],fun i x y h1 h2=> ?_⟩
 rw[List.getElem?_take] at h1 h2
 split at h1
 ·rename_i hlt;rw[if_pos hlt] at h2;exact h.2 i x y h1 h2
 ·cases h1
theorem Qq.drop (h:Qq R xs ys) (n:Nat):Qq R (xs.drop n) (ys.drop n):=by
 refine ⟨by simp[h.1],fun i x y h1 h2=> ?_⟩
 rw[List.getElem?_drop] at h1 h2
 exact h.2 _ x y h1 h2
end
section
variable {α:Type} {r:Rp α} {e:TypeId} {μ μ':Gh} {L:List Seg} {A:Option Addr} {n c:Nat} {v:Value} {xs:List α} {ch:Seg} {k:Int} {x:α}
def Yt (r:Rp α) (μ:Gh) (A:Option Addr) (xs:List α):Prop:= ∃css,Arr μ A r.sz css∧Qq (r.rep μ) xs css
def Rds (r:Rp α) (μ:Gh) (L:List Seg) (A:Option Addr) (xs:List α):Prop:= ∃css,Rd μ L A r.sz css∧Qq (r.rep μ) xs css
def Own (r:Rp α) (e:TypeId) (μ:Gh) (v:Value) (xs:List α) (ch:Seg):Prop:= ∃css,Ya e r.sz v css ch∧Qq (r.rep μ) xs css
theorem Yt.mono (h:Yt r μ A xs) (hm:μ.le μ'):Yt r μ' A xs:=by
 obtain ⟨css,h1,h2⟩:=h;exact ⟨css,h1.mono hm,h2.mono fun _ _=>r.mono hm⟩
theorem Yt.nil:Yt r μ A []:=⟨[],Arr.nil,Qq.nil⟩
theorem Yt.rds (h:Yt r μ A xs) (L:List Seg):Rds r μ L A xs:=by
 obtain ⟨css,h1,h2⟩:=h;exact ⟨css,h1.rd,h2⟩
theorem Rds.mono (h:Rds r μ L A xs) (hm:μ.le μ'):Rds r μ' L A xs:=by
 obtain ⟨css,h1,h2⟩:=h;exact ⟨css,h1.mono hm fun _ h=>h,h2.mono fun _ _=>r.mono hm⟩
theorem Rds.push {s:Seg} (h:Rds r μ L A xs):Rds r μ (s::L) A xs:=by
 obtain ⟨css,h1,h2⟩:=h;exact ⟨css,h1.cons,h2⟩
theorem Rds.nil:Rds r μ L A []:=⟨[],Rd.nil,Qq.nil⟩
theorem Own.mono (h:Own r e μ v xs ch) (hm:μ.le μ'):Own r e μ' v xs ch:=by
 obtain ⟨css,h1,h2⟩:=h;exact ⟨css,h1,h2.mono fun _ _=>r.mono hm⟩
theorem Own.nil:Own r e μ (.slice none 0 0) [] []:=⟨[],Ya.nil,Qq.nil⟩
theorem Own.form (h:Own r e μ v xs ch): ∃A c,v= .slice A xs.length c∧xs.length≤c∧c≤maxLen:=by
 obtain ⟨css,h1,h2⟩:=h;obtain ⟨A,c,h3,h4,h5⟩:=h1.form
 rw[←h2.1] at h3 h4
 exact ⟨A,c,h3,h4,h5⟩
theorem Own.rds (h:Own r e μ (.slice A n c) xs ch) (i:Nat) (hi:L[i]? =some ch):Rds r μ L A xs:=by
 obtain ⟨css,h1,h2⟩:=h;exact ⟨css,h1.rd i hi,h2⟩
theorem Own.le (h:Own r e μ v xs ch):xs.length≤9223372036854775807:=by
 obtain ⟨A,c,_,h1,h2⟩:=h.form;exact Nat.le_trans h1 h2
theorem Zx {α:Type} {xs:List α} {c:Nat} (h:xs.length=c) (hb:Nat.ble c 1000000=true):xs.length≤c∧c≤maxLen:=by
 have:=Nat.le_of_ble_eq_true hb;exact ⟨by omega,by unfold maxLen;omega⟩
theorem Own.lenOk (h:Own r e μ (.slice A n c) xs ch):xs.length≤c∧c≤maxLen:=by
 obtain ⟨A',c',h1,h2,h3⟩:=h.form;injection h1 with _ _ h1
 subst h1;exact ⟨h2,h3⟩
theorem QI.sub {a:Addr} {vs us:List Value} (h:QI μ L a vs) (o:Nat) (hu:(vs.drop o).take us.length=us):QI μ L (a.add o) us:=by
 intro j v hj
 rw[Addr.add_add']
 refine h _ _ ?_
 rw[←hu,List.getElem?_take] at hj
 split at hj
 ·rwa [List.getElem?_drop] at hj
 ·cases hj
theorem Yl.push {s:Seg} {b:Nat} {o:Obj} (h:Yl μ L b o):Yl μ (s::L) b o:=Yl.mono h (Gh.le.refl _) (by intro c hc;simp only[List.flatten_cons,List.mem_append];exact .inr hc)
theorem Rds.getI (h:Rds r μ L A xs) (hx:Go.Proofs.Ytpghcnpheabbgaa.Q6 xs k=some x): ∃a cs,A=some a∧r.rep μ x cs∧cs.length=r.sz∧QI μ L (a.add (k.toNat*r.sz)) cs:=by
 obtain ⟨css,h1,h2⟩:=h;obtain ⟨_,_,h3⟩:=Yq hx;obtain ⟨cs,h4,h5⟩:=h2.get h3;obtain ⟨a,h6,h7⟩:=h1.at_ h4;exact ⟨a,cs,h6,h5,r.len h5,h7⟩
theorem QI.push {a:Addr} {vs:List Value} {s:Seg} (h:QI μ L a vs):QI μ (s::L) a vs:=h.mono (Gh.le.refl _) (by intro c hc;simp only[List.flatten_cons,List.mem_append];exact .inr hc)
theorem QI.any {a:Addr} {vs:List Value} (h:QI μ [] a vs) (L:List Seg):QI μ L a vs:=h.mono (Gh.le.refl _) (by simp)
theorem QI.lift {a:Addr} {vs:List Value} (h:QI μ L a vs) (hm:μ.le μ'):QI μ' L a vs:=h.mono hm fun _ h=>h
theorem Rds.lit (i:Nat) {g:Nat} {cs:List Value} {f:Nat×Nat} {css:List (List Value)} (hi:L[i]? =some [(g,.cells cs.toArray e f)]) (hc:cs=css.flatten) (ha:Qq (r.rep μ) xs css):Rds r μ L (some ⟨g,0,none⟩) xs :=
 ⟨css,Rd.chunk i hi (fun c hc=>by obtain ⟨x,hx⟩:=ha.get' hc;exact r.len hx) hc,ha⟩
theorem Own.lit {g:Nat} {cs:List Value} {css:List (List Value)} (hc:cs=css.flatten) (ha:Qq (r.rep μ) xs css) (hn:Nat.ble xs.length 1000=true) (hl:xs.length=n):Own r e μ (.slice (some ⟨g,0,none⟩) n n) xs [(g,.cells cs.toArray e (0,0))]:=by
 have h1: ∀c∈css,c.length=r.sz:=fun c hc=>by obtain ⟨x,hx⟩:=ha.get' hc;exact r.len hx
 have h2:=Nat.le_of_ble_eq_true hn;refine ⟨css,⟨h1,.inr ⟨g,n,cs.toArray,by rw[←ha.1,hl],rfl,by rw[←ha.1,hl];exact Nat.le_refl _,by unfold maxLen;omega,?_,?_⟩⟩,ha⟩
 ·rw[List.size_toArray,hc,QK h1,←ha.1,hl]
 ·rw[List.toList_toArray,hc,←QK h1,List.take_length]
theorem Upd.frzOwn {K:Gh→List Seg→Prop} (i:Nat) (hi:L[i]? =some ch) (h:Own r e μ (.slice A n c) xs ch) (hk: ∀μ',μ.le μ'→Yt r μ' A xs→Upd μ' (L.set i []) K):Upd μ L K:=by
 obtain ⟨css,h1,h2⟩:=h;refine Upd.arr i hi h1 fun A' c' μ' hv _ _ hm ha=> ?_;injection hv with hv _ _
 subst hv;exact hk μ' hm ⟨css,ha,h2.mono fun _ _=>r.mono hm⟩
theorem WP.frzOwn {P:Program} {N:NN} {cd:Code} {K:Ql} {B:Nat→Ql} {Rk:Ql} {fr:Fr} (i:Nat) (hi:L[i]? =some ch) (h:Own r e μ (.slice A n c) xs ch)
  (hk: ∀μ',μ.le μ'→Yt r μ' A xs→WP P N cd K B Rk fr μ' (L.set i [])):WP P N cd K B Rk fr μ L :=
 WP.upd (Upd.frzOwn i hi h fun μ' hm ha=>Upd.done (hk μ' hm ha))
theorem Fn.pre {P:Program} {f:FuncId} {args:List Value} {R:Value→Gh→List Seg→Prop} {fn:Func} (hf:P.funcs[f]? =some fn) (hnm:(fn.name== "runtime.NumGoroutine")=false) (hb:fn.body.isNone=false)
  (h:Upd μ L fun μ' L'=>Fn P f args μ' L' R):Fn P f args μ L R:=by
 refine .inl ⟨⟨fn,hf,hnm,hb⟩,fun w hw=> ?_⟩;obtain ⟨μ1,L1,h1,h2,h3⟩:=h w hw;rcases h3 with ⟨_,h3⟩ | ⟨fn',_,hf',_,hb',_⟩
 ·exact (h3 w h2).mono fun _ w' ⟨v,μ',L',he,hm,hi,hR⟩=>⟨v,μ',L',he,h1.trans hm,hi,hR⟩
 ·rw[hf] at hf'
  injection hf' with hf'
  subst hf'
  rw[hb] at hb';cases hb'
end
def Yp:List (Option Nat)→Nat→List Seg→List Seg
 | [],k,L=>L.drop k
 | none::r,k,L=>[]::Yp r k L
 | some i::r,k,L=>(L[i]?.getD [])::Yp r k (L.set i [])
def Qg (L2 L:List Seg):Prop:= ∀w μ,Inv w μ L→Inv w μ L2
theorem Qg.sel (L:List Seg): ∀(idx:List (Option Nat)) (k:Nat),Qg (Yp idx k L) L:=by
 intro idx
 induction idx generalizing L with
 | nil=>exact fun k w μ h=>h.sub (by
   simp only[Yp]
   conv=>rhs;rw[←List.take_append_drop k L,List.flatten_append]
   exact List.sublist_append_right _ _)
 | cons o r ih =>
  intro k w μ h;cases o with
  | none =>
   have:=ih L k w μ h;exact this.perm (by simp[Yp])
  | some i =>
   simp only[Yp]
   cases hi:L[i]? with
   | none =>
    have hs:L.set i []=L:=by
     rw[List.set_eq_of_length_le]
     rcases Nat.lt_or_ge i L.length with h | h
     ·rw[List.getElem?_eq_getElem h] at hi;cases hi
     ·exact h
    rw[hs]
    have:=ih L k w μ h;exact this.perm (by simp)
   | some s =>
    have hp:=h.perm (QS hi);have key: ∀(idx:List (Option Nat)) (L:List Seg),∃M,L.flatten.Perm ((Yp idx k L).flatten++M):=by
     intro idx
     induction idx with
     | nil =>
      intro L;refine ⟨(L.take k).flatten,?_⟩
      simp only[Yp]
      conv=>lhs;rw[←List.take_append_drop k L,List.flatten_append]
      exact List.perm_append_comm
     | cons o r ih2 =>
      intro L;cases o with
      | none =>
       obtain ⟨M,hM⟩:=ih2 L;exact ⟨M,by simpa [Yp] using hM⟩
      | some j =>
       simp only[Yp]
       cases hj:L[j]? with
       | none =>
        have hs:L.set j []=L:=by
         rw[List.set_eq_of_length_le]
         rcases Nat.lt_or_ge j L.length with h | h
         ·rw[List.getElem?_eq_getElem h] at hj;cases hj
         ·exact h
        obtain ⟨M,hM⟩:=ih2 L;exact ⟨M,by rw[hs];simpa using hM⟩
       | some t =>
        obtain ⟨M,hM⟩:=ih2 (L.set j []);refine ⟨M,(QS hj).trans ?_⟩
        simp only[List.flatten_cons,Option.getD_some,List.append_assoc]
        exact hM.append_left t
    obtain ⟨M,hM⟩:=key r (L.set i []);have h2:(s::L.set i []).flatten.Perm ((s::Yp r k (L.set i [])).flatten++M):=by
     simp only[List.flatten_cons,List.append_assoc]
     exact hM.append_left s
    refine (hp.perm (L':=[(s::Yp r k (L.set i [])).flatten,M]) (by simpa using h2)).sub ?_
    simp only[Option.getD_some,List.flatten_cons,List.flatten_nil,List.append_nil,List.append_assoc]
    rw[←List.append_assoc]
    exact List.sublist_append_left _ _
def Qs (F fr:Fr):Prop:= ∀t v,Yh F t=some v→Yh fr t=some v
theorem Qs.trans {F fr fr2:Fr} (h:Qs F fr) (h2:Qs fr fr2):Qs F fr2:=fun t v hv=>h2 t v (h t v hv)
theorem Qg.trans {A M B:List Seg} (h:Qg A M) (h2:Qg M B):Qg A B:=fun w μ hw=>h w μ (h2 w μ hw)
theorem Qs.of {F fr:Fr} (h:Qaw F fr):Qs F fr:=h.look
section
variable {P:Program} {T:TT} {N:NN} {K:Ql} {B:Nat→Ql} {R:Ql} {fr:Fr} {μ:Gh} {L:List Seg}
theorem WP.at {c:Code} {F:Fr} {L2:List Seg} (hF:Qs F fr) (hL:Qg L2 L) (h:WP P N c K B R F μ L2):WP P N c K B R fr μ L:=fun a w ha hw=>h a w (ha.sub hF) (hL w μ hw)
theorem WP.cut {x y:Code} (M:Ql) (h1:WP P N x M B R fr μ L) (h2: ∀fr' μ' L',μ.le μ'→M fr' μ' L'→WP P N y K B R fr' μ' L'):WP P N (.seq x y) K B R fr μ L :=
 WP.seq (h1.mono (fun fr' μ' L' hm h=>h2 fr' μ' L' hm h) (fun _ _ _ _ _ h=>h) fun _ _ _ _ h=>h)
theorem WP.cutK {x:Code} (M:Ql) (h1:WP P N x M B R fr μ L) (h2: ∀fr' μ' L',μ.le μ'→M fr' μ' L'→K fr' μ' L'):WP P N x K B R fr μ L :=
 h1.mono (fun fr' μ' L' hm h=>h2 fr' μ' L' hm h) (fun _ _ _ _ _ h=>h) fun _ _ _ _ h=>h
theorem WP.iter {σ ρ:Type} {body:σ→Option (σ⊕ρ)} {n:Nat} {s0:σ} {o:ρ} {c:Code} (h:Go.Proofs.Ytpghcnpheabbgaa.iter body n s0=some o) (I:σ→Fr→Gh→List Seg→Prop) (h0:I s0 fr μ L)
  (round: ∀s q fr' μ' L',μ.le μ'→I s fr' μ' L'→body s=some q→(∀r,q= .inr r→r=o)→WP P N c (fun fr2 μ2 L2=> ∃s',q= .inl s'∧I s' fr2 μ2 L2) B R fr' μ' L'):WP P N (.loop c) K B R fr μ L:=by
 refine WP.loop (fun n fr μ L=> ∃s,Go.Proofs.Ytpghcnpheabbgaa.iter body n s=some o∧I s fr μ L) (n:=n) ⟨s0,h,h0⟩ ?_;rintro n fr1 μ1 L1 hm ⟨s,h1,h2⟩;cases n with
 | zero=>cases h1
 | succ n =>
  obtain ⟨q,hq,h3⟩:=QE h1;refine (round s q fr1 μ1 L1 hm h2 hq (fun r e=>by subst e;exact Option.some.inj h3)).mono (fun fr2 μ2 L2 _ ⟨s',e,h4⟩=>⟨n,Nat.lt_succ_self n,s',by subst e;exact h3,h4⟩) (fun _ _ _ _ _ h=>h) (fun _ _ _ _ h=>h)
theorem QbS {g g':Nat} (h:Value.pointer (some ⟨g,0,none⟩)= .pointer (some ⟨g',0,none⟩)):g=g':=by
 injection h with h;injection h with h;injection h with h
theorem WP.seg {c:Code} {L2:List Seg} (hL:Qg L2 L) (h:WP P N c K B R fr μ L2):WP P N c K B R fr μ L:=fun a w ha hw=>h a w ha (hL w μ hw)
theorem Upd.seg {L2:List Seg} {k:Gh→List Seg→Prop} (hL:Qg L2 L) (h:Upd μ L2 k):Upd μ L k:=fun w hw=>h w (hL w μ hw)
theorem Fn.seg {f:FuncId} {args:List Value} {L2:List Seg} {R:Value→Gh→List Seg→Prop} (hL:Qg L2 L) (h:Fn P f args μ L2 R):Fn P f args μ L R:=by
 rcases h with ⟨h1,h2⟩ | ⟨fn,e,h1,h2,h3,h4,h5,h6⟩
 ·exact .inl ⟨h1,fun w hw=>h2 w (hL w μ hw)⟩
 ·exact .inr ⟨fn,e,h1,h2,h3,h4,h5,fun w hw=>h6 w (hL w μ hw)⟩
theorem Upd.selS {k:Gh→List Seg→Prop} (idx:List (Option Nat)) (n:Nat) (h:Upd μ (Go.Proofs.Ytpghcnpheabbgaa.Yp idx n L) k):Upd μ L k:=fun w hw=>h w (Qg.sel L idx n w μ hw)
theorem Yf.of {keep L:List Seg} (h: ∀s∈keep,s∈L):Yf keep L:=fun c hc=>by
 obtain ⟨s,h1,h2⟩:=List.mem_flatten.1 hc;exact List.mem_flatten.2 ⟨s,h s h1,h2⟩
variable {k:Value→Prop}
section
variable {t yt:TypeId} {x y:Operand} {kd:IntKind} {a b:Int}
theorem Qb9 (h:evV fr x=some (.int kd a)) (h2:evV fr y=some (.int kd b)) (hk:k (.bool (decide (a=b)))):vcR P T (.binOp .eql t x y yt) fr μ L k:=QaZ h h2 (fun e=>by rw[decide_eq_true e] at hk;exact hk) (fun e=>by rw[decide_eq_false e] at hk;exact hk)
theorem Qco (h:evV fr x=some (.int kd a)) (h2:evV fr y=some (.int kd b)) (hk:k (.bool (!decide (a=b)))):vcR P T (.binOp .neq t x y yt) fr μ L k:=Qc1 h h2 (fun e=>by rw[decide_eq_false e] at hk;exact hk) (fun e=>by rw[decide_eq_true e] at hk;exact hk)
theorem Qcg (h:evV fr x=some (.int kd a)) (h2:evV fr y=some (.int kd b)) (hk:k (.bool (decide (a<b)))):vcR P T (.binOp .lss t x y yt) fr μ L k:=QcW h h2 (fun e=>by rw[decide_eq_true e] at hk;exact hk) (fun e=>by rw[decide_eq_false e] at hk;exact hk)
theorem Qcf (h:evV fr x=some (.int kd a)) (h2:evV fr y=some (.int kd b)) (hk:k (.bool (decide (a≤b)))):vcR P T (.binOp .leq t x y yt) fr μ L k:=QcV h h2 (fun e=>by rw[decide_eq_true e] at hk;exact hk) (fun e=>by rw[decide_eq_false e] at hk;exact hk)
theorem Qcc (h:evV fr x=some (.int kd a)) (h2:evV fr y=some (.int kd b)) (hk:k (.bool (decide (b<a)))):vcR P T (.binOp .gtr t x y yt) fr μ L k:=QcU h h2 (fun e=>by rw[decide_eq_true e] at hk;exact hk) (fun e=>by rw[decide_eq_false e] at hk;exact hk)
theorem Qcb (h:evV fr x=some (.int kd a)) (h2:evV fr y=some (.int kd b)) (hk:k (.bool (decide (b≤a)))):vcR P T (.binOp .geq t x y yt) fr μ L k:=QcT h h2 (fun e=>by rw[decide_eq_true e] at hk;exact hk) (fun e=>by rw[decide_eq_false e] at hk;exact hk)
theorem Qb8 {i:TyI} {a b:Bool} (h:evV fr x=some (.bool a)) (h2:evV fr y=some (.bool b)) (hT:T t=some i) (hf:VY i.u=true) (hk:k (.bool (a==b))):vcR P T (.binOp .eql t x y yt) fr μ L k :=
 QaY h h2 hT hf (fun e=>by subst e;simpa using hk) (fun e=>by
                                   have:(a==b)=false:=by simpa using e
                                   rw[this] at hk;exact hk)
theorem Qcl {i:TyI} {a b:Bool} (h:evV fr x=some (.bool a)) (h2:evV fr y=some (.bool b)) (hT:T t=some i) (hf:VY i.u=true) (hk:k (.bool (!(a==b)))):vcR P T (.binOp .neq t x y yt) fr μ L k :=
 QcZ h h2 hT hf (fun e=>by
                have:(a==b)=false:=by simpa using e
                rw[this] at hk;exact hk) (fun e=>by subst e;simpa using hk)
theorem Qck {args:Array Operand} {tys:Array TypeId} {kd kd':IntKind} {x y:Int} (h:Zc fr args.toList=some [.int kd x,.int kd' y]) (hk:k (.int kd (min x y))):vcR P T (.call ⟨.builtin .min,args,tys⟩) fr μ L k :=
 Qcj h (n:=min x y) (by rw[Int.min_def];split<;>split<;>omega) hk
theorem Qci {args:Array Operand} {tys:Array TypeId} {kd kd':IntKind} {x y:Int} (h:Zc fr args.toList=some [.int kd x,.int kd' y]) (hk:k (.int kd (max x y))):vcR P T (.call ⟨.builtin .max,args,tys⟩) fr μ L k :=
 Qch h (n:=max x y) (by rw[Int.max_def];split<;>split<;>omega) hk
end
theorem W8 {t e:TypeId} {x n:Operand} {A:Option Addr} {len c:Nat} {kd:IntKind} {ix:Int} {i j:TyI} {sz:Nat} {a:Addr} (h:evV fr x=some (.slice A len c)) (h2:evV fr n=some (.int kd ix)) (hT:T t=some i) (hu:i.u= .slice e) (he:T e=some j) (hs:j.size=sz)
  (hb:0≤ix∧ix<(len:Nat)) (hA:A=some a) (hk:k (.pointer (some (a.add (ix.toNat*sz))))):vcR P T (.indexAddr t x n) fr μ L k:=Qdi h h2 hT hu he hs ⟨hb.1,hb.2,a,hA,hk⟩
end
section
variable {P:Program} {T:TT} {μ:Gh} {L:List Seg} {α:Type} {r:Rp α}
theorem Qby (hT:TOk P T) {t ty e:TypeId} {it ie:TyI} {k:Value→Gh→List Seg→Prop} (ht:T t=some it) (hu:it.u= .slice e) (he:T e=some ie) (hz:ie.zero.cells.size=ie.size) (hsz:0<ie.size) (hsr:ie.size=r.sz) (hby:Nat.ble ie.bytes 10000=true)
  {v:Value} {xs ys zs:List α} {ch:Seg} (i:Nat) (hi:L[i]? =some ch) (hown:Own r e μ v xs ch) {A:Option Addr} {m c:Nat} (hm:ys.length=m) (hr:Rds r μ L A ys) (hz2:Qax xs ys=some zs)
  (hk: ∀A' c' ch',Own r e μ (.slice A' zs.length c') zs ch'→k (.slice A' zs.length c') μ (L.set i ch')):QJ P (Builtin.append_ #[t,t] ty #[v,.slice A m c]) μ L k:=by
 obtain ⟨css,h1,h2⟩:=hown;obtain ⟨nss,h3,h4⟩:=hr;obtain ⟨hb,rfl⟩:=Qay hz2;have hby:=Nat.le_of_ble_eq_true hby
 rw[←hsr] at h1 h3
 have hlen:css.length+m≤1000000:=by rw[←h2.1,←hm];exact hb
 refine Qap hT ht hu he hz hsz i hi h1 (news:=nss) (by rw[←h4.1,hm]) h3 (fun cs hc u hu=> ?_) (by omega) ?_ fun v' ch' hv _=> ?_
 ·obtain ⟨x,hx⟩:=h4.get' hc;exact r.one hx u hu
 ·exact Nat.le_trans (Nat.mul_le_mul hlen hby) (by decide)
 ·rw[hsr] at hv
  have ho:Own r e μ v' (xs++ys) ch':=⟨_,hv,h2.append h4⟩
  obtain ⟨A',c',rfl,_,_⟩:=ho.form;exact hk A' c' ch' ho
theorem Vp {sz:Nat}: ∀{css:List (List Value)} {i o:Nat} {cs vs:List Value},(∀c∈css,c.length=sz)→css[i]? =some cs→o+vs.length≤sz→ ∀tl,YB (css.flatten++tl) (i*sz+o) vs=(css.set i (YB cs o vs)).flatten++tl
 | [],i,o,cs,vs,_,hi,_,tl=>by simp at hi
 | c::rs,0,o,cs,vs,h,hi,hl,tl=>by
  simp only[List.getElem?_cons_zero,Option.some.injEq] at hi
  subst hi;have hc:=h c (by simp)
  simp only[List.set_cons_zero,List.flatten_cons,Nat.zero_mul,Nat.zero_add,List.append_assoc]
  rw[Z0 vs o (c++(rs.flatten++tl)) (by simp;omega),Z0 vs o c (by omega)]
  rw[List.take_append_of_le_length (by omega),List.drop_append_of_le_length (by omega)]
  simp
 | c::rs,i+1,o,cs,vs,h,hi,hl,tl=>by
  have hc:=h c (by simp);have hi':rs[i]? =some cs:=by simpa using hi
  have hlt:i<rs.length:=by
   rcases Nat.lt_or_ge i rs.length with h | h
   ·exact h
   ·rw[List.getElem?_eq_none h] at hi';cases hi'
  have ih:=Vp (o:=o) (vs:=vs) (fun c hc=>h c (by simp[hc])) hi' hl tl;have hfl:rs.flatten.length=rs.length*sz:=QK fun c hc=>h c (by simp[hc]);have hb:i*sz+sz≤rs.length*sz:=by rw[←Nat.succ_mul];exact Nat.mul_le_mul_right _ hlt
  have e:(i+1)*sz+o=c.length+(i*sz+o):=by rw[hc,Nat.succ_mul];omega
  simp only[List.set_cons_succ,List.flatten_cons,List.append_assoc]
  rw[←ih,e,Z0 vs _ _ (by simp only[List.length_append];omega),Z0 vs (i*sz+o) _ (by simp only[List.length_append];omega)]
  rw[List.take_append,List.drop_append]
  have e1:c.length+(i*sz+o)-c.length=i*sz+o:=by omega
  have e2:c.length+(i*sz+o)+vs.length-c.length=i*sz+o+vs.length:=by omega
  rw[e1,e2,List.take_of_length_le (by omega),List.drop_of_length_le (by omega)]
  simp
theorem Own.store {e:TypeId} {A:Option Addr} {n c:Nat} {xs:List α} {ch:Seg} {a:Addr} {kx:Int} {x x':α} {vs:List Value} {o sz:Nat} {k:List Seg→Prop} (i:Nat) (hi:L[i]? =some ch) (h:Own r e μ (.slice A n c) xs ch) (hA:A=some a) (hx:Q6 xs kx=some x) (hsz:r.sz=sz) (hl:Nat.ble (o+vs.length) sz=true)
  (hc: ∀y,r.rep μ x y→r.rep μ x' (YB y o vs)) (hk: ∀ch',Own r e μ (.slice A n c) (V6 xs kx x') ch'→k (L.set i ch')):Ex (ZG L ((a.add (kx.toNat*sz)).add o) vs) k:=by
 obtain ⟨css,h1,h2⟩:=h;subst hsz;obtain ⟨_,_,hxn⟩:=Yq hx;obtain ⟨y,hy1,hy2⟩:=h2.get hxn;have hr:=hc y hy2;obtain ⟨cs',hcs'⟩: ∃z,YB y o vs=z:=⟨_,rfl⟩
 rw[hcs'] at hr
 have hl:=Nat.le_of_ble_eq_true hl;rcases h1.2 with ⟨_,rfl,_⟩ | ⟨g,cap,cur,hv,rfl,q1,q2,q3,q4⟩
 ·simp at hy1
 ·injection hv with hv1 hv2 hv3
  subst hA;injection hv1 with hv1
  subst hv1 hv2 hv3;have hlt:kx.toNat<css.length:=by
   rcases Nat.lt_or_ge kx.toNat css.length with h | h
   ·exact h
   ·rw[List.getElem?_eq_none h] at hy1;cases hy1
  have hcur:cur.toList=css.flatten++cur.toList.drop (css.length*r.sz):=by
   conv=>lhs;rw[←List.take_append_drop (css.length*r.sz) cur.toList,q4]
  have hfl:=QK h1.1;have hb:kx.toNat*r.sz+r.sz≤css.length*r.sz:=by rw[←Nat.succ_mul];exact Nat.mul_le_mul_right _ hlt
  have hcl:css.length*r.sz≤cur.size:=by rw[q3];exact Nat.mul_le_mul_right _ q1
  have hst:=Vp (o:=o) (vs:=vs) h1.1 hy1 hl (cur.toList.drop (css.length*r.sz))
  rw[←hcur,hcs'] at hst
  rw[Yw,Yw,Nat.zero_add]
  have hsa:=ZG.at (L:=L) (g:=g) (off:=kx.toNat*r.sz+o) (l:=cur.toList) (vs:=vs) (e:=e) i (by simpa using hi) hst (by simp only[Array.length_toList];omega);refine Ex.mk _ hsa (hk _ ⟨css.set kx.toNat cs',⟨?_,.inr ⟨g,c,_,by simp,rfl,by simpa using q1,q2,?_,?_⟩⟩,h2.set kx.toNat hr⟩)
  ·intro d hd;rcases List.mem_or_eq_of_mem_set hd with hd | rfl
   ·exact h1.1 d hd
   ·exact r.len hr
  ·have: ∀d∈css.set kx.toNat cs',d.length=r.sz:=by
    intro d hd;rcases List.mem_or_eq_of_mem_set hd with hd | rfl
    ·exact h1.1 d hd
    ·exact r.len hr
   simp only[List.size_toArray,List.length_append,QK this,List.length_set,List.length_drop,Array.length_toList]
   omega
  ·have: ∀d∈css.set kx.toNat cs',d.length=r.sz:=by
    intro d hd;rcases List.mem_or_eq_of_mem_set hd with hd | rfl
    ·exact h1.1 d hd
    ·exact r.len hr
   have hle:=QK this
   simp only[List.length_set] at hle
   simp only[List.toList_toArray,List.length_set,←hle,List.take_left]
def Jz (xs:List α):Option (List α):=if xs.length≤1000000 then some xs else none
theorem Qa7 {P:Program} {f:FuncId} {e:TypeId} {sz:Nat}
  (hC: ∀{μ:Gh} {L:List Seg} {A:Option Addr} {n c:Nat} {css:List (List Value)} (_:Rd μ L A sz css) (_:css.length=n) (_: ∀cs∈css,∀u∈cs,u.oneCell'=true) (_:n≤1000000)
   {R:Value→Gh→List Seg→Prop} (_: ∀v ch,Ya e sz v css ch→R v μ (ch::L)),Fn P f [.slice A n c] μ L R)
  (hsz:r.sz=sz) {A:Option Addr} {c n:Nat} {xs ys:List α} (hn:xs.length=n) (hr:Rds r μ L A xs) (hz:Jz xs=some ys) {R:Value→Gh→List Seg→Prop}
  (hR: ∀A' c' ch',Own r e μ (.slice A' ys.length c') ys ch'→R (.slice A' ys.length c') μ (ch'::L)):Fn P f [.slice A n c] μ L R:=by
 subst hsz hn;unfold Jz at hz
 split at hz
 case isFalse=>cases hz
 rename_i hb
 injection hz with hz
 subst hz;obtain ⟨css,h1,h2⟩:=hr
 rw[h2.1] at hb ⊢
 refine hC h1 rfl (fun cs hc u hu=> ?_) hb fun v ch hv=> ?_
 ·obtain ⟨x,hx⟩:=h2.get' hc;exact r.one hx u hu
 ·have ho:Own r e μ v xs ch:=⟨css,hv,h2⟩
  obtain ⟨A',c',rfl,_,_⟩:=ho.form;exact hR A' c' ch ho
def Yz {β:Type} (enc:β→Value) (es:Array MapEntry) (c:Nat) (m:List (Int×β)):Prop:=Zq .i64 es c (m.map fun p=>(p.1,enc p.2))
theorem WH {β:Type} (enc:β→Value) (n:Int): ∀(m:List (Int×β)),Y9 n (m.map fun p=>(p.1,enc p.2))=(YA n m).map enc
 | []=>rfl
 | p::m=>by
  simp only[List.map_cons,Y9,YA,WH enc n m]
  split<;>rfl
theorem Vx {β:Type} (enc:β→Value) (n:Int) (v:β): ∀(m:List (Int×β)),JQ n (enc v) (m.map fun p=>(p.1,enc p.2))=(V0 n v m).map fun p=>(p.1,enc p.2)
 | []=>rfl
 | p::m=>by
  simp only[List.map_cons,JQ,V0,Vx enc n v m]
  split<;>rfl
section
variable {β:Type} {enc:β→Value} {es:Array MapEntry} {c:Nat} {m:List (Int×β)}
theorem Yz.nil:Yz enc #[] 0 []:=Zq.nil
theorem Yz.look (h:Yz enc es c m) {g:Nat} (ho:Yl μ L g (.map es c)) {z:Value} {zb:β} (hz:z=enc zb) (n:Int) :
  ∃es c,Yl μ L g (.map es c)∧Zv .i64 es.toList∧(enc ((YA n m).getD zb),(YA n m).isSome)=(match ZD n es.toList with | some v=>(v,true) | none=>(z,false)):=by
 refine ⟨es,c,ho,h.keys,?_⟩
 rw[h.find,WH]
 cases YA n m<;>simp[hz]
theorem Yz.size (h:Yz enc es c m):es.size=m.length:=by rw[Zq.size h,List.length_map]
theorem QaQ (hT:TOk P T) {t kt et:TypeId} {it ik:TyI} (ht:T t=some it) (hu:it.u= .map kt et) (hkt:T kt=some ik) (hku:ik.u= .int .i64)
  (i:Nat) {g:Nat} {n:Int} {b:β} {v:Value} {k:Gh→List Seg→Prop} (hi:L[i]? =some [(g,.map es c)]) (hm:Yz enc es c m) (hv:v=enc b)
  (hk: ∀es' c',Yz enc es' c' (V0 n b m)→k μ (L.set i [(g,.map es' c')])):YR P (Instr.mapUpdate t (.map (some g)) (.int .i64 n) v) μ L k:=by
 subst hv;refine VD hT ht hu hkt hku i 0 hi rfl hm fun es' c' hm'=> ?_
 rw[Vx] at hm'
 exact hk es' c' hm'
end
end
end Go.Proofs.Ytpghcnpheabbgaa
namespace Go.Proofs.Ytpghcnpheabbgaa
open Go.RowKit
set_option linter.unusedSimpArgs false
set_option linter.unusedVariables false
section
variable {P:Program} {T:TT} {μ:Gh} {L:List Seg} {α:Type} {r:Rp α}
theorem QaE (z:Array Value) (n:Nat):madeCells z (n*z.size)=Builtin.zeroCells z n:=rfl
theorem VK (z:Array Value) (m:Nat):(Builtin.zeroCells z m).toList=(List.replicate m z.toList).flatten:=by
 have h1:=Qa9 z m;have h2: ∀(z:List Value) m,cyc z m=(List.replicate m z).flatten:=by
  intro z m
  induction m with
  | zero=>simp[cyc]
  | succ m ih=>rw[cyc,ih,List.replicate_succ,List.flatten_cons]
 rw[show Builtin.zeroCells z m=(cyc z.toList m).toArray from h1,List.toList_toArray,h2]
def Qaj {α:Type} (z:α) (n:Int):Option (List α):=if 0≤n∧n≤1000000 then some (List.replicate n.toNat z) else none
theorem Qaq (hT:TOk P T) {t e:TypeId} {it ie:TyI} (ht:T t=some it) (hu:it.u= .slice e) (he:T e=some ie) {z:α} {zc:List Value} (hz:ie.zero.cells.toList=zc) (hs:ie.size=r.sz) (hrep:r.rep μ z zc) (hb:Nat.ble ie.bytes 100000=true)
  {kl kc:IntKind} {n:Int} {xs:List α} (hn:Qaj z n=some xs) {k:Value→Gh→List Seg→Prop}
  (hk: ∀(A:Option Addr) (c:Nat) (ch:Seg),Own r e μ (.slice A xs.length c) xs ch→k (.slice A xs.length c) μ (ch::L)):QJ P (Instr.makeSlice t (.int kl n) (.int kc n)) μ L k:=by
 intro w hw;unfold Qaj at hn
 split at hn
 ·rename_i hn2
  injection hn with hn
  subst hn;obtain ⟨j,hj1,hj2,hj3,hj4⟩:=WM hT he;have hut:=QbA hT ht hu (by simp);have hb:=Nat.le_of_ble_eq_true hb;have hsz:ie.zero.cells.size=ie.size:=by
   have h1:=r.len hrep
   rw[←hz] at h1
   rw[hs,←h1];simp
  have hbm:(j.bytes:Int)*n≤281474976710656:=by
   have:(j.bytes:Int)*n≤100000*1000000:=by
    rw[hj2]
    exact Int.mul_le_mul (by omega) hn2.2 hn2.1 (by omega)
   omega
  have hrun:=run_make (P:=P) w t e j ie.zero hut hj1 hj4 kl kc n n hn2.1 (Int.le_refl _) hbm (by omega);have hlen:(List.replicate n.toNat z).length=n.toNat:=List.length_replicate;refine ⟨_,_,μ,_,hrun,Gh.le.refl _,hw.alloc _,?_⟩;have hO:Own r e μ (.slice (some ⟨w.heap.size,0,none⟩) (List.replicate n.toNat z).length n.toNat) (List.replicate n.toNat z) [(w.heap.size,.cells (madeCells ie.zero.cells (n.toNat*j.size)) e)]:=by
   refine ⟨List.replicate n.toNat zc,⟨fun cs hcs=> ?_,.inr ⟨w.heap.size,n.toNat,_,?_,rfl,?_,?_,?_,?_⟩⟩,?_⟩
   ·rw[List.eq_of_mem_replicate hcs];exact r.len hrep
   ·simp
   ·simp
   ·unfold maxLen;omega
   ·rw[size_madeCells,hj3,hs]
   ·rw[hj3,←hsz,QaE,VK,hz,List.length_replicate]
    have hl:((List.replicate n.toNat zc).flatten).length=n.toNat*r.sz:=by
     have h1:=r.len hrep
     simp[h1]
    rw[←hl,List.take_length]
   ·refine ⟨by simp,fun i a b ha hb=> ?_⟩
    rw[List.getElem?_replicate] at ha hb
    split at ha
    ·rename_i hi
     rw[if_pos hi] at hb
     injection ha with ha;injection hb with hb
     rw[←ha,←hb];exact hrep
    ·cases ha
  have:=hk _ _ _ hO
  rw[hlen] at this
  exact this
 ·cases hn
end
def V8 {α:Type} (xs:List α) (lo hi:Int):Option (List α):=if 0≤lo∧lo≤hi∧hi≤xs.length then some ((xs.take hi.toNat).drop lo.toNat) else none
theorem Wi {α:Type} {xs ys:List α} {lo hi:Int} (h:V8 xs lo hi=some ys):0≤lo∧lo≤hi∧hi≤xs.length∧ys=(xs.take hi.toNat).drop lo.toNat∧ys.length=hi.toNat-lo.toNat:=by
 unfold V8 at h
 split at h
 ·rename_i hc
  injection h with h
  refine ⟨hc.1,hc.2.1,hc.2.2,h.symm,?_⟩
  rw[←h,List.length_drop,List.length_take]
  omega
 ·cases h
section
variable {α:Type} {r:Rp α} {μ:Gh} {L:List Seg} {A:Option Addr} {xs ys:List α} {lo hi:Int}
theorem Yt.pre (h:Yt r μ A xs) (hs:V8 xs 0 hi=some ys):Yt r μ A ys:=by
 obtain ⟨css,h1,h2⟩:=h;obtain ⟨_,_,_,e,_⟩:=Wi hs;subst e;refine ⟨css.take hi.toNat,fun i cs hi'=> ?_,by simpa using h2.take hi.toNat⟩
 rw[List.getElem?_take] at hi'
 split at hi'
 ·exact h1 i cs hi'
 ·cases hi'
theorem Rds.pre (h:Rds r μ L A xs) (hs:V8 xs 0 hi=some ys):Rds r μ L A ys:=by
 obtain ⟨css,h1,h2⟩:=h;obtain ⟨_,_,_,e,_⟩:=Wi hs;subst e;exact ⟨css.take hi.toNat,h1.take _,by simpa using h2.take hi.toNat⟩
theorem Rds.sub {A':Option Addr} {cap:Nat} (h:Rds r μ L A xs) (hc:xs.length≤cap) (hs:V8 xs lo hi=some ys) (hA:A'=(if cap=lo.toNat then A else A.map (·.add (lo.toNat*r.sz)))):Rds r μ L A' ys:=by
 obtain ⟨css,h1,h2⟩:=h;obtain ⟨k1,k2,k3,e,k4⟩:=Wi hs;subst e;have h1:=h1.take hi.toNat;have h2:=h2.take hi.toNat;refine ⟨(css.take hi.toNat).drop lo.toNat,⟨fun cs hcs=>h1.1 cs (List.mem_of_mem_drop hcs),fun hne=> ?_⟩,h2.drop _⟩;have hlt:lo.toNat<(css.take hi.toNat).length:=by
  rcases Nat.lt_or_ge lo.toNat (css.take hi.toNat).length with h | h
  ·exact h
  ·exact absurd (List.drop_of_length_le h) hne
 have hl:=h2.1
 rw[List.length_take] at hl
 obtain ⟨a,ha,hcell⟩:=h1.drop hlt;refine ⟨a.add (lo.toNat*r.sz),?_,hcell⟩
 rw[hA,if_neg (by omega),ha]
 rfl
theorem Yt.sub {A':Option Addr} {cap:Nat} (h:Yt r μ A xs) (hc:xs.length≤cap) (hs:V8 xs lo hi=some ys) (hA:A'=(if cap=lo.toNat then A else A.map (·.add (lo.toNat*r.sz)))):Yt r μ A' ys:=by
 obtain ⟨css,h1,h2⟩:=h;obtain ⟨k1,k2,k3,e,k4⟩:=Wi hs;subst e;refine ⟨(css.take hi.toNat).drop lo.toNat,fun i cs hi'=> ?_,(h2.take hi.toNat).drop _⟩
 rw[List.getElem?_drop,List.getElem?_take] at hi'
 split at hi'
 ·rename_i hlt
  obtain ⟨g1,a,g2,g3⟩:=h1 _ cs hi';have hl:lo.toNat+i<css.length:=by
   rcases Nat.lt_or_ge (lo.toNat+i) css.length with h | h
   ·exact h
   ·rw[List.getElem?_eq_none h] at hi';cases hi'
  have hx:=h2.1;refine ⟨g1,a.add (lo.toNat*r.sz),?_,?_⟩
  ·rw[hA,if_neg (by omega),g2];rfl
  ·rw[Addr.add_add',←Nat.add_mul];exact g3
 ·cases hi'
variable {P:Program} {T:TT} {fr:Fr} {t e:TypeId} {x:Operand} {n cap:Nat} {i j:TyI} {sz:Nat} {k:Value→Prop}
end
def Qav {β:Type} (enc:β→Value) (v:Value) (so:Seg):Option (List (Int×β))→Prop
 | none=>v= .map none∧so=[]
 | some m=> ∃(g:Nat) (es:Array MapEntry) (cn:Nat),v= .map (some g)∧so=[(g,.map es cn)]∧Yz enc es cn m
theorem Qav.nil {β:Type} {enc:β→Value}:Qav enc (.map none) [] none:=⟨rfl,rfl⟩
theorem Qav.some {β:Type} {enc:β→Value} {g:Nat} {es:Array MapEntry} {cn:Nat} {m:List (Int×β)} (h:Yz enc es cn m):Qav enc (.map (some g)) [(g,.map es cn)] (some m):=⟨g,es,cn,rfl,rfl,h⟩
theorem Qav.get {β:Type} {enc:β→Value} {v:Value} {so:Seg} {o:Option (List (Int×β))} {m:List (Int×β)} (h:Qav enc v so o) (ho:o=Option.some m): ∃(g:Nat) (es:Array MapEntry) (cn:Nat),v= .map (Option.some g)∧so=[(g,.map es cn)]∧Yz enc es cn m:=by
 subst ho;exact h
end Go.Proofs.Ytpghcnpheabbgaa
namespace Go.Proofs.Ytpghcnpheabbgaa
open Go.RowKit
set_option linter.unusedSimpArgs false
set_option linter.unusedVariables false
section
variable {P:Program} {T:TT} {N:NN} {K:Ql} {B:Nat→Ql} {R:Ql} {fr:Fr} {μ:Gh} {L:List Seg}
theorem Za {b:Frame} {a:Act} {k:List Item} {cs:List Frame} {w:World} {c:Code}:step P (lone (b.atR a (.code (.scope c)::k)) cs w)= .next (lone (b.atR a (.code c:: .inScope c::k)) cs w) :=
 step_lone_go (by simp[stepG,stepG.exec,Frame.atR])
theorem Wt {b:Frame} {a:Act} {k:List Item} {cs:List Frame} {w:World} {c:Code}:step P (lone (b.atR a (.inScope c::k)) cs w)= .next (lone (b.atR a k) cs w) :=
 step_lone_go (by simp[stepG,stepG.exec,Frame.atR])
theorem WP.scope {c:Code} (h:WP P N c K B R fr μ L):WP P N (.scope c) K B R fr μ L:=fun a w ha hw=>by
 intro b k cs hro hb hr;obtain ⟨e,a₁,w₁,hq,harr⟩:=h a w ha hw b (.inScope c::k) cs hro hb hr;have h0:=fenced_calm (P:=P) (fr:=b.atR a (.code (.scope c)::k)) (w:=w) hb hr rfl;cases e with
 | normal=>exact ⟨.normal,a₁,w₁,hq,.head h0 Za (StepsIn.trans harr (.one (fenced_calm (fr:=b.atR a₁ (.inScope c::k)) hb hr rfl) Wt))⟩
 | exit id =>
  have hx:exitTo id (.inScope c::k)=exitTo id k:=by simp[exitTo]
  exact ⟨.exit id,a₁,w₁,hq,fun k' hk=> .head h0 Za (harr.1 k' (by rw[hx];exact hk)),
   fun hr' hk=>let ⟨k₁,h1,h2⟩:=harr.2 hr' (by rw[hx];exact hk);⟨k₁,h1,.head h0 Za h2⟩⟩
 | ret=>exact ⟨_,a₁,w₁,hq,.of_steps (.one h0 Za) harr⟩
 | _=>exact hq.elim
theorem WP.label {l:Nat} (h:K fr μ L):WP P N (.label l) K B R fr μ L:=fun a w ha hw=>wpIn_label ⟨fr,μ,L,ha,Gh.le.refl _,hw,h⟩
end
structure MapS (es:Array MapEntry) (c:Nat) (m:List (ByteArray×Value)):Prop where
 ps:es.toList.map (fun e=>(e.key,e.val))=m.map (fun p=>(Value.string p.1,p.2))
 nd:(m.map (·.1)).Nodup
 born:(es.toList.map (·.born)).Nodup
 lt: ∀e∈es.toList,e.born<c
def Qar (n:ByteArray):List (ByteArray×Value)→Option Value
 | []=>none
 | p::r=>if p.1=n then some p.2 else Qar n r
def QaR (n:ByteArray) (v:Value):List (ByteArray×Value)→List (ByteArray×Value)
 | []=>[(n,v)]
 | p::r=>if p.1=n then (n,v)::r else p::QaR n v r
theorem MapS.nil:MapS #[] 0 []:=⟨rfl,List.nodup_nil,List.nodup_nil,by simp⟩
theorem MapS.size {es:Array MapEntry} {c:Nat} {m:List (ByteArray×Value)} (h:MapS es c m):es.size=m.length:=by
 have:=congrArg List.length h.ps
 simpa using this
theorem VG (n:ByteArray) (u:Value): ∀{m:List (ByteArray×Value)},Qar n m=none→QaR n u m=m++[(n,u)]∧n∉m.map (·.1)
 | [],_=>⟨rfl,by simp⟩
 | p::m,h=>by
  simp only[Qar] at h
  by_cases hn:p.1=n
  ·rw[if_pos hn] at h;cases h
  ·rw[if_neg hn] at h
   obtain ⟨h1,h2⟩:=VG n u h;refine ⟨by simp[QaR,hn,h1],?_⟩
   simp only[List.map_cons,List.mem_cons,not_or]
   exact ⟨fun e=>hn e.symm,h2⟩
theorem MapS.push {es:Array MapEntry} {c:Nat} {m:List (ByteArray×Value)} (h:MapS es c m) {n:ByteArray} {v:Value} (hn:Qar n m=none) :
  MapS (es.push { key:= .string n,val:=v,born:=c }) (c+1) (QaR n v m):=by
 obtain ⟨h1,h2⟩:=VG n v hn;refine ⟨by rw[h1];simp[h.ps],by rw[h1];simp[List.nodup_append];exact ⟨h.nd,fun a b hb e=>h2 (by subst e;simp;exact ⟨b,hb⟩)⟩,?_,?_⟩
 ·simp[List.nodup_append]
  refine ⟨h.born,fun e he hb=> ?_⟩;have:=h.lt e (by simpa using he)
  omega
 ·intro e he
  simp at he
  rcases he with he | rfl
  ·have:=h.lt e (by simpa using he);omega
  ·simp
theorem MapS.put {es:Array MapEntry} {c:Nat} {m:List (ByteArray×Value)} (h:MapS es c m) {n:ByteArray} {v:Value} {j:Nat}
  (hj:(es.toList[j]?).map (·.key)=some (.string n)) (hs:QaR n v m=m.set j (n,v)) (hjl:j<es.size) :
  MapS (es.modify j fun e=>{ e with key:= .string n,val:=v }) c (QaR n v m):=by
 have hl:=h.size;refine ⟨?_,?_,?_,?_⟩
 ·have h1:=ZK (fun e:MapEntry=>(e.key,e.val)) (fun e=>{ e with key:= .string n,val:=v }) es.toList j (Value.string n,v) (fun x _=>rfl)
  rw[Array.toList_modify,h1,h.ps,hs,List.map_set]
 ·have hk:(m.set j (n,v)).map (·.1)=m.map (·.1):=by
   apply List.ext_getElem?;intro i
   simp only[List.getElem?_map,List.getElem?_set]
   by_cases hij:j=i
   ·subst hij;have h1:=congrArg (fun l=>l[j]?) h.ps
    simp only[List.getElem?_map] at h1
    have hjm:j<m.length:=by omega
    cases hx:es.toList[j]? with
    | none=>rw[hx] at hj;cases hj
    | some x =>
     rw[hx] at hj h1
     simp only[Option.map_some,Option.some.injEq] at hj
     rw[List.getElem?_eq_getElem hjm] at h1 ⊢
     simp only[Option.map_some,Option.some.injEq,Prod.mk.injEq,hj,Value.string.injEq,true_and] at h1
     simp[hjm,h1.1]
   ·simp[hij]
  rw[hs,hk];exact h.nd
 ·have h1:=ZE (fun e:MapEntry=>e.born) (fun e=>{ e with key:= .string n,val:=v }) es.toList j (fun x _=>rfl)
  rw[Array.toList_modify,h1];exact h.born
 ·intro e he
  rw[Array.toList_modify] at he
  obtain ⟨i,hi⟩:=List.getElem?_of_mem he
  rw[List.getElem?_modify] at hi
  cases hx:es.toList[i]? with
  | none=>rw[hx] at hi;cases hi
  | some x =>
   rw[hx] at hi
   have:=h.lt x (List.mem_of_getElem? hx)
   by_cases hji:j=i
   ·simp[hji] at hi;subst hi;exact this
   ·simp[hji] at hi;subst hi;exact this
theorem YR.pre {P:Program} {μ:Gh} {L:List Seg} {s:Sem Unit} {R:Gh→List Seg→Prop} (h:Upd μ L fun μ' L'=>YR P s μ' L' R):YR P s μ L R:=fun w hw=>by
 obtain ⟨μ',L',h1,h2,h3⟩:=h w hw;obtain ⟨w',μ2,L2,k1,k2,k3,k4⟩:=h3 w h2;exact ⟨w',μ2,L2,k1,h1.trans k2,k3,k4⟩
def Qaa {β:Type} (enc:β→Value) (es:Array MapEntry) (c:Nat) (m:List (ByteArray×β)):Prop:=MapS es c (m.map fun p=>(p.1,enc p.2))
section
variable {P:Program} {T:TT} {fr:Fr} {μ:Gh} {L:List Seg} {β:Type} {enc:β→Value} {es:Array MapEntry} {c:Nat} {m:List (ByteArray×β)}
theorem Qaa.nil:Qaa enc #[] 0 []:=MapS.nil
theorem Qaa.size (h:Qaa enc es c m):es.size=m.length:=by rw[MapS.size h,List.length_map]
end
def QcM {α:Type} (r:Rp α) (μ:Gh) (v:Value) (xs:List α):Prop:= ∃A cc,v= .slice A xs.length cc∧(xs.length≤cc∧cc≤maxLen)∧Yt r μ A xs
def WQ {α:Type} (r:Rp α) (μ:Gh) (es:Array MapEntry) (c:Nat) (m:List (Int×List α)):Prop :=
 ∃mv:List (Int×Value),Yz (fun v=>v) es c mv∧Qq (fun (p:Int×List α) (q:Int×Value)=>p.1=q.1∧QcM r μ q.2 p.2) m mv
section
variable {P:Program} {T:TT} {fr:Fr} {μ μ':Gh} {L:List Seg} {α:Type} {r:Rp α} {es:Array MapEntry} {c:Nat} {m:List (Int×List α)}
theorem WQ.nil:WQ r μ #[] 0 []:=⟨[],Yz.nil,Qq.nil⟩
theorem WQ.mono (h:WQ r μ es c m) (hm:μ.le μ'):WQ r μ' es c m:=by
 obtain ⟨mv,h1,h2⟩:=h;exact ⟨mv,h1,h2.mono fun p q ⟨e,A,cc,hv,hl,ha⟩=>⟨e,A,cc,hv,hl,ha.mono hm⟩⟩
theorem WI {R:List α→Value→Prop} (n:Int): ∀{m:List (Int×List α)} {mv:List (Int×Value)},Qq (fun (p:Int×List α) (q:Int×Value)=>p.1=q.1∧R p.2 q.2) m mv →
  (YA n m=none∧YA n mv=none)∨ ∃xs v,YA n m=some xs∧YA n mv=some v∧R xs v
 | [],[],_=> .inl ⟨rfl,rfl⟩
 | [],q::mv,h=>by have:=h.1;simp at this
 | p::m,[],h=>by have:=h.1;simp at this
 | p::m,q::mv,h=>by
  have h0:=h.2 0 p q rfl rfl;have ht:Qq (fun (p:Int×List α) (q:Int×Value)=>p.1=q.1∧R p.2 q.2) m mv:=⟨by have:=h.1;simpa using this,fun i x y hx hy=>h.2 (i+1) x y (by simpa using hx) (by simpa using hy)⟩
  by_cases hn:p.1=n
  ·exact .inr ⟨p.2,q.2,by simp[YA,hn],by simp[YA,←h0.1,hn],h0.2⟩
  ·have hn2: ¬q.1=n:=by rw[←h0.1];exact hn
   simp only[YA,hn,hn2,if_false]
   exact WI n ht
theorem WQ.look (h:WQ r μ es c m) {g:Nat} (ho:Yl μ L g (.map es c)) (n:Int) :
  ∃A cc,(∃es' c',Yl μ L g (.map es' c')∧Zv .i64 es'.toList∧((.slice A ((YA n m).getD []).length cc,(YA n m).isSome):Value×Bool)=(match ZD n es'.toList with | some v=>(v,true) | none=>(.slice none 0 0,false))) ∧
   (((YA n m).getD []).length≤cc∧cc≤maxLen)∧Yt r μ A ((YA n m).getD []):=by
 obtain ⟨mv,h1,h2⟩:=h;obtain ⟨es',c',k1,k2,k3⟩:=h1.look ho (z:= .slice none 0 0) (zb:= .slice none 0 0) rfl n;rcases WI (R:=fun xs v=>QcM r μ v xs) n h2 with ⟨e1,e2⟩ | ⟨xs,v,e1,e2,A,cc,hv,hl,ha⟩
 ·rw[e2] at k3
  rw[e1]
  exact ⟨none,0,⟨es',c',k1,k2,k3⟩,⟨Nat.le_refl _,Nat.zero_le _⟩,Yt.nil⟩
 ·rw[e2] at k3
  rw[e1]
  refine ⟨A,cc,⟨es',c',k1,k2,?_⟩,hl,ha⟩;refine Eq.trans ?_ k3
  simp[hv]
theorem WQ.size (h:WQ r μ es c m):es.size=m.length:=by
 obtain ⟨mv,h1,h2⟩:=h
 rw[h1.size,h2.1]
end
def VM {α:Type} (R:Gh→Value→α→Seg→Prop) (μ:Gh) (v:Value) (o:Option α) (so:Seg):Prop:=match o with
 | none=>v= .pointer none∧so=[]
 | some x=>R μ v x so
theorem VM.nil {α:Type} {R:Gh→Value→α→Seg→Prop} {μ:Gh}:VM R μ (.pointer none) none []:=⟨rfl,rfl⟩
theorem VM.get {α:Type} {R:Gh→Value→α→Seg→Prop} {μ:Gh} {v:Value} {o:Option α} {so:Seg} {x:α} (h:VM R μ v o so) (ho:o=some x):R μ v x so:=by subst ho;exact h
theorem VM.lift {α:Type} {R:Gh→Value→α→Seg→Prop} {μ μ':Gh} {v:Value} {o:Option α} {so:Seg} (h:VM R μ v o so) (hR: ∀x,R μ v x so→R μ' v x so):VM R μ' v o so:=by
 cases o with
 | none=>exact h
 | some x=>exact hR x h
section
variable {P:Program} {T:TT} {μ:Gh} {L:List Seg} {α:Type} {r:Rp α} {e:TypeId} {A:Option Addr} {n c:Nat} {xs ys:List α} {ch:Seg} {lo hi:Int}
theorem Own.cut (h:Own r e μ (.slice A n c) xs ch) (hs:V8 xs 0 hi=some ys):Own r e μ (.slice A ys.length c) ys ch:=by
 obtain ⟨_,h2,h3,rfl,h5⟩:=Wi hs;obtain ⟨css,⟨h6,h7⟩,h8⟩:=h;have hl:=h8.1;have hm:hi.toNat≤css.length:=by omega
 have hlen:((xs.take hi.toNat).drop (0:Int).toNat).length=hi.toNat:=by rw[h5];simp
 rcases h7 with ⟨hv,rfl,rfl⟩ | ⟨g,cap,cur,hv,rfl,q1,q2,q3,q4⟩
 ·injection hv with e1 e2 e3
  subst e1 e3;have:xs=[]:=List.eq_nil_of_length_eq_zero (by simpa using hl);subst this;exact ⟨[],⟨by simp,.inl ⟨by simp,rfl,rfl⟩⟩,by simpa using Qq.nil⟩
 ·injection hv with e1 e2 e3
  subst e1 e3;refine ⟨css.take hi.toNat,⟨fun cs hc=>h6 cs (List.mem_of_mem_take hc),.inr ⟨g,c,cur,?_,rfl,by simp;omega,q2,q3,?_⟩⟩,by simpa using h8.take hi.toNat⟩
  ·rw[hlen];simp[hm]
  ·have:(css.take hi.toNat).flatten=css.flatten.take (hi.toNat*r.sz):=by
    have e4:css=css.take hi.toNat++css.drop hi.toNat:=(List.take_append_drop _ _).symm
    conv=>rhs;rw[e4,List.flatten_append]
    rw[List.take_left']
    rw[QK (sz:=r.sz) fun cs hc=>h6 cs (List.mem_of_mem_take hc),List.length_take,Nat.min_eq_left hm]
   rw[this,←q4,List.take_take,List.length_take,Nat.min_eq_left hm,Nat.min_eq_left (Nat.mul_le_mul_right _ hm)]
end
section
variable {P:Program} {N:NN} {K:Ql} {B:Nat→Ql} {R:Ql} {fr:Fr} {μ:Gh} {L:List Seg}
def QaT (N:NN) (K:Ql):Ql:=fun fr μ L=> ∀a w,Agr N fr a→Inv w μ L→ ∃fr' μ' L',Agr N fr' a∧μ.le μ'∧Inv w μ' L'∧K fr' μ' L'
theorem QaT.at {F:Fr} {L2:List Seg} (hF:Qs F fr) (hL:Qg L2 L) (h:QaT N K F μ L2):QaT N K fr μ L:=fun a w ha hw=>h a w (ha.sub hF) (hL w μ hw)
theorem QaT.done (h:K fr μ L):QaT N K fr μ L:=fun _ _ ha hw=>⟨fr,μ,L,ha,Gh.le.refl _,hw,h⟩
end
end Go.Proofs.Ytpghcnpheabbgaa
