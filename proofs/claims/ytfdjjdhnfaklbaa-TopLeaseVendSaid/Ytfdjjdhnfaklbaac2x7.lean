/- TopLeaseVend: for every input the given law returns true, and its arguments read as before. No condition. -/
import Derived.Test.Ytfdjjdhnfaklbaac2x6
import Derived.Test.Ytfdjjdhnfaklbaac2x1
import Derived.ProofKit
import Derived.Below
import Derived.ChangeSame
import Derived.Carry
import Derived.WideKeyArgs
import Derived.Test.Ytfdjjdhnfaklbaac2x2
import Derived.Deep.Slices
import Derived.Deep.Fields
import Derived.OpenShut
import Derived.Test.YtfdjjdhnfaklbaaRows
namespace Go.Proofs.Ytfdjjdhnfaklbaa
set_option linter.unusedSimpArgs false
set_option linter.unusedVariables false
theorem QfN {sales:List Qg} {len:Int} (hs:sales.length≤10) (l0:1≤len) (l1:len≤86400):JH sales len=some (some ⟨⟨[],[]⟩,sales,len,0,[]⟩,0):=by
 unfold JH
 rw[decide_eq_false (by omega),cond_false,decide_eq_false (by omega),decide_eq_false (by omega),cond_false,Option.bind_some,cond_false]
 unfold Wi
 rw[if_pos (by omega),Option.bind_some]
theorem Qdj {x:Qb} {i skew:Int} (hx:PrP x) (i0:0≤i) (i1:i<8) (s0:0≤skew) (s1:skew≤3600):JP i [x] skew=some (some ⟨i,skew,[x],[],[],0⟩,0):=by
 unfold JP
 rw[decide_eq_false (by omega),decide_eq_false (by omega),cond_false,Option.bind_some,cond_false,QdI hx,Option.bind_some,decide_eq_true (rfl:(0:Int)=0),show (!true)=false from rfl,cond_false,decide_eq_false (by omega),decide_eq_false (by omega),cond_false,Option.bind_some,cond_false]
 rfl
theorem Qdg {F:Nat} (hF:64≤F) {sales:List Qg} {x:Qb} {skew:Int} {l:List Qt} {v:Qt} {o:Qe} {a b:Qa} {now:Int} {paid:List Int} {k:Nat} (hx:PrP x) (sk0:0≤skew) (sk1:skew≤3600) (hl:l.length≤60) (hv:l[k]? =some v)
  (h:Wb sales x skew o a b 0 1 now paid k) (n0:0≤now) :
  ∃s':Qe×Qa×Qa×Int×List Int,Qr F x sales skew l (o,a,b,now,paid,(k:Int))=some (.inl (s'.1,s'.2.1,s'.2.2.1,s'.2.2.2.1,s'.2.2.2.2,((k+1:Nat):Int))) ∧
   (Wb sales x skew s'.1 s'.2.1 s'.2.2.1 0 1 s'.2.2.2.1 s'.2.2.2.2 (k+1)∧0≤s'.2.2.2.1):=by
 have hk:=QZ hv;have hk60:k<60:=by omega
 have hn2:=h.n2;have h64:w64 ((k:Int)+1)=((k+1:Nat):Int):=YC (by omega);unfold Qr
 rw[Qn,Qn,Qn,Qn,Qn,decide_eq_true (show (k:Int)<(l.length:Nat) by omega),cond_true,YO,hv,Option.bind_some,h64]
 have hw0:0≤max 0 (min v.Wait 10000)∧max 0 (min v.Wait 10000)≤10000:=by omega
 have hs0:0≤max 0 (min v.Serial 1023)∧max 0 (min v.Serial 1023)≤1023:=by omega
 generalize max 0 (min v.Wait 10000)=w at hw0 ⊢
 generalize max 0 (min v.Serial 1023)=s at hs0 ⊢
 rw[Zn (n:=now+w) (by omega) (by omega),Zn (n:=0-skew) (by omega) (by omega),Int.tdiv_eq_ediv_of_nonneg hs0.1,Zn (n:=s/16) (by omega) (by omega),Zn (n:=now+w+max (0-skew) (min v.Wrong skew)) (by omega) (by omega)]
 have ht0:0≤max 0 (now+w+max (0-skew) (min v.Wrong skew))∧max 0 (now+w+max (0-skew) (min v.Wrong skew))≤3155759999:=by omega
 generalize max 0 (now+w+max (0-skew) (min v.Wrong skew))=t at ht0 ⊢
 have hb0:0≤s/16:=by omega
 have hb1:s/16<64:=by omega
 have hn1:now≤now+w:=by omega
 have hn2':now+w≤now+10000:=by omega
 have hnn:0≤now+w:=by omega
 have hup:=h.up hn1 hn2';have hpk:=h.pk
 by_cases hM:v.Machine=0
 ·rw[decide_eq_true hM,show (!true)=false from rfl,cond_false]
  by_cases hK:v.Kind=0
  ·rw[decide_eq_true hK,cond_true]
   rcases QaF hF h hk60 hb0 hb1 (show (0:Int)≤0 by decide) (show (0:Int)<8 by decide) hn1 hn2' with ⟨l',e,e1,he⟩ | ⟨l',o',m2,e1,e2,hi⟩
   ·rw[e1,Option.bind_some,Qn,Qn,decide_eq_false he,cond_false,Option.bind_some,Qn,Qn,cond_false,Option.bind_some]
    exact ⟨(o,a,b,now+w,paid),rfl,hup,hnn⟩
   ·rw[e1,Option.bind_some,Qn,Qn,decide_eq_true (rfl:(0:Int)=0),cond_true,e2,Option.bind_some,Qn,decide_eq_true (rfl:(0:Int)=0),show (!true)=false from rfl,Option.bind_some,Qn,Qn,cond_false,Option.bind_some]
    exact ⟨(o',m2,b,now+w,paid),rfl,hi,hnn⟩
  rw[decide_eq_false hK,cond_false]
  by_cases hK1:v.Kind=1
  ·rw[decide_eq_true hK1,cond_true]
   obtain ⟨d,m2,e1,q⟩:=VX hx h hk60 (by decide) hs0.1 hs0.2 ht0.1 ht0.2 hn1 hn2'
   rw[e1,Option.bind_some,Qn,Qn,decide_eq_true (rfl:(0:Int)=0),show (!true)=false from rfl,cond_false]
   rcases q with ⟨hd,hi⟩ | ⟨hd,ha,hsp,⟨i,hsold⟩,hi⟩
   ·rw[decide_eq_false hd,cond_false,Option.bind_some]
    exact ⟨(o,m2,b,now+w,paid),rfl,hi,hnn⟩
   ·rw[decide_eq_true hd,cond_true,Qbg,hsold,Option.bind_some,Qn,QcP (by omega) hsp,Option.bind_some,decide_eq_false (show ¬(0:Int)<0 by decide),cond_false,show (!true)=false from rfl,cond_false,ha,decide_eq_true (rfl:x.Deposit=x.Deposit),show (!true)=false from rfl,Option.bind_some,Qn,cond_false,Wh (by simp;omega),Option.bind_some,Option.bind_some]
    exact ⟨(o,m2,b,now+w,paid++[s]),rfl,hi,hnn⟩
  rw[decide_eq_false hK1,cond_false]
  rcases Qbu h hk60 (by decide) hb0 hb1 hn1 hn2' with e1 | ⟨ep,done,m2,o',e1,e2,hi⟩
  ·rw[e1,Option.bind_some,Qn,Qn,Qn,decide_eq_false (show ¬(29:Int)=0 by decide),cond_false,Option.bind_some,Qn,Qn,cond_false,Option.bind_some]
   exact ⟨(o,a,b,now+w,paid),rfl,hup,hnn⟩
  ·rw[e1,Option.bind_some,Qn,Qn,Qn,decide_eq_true (rfl:(0:Int)=0),cond_true,e2,Option.bind_some,Qn,decide_eq_true (rfl:(0:Int)=0),show (!true)=false from rfl,Option.bind_some,Qn,Qn,cond_false,Option.bind_some]
   exact ⟨(o',m2,b,now+w,paid),rfl,hi,hnn⟩
 ·rw[decide_eq_false hM,show (!false)=true from rfl,cond_true]
  by_cases hK:v.Kind=0
  ·rw[decide_eq_true hK,cond_true]
   rcases QaF hF h.swap hk60 hb0 hb1 (show (0:Int)≤1 by decide) (show (1:Int)<8 by decide) hn1 hn2' with ⟨l',e,e1,he⟩ | ⟨l',o',m2,e1,e2,hi⟩
   ·rw[e1,Option.bind_some,Qn,Qn,decide_eq_false he,cond_false,Option.bind_some,Qn,Qn,cond_false,Option.bind_some]
    exact ⟨(o,a,b,now+w,paid),rfl,hup,hnn⟩
   ·rw[e1,Option.bind_some,Qn,Qn,decide_eq_true (rfl:(0:Int)=0),cond_true,e2,Option.bind_some,Qn,decide_eq_true (rfl:(0:Int)=0),show (!true)=false from rfl,Option.bind_some,Qn,Qn,cond_false,Option.bind_some]
    exact ⟨(o',a,m2,now+w,paid),rfl,hi.swap,hnn⟩
  rw[decide_eq_false hK,cond_false]
  by_cases hK1:v.Kind=1
  ·rw[decide_eq_true hK1,cond_true]
   obtain ⟨d,m2,e1,q⟩:=VX hx h.swap hk60 (by decide) hs0.1 hs0.2 ht0.1 ht0.2 hn1 hn2'
   rw[e1,Option.bind_some,Qn,Qn,decide_eq_true (rfl:(0:Int)=0),show (!true)=false from rfl,cond_false]
   rcases q with ⟨hd,hi⟩ | ⟨hd,ha,hsp,⟨i,hsold⟩,hi⟩
   ·rw[decide_eq_false hd,cond_false,Option.bind_some]
    exact ⟨(o,a,m2,now+w,paid),rfl,hi.swap,hnn⟩
   ·rw[decide_eq_true hd,cond_true,Qbg,hsold,Option.bind_some,Qn,QcP (by omega) hsp,Option.bind_some,decide_eq_false (show ¬(0:Int)<0 by decide),cond_false,show (!true)=false from rfl,cond_false,ha,decide_eq_true (rfl:x.Deposit=x.Deposit),show (!true)=false from rfl,Option.bind_some,Qn,cond_false,Wh (by simp;omega),Option.bind_some,Option.bind_some]
    exact ⟨(o,a,m2,now+w,paid++[s]),rfl,hi.swap,hnn⟩
  rw[decide_eq_false hK1,cond_false]
  rcases Qbu h.swap hk60 (by decide) hb0 hb1 hn1 hn2' with e1 | ⟨ep,done,m2,o',e1,e2,hi⟩
  ·rw[e1,Option.bind_some,Qn,Qn,Qn,decide_eq_false (show ¬(29:Int)=0 by decide),cond_false,Option.bind_some,Qn,Qn,cond_false,Option.bind_some]
   exact ⟨(o,a,b,now+w,paid),rfl,hup,hnn⟩
  ·rw[e1,Option.bind_some,Qn,Qn,Qn,decide_eq_true (rfl:(0:Int)=0),cond_true,e2,Option.bind_some,Qn,decide_eq_true (rfl:(0:Int)=0),show (!true)=false from rfl,Option.bind_some,Qn,Qn,cond_false,Option.bind_some]
   exact ⟨(o',a,m2,now+w,paid),rfl,hi.swap,hnn⟩
theorem Qeg {sales:List Qg} {x:Qb} {skew len:Int} (hs:sales.length≤10) (l0:1≤len) (l1:len≤86400) :
  Wb sales x skew ⟨⟨[],[]⟩,sales,len,0,[]⟩ ⟨0,skew,[x],[],[],0⟩ ⟨1,skew,[x],[],[],0⟩ 0 1 0 [] 0:=by
 have hm: ∀i:Int,QdO x skew ⟨⟨[],[]⟩,sales,len,0,[]⟩ ⟨i,skew,[x],[],[],0⟩ i 0:=fun i =>
  ⟨rfl,rfl,rfl,Nat.le_refl _,Int.le_refl _,by show (0:Int)≤_;omega,List.nodup_nil,fun b v hv=>by cases hv⟩
 have ho: ∀{n l},¬Y5 ⟨⟨[],[]⟩,sales,len,0,[]⟩ n l:=fun h=>by
  have h1:=h.1
  simp at h1
 refine ⟨rfl,Nat.le_refl _,rfl,hs,l0,l1,Int.le_refl _,Int.le_refl _,by omega,Nat.zero_le _,fun s hs=>(by cases hs),fun n n' l l' h=>absurd h ho,fun n l h=>absurd h ho,hm 0,hm 1,Nat.le_refl _,fun s hs=>(by cases hs),?_⟩
 show (0:Int)+0=((([]:List Int).length:Nat):Int)*x.Deposit
 simp
theorem Qd2 (x:Qb) (sales:List Qg) (skew len:Int) (l:List Qt):Q7 64 x sales skew len l=some true:=by
 unfold Q7
 rw[QbQ]
 obtain ⟨r1,e1⟩:=Qd6 (l:=[x]) 32 16;obtain ⟨r2,e2⟩:=Qd7 (ps:=[x]) (l:=sales) 32
 rw[e1,Option.bind_some]
 by_cases h1:r1=0
 case neg=>rw[decide_eq_false h1];rfl
 rw[decide_eq_true h1,show (!true)=false from rfl,cond_false]
 by_cases h2:10<((sales.length:Nat):Int)
 ·rw[decide_eq_true h2];rfl
 rw[decide_eq_false h2,cond_false,e2,Option.bind_some]
 by_cases h3:r2=0
 case neg=>rw[decide_eq_false h3];rfl
 rw[decide_eq_true h3,show (!true)=false from rfl,cond_false]
 by_cases h4:skew<0
 ·rw[decide_eq_true h4];rfl
 by_cases h5:3600<skew
 ·rw[decide_eq_false h4,decide_eq_true h5];rfl
 by_cases h6:len<1
 ·rw[decide_eq_false h4,decide_eq_false h5,decide_eq_true h6];rfl
 by_cases h7:86400<len
 ·rw[decide_eq_false h4,decide_eq_false h5,decide_eq_false h6,decide_eq_true h7];rfl
 rw[decide_eq_false h4,decide_eq_false h5,decide_eq_false h6,decide_eq_false h7,cond_false,cond_false,cond_false,cond_false]
 by_cases h8:60<((l.length:Nat):Int)
 ·rw[decide_eq_true h8];rfl
 subst h1;have hx:=Qd5 e1
 rw[decide_eq_false h8,Option.bind_some,cond_false,QfN (by omega) (by omega) (by omega),Option.bind_some,Qn,Qdj hx (by decide) (by decide) (by omega) (by omega),Option.bind_some,Qn,Qdj hx (by decide) (by decide) (by omega) (by omega),Option.bind_some,Qn,Option.bind_some,Option.bind_some,Option.bind_some,decide_eq_true (rfl:(0:Int)=0),show (!true)=false from rfl,cond_false,cond_false,Option.bind_some,cond_false]
 obtain ⟨o,e,a,b,paid,rfl,ht⟩:=Y2 l (fun (s:Qe×Qa×Qa×Int×List Int) k=>(s.1,s.2.1,s.2.2.1,s.2.2.2.1,s.2.2.2.2,k)) (body:=Qr 64 x sales skew l)
  (fun s k=>Wb sales x skew s.1 s.2.1 s.2.2.1 0 1 s.2.2.2.1 s.2.2.2.2 k∧0≤s.2.2.2.1)
  (fun o=> ∃a b paid,o= .inl (a,b,paid)∧a.total+b.total=((paid.length:Nat):Int)*x.Deposit)
  (by
   rintro k v ⟨o,a,b,now,paid⟩ hv ⟨hI,hn⟩;exact .inl (Qdg (by decide) hx (by omega) (by omega) (by omega) hv hI hn))
  (by
   rintro ⟨o,a,b,now,paid⟩ ⟨hI,hn⟩;refine ⟨_,?_,a,b,paid,rfl,hI.tt⟩;unfold Qr
   rw[Qn,Qn,Qn,Qn,Qn,decide_eq_false (by omega),cond_false]) (((l.length:Nat):Int).toNat+1) (⟨⟨[],[]⟩,sales,len,0,[]⟩,⟨0,skew,[x],[],[],0⟩,⟨1,skew,[x],[],[],0⟩,0,[]) ⟨Qeg (by omega) (by omega) (by omega),Int.le_refl _⟩ (by omega)
 rw[show iter (Qr 64 x sales skew l) (((l.length:Nat):Int).toNat+1) (⟨⟨[],[]⟩,sales,len,0,[]⟩,⟨0,skew,[x],[],[],0⟩,⟨1,skew,[x],[],[],0⟩,0,[],0)=_ from e,Option.bind_some]
 unfold YT
 simp only[ZE]
 rw[Qn,Qn,Option.bind_some,Option.bind_some,ht,decide_eq_true rfl]
 rfl
theorem Jk (x:Qb) (sales:List Qg) (skew len:Int) (l:List Qt) (_:WX x) (_: ∀x∈sales,V6 x) (_:wfI .i64 skew) (_:wfI .i64 len) (_: ∀x∈l,Jj x): ∃F,Q7 F x sales skew len l=some true:=⟨64,Qd2 x sales skew len l⟩
end Go.Proofs.Ytfdjjdhnfaklbaa
namespace Go.Proofs.Ytfdjjdhnfaklbaa
open Go.RowKit Go.ChangeShapes Go.WideShapes
set_option linter.unusedSimpArgs false
set_option linter.unusedVariables false
def QbW (W:World):Gh:=⟨fun b=>W.heap[b]?,W.os,W.output,W.tape⟩
theorem QeK (W:World):Inv W (QbW W) []:=⟨rfl,rfl,rfl,fun _ _ h=>h,by simp,by simp,by simp⟩
theorem QeC {W W':World} {μ:Gh} {L:List Seg} (hm:(QbW W).le μ) (h:Inv W' μ L):Below W.heap.size W W':=by
 have hb: ∀k,k<W.heap.size→W'.heap[k]? =W.heap[k]? :=fun k hk=>by
  have h1:W.heap[k]? =some W.heap[k]:=by simp[hk]
  rw[h1]
  exact h.mem k _ (hm.mem k _ h1)
 refine ⟨h.os.trans hm.os,h.tape.trans hm.tape,h.out.trans hm.out,?_,hb⟩;rcases Nat.eq_zero_or_pos W.heap.size with h0 | h0
 ·omega
 ·have h1:=hb (W.heap.size-1) (by omega);have h2:W.heap[W.heap.size-1]? =some (W.heap[W.heap.size-1]'(by omega)):=by simp
  rw[h2] at h1
  have:=QO h1
  omega
theorem Qcm {P:Program} {f:FuncId} {fn:Func} (hf:P.funcs[f]? =some fn) (hb:fn.body.isNone=false) {args:List Value} {W:World} {v:Value} (h:Fn P f args (QbW W) [] fun u _ _=>u=v) :
  Calls P f args.toArray W fun e W'=>e= .returned v∧Below W.heap.size W W':=by
 rcases h with ⟨_,h⟩ | ⟨fn',_,hf',_,hb',_⟩
 ·refine (h W (QeK W)).mono ?_;rintro e W' ⟨u,μ',L',rfl,hm,hi,rfl⟩;exact ⟨rfl,QeC hm hi⟩
 ·rw[hf] at hf'
  injection hf' with hf'
  subst hf'
  rw[hb] at hb';cases hb'
section
variable {H:Type} {enc:TypeId×Value→H} {P:Program}
theorem W6 (hl:laidOutB P=true) {W W':World} (hb:Below W.heap.size W W') {sp:Nat→Bool}: ∀{ts:List TypeId} {vs:List Value} {ds:List (DataW H)} {ps:List MemPlace},
  (∀t∈ts,P.readableRec t=true∧t<P.types.size)→(∀p∈ps,p.block<W.heap.size)→(∀p∈ps,sp p.block=true) →
  DataW.TrodAll enc P W 0 (fun _=>true) true ts vs ds ps→DataW.TrodAll enc P W' 0 sp true ts vs ds ps
 | [],vs,ds,ps,_,_,_,h=>by
  obtain ⟨rfl,rfl,rfl⟩:=trodAll_nil h
  rfl
 | t::ts,vs,ds,ps,hr,hlt,hs,h=>by
  obtain ⟨v,vs',d,ds',p,q,rfl,rfl,rfl,hd,hrest⟩:=trodAll_cons h;refine ⟨p,q,WideElems.Trod_stays hl (hr t (by simp)).1 (hr t (by simp)).2 hd (fun x hx=>hb.same (hlt x (by simp[hx]))) (fun x hx=>hs x (by simp[hx])),?_,rfl⟩;exact W6 hl hb (fun u hu=>hr u (by simp[hu])) (fun x hx=>hlt x (by simp[hx])) (fun x hx=>hs x (by simp[hx])) hrest
theorem Qd4 {f:Func} {s:ChangeSpec} {apart fresh handsOn again:Bool} {W W':World} {args:Array Value} {ds:List (DataW H)} {before:List MemPlace} {tb:TypeId}
  (hW:DataW.Whole enc P f.params.toList s.vars apart W args.toList ds [] before) (hv:s.vars=[]) (hres:f.resultTypes= #[tb]) (htb:P.underlying tb=some .bool)
  (hfr:(s.fn H ds).results=[.lit (.bool true)]) (hfa:(s.fn H ds).args=ds) (hfv:(s.fn H ds).vars=[]) (hl:laidOutB P=true) (hr: ∀t∈f.params.toList,P.readableRec t=true∧t<P.types.size) (hb:Below W.heap.size W W') :
  s.post enc P f apart fresh handsOn again W args (.bool true) W':=by
 have hlt: ∀p∈before,p.block<W.heap.size:=fun p hp=>hW.lt p hp;have hW':=hW;obtain ⟨p,q,hA,hV,hpq,hz,hn⟩:=hW'
 rw[hv] at hV
 obtain ⟨_,rfl⟩:=trodVars_none hV
 rw[List.append_nil] at hpq
 subst hpq;have hresl:((Value.bool true).resultList f.resultTypes.size)=[.bool true]:=by rw[hres];rfl
 have hargs: ∀sp:Nat→Bool,(∀x∈before,sp x.block=true)→DataW.TrodAll enc P W' 0 sp true f.params.toList args.toList ds before:=fun sp hs=>W6 hl hb hr hlt hs hA;have hres2: ∀(b:Nat) (sp:Nat→Bool) (hd:Bool),DataW.TrodAll enc P W' b sp hd f.resultTypes.toList [.bool true] [.lit (.bool true)] []:=fun b sp hd=>by
  rw[hres];exact trodAll_mk1 (shut_bool htb true)
 have hold: ∀p∈before,(fun b=>decide (b<W.heap.size)) p.block=true:=fun p hp=>by simpa using hlt p hp
 have hvars: ∀sp:Nat→Bool,DataW.TrodVars enc P W' sp s.vars [] []:=fun sp=>by rw[hv];rfl
 refine ⟨ds,[],before,[],before,[],hW,?_,?_,?_,World.keptBut_mono (fun p hp=>⟨hp,by simpa using hp⟩) (hb.frame (· ∈before)),fun _=> ?_⟩
 ·rw[hresl,List.append_nil,hfr];exact hres2 _ _ _
 ·rw[List.append_nil,hfa];exact hargs _ hold
 ·rw[List.append_nil,hfv];exact hvars _
 ·have A1:=hargs (fun _=>true) (fun _ _=>rfl);have R1:=hres2 0 (fun _=>true) true;refine ⟨ok_one hres rfl (okWide_bool_mk htb true),?_⟩
  rw[hresl]
  refine ⟨_,_,([]++before)++[],⟨[]++before,[],trodAll_append A1 R1,hvars _,rfl,?_,?_⟩,?_⟩
  ·intro b off hp;have hin:MemPlace.cell b off∈before:=by simpa using hp
   rw[hb.frozen (hlt _ hin)]
   exact hz b off hin
  ·intro ha;have:=hn ha
   simpa using this
  ·intro p hp _
   simpa using hp
end
end Go.Proofs.Ytfdjjdhnfaklbaa
namespace Go.Proofs.Ytfdjjdhnfaklbaa
open Go.RowKit Go.ChangeShapes Go.WideShapes Go.Deep
set_option linter.unusedSimpArgs false
set_option linter.unusedVariables false
theorem Qa7 {W:World} {L:List Seg} {a:Addr} {v:Value} (h:W.cell? a=some v):Y7 (QbW W) L a v:=by
 unfold World.cell? at h
 split at h
 ·rename_i c e f hb
  split at h
  ·cases h
  ·rename_i hs
   refine ⟨by simpa using hs,c,e,f,.inl hb,by simpa using h⟩
 ·cases h
theorem Qdt {α β:Type} (Q:Nat→α→β→Prop): ∀n,(∀i,i<n→ ∃x y,Q i x y)→ ∃(l:List α) (m:List β),l.length=n∧m.length=n∧ ∀(i:Nat) (x:α) (y:β),l[i]? =some x→m[i]? =some y→Q i x y
 | 0,_=>⟨[],[],rfl,rfl,by simp⟩
 | n+1,h=>by
  obtain ⟨l,m,hl,hm,hq⟩:=Qdt Q n fun i hi=>h i (by omega);obtain ⟨x,y,hx⟩:=h n (by omega);refine ⟨l++[x],m++[y],by simp[hl],by simp[hm],fun i u v hu hv=> ?_⟩;rcases Nat.lt_or_ge i n with hi | hi
  ·rw[List.getElem?_append_left (by omega)] at hu hv
   exact hq i u v hu hv
  ·rw[List.getElem?_append_right (by omega)] at hu hv
   have:i-n=0:=by
    rcases Nat.eq_zero_or_pos (i-n) with h0 | h0
    ·exact h0
    ·rw[List.getElem?_eq_none (by simp;omega)] at hu;cases hu
   rw[hl,this] at hu
   rw[hm,this] at hv
   simp only[List.getElem?_cons_zero,Option.some.injEq] at hu hv
   have:i=n:=by omega
   subst this;subst hu;subst hv;exact hx
def Opn {α:Type} (P:Program) (W:World) (t:TypeId) (r:Rp α) (Q:α→Prop):Prop :=
 ∀(H:Type) (enc:TypeId×Value→H) (spare:Nat→Bool) (held:Bool) (fuel:Nat) (cs:List Value) (x:DataW H×List MemPlace),DataW.trod enc P W 0 spare held fuel t cs=some x→ ∃d,r.rep (QbW W) d cs∧Q d
section
variable {P:Program} {W:World} {t:TypeId}
theorem Zp {k:IntKind} (ht:P.underlying t=some (.int k)):Opn P W t (rI k) (wfI k):=by
 intro H enc spare held fuel cs x h;obtain ⟨n,h1,_,h2⟩:=DataW.trod_int ht h;exact ⟨n,h1,h2⟩
theorem QfA (ht:P.underlying t=some .string):Opn P W t QgT fun s=>s.size≤maxLen:=by
 intro H enc spare held fuel cs x h;obtain ⟨n,h1,_,h2⟩:=DataW.trod_string ht h;exact ⟨n,h1,h2⟩
theorem QbF {α:Type} {e:TypeId} {r:Rp α} {Q:α→Prop} (ht:P.underlying t=some (.slice e)) (hC:P.cellsOf e=r.sz) (he:Opn P W e r Q):Opn P W t (QgN r) fun xs=> ∀x∈xs,Q x:=by
 intro H enc spare held fuel cs x h;rcases open_slice ht h with ⟨rfl,_⟩ | ⟨a,n,c,m,nn,D,Pl,rfl,hb,hl,hm,hmm,hx,hi⟩
 ·exact ⟨[],⟨none,0,rfl,Nat.le_refl _,Nat.zero_le _,Zc.nil⟩,by simp⟩
 ·have hrow: ∀i,i<n→ ∃(y:α) (cs:List Value),r.rep (QbW W) y cs∧Q y∧Yn (QbW W) [] (a.add (i*r.sz)) cs:=fun i hin=>by
   obtain ⟨cs',hc,htr⟩:=hi i (by split at hmm<;>omega)
   rw[hC] at hc
   obtain ⟨y,hy,hq⟩:=he H enc spare held nn cs' _ htr;obtain ⟨_,hcl,hat⟩:=World.cells?_some hc;refine ⟨y,cs',hy,hq,fun j u hu=> ?_⟩;have hjk:j<r.sz:=by
    rcases Nat.lt_or_ge j r.sz with h | h
    ·exact h
    ·rw[List.getElem?_eq_none (by omega)] at hu;cases hu
   exact Qa7 (by rw[hat j hjk];exact hu)
  obtain ⟨xs,css,hxl,hcl,hq⟩:=Qdt (fun i y cs=>r.rep (QbW W) y cs∧Q y∧Yn (QbW W) [] (a.add (i*r.sz)) cs) n hrow;refine ⟨xs,⟨some a,c,by rw[hxl],by omega,hm,css,fun i cs hcs=> ?_,by rw[hxl,hcl],fun i y cs hy hcs=>(hq i y cs hy hcs).1⟩,fun y hy=> ?_⟩
  ·have hlt:i<css.length:=by
    rcases Nat.lt_or_ge i css.length with h | h
    ·exact h
    ·rw[List.getElem?_eq_none h] at hcs;cases hcs
   obtain ⟨h1,_,h3⟩:=hq i (xs[i]'(by omega)) cs (by simp) hcs;exact ⟨r.len h1,a,rfl,h3⟩
  ·obtain ⟨i,hi'⟩:=List.getElem?_of_mem hy;have hlt:i<xs.length:=by
    rcases Nat.lt_or_ge i xs.length with h | h
    ·exact h
    ·rw[List.getElem?_eq_none h] at hi';cases hi'
   exact (hq i y (css[i]'(by omega)) hi' (by simp)).2.1
end
theorem ZU {cs:List Value} {o a o2:Nat} (h:o+a=o2):cs.drop o=(cs.drop o).take a++cs.drop o2:=by rw[←h,←List.drop_drop,List.take_append_drop]
theorem Qei {cs:Array Value} {l:List Value} (h:cs.toList=l):cs=l.toArray:=by rw[←h]
end Go.Proofs.Ytfdjjdhnfaklbaa
namespace Go.Proofs.Ytfdjjdhnfaklbaa
open Go.ChangeShapes Go.WideShapes Go.ChangeAt Go.RowKit
set_option linter.unusedSimpArgs false
set_option linter.unusedVariables false
theorem QgS:ownKnob Try.prog.godebug=none:=by kernel_rfl
theorem QeP:laidOutB Try.prog=true:=by kernel_rfl
theorem Qaa {W:World}:Opn Try.prog W 23 QG WX:=by
 intro H enc spare held fuel cs x h;obtain ⟨xs,n,_,_,hlen,hxl,hf⟩:=DataW.trod_struct Try.underlying23 h
 rw[show Try.prog.cellsOf 23=5 by kernel_rfl] at hlen
 have g0:DataW.trod enc Try.prog W 0 spare held n 9 ((cs.drop 0).take (Try.prog.cellsOf 9))=xs[0]? :=hf 0 _ rfl
 rw[show Try.prog.cellsOf 9=1 by kernel_rfl,List.getElem?_eq_getElem (by rw[hxl];decide)] at g0
 obtain ⟨d0,h0,q0⟩:=(QfA Try.underlying9) H enc spare held n _ _ g0;have g1:DataW.trod enc Try.prog W 0 spare held n 3 ((cs.drop 1).take (Try.prog.cellsOf 3))=xs[1]? :=hf 1 _ rfl
 rw[show Try.prog.cellsOf 3=1 by kernel_rfl,List.getElem?_eq_getElem (by rw[hxl];decide)] at g1
 obtain ⟨d1,h1,q1⟩:=(Zp Try.underlying3) H enc spare held n _ _ g1;have g2:DataW.trod enc Try.prog W 0 spare held n 3 ((cs.drop 2).take (Try.prog.cellsOf 3))=xs[2]? :=hf 2 _ rfl
 rw[show Try.prog.cellsOf 3=1 by kernel_rfl,List.getElem?_eq_getElem (by rw[hxl];decide)] at g2
 obtain ⟨d2,h2,q2⟩:=(Zp Try.underlying3) H enc spare held n _ _ g2;have g3:DataW.trod enc Try.prog W 0 spare held n 3 ((cs.drop 3).take (Try.prog.cellsOf 3))=xs[3]? :=hf 3 _ rfl
 rw[show Try.prog.cellsOf 3=1 by kernel_rfl,List.getElem?_eq_getElem (by rw[hxl];decide)] at g3
 obtain ⟨d3,h3,q3⟩:=(Zp Try.underlying3) H enc spare held n _ _ g3;have g4:DataW.trod enc Try.prog W 0 spare held n 3 ((cs.drop 4).take (Try.prog.cellsOf 3))=xs[4]? :=hf 4 _ rfl
 rw[show Try.prog.cellsOf 3=1 by kernel_rfl,List.getElem?_eq_getElem (by rw[hxl];decide)] at g4
 obtain ⟨d4,h4,q4⟩:=(Zp Try.underlying3) H enc spare held n _ _ g4;have e0:cs.drop 0=(cs.drop 0).take 1++cs.drop 1:=ZU rfl;have e1:cs.drop 1=(cs.drop 1).take 1++cs.drop 2:=ZU rfl;have e2:cs.drop 2=(cs.drop 2).take 1++cs.drop 3:=ZU rfl;have e3:cs.drop 3=(cs.drop 3).take 1++cs.drop 4:=ZU rfl;have e4:cs.drop 4=(cs.drop 4).take 1++cs.drop 5:=ZU rfl;have en:cs.drop 5=[]:=List.drop_of_length_le (by omega);have hcs:cs.drop 0=_:=e0
 rw[e1,e2,e3,e4,en,show (cs.drop 0).take 1=_ from h0,show (cs.drop 1).take 1=_ from h1,show (cs.drop 2).take 1=_ from h2,show (cs.drop 3).take 1=_ from h3,show (cs.drop 4).take 1=_ from h4] at hcs
 exact ⟨⟨d0,d1,d2,d3,d4⟩,hcs,q0,q1,q2,q3,q4⟩
theorem Qb3 {W:World}:Opn Try.prog W 71 Y6 V6:=by
 intro H enc spare held fuel cs x h;obtain ⟨xs,n,_,_,hlen,hxl,hf⟩:=DataW.trod_struct Try.underlying71 h
 rw[show Try.prog.cellsOf 71=5 by kernel_rfl] at hlen
 have g0:DataW.trod enc Try.prog W 0 spare held n 3 ((cs.drop 0).take (Try.prog.cellsOf 3))=xs[0]? :=hf 0 _ rfl
 rw[show Try.prog.cellsOf 3=1 by kernel_rfl,List.getElem?_eq_getElem (by rw[hxl];decide)] at g0
 obtain ⟨d0,h0,q0⟩:=(Zp Try.underlying3) H enc spare held n _ _ g0;have g1:DataW.trod enc Try.prog W 0 spare held n 3 ((cs.drop 1).take (Try.prog.cellsOf 3))=xs[1]? :=hf 1 _ rfl
 rw[show Try.prog.cellsOf 3=1 by kernel_rfl,List.getElem?_eq_getElem (by rw[hxl];decide)] at g1
 obtain ⟨d1,h1,q1⟩:=(Zp Try.underlying3) H enc spare held n _ _ g1;have g2:DataW.trod enc Try.prog W 0 spare held n 3 ((cs.drop 2).take (Try.prog.cellsOf 3))=xs[2]? :=hf 2 _ rfl
 rw[show Try.prog.cellsOf 3=1 by kernel_rfl,List.getElem?_eq_getElem (by rw[hxl];decide)] at g2
 obtain ⟨d2,h2,q2⟩:=(Zp Try.underlying3) H enc spare held n _ _ g2;have g3:DataW.trod enc Try.prog W 0 spare held n 3 ((cs.drop 3).take (Try.prog.cellsOf 3))=xs[3]? :=hf 3 _ rfl
 rw[show Try.prog.cellsOf 3=1 by kernel_rfl,List.getElem?_eq_getElem (by rw[hxl];decide)] at g3
 obtain ⟨d3,h3,q3⟩:=(Zp Try.underlying3) H enc spare held n _ _ g3;have g4:DataW.trod enc Try.prog W 0 spare held n 3 ((cs.drop 4).take (Try.prog.cellsOf 3))=xs[4]? :=hf 4 _ rfl
 rw[show Try.prog.cellsOf 3=1 by kernel_rfl,List.getElem?_eq_getElem (by rw[hxl];decide)] at g4
 obtain ⟨d4,h4,q4⟩:=(Zp Try.underlying3) H enc spare held n _ _ g4;have e0:cs.drop 0=(cs.drop 0).take 1++cs.drop 1:=ZU rfl;have e1:cs.drop 1=(cs.drop 1).take 1++cs.drop 2:=ZU rfl;have e2:cs.drop 2=(cs.drop 2).take 1++cs.drop 3:=ZU rfl;have e3:cs.drop 3=(cs.drop 3).take 1++cs.drop 4:=ZU rfl;have e4:cs.drop 4=(cs.drop 4).take 1++cs.drop 5:=ZU rfl;have en:cs.drop 5=[]:=List.drop_of_length_le (by omega);have hcs:cs.drop 0=_:=e0
 rw[e1,e2,e3,e4,en,show (cs.drop 0).take 1=_ from h0,show (cs.drop 1).take 1=_ from h1,show (cs.drop 2).take 1=_ from h2,show (cs.drop 3).take 1=_ from h3,show (cs.drop 4).take 1=_ from h4] at hcs
 exact ⟨⟨d0,d1,d2,d3,d4⟩,hcs,q0,q1,q2,q3,q4⟩
theorem Wp {W:World}:Opn Try.prog W 39 Jt Jj:=by
 intro H enc spare held fuel cs x h;obtain ⟨xs,n,_,_,hlen,hxl,hf⟩:=DataW.trod_struct Try.underlying39 h
 rw[show Try.prog.cellsOf 39=5 by kernel_rfl] at hlen
 have g0:DataW.trod enc Try.prog W 0 spare held n 3 ((cs.drop 0).take (Try.prog.cellsOf 3))=xs[0]? :=hf 0 _ rfl
 rw[show Try.prog.cellsOf 3=1 by kernel_rfl,List.getElem?_eq_getElem (by rw[hxl];decide)] at g0
 obtain ⟨d0,h0,q0⟩:=(Zp Try.underlying3) H enc spare held n _ _ g0;have g1:DataW.trod enc Try.prog W 0 spare held n 3 ((cs.drop 1).take (Try.prog.cellsOf 3))=xs[1]? :=hf 1 _ rfl
 rw[show Try.prog.cellsOf 3=1 by kernel_rfl,List.getElem?_eq_getElem (by rw[hxl];decide)] at g1
 obtain ⟨d1,h1,q1⟩:=(Zp Try.underlying3) H enc spare held n _ _ g1;have g2:DataW.trod enc Try.prog W 0 spare held n 3 ((cs.drop 2).take (Try.prog.cellsOf 3))=xs[2]? :=hf 2 _ rfl
 rw[show Try.prog.cellsOf 3=1 by kernel_rfl,List.getElem?_eq_getElem (by rw[hxl];decide)] at g2
 obtain ⟨d2,h2,q2⟩:=(Zp Try.underlying3) H enc spare held n _ _ g2;have g3:DataW.trod enc Try.prog W 0 spare held n 3 ((cs.drop 3).take (Try.prog.cellsOf 3))=xs[3]? :=hf 3 _ rfl
 rw[show Try.prog.cellsOf 3=1 by kernel_rfl,List.getElem?_eq_getElem (by rw[hxl];decide)] at g3
 obtain ⟨d3,h3,q3⟩:=(Zp Try.underlying3) H enc spare held n _ _ g3;have g4:DataW.trod enc Try.prog W 0 spare held n 3 ((cs.drop 4).take (Try.prog.cellsOf 3))=xs[4]? :=hf 4 _ rfl
 rw[show Try.prog.cellsOf 3=1 by kernel_rfl,List.getElem?_eq_getElem (by rw[hxl];decide)] at g4
 obtain ⟨d4,h4,q4⟩:=(Zp Try.underlying3) H enc spare held n _ _ g4;have e0:cs.drop 0=(cs.drop 0).take 1++cs.drop 1:=ZU rfl;have e1:cs.drop 1=(cs.drop 1).take 1++cs.drop 2:=ZU rfl;have e2:cs.drop 2=(cs.drop 2).take 1++cs.drop 3:=ZU rfl;have e3:cs.drop 3=(cs.drop 3).take 1++cs.drop 4:=ZU rfl;have e4:cs.drop 4=(cs.drop 4).take 1++cs.drop 5:=ZU rfl;have en:cs.drop 5=[]:=List.drop_of_length_le (by omega);have hcs:cs.drop 0=_:=e0
 rw[e1,e2,e3,e4,en,show (cs.drop 0).take 1=_ from h0,show (cs.drop 1).take 1=_ from h1,show (cs.drop 2).take 1=_ from h2,show (cs.drop 3).take 1=_ from h3,show (cs.drop 4).take 1=_ from h4] at hcs
 exact ⟨⟨d0,d1,d2,d3,d4⟩,hcs,q0,q1,q2,q3,q4⟩
theorem QeB {H:Type} {enc:TypeId×Value→H} {P:Program} {w:World} {base:Nat} {spare:Nat→Bool} {held:Bool} {t0 t1 t2 t3 t4:TypeId} {args:Array Value} {ds:List (DataW H)} {ps:List MemPlace} (h:DataW.TrodAll enc P w base spare held [t0,t1,t2,t3,t4] args.toList ds ps) :
  ∃v0 v1 v2 v3 v4 d0 d1 d2 d3 d4 p0 p1 p2 p3 p4,args= #[v0,v1,v2,v3,v4]∧ds=[d0,d1,d2,d3,d4]∧ps=p0++p1++p2++p3++p4∧DataW.Trod enc P w base spare held t0 v0 d0 p0∧DataW.Trod enc P w base spare held t1 v1 d1 p1∧DataW.Trod enc P w base spare held t2 v2 d2 p2∧DataW.Trod enc P w base spare held t3 v3 d3 p3∧DataW.Trod enc P w base spare held t4 v4 d4 p4:=by
 obtain ⟨v0,w0,d0,e0,p0,q0,hargs,rfl,rfl,a0,r0⟩:=Go.ChangeShapes.trodAll_cons h;obtain ⟨v1,w1,d1,e1,p1,q1,rfl,rfl,rfl,a1,r1⟩:=Go.ChangeShapes.trodAll_cons r0;obtain ⟨v2,w2,d2,e2,p2,q2,rfl,rfl,rfl,a2,r2⟩:=Go.ChangeShapes.trodAll_cons r1;obtain ⟨v3,w3,d3,e3,p3,q3,rfl,rfl,rfl,a3,r3⟩:=Go.ChangeShapes.trodAll_cons r2;obtain ⟨v4,w4,d4,e4,p4,q4,rfl,rfl,rfl,a4,r4⟩:=Go.ChangeShapes.trodAll_cons r3;obtain ⟨rfl,rfl,rfl⟩:=Go.ChangeShapes.trodAll_nil r4;exact ⟨v0,v1,v2,v3,v4,d0,d1,d2,d3,d4,p0,p1,p2,p3,p4,by cases args;simp_all,rfl,by simp,a0,a1,a2,a3,a4⟩
set_option maxRecDepth 100000 in
theorem W4 (os:Os) (started:os.Started) (H:Type) (enc:TypeId×Value→H) :
  ReturnsInHanded {} Try.checked os 3 .any (Rows.topLeaseVendSpec.pre6 enc Try.prog Try.f3 Rows.topLeaseVendRow.domain false) (Rows.topLeaseVendSpec.post enc Try.prog Try.f3 false true false false):=by
 refine returnsInHanded_of_change (C:=Try.checked) QgS started (by kernel_rfl) Try.func3
  (ChangeSpec.witness6 (enc:=enc) (C:=Try.checked) false ⟨#[], #[((Go.Value.agg #[(Go.Value.string { data:= #[] }),(Go.Value.int Go.IntKind.i64 0),(Go.Value.int Go.IntKind.i64 0),(Go.Value.int Go.IntKind.i64 0),(Go.Value.int Go.IntKind.i64 0)])),(.slice none 0 0),(.int .i64 0),(.int .i64 0),(.slice none 0 0)],[]⟩ 8 (by kernel_rfl) (by kernel_rfl) (by kernel_rfl) (by kernel_rfl)) ?_
 intro W base args ds gs before hval0 hW hcnd _;have hval: ∀(j:Nat) t v,Try.f3.params[j]? =some t→args[j]? =some v→Value.okWide Try.prog W .any base t v:=hval0;have hW':=hW;obtain ⟨p,q,hA0,hV,rfl,hfz,hnd⟩:=hW;have hA:DataW.TrodAll enc Try.prog W 0 (fun _=>true) true Try.f3.params.toList args.toList ds p:=hA0
 rw[Try.params3] at hA hval
 obtain ⟨rfl,rfl⟩:=trodVars_none hV
 clear hA0 hval0
 obtain ⟨v0,v1,v2,v3,v4,d0,d1,d2,d3,d4,p0,p1,p2,p3,p4,rfl,rfl,rfl,a0,a1,a2,a3,a4⟩:=QeB hA;obtain ⟨cs0,rfl,_⟩:=okWide_struct Try.underlying23 (hval 0 23 v0 rfl rfl);obtain ⟨fu0,ht0⟩:=a0;obtain ⟨x0,hr0,q0⟩:=Qaa (W:=W) H enc _ _ fu0 _ _ ht0;have hcs0:=hr0;obtain rfl:=Qei hcs0;obtain ⟨A1,n1,c1,rfl⟩:=okWide_slice Try.underlying24 (hval 1 24 v1 rfl rfl);obtain ⟨fu1,ht1⟩:=a1;obtain ⟨x1,⟨B1,b1,hcs1,hl1,hm1,ha1⟩,q1⟩:=(QbF (W:=W) Try.underlying24 (by kernel_rfl) Qb3) H enc _ _ fu1 _ _ ht1;have e1:Value.slice A1 n1 c1= .slice B1 x1.length b1:=by simpa [Value.cells] using hcs1
 injection e1 with e1a e1b e1c
 subst e1a e1b e1c;obtain ⟨x2,rfl,_,_,q2⟩:=open_int (P:=Try.prog) Try.underlying3 (hval 2 3 v2 rfl rfl) a2;obtain ⟨x3,rfl,_,_,q3⟩:=open_int (P:=Try.prog) Try.underlying3 (hval 3 3 v3 rfl rfl) a3;obtain ⟨A4,n4,c4,rfl⟩:=okWide_slice Try.underlying25 (hval 4 25 v4 rfl rfl);obtain ⟨fu4,ht4⟩:=a4;obtain ⟨x4,⟨B4,b4,hcs4,hl4,hm4,ha4⟩,q4⟩:=(QbF (W:=W) Try.underlying25 (by kernel_rfl) Wp) H enc _ _ fu4 _ _ ht4;have e4:Value.slice A4 n4 c4= .slice B4 x4.length b4:=by simpa [Value.cells] using hcs4
 injection e4 with e4a e4b e4c
 subst e4a e4b e4c;obtain ⟨F,hF⟩:=Jk x0 x1 x2 x3 x4 q0 q1 q2 q3 q4;refine (Qcm (v:= .bool true) Try.func3 rfl (args:=[_,_,_,_,_]) (JA ⟨hl1,hm1⟩ (ha1.rds _) ⟨hl4,hm4⟩ (ha4.rds _) hF (fun _ _=>rfl))).mono fun e W' ⟨he,hw⟩=> ?_;exact ⟨_,he,Qd4 (tb:=4) hW' rfl rfl Try.underlying4 rfl rfl rfl QeP (by decide +kernel) hw⟩
theorem topLeaseVend_holds:Rows.TopLeaseVendSaid :=
 OpenClaim.holds_of_wide 3 Try.f3 rfl rfl rfl rfl rfl rfl rfl ⟨rfl,rfl,rfl,rfl,rfl⟩ rfl rfl rfl rfl rfl (by kernel_rfl) Try.func3 (by kernel_rfl)
  (of_decide_eq_true (by kernel_rfl)) (by unfold Func.isWrapper;first | (rw[if_pos (by decide +kernel)];kernel_rfl) | (rw[if_neg (by decide +kernel)];exact ⟨rfl,rfl⟩))
  (fun os started H enc _=>W4 os started H enc)
end Go.Proofs.Ytfdjjdhnfaklbaa
