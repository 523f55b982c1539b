/- DispatchWhys: for every input the given law returns true, and its arguments read as before. No condition. -/
import Derived.Test.YthpgjbbjpfiniaaGreatc3x10
namespace Go.Proofs.YthpgjbbjpfiniaaGreat
open Go.RowKit
set_option linter.unusedSimpArgs false
set_option linter.unusedVariables false
variable {r:Rd_} {s:Int}
structure Bf (r:Rd_) (s:Int) (t k:Nat) (out:List Lg):Prop where
 len:((out.length:Nat):Int)=r.Nodes
 lb: ∀n,0≤n→n<r.Nodes→lab out n=noL∨ ∃k,k≤t∧Wk r s k n (lab out n)
 best: ∀j n l,j≤k→Wk r s j n l→0≤(lab out n).Secs∧Lg.le (lab out n) l
theorem QlQ {a b:Lg} (h:0≤a.Secs):ZY a b=some (decide (b.Secs<0)||decide (Lg.lt a b)):=by
 unfold ZY
 by_cases h1:b.Secs<0
 ·simp[h1,h]
 ·by_cases h2:a.Secs<b.Secs
  ·simp[h1,h2,Lg.lt,show ¬a.Secs<0 by omega]
  ·by_cases h3:a.Secs=b.Secs
   ·simp[h1,h2,h3,Lg.lt,show ¬b.Secs<0 by omega]
   ·simp[h1,h2,h3,Lg.lt,show ¬a.Secs<0 by omega]
theorem Bf.better {t k:Nat} {out:List Lg} {b:Int} {l:Lg} (d:Bf r s t k out) (h0:0≤b) (h1:b<r.Nodes) (hw: ∃j,j≤t+1∧Wk r s j b l) (hl:0≤l.Secs) (hb:(lab out b).Secs<0∨Lg.lt l (lab out b)) :
  Bf r s (t+1) k (Yi out b l)∧ ∀n,0≤n→0≤(lab out n).Secs→0≤(lab (Yi out b l) n).Secs∧Lg.le (lab (Yi out b l) n) (lab out n):=by
 have hlen:=d.len;have hset: ∀n,0≤n→lab (Yi out b l) n=if n=b then l else lab out n:=fun n hn=>QeL h0 (by omega) hn
 have himp: ∀n,0≤n→0≤(lab out n).Secs→0≤(lab (Yi out b l) n).Secs∧Lg.le (lab (Yi out b l) n) (lab out n):=fun n hn h2=>by
  rw[hset n hn]
  by_cases h3:n=b
  ·subst h3
   rw[if_pos rfl]
   rcases hb with h4 | h4
   ·omega
   ·exact ⟨hl,Lg.le_of_lt h4⟩
  ·rw[if_neg h3];exact ⟨h2,Lg.le_refl _⟩
 refine ⟨⟨by rw[Qf4];exact hlen,fun n hn hn2=> ?_,fun j n l' hj hw'=> ?_⟩,himp⟩
 ·rw[hset n hn]
  by_cases h3:n=b
  ·subst h3;rw[if_pos rfl];exact .inr hw
  ·rw[if_neg h3]
   rcases d.lb n hn hn2 with h4 | ⟨j,h4,h5⟩
   ·exact .inl h4
   ·exact .inr ⟨j,by omega,h5⟩
 ·have h2:=d.best j n l' hj hw'
  by_cases hn:0≤n
  ·have h3:=himp n hn h2.1;exact ⟨h3.1,Lg.le_trans h3.2 h2.2⟩
  ·have:lab out n=noL:=by unfold lab getI;rw[if_neg hn];rfl
   rw[this] at h2
   exact absurd h2.1 (by decide)
theorem Bf.more {t t' k:Nat} {out:List Lg} (d:Bf r s t k out) (h:t≤t'):Bf r s t' k out :=
 ⟨d.len,fun n h0 h1=>by
  rcases d.lb n h0 h1 with h4 | ⟨j,h4,h5⟩
  ·exact .inl h4
  ·exact .inr ⟨j,by omega,h5⟩,d.best⟩
theorem Ql0 (hr:OkR r) (hs:0≤s∧s<r.Nodes) {k:Nat}: ∀(d j:Nat) (t:Nat) (out:List Lg) (n:Nat),r.Edges.length-j=d→j≤r.Edges.length→d<n→t+d≤90000→Bf r s t k out →
   (∀x∈r.Edges.take j,∀i l,i≤k→Wk r s i x.From l→0≤(lab out x.To).Secs∧Lg.le (lab out x.To) (WF l x)) →
   ∃out',iter (ZM r) n (out,(j:Int))=some out'∧Bf r s (t+d) (k+1) out':=by
 intro d
 induction d with
 | zero =>
  intro j t out n hd hj hn ht hB hE;obtain ⟨n,rfl⟩: ∃f,n=f+1:=⟨n-1,by omega⟩
  obtain rfl:j=r.Edges.length:=by omega
  refine ⟨out,?_,hB.len,hB.lb,fun i m l hi hw=> ?_⟩
  ·rw[iter]
   simp only[ZM,oun]
   rw[show decide (((r.Edges.length:Nat):Int)<((r.Edges.length:Nat):Int))=false by simp]
   rfl
  ·rcases Nat.lt_or_ge k i with h1 | h1
   ·obtain rfl:i=k+1:=by omega
    rw[List.take_length] at hE
    cases hw with
    | cons h hx ha=>subst ha;exact hE _ hx _ _ (Nat.le_refl _) h
   ·exact hB.best i m l h1 hw
 | succ d ih =>
  intro j t out n hd hj hn ht hB hE;obtain ⟨n,rfl⟩: ∃f,n=f+1:=⟨n-1,by omega⟩
  have hjl:j<r.Edges.length:=by omega
  have hx:r.Edges[j]? =some r.Edges[j]:=List.getElem?_eq_getElem hjl
  generalize r.Edges[j]=x at hx
  have hxm:=List.mem_of_getElem? hx;have hok:=hr.ed x hxm;unfold QaE at hok;have hel:=hr.el;have hlen:=hB.len;have hto:getI out x.To=some (lab out x.To):=Qby (by omega) (by omega);have hfrom:getI out x.From=some (lab out x.From):=Qby (by omega) (by omega);have step: ∃out1,ZM r (out,(j:Int))=some (.inl (out1,((j+1:Nat):Int)))∧Bf r s (t+1) k out1 ∧
    (∀n,0≤n→0≤(lab out n).Secs→0≤(lab out1 n).Secs∧Lg.le (lab out1 n) (lab out n))∧ ∀i l,i≤k→Wk r s i x.From l→0≤(lab out1 x.To).Secs∧Lg.le (lab out1 x.To) (WF l x):=by
   simp only[ZM,oun]
   rw[show decide ((j:Int)<((r.Edges.length:Nat):Int))=true by simp;omega]
   simp only[cond_true,Qs,hx,Option.bind_some,hfrom,hto]
   rw[Wn (by omega)]
   by_cases hf:0≤(lab out x.From).Secs
   ·simp only[hf,decide_true,cond_true]
    obtain ⟨i0,h1,h2,_⟩:=QeR hr (hB.lb x.From (by omega) (by omega)) (Qgt hf);have hal:Vh (lab out x.From) ⟨x.Secs,x.Meters⟩=some (WF (lab out x.From) x):=by
     have:=Qkc hr hxm h2 (by omega);exact this
    rw[hal]
    simp only[Option.bind_some]
    have hls:0≤(WF (lab out x.From) x).Secs:=by unfold WF;simp only[];omega
    have hbe:ZY ⟨(WF (lab out x.From) x).Secs,(WF (lab out x.From) x).Meters⟩ (lab out x.To)=_:=QlQ hls
    rw[hbe]
    simp only[Option.bind_some]
    cases hb:(decide ((lab out x.To).Secs<0)||decide (Lg.lt (WF (lab out x.From) x) (lab out x.To))) with
    | true =>
     have hb':(lab out x.To).Secs<0∨Lg.lt (WF (lab out x.From) x) (lab out x.To):=by simpa using hb
     have hB2:=hB.better (b:=x.To) (l:=WF (lab out x.From) x) (by omega) (by omega) ⟨i0+1,by omega,.cons h2 hxm rfl⟩ hls hb';refine ⟨Yi out x.To (WF (lab out x.From) x),?_,hB2.1,hB2.2,fun i l hi hw=> ?_⟩
     ·rw[show (⟨(WF (lab out x.From) x).Secs,(WF (lab out x.From) x).Meters⟩:Lg)=WF (lab out x.From) x from rfl] at *
      simp only[hb,cond_true,Option.bind_some]
     ·rw[QeL (by omega) (by omega) (by omega),if_pos rfl]
      exact ⟨hls,Qgg (hB.best i _ l hi hw).2⟩
    | false =>
     refine ⟨out,?_,hB.more (by omega),fun n _ h=>⟨h,Lg.le_refl _⟩,fun i l hi hw=> ?_⟩
     ·rw[show (⟨(WF (lab out x.From) x).Secs,(WF (lab out x.From) x).Meters⟩:Lg)=WF (lab out x.From) x from rfl] at *
      simp only[hb,cond_false,Option.bind_some]
     ·simp only[Bool.or_eq_false_iff,decide_eq_false_iff_not] at hb
      exact ⟨by omega,Lg.le_trans (Lg.le_of_not_lt hb.2) (Qgg (hB.best i _ l hi hw).2)⟩
   ·simp only[show decide (0≤(lab out x.From).Secs)=false by simpa using hf,cond_false,Option.bind_some]
    refine ⟨out,rfl,hB.more (by omega),fun n _ h=>⟨h,Lg.le_refl _⟩,fun i l hi hw=> ?_⟩;exact absurd (hB.best i _ l hi hw).1 hf
  obtain ⟨out1,h1,h2,h3,h4⟩:=step;obtain ⟨out',g1,g2⟩:=ih (j+1) (t+1) out1 n (by omega) (by omega) (by omega) (by omega) h2 (fun y hy i l hi hw=>by
   rcases QcV hx hy with h5 | h5
   ·have h6:=hE y h5 i l hi hw;have hyk:=hr.ed y (List.mem_of_mem_take h5);unfold QaE at hyk;have h7:=h3 y.To (by omega) h6.1;exact ⟨h7.1,Lg.le_trans h7.2 h6.2⟩
   ·subst h5;exact h4 i l hi hw)
  refine ⟨out',?_,by rw[show t+(d+1)=t+1+d by omega];exact g2⟩
  rw[iter,h1]
  exact g1
theorem Qqx (hr:OkR r) (hs:0≤s∧s<r.Nodes): ∀(d k:Nat) (out:List Lg) (n:Nat),((k+d:Nat):Int)=r.Nodes→d<n→Bf r s (512*k) k out →
  ∃out',iter (Jy r) n (out,(k:Int))=some out'∧Bf r s (512*(k+d)) (k+d) out':=by
 intro d
 induction d with
 | zero =>
  intro k out n hk hn hB;obtain ⟨n,rfl⟩: ∃f,n=f+1:=⟨n-1,by omega⟩
  refine ⟨out,?_,hB⟩
  rw[iter]
  simp only[Jy,oun]
  rw[show decide ((k:Int)<r.Nodes)=false by simp;omega]
  rfl
 | succ d ih =>
  intro k out n hk hn hB;obtain ⟨n,rfl⟩: ∃f,n=f+1:=⟨n-1,by omega⟩
  have hel:=hr.el;have h2:=hr.n2;obtain ⟨out1,h3,h4⟩:=Ql0 hr hs (k:=k) r.Edges.length 0 (512*k) out (((r.Edges.length:Nat):Int).toNat+1) (by omega) (by omega) (by omega) (by omega) hB (by intro x hx;simp at hx);obtain ⟨out',g1,g2⟩:=ih (k+1) out1 n (by omega) (by omega) (h4.more (by omega));refine ⟨out',?_,by rw[show k+(d+1)=k+1+d by omega];exact g2⟩
  rw[iter]
  simp only[Jy,oun]
  rw[show decide ((k:Int)<r.Nodes)=true by simp;omega]
  simp only[cond_true]
  rw[show (0:Int)=((0:Nat):Int) from rfl,h3]
  simp only[Option.bind_some,QI]
  rw[Wn (by omega)]
  exact g1
theorem QoE (hr:OkR r) (hc:QcG r=0) (hs:0≤s∧s<r.Nodes): ∃out,Zn r s=some (out,0)∧IsL r s out:=by
 have h1:=hr.n1;have h2:=hr.n2;obtain ⟨L,_,hL⟩:=Qjo (F:=40000) (Nat.le_refl _) hr hs;have hmk:QbQ (⟨0,0⟩:Lg) r.Nodes=some (List.replicate r.Nodes.toNat ⟨0,0⟩):=by
  unfold QbQ
  rw[if_pos (by omega)]
 have hl1:iter (ZL (List.replicate r.Nodes.toNat ⟨0,0⟩)) ((((List.replicate r.Nodes.toNat (⟨0,0⟩:Lg)).length:Nat):Int).toNat+1) (List.replicate r.Nodes.toNat ⟨0,0⟩,0)=some (List.replicate r.Nodes.toNat noL):=by
  have hN:r.Nodes.toNat≤64:=by omega
  generalize r.Nodes.toNat=N at *
  have:=YX (body:=ZL (List.replicate N ⟨0,0⟩)) (List.replicate N (⟨0,0⟩:Lg)) (fun k=>List.replicate k noL++List.replicate (N-k) (⟨0,0⟩:Lg)) (fun m k=>(m,k)) (fun _ _=>none) (List.replicate N noL) (by simp;omega) (fun k x hx _=> ?_) (fun _=>by simp[ZL,oun]) ((((List.replicate N (⟨0,0⟩:Lg)).length:Nat):Int).toNat+1) (by simp)
  ·rw[QW _ _ (fun _ _ _=>rfl)] at this
   simpa using this
  ·have hk:=Qt hx;have hk2:((k:Int)<(((List.replicate N (⟨0,0⟩:Lg)).length:Nat):Int)):=by omega
   rw[List.length_replicate] at hk
   simp only[ZL,oun,hk2,decide_true,cond_true,Qs]
   rw[List.getElem?_append_right (by simp),List.length_replicate,Nat.sub_self,List.getElem?_replicate,if_pos (by omega)]
   simp only[Option.bind_some,Je]
   congr 3
   unfold Yi
   rw[Int.toNat_natCast,show N-k=(N-(k+1))+1 by omega,List.replicate_succ,List.set_append_right _ _ (by simp),List.length_replicate,Nat.sub_self,List.set_cons_zero,List.replicate_succ',List.append_assoc]
   rfl
 have hlenR:((((List.replicate r.Nodes.toNat noL).length:Nat)):Int)=r.Nodes:=by simp;omega
 have hset: ∀n,0≤n→lab (Yi (List.replicate r.Nodes.toNat noL) s ⟨0,0⟩) n=if n=s then ⟨0,0⟩ else noL:=fun n hn=>by
  rw[QeL hs.1 (by omega) hn,QjM]
 have hB:Bf r s (512*0) 0 (Yi (List.replicate r.Nodes.toNat noL) s ⟨0,0⟩):=by
  refine ⟨by rw[Qf4];exact hlenR,fun n h0 h3=> ?_,fun j n l hj hw=> ?_⟩
  ·rw[hset n h0]
   by_cases h4:n=s
   ·rw[if_pos h4,h4];exact .inr ⟨0,Nat.le_refl _,.nil⟩
   ·rw[if_neg h4];exact .inl rfl
  ·cases hw with
   | nil=>rw[hset s hs.1,if_pos rfl];exact ⟨Int.le_refl _,Lg.le_refl _⟩
   | cons=>omega
 obtain ⟨out,k1,k2⟩:=Qqx hr hs r.Nodes.toNat 0 _ (r.Nodes.toNat+1) (by omega) (by omega) hB;refine ⟨out,?_,k2.len,fun n h0 h3=> ?_,fun k n l hw=> ?_⟩
 ·unfold Zn
  rw[Qac _ (by have:=hr.el;omega),hc]
  simp only[Option.bind_some,decide_true,Bool.not_true,cond_false,Vo]
  rw[show decide ((0:Int)≤s)=true by simp;exact hs.1,show decide (s<r.Nodes)=true by simp;exact hs.2]
  simp only[cond_true,Option.bind_some,Bool.not_true,cond_false,hmk,hl1]
  rw[Qby hs.1 (by omega),QjM]
  simp only[Option.bind_some]
  rw[show ((Yi (List.replicate r.Nodes.toNat noL) s ⟨0,noL.Meters⟩,(0:Int)))=(Yi (List.replicate r.Nodes.toNat noL) s ⟨0,0⟩,((0:Nat):Int)) from rfl,k1]
  rfl
 ·have hb:=hL.lb n h0 h3;rcases k2.lb n h0 h3 with h4 | ⟨j,h4,h5⟩
  ·exact .inl h4
  ·
   have h6:=hL.best _ _ _ h5;rcases hb with h7 | ⟨i,h7,h8⟩
   ·rw[h7] at h6;exact absurd h6.1 (by decide)
   ·have h9:=k2.best i n _ (by have:=hL.len;omega) h8;have:=k2.len;have:=hL.len;exact .inr ⟨i,by omega,(Lg.antisymm h9.2 h6.2)▸h8⟩
 ·have h6:=hL.best _ _ _ hw;have hn:=hw.node hr hs;obtain ⟨i,h7,h8,_⟩:=QeR hr (hL.lb n hn.1 hn.2) (Qgt h6.1);have h9:=k2.best i n _ (by have:=hL.len;omega) h8;exact ⟨h9.1,Lg.le_trans h9.2 h6.2⟩
theorem Qng (hc:QcG r=0) (hs:0≤s∧s<r.Nodes): ∃L,IsL r s L∧(∀F,40000≤F→Qcb F r s=some (L,0))∧Zn r s=some (L,0):=by
 have hr:=OkR.of hc;obtain ⟨L,h1,h2⟩:=QoE hr hc hs;refine ⟨L,h2,fun F hF=> ?_,h1⟩;obtain ⟨L',h3,h4⟩:=Qjo hF hr hs
 rw[h4.unique hr h2] at h3
 unfold Qcb
 rw[Qe0 _ (by have:=hr.el;omega),hc]
 simp only[Option.bind_some,decide_true,Bool.not_true,cond_false,Zc]
 rw[show (decide (s<0)||decide (r.Nodes≤s))=false by simp;omega]
 simp only[cond_false,h3,Option.bind_some]
end Go.Proofs.YthpgjbbjpfiniaaGreat
namespace Go.Proofs.YthpgjbbjpfiniaaGreat
open Go.RowKit
set_option linter.unusedSimpArgs false
set_option linter.unusedVariables false
abbrev Pr:=Qe
abbrev Ve:=Qp
abbrev De:=Qw
abbrev Vi:=QN
structure OkV (n:Int) (v:Ve):Prop where
 d0:0≤v.Depot
 d1:v.Depot<n
 s0:0≤v.Shift.From
 s1:v.Shift.From<v.Shift.To
 s2:v.Shift.To≤86400
 g0:1≤v.Grams
 g1:v.Grams≤1073741824
 k0:1≤v.Kinds
 k1:v.Kinds<65536
structure OkD (n:Int) (d:De):Prop where
 n0:0≤d.Node
 n1:d.Node<n
 k0:0≤d.Kind
 k1:d.Kind<16
 g0:0≤d.Grams
 g1:d.Grams≤1073741824
 w0:0≤d.When.From
 w1:d.When.From≤d.When.To
 w2:d.When.To≤86400
 s0:0≤d.Service
 s1:d.Service≤3600
structure OkP (p:Pr):Prop where
 road:QcG p.Road=0
 ve: ∀v∈p.Vehicles,OkV p.Road.Nodes v
 de: ∀d∈p.Demands,OkD p.Road.Nodes d
 dl:p.Demands.length≤32
 u0:0≤p.Unload
 u1:p.Unload<p.Road.Nodes
 us0:0≤p.UnloadSecs
 us1:p.UnloadSecs≤7200
theorem Qol {v:Ve} {n:Int} (h:Yd v n 16=some 0):OkV n v:=by
 unfold Yd at h;obtain ⟨b,hb,h⟩:=Qi h
 simp only[Zc,Option.bind_some,QaM (show (0:Int)≤16∧(16:Int)≤64 by decide)] at h
 rw[show w64 (1*2^(16:Int).toNat)=65536 by decide] at h
 cases b with
 | false=>cases h
 | true =>
  simp only[Bool.not_true,cond_false] at h
  cases h1:(decide (v.Depot<0)||decide (n≤v.Depot))<;>rw[h1] at h
  ·cases h2:(decide (v.Shift.From<0)||(decide (v.Shift.To≤v.Shift.From)||decide (86400<v.Shift.To)))<;>rw[h2] at h
   ·cases h3:(decide (v.Grams<1)||decide (1073741824<v.Grams))<;>rw[h3] at h
    ·cases h4:(decide (v.Kinds<1)||decide (65536≤v.Kinds))<;>rw[h4] at h
     ·simp only[Bool.or_eq_false_iff,decide_eq_false_iff_not] at h1 h2 h3 h4
      exact ⟨by omega,by omega,by omega,by omega,by omega,by omega,by omega,by omega,by omega⟩
     ·cases h
    ·cases h
   ·cases h
  ·cases h
theorem QlT {l:List Ve} {n:Int} (h:Ys l n 16=some 0): ∀v∈l,OkV n v:=by
 by_cases hl:(16:Int)<((l.length:Nat):Int)
 ·unfold Ys at h
  simp only[Zc,Option.bind_some,hl,decide_true,cond_true] at h
  cases h1:(decide (n<1)||(decide (64<n)||(decide ((16:Int)<1)||decide ((16:Int)<16))))<;>rw[h1] at h
  ·rw[show decide (((l.length:Nat):Int)=0)=false by simp;intro e;rw[e] at hl;exact absurd hl (by decide)] at h
   cases h
  ·cases h
 ·have e1:=YN (body:=Q4 l n 16) l (fun _ x=>bif decide ((Yd x n 16).getD 0=0) then none else some (.inr ((Yd x n 16).getD 0))) (.inl ():Unit⊕Int) (by omega) (fun k x hx=>by
   have hk:=Qt hx;obtain ⟨e,he⟩:=QfX x n;have hk2:((k:Int)<((l.length:Nat):Int)):=by omega
   simp only[Q4,hk2,decide_true,cond_true,Qs,hx,Option.bind_some,he,Option.getD_some]
   cases decide (e=0)<;>rfl) (by simp[Q4]) (((l.length:Nat):Int).toNat+1) (by simp)
  unfold Ys at h
  rw[e1] at h
  rcases QbY (step:=fun (_:Nat) (x:Ve)=>bif decide ((Yd x n 16).getD 0=0) then none else some (.inr ((Yd x n 16).getD 0):Unit⊕Int)) (fin:= .inl ()) l 0 with ⟨h1,_⟩ | ⟨i,x,o,h1,h2,h3,_⟩
  ·intro v hv;obtain ⟨i,hi⟩:=List.getElem?_of_mem hv;have:=h1 i v hi;obtain ⟨e,he⟩:=QfX v n
   rw[he,Option.getD_some] at this
   by_cases h0:e=0
   ·subst h0;exact Qol he
   ·rw[show decide (e=0)=false by simpa using h0] at this;cases this
  ·rw[h3] at h
   obtain ⟨e,he⟩:=QfX x n
   rw[he,Option.getD_some] at h2
   by_cases h0:e=0
   ·subst h0;cases h2
   ·rw[show decide (e=0)=false by simpa using h0] at h2
    injection h2 with h2
    subst h2
    simp only[Zc,Option.bind_some,QI] at h
    generalize (decide (n<1)||_)=a at h
    generalize decide (((l.length:Nat):Int)=0)=b at h
    generalize decide ((16:Int)<((l.length:Nat):Int))=c at h
    cases a<;>cases b<;>cases c<;>simp at h<;>exact absurd h h0
theorem QlU {l:List De} {n:Int} (h:Yt l n 16=some 0):(∀d∈l,OkD n d)∧l.length≤32:=by
 unfold Yt at h
 by_cases hl:(32:Int)<((l.length:Nat):Int)
 ·simp only[hl,decide_true,cond_true] at h
  cases h
 ·refine ⟨?_,by omega⟩;have e1:=YN (body:=Q7 l n 16) l (fun _ x=>bif (decide (x.Container<0)||(decide (256≤x.Container)||(decide (x.Node<0)||(decide (n≤x.Node)||(decide (x.Kind<0)||decide (16≤x.Kind)))))) then some (.inr 7) else
    bif (decide (x.Grams<0)||(decide (1073741824<x.Grams)||(decide (x.When.From<0)||(decide (x.When.To<x.When.From)||(decide (86400<x.When.To)||(decide (x.Service<0)||decide (3600<x.Service))))))) then some (.inr 1) else none) (.inl ():Unit⊕Int) (by omega) (fun k x hx=>by
   have hk:=Qt hx;have hk2:((k:Int)<((l.length:Nat):Int)):=by omega
   simp only[Q7,hk2,decide_true,cond_true,Qs,hx,Option.bind_some,Zc]
   generalize (decide (x.Container<0)||_)=a
   generalize (decide (x.Grams<0)||_)=b
   cases a<;>cases b<;>rfl) (by simp[Q7]) (((l.length:Nat):Int).toNat+1) (by simp)
  rw[e1] at h
  rcases QbY (step:=fun (_:Nat) (x:De)=>bif (decide (x.Container<0)||(decide (256≤x.Container)||(decide (x.Node<0)||(decide (n≤x.Node)||(decide (x.Kind<0)||decide (16≤x.Kind)))))) then some (.inr 7:Unit⊕Int) else
    bif (decide (x.Grams<0)||(decide (1073741824<x.Grams)||(decide (x.When.From<0)||(decide (x.When.To<x.When.From)||(decide (86400<x.When.To)||(decide (x.Service<0)||decide (3600<x.Service))))))) then some (.inr 1) else none) (fin:= .inl ()) l 0 with ⟨h1,_⟩ | ⟨i,x,o,h1,h2,h3,_⟩
  ·intro v hv;obtain ⟨i,hi⟩:=List.getElem?_of_mem hv;have:=h1 i v hi
   simp only[cond_eq_ite,Bool.or_eq_true,decide_eq_true_eq] at this
   split at this
   ·cases this
   ·split at this
    ·cases this
    ·exact ⟨by omega,by omega,by omega,by omega,by omega,by omega,by omega,by omega,by omega,by omega,by omega⟩
  ·rw[h3] at h
   simp only[cond_eq_ite] at h2
   split at h2
   ·injection h2 with h2;subst h2
    simp only[hl,decide_false,cond_false,Option.bind_some,QI] at h
    cases h
   ·split at h2
    ·injection h2 with h2;subst h2
     simp only[hl,decide_false,cond_false,Option.bind_some,QI] at h
     cases h
    ·cases h2
theorem OkP.of {p:Pr} (hn:p.Road.Edges.length≤600) (h:Qo p=some 0):OkP p:=by
 unfold Qo at h
 rw[Qac _ hn] at h
 simp only[Option.bind_some,Zc] at h
 by_cases h1:QcG p.Road=0
 ·simp only[h1,decide_true,Bool.not_true,cond_false] at h
  obtain ⟨e2,he2,h⟩:=Qi h
  by_cases h2:e2=0
  ·subst h2
   simp only[decide_true,Bool.not_true,cond_false] at h
   obtain ⟨e3,he3,h⟩:=Qi h
   by_cases h3:e3=0
   ·subst h3
    simp only[decide_true,Bool.not_true,cond_false] at h
    obtain ⟨g1,g2⟩:=QlU he3;cases h4:(decide (p.Unload<0)||decide (p.Road.Nodes≤p.Unload))<;>rw[h4] at h
    ·cases h5:(decide (p.UnloadSecs<0)||decide (7200<p.UnloadSecs))<;>rw[h5] at h
     ·simp only[Bool.or_eq_false_iff,decide_eq_false_iff_not] at h4 h5
      exact ⟨h1,QlT he2,g1,g2,by omega,by omega,by omega,by omega⟩
     ·cases h
    ·cases h
   ·rw[show decide (e3=0)=false by simpa using h3] at h
    simp only[Bool.not_false,cond_true,Option.some.injEq] at h
    exact absurd h h3
  ·rw[show decide (e2=0)=false by simpa using h2] at h
   simp only[Bool.not_false,cond_true,Option.some.injEq] at h
   exact absurd h h2
 ·rw[show decide (QcG p.Road=0)=false by simpa using h1] at h
  simp only[Bool.not_false,cond_true,Option.some.injEq] at h
  exact absurd h h1
def Qeg (p:Pr) (a:Int):List Lg:=match Zn p.Road a with | some (L,_)=>L | none=>[]
def Zp (p:Pr) (a b:Int):Lg:=lab (Qeg p a) b
theorem QeM {p:Pr} (hp:OkP p) {a:Int} (ha:0≤a∧a<p.Road.Nodes):IsL p.Road a (Qeg p a)∧Zn p.Road a=some (Qeg p a,0)∧ ∀F,40000≤F→Qcb F p.Road a=some (Qeg p a,0):=by
 obtain ⟨L,h1,h2,h3⟩:=Qng hp.road ha;have:Qeg p a=L:=by unfold Qeg;rw[h3]
 rw[this]
 exact ⟨h1,h3,h2⟩
theorem J1 {p:Pr} (hp:OkP p) {a b:Int} (ha:0≤a∧a<p.Road.Nodes) (hb:0≤b∧b<p.Road.Nodes):(Zp p a b=noL∨0≤(Zp p a b).Secs)∧ -1≤(Zp p a b).Secs∧(Zp p a b).Secs≤6400000∧0≤(Zp p a b).Meters∧(Zp p a b).Meters≤6400000:=by
 obtain ⟨h1,_⟩:=QeM hp ha;have hr:=OkR.of hp.road;have h2:=hr.n2;have h3:=h1.len;rcases h1.lb b hb.1 hb.2 with h4 | ⟨k,h4,h5⟩
 ·unfold Zp
  rw[h4]
  exact ⟨.inl rfl,by decide,by decide,by decide,by decide⟩
 ·have h6:=h5.bound hr;unfold Zp;exact ⟨.inr (by omega),by omega,by omega,by omega,by omega⟩
theorem Qhk {p:Pr} (hp:OkP p) {a b:Int} (ha:0≤a∧a<p.Road.Nodes) (hb:0≤b∧b<p.Road.Nodes):Z9 p a b=some (Zp p a b):=by
 obtain ⟨h1,h2,_⟩:=QeM hp ha;have h3:=h1.len;unfold Z9
 rw[h2]
 simp only[Option.bind_some,oun,Zc,decide_true,Bool.not_true,Bool.false_or]
 rw[show (decide (b<0)||decide ((((Qeg p a).length:Nat):Int)≤b))=false by simp;omega]
 simp only[cond_false]
 rw[Qby hb.1 (by omega)]
 rfl
def okC (p:Pr) (m:List (Int×List Lg)):Prop:= ∀n L,QaD n m=some L→L=Qeg p n
theorem QlG {F:Nat} (hF:40000≤F) {w:QG} (hp:OkP w.p) (hc:okC w.p w.legs) {b:Int} (ha:0≤w.place.node∧w.place.node<w.p.Road.Nodes) (hb:0≤b∧b<w.p.Road.Nodes) :
  ∃m,VS F w b=some (Zp w.p w.place.node b,decide (0≤(Zp w.p w.place.node b).Secs),⟨w.place,w.p,w.v,m,w.visits⟩)∧okC w.p m:=by
 obtain ⟨h1,_,h2⟩:=QeM hp ha;have h3:=h1.len;have hg:getI (Qeg w.p w.place.node) b=some (Zp w.p w.place.node b):=Qby hb.1 (by omega);unfold VS;cases hm:QaD w.place.node w.legs with
 | none =>
  refine ⟨Qc9 w.place.node (Qeg w.p w.place.node) w.legs,?_,fun n L hL=> ?_⟩
  ·simp only[Option.isSome_none,Bool.not_false,cond_true,h2 F hF,Option.bind_some,oun,hg]
  ·by_cases hn:n=w.place.node
   ·subst hn
    rw[Qia] at hL
    injection hL with hL;exact hL.symm
   ·rw[QjR hn] at hL
    exact hc n L hL
 | some L =>
  have:=hc _ _ hm;subst this;refine ⟨w.legs,?_,hc⟩
  simp only[Option.isSome_some,Bool.not_true,cond_false,Option.bind_some,oun,Option.getD_some,hg]
def Qhz (v:Ve) (k:Int):Bool:=decide ((v.Kinds/2^k.toNat)%2=1)
theorem Qrd {x:Int} (h0:0≤x) (h1:x<65536):Qo7 .i64 x 1=x%2:=by
 obtain ⟨n,rfl⟩: ∃n:Nat,x=n:=⟨x.toNat,by omega⟩
 unfold Qo7;have e1:(BitVec.ofInt IntKind.i64.bits (n:Int) &&& BitVec.ofInt IntKind.i64.bits 1).toNat=n%2:=by
  rw[BitVec.toNat_and]
  have e2:(BitVec.ofInt IntKind.i64.bits (n:Int)).toNat=n:=by
   rw[BitVec.toNat_ofInt]
   show (((n:Int)%((2^64:Nat):Int)).toNat)=n
   omega
  have e3:(BitVec.ofInt IntKind.i64.bits 1).toNat=1:=by decide
  rw[e2,e3,Nat.and_one_is_mod]
 rw[e1]
 have:IntKind.i64.wrap ((n%2:Nat):Int)=w64 ((n%2:Nat):Int):=rfl
 rw[this,Yg (by omega) (by omega)]
 omega
theorem Qrg {v:Ve} {n:Int} (hv:OkV n v) (k:Nat):0≤v.Kinds/2^k∧v.Kinds/2^k<65536:=by
 have h0:=hv.k0;have h1:=hv.k1;have h2:(0:Int)<2^k:=Int.pow_pos (by decide);refine ⟨Int.ediv_nonneg (by omega) (by omega),?_⟩;have:v.Kinds/2^k≤v.Kinds:=Int.ediv_le_self _ (by omega)
 omega
theorem Qe8 {v:Ve} {n:Int} (hv:OkV n v) {k:Int} (h0:0≤k) (h1:k<16):Z7 v k=some (Qhz v k)∧ZN v k=some (Qhz v k):=by
 have h2:=Qrg hv k.toNat;have h3:=hv.k0;have h4:=hv.k1
 constructor
 ·unfold Z7 Qhz
  rw[show decide (0≤k)=true by simpa using h0,show decide (k<16)=true by simpa using h1]
  simp only[cond_true,QaM (show 0≤k∧k≤64 by omega),Option.bind_some,Qrd h2.1 h2.2]
 ·unfold ZN Qhz
  simp only[Zc,Option.bind_some]
  rw[show (decide (k<0)||decide (16≤k))=false by simp;omega]
  simp only[cond_false,QaM (show 0≤k∧k≤64 by omega),Option.bind_some]
  have e1:IntKind.u64.wrap v.Kinds=v.Kinds:=by
   show v.Kinds%18446744073709551616=v.Kinds
   omega
  rw[e1,Int.tmod_eq_emod_of_nonneg h2.1]
end Go.Proofs.YthpgjbbjpfiniaaGreat
namespace Go.Proofs.YthpgjbbjpfiniaaGreat
open Go.RowKit
set_option linter.unusedSimpArgs false
set_option linter.unusedVariables false
theorem QcA (L:List Int) (hn:L.length≤1000) (s:Int):YD L s=some (decide (s∈L)):=by
 unfold YD Qag;have:=YN (body:=Wx L s) L (fun k y=>bif decide (s=y) then some (.inr (k:Int)) else none) (.inl ():Unit⊕Int) (by omega) (fun k y hy=> ?_) (by simp[Wx]) (((L.length:Nat):Int).toNat+1) (by simp)
 ·rw[this]
  have ha:L.any (fun y=>decide (s=y))=decide (s∈L):=by
   rw[Bool.eq_iff_iff]
   simp only[List.any_eq_true,decide_eq_true_eq]
   exact ⟨fun ⟨y,h1,h2⟩=>h2▸h1,fun h=>⟨s,h,rfl⟩⟩
  rw[←ha]
  rcases Qkg (fun y:Int=>decide (s=y)) L 0 with ⟨h1,h2⟩ | ⟨j,h1,h2⟩
  ·rw[h1,h2];rfl
  ·rw[h1,h2]
   simp only[Option.bind_some,QI]
   simp
 ·have hk:=Qt hy;have hk2:((k:Int)<(L.length:Nat)):=by omega
  simp only[Wx,hk2,decide_true,cond_true,Qs,hy,Option.bind_some]
  cases decide (s=y)<;>rfl
def Qax (p:Pr) (v:Ve) (pre:List Int) (x:Vi) (s:Int):Vi⊕Int :=
 if s= -1 then
  if (Zp p x.Node p.Unload).Secs<0 then .inr 22
  else .inl ⟨s,p.Unload,x.Leave+(Zp p x.Node p.Unload).Secs,x.Leave+(Zp p x.Node p.Unload).Secs,x.Leave+(Zp p x.Node p.Unload).Secs+p.UnloadSecs,0⟩
 else if s<0∨((p.Demands.length:Nat):Int)≤s then .inr 7
 else if s∈pre then .inr 6
 else match p.Demands[s.toNat]? with
  | none=> .inr 7
  | some d =>
   if Qhz v d.Kind=false then .inr 21
   else if (Zp p x.Node d.Node).Secs<0 then .inr 22
   else if d.When.To≤max (x.Leave+(Zp p x.Node d.Node).Secs) d.When.From then .inr 19
   else if v.Grams<x.Load+d.Grams then .inr 20
   else .inl ⟨s,d.Node,x.Leave+(Zp p x.Node d.Node).Secs,max (x.Leave+(Zp p x.Node d.Node).Secs) d.When.From,max (x.Leave+(Zp p x.Node d.Node).Secs) d.When.From+d.Service,x.Load+d.Grams⟩
structure InV (p:Pr) (v:Ve) (k:Nat) (x:Vi):Prop where
 n0:0≤x.Node
 n1:x.Node<p.Road.Nodes
 t0:0≤x.Leave
 t1:x.Leave≤100000+k*7000000
 l0:0≤x.Load
 l1:x.Load≤v.Grams
theorem QeD {p:Pr} {v:Ve} (hp:OkP p) (hv:OkV p.Road.Nodes v) {k:Nat} {x y:Vi} {pre:List Int} {s:Int} (h:InV p v k x) (hs:Qax p v pre x s= .inl y) :
  InV p v (k+1) y∧0≤(Zp p x.Node y.Node).Secs∧y.Stop=s:=by
 have hu:=J1 hp ⟨h.n0,h.n1⟩ ⟨hp.u0,hp.u1⟩;have h1:=h.t0;have h2:=h.t1;have h3:=h.l0;have h4:=h.l1;have hus0:=hp.us0;have hus1:=hp.us1;have hg:=hv.g0;unfold Qax at hs
 split at hs
 ·split at hs
  ·cases hs
  ·injection hs with hs;subst hs
   refine ⟨⟨hp.u0,hp.u1,by simp only[];omega,by simp only[];omega,Int.le_refl _,by simp only[];omega⟩,by simp only[];omega,rfl⟩
 ·split at hs
  ·cases hs
  ·split at hs
   ·cases hs
   ·split at hs
    ·cases hs
    ·rename_i d hd
     have hd2:=hp.de d (List.mem_of_getElem? hd);have hl:=J1 hp ⟨h.n0,h.n1⟩ ⟨hd2.n0,hd2.n1⟩;have a1:=hd2.g0;have a2:=hd2.w0;have a3:=hd2.w1;have a4:=hd2.w2;have a5:=hd2.s0;have a6:=hd2.s1
     split at hs
     ·cases hs
     ·split at hs
      ·cases hs
      ·split at hs
       ·cases hs
       ·split at hs
        ·cases hs
        ·injection hs with hs;subst hs
         refine ⟨⟨hd2.n0,hd2.n1,by simp only[];omega,by simp only[];omega,by simp only[];omega,by simp only[];omega⟩,by simp only[];omega,rfl⟩
theorem Qjp {p:Pr} {v:Ve} {x:Vi} {pre:List Int} {s e:Int} (hs:Qax p v pre x s= .inr e):e≠0:=by
 unfold Qax at hs
 repeat' split at hs
 all_goals first | (cases hs;done) | (injection hs with hs;subst hs;decide)
theorem QoI (stops:List Int) (i:Nat) (hi:i≤stops.length) (hn:stops.length≤1000) (s:Int):iter (ZA stops (i:Int) s) ((i:Int).toNat+1) 0=some (bif decide (s∈stops.take i) then .inr 6 else .inl ()):=by
 have:=YN (body:=ZA stops (i:Int) s) (stops.take i) (fun _ y=>bif decide (y=s) then some (.inr 6) else none) (.inl ():Unit⊕Int) (by simp;omega) (fun k y hy=> ?_) (by rw[Yk hi];simp[ZA]) ((i:Int).toNat+1) (by rw[Yk hi];omega)
 ·rw[this,Qkf]
  have ha:(stops.take i).any (fun y=>decide (y=s))=decide (s∈stops.take i):=by
   rw[Bool.eq_iff_iff]
   simp only[List.any_eq_true,decide_eq_true_eq]
   exact ⟨fun ⟨y,h1,h2⟩=>h2▸h1,fun h=>⟨s,h,rfl⟩⟩
  rw[ha]
 ·have hk:=Qt hy
  rw[Yk hi] at hk
  rw[List.getElem?_take,if_pos hk] at hy
  have hk2:((k:Int)<(i:Int)):=by omega
  simp only[ZA,hk2,decide_true,cond_true,Qs,hy,Option.bind_some]
  cases decide (y=s)<;>rfl
theorem QoG {p:Pr} {v:Ve} (hp:OkP p) (hv:OkV p.Road.Nodes v) {t:Qa} (hn:t.Stops.length≤40) {k:Nat} {s:Int} (hk:t.Stops[k]? =some s) {x:Vi} (hx:InV p v k x) (out:List Vi) (ho:out.length≤1000) :
  Y6 p t v (x.Stop,x.Node,x.Arrive,x.Start,x.Leave,x.Load,out,(k:Int))=match Qax p v (t.Stops.take k) x s with
   | .inl y=>some (.inl (y.Stop,y.Node,y.Arrive,y.Start,y.Leave,y.Load,out++[y],((k+1:Nat):Int)))
   | .inr e=>some (.inr (.inr ([],e,(k:Int)))):=by
 have hkl:=Qt hk;have hk2:((k:Int)<((t.Stops.length:Nat):Int)):=by omega
 have h1:=hx.t0;have h2:=hx.t1;have h3:=hx.l0;have h4:=hx.l1;have hg:=hv.g1;have happ: ∀y,Z0 out [y]=some (out++[y]):=fun y=>Yj (by simp;omega)
 simp only[Y6,oun,hk2,decide_true,cond_true,Qs,hk,Option.bind_some,Wn (show k<9223372036854775807 by omega)]
 unfold Vj Qax
 simp only[Qs,hk,Option.bind_some]
 by_cases hs:s= -1
 ·subst hs;have hu:=J1 hp ⟨hx.n0,hx.n1⟩ ⟨hp.u0,hp.u1⟩;have hus0:=hp.us0;have hus1:=hp.us1
  simp only[decide_true,cond_true,if_true,Option.bind_some]
  unfold Wb
  rw[show decide ((0:Int)≤ -1)=false by decide]
  simp only[cond_false,Option.bind_some]
  rw[Qhk hp ⟨hx.n0,hx.n1⟩ ⟨hp.u0,hp.u1⟩]
  simp only[Option.bind_some]
  by_cases hl:(Zp p x.Node p.Unload).Secs<0
  ·simp only[hl,decide_true,cond_true,if_true,Option.bind_some,oun]
   rfl
  ·rw[if_neg hl]
   simp only[hl,decide_false,cond_false,show decide ((-1:Int)<0)=true by decide,cond_true,Option.bind_some,oun,decide_true,Bool.not_true]
   rw[Yg (n:=x.Leave+(Zp p x.Node p.Unload).Secs) (by omega) (by omega),Yg (by omega) (by omega),happ]
   rfl
 ·simp only[show decide (s= -1)=false by simpa using hs,cond_false,if_neg hs,Zc,Option.bind_some]
  by_cases h7:s<0∨((p.Demands.length:Nat):Int)≤s
  ·rw[if_pos h7,show (decide (s<0)||decide (((p.Demands.length:Nat):Int)≤s))=true by simpa using h7]
   simp only[cond_true,Option.bind_some,show decide ((7:Int)=0)=false by decide,cond_false,oun,Bool.not_false]
  ·rw[if_neg h7,show (decide (s<0)||decide (((p.Demands.length:Nat):Int)≤s))=false by simpa using h7]
   simp only[cond_false]
   rw[QoI _ _ (Nat.le_of_lt hkl) (by omega)]
   by_cases h6:s∈t.Stops.take k
   ·rw[if_pos h6]
    simp only[h6,decide_true,cond_true,Option.bind_some,QI,show decide ((6:Int)=0)=false by decide,cond_false,oun,Bool.not_false]
   ·rw[if_neg h6]
    obtain ⟨i,rfl⟩: ∃i:Nat,s=i:=⟨s.toNat,by omega⟩
    have hd:p.Demands[i]? =some p.Demands[i]:=List.getElem?_eq_getElem (by omega)
    generalize p.Demands[i]=d at hd
    have hd2:=hp.de d (List.mem_of_getElem? hd);have hl:=J1 hp ⟨hx.n0,hx.n1⟩ ⟨hd2.n0,hd2.n1⟩;have a1:=hd2.g0;have a2:=hd2.w0;have a3:=hd2.w1;have a4:=hd2.w2;have a5:=hd2.s0;have a6:=hd2.s1;have a7:=hd2.g1
    simp only[h6,decide_false,cond_false,Option.bind_some,QI,Qs,hd,Int.toNat_natCast,(Qe8 hv hd2.k0 hd2.k1).2]
    cases hc:Qhz v d.Kind with
    | false=>simp only[Bool.not_false,cond_true,Option.bind_some,show decide ((21:Int)=0)=false by decide,cond_false,oun,if_true]
    | true =>
     simp only[Bool.not_true,cond_false,Option.bind_some,decide_true,cond_true,Bool.true_eq_false,if_false]
     unfold Wb
     rw[show decide ((0:Int)≤(i:Int))=true by simp]
     simp only[cond_true,Qs,hd,Option.bind_some]
     rw[Qhk hp ⟨hx.n0,hx.n1⟩ ⟨hd2.n0,hd2.n1⟩]
     simp only[Option.bind_some]
     by_cases hl2:(Zp p x.Node d.Node).Secs<0
     ·rw[if_pos hl2]
      simp only[hl2,decide_true,cond_true,Option.bind_some,oun,show decide ((22:Int)=0)=false by decide,Bool.not_false]
     ·rw[if_neg hl2]
      simp only[hl2,decide_false,cond_false,show decide ((i:Int)<0)=false by simp,Option.bind_some]
      rw[Yg (n:=x.Leave+(Zp p x.Node d.Node).Secs) (by omega) (by omega),Yg (n:=x.Load+d.Grams) (by omega) (by omega)]
      by_cases hw:d.When.To≤max (x.Leave+(Zp p x.Node d.Node).Secs) d.When.From
      ·rw[if_pos hw]
       simp only[hw,decide_true,cond_true,Option.bind_some,oun,show decide ((19:Int)=0)=false by decide,Bool.not_false]
      ·rw[if_neg hw]
       by_cases hgr:v.Grams<x.Load+d.Grams
       ·rw[if_pos hgr]
        simp only[hw,hgr,decide_true,decide_false,cond_true,cond_false,Option.bind_some,oun,show decide ((20:Int)=0)=false by decide,Bool.not_false]
       ·rw[if_neg hgr]
        rw[Yg (n:=max (x.Leave+(Zp p x.Node d.Node).Secs) d.When.From+d.Service) (by omega) (by omega)]
        simp only[hw,hgr,decide_false,cond_false,Option.bind_some,oun,decide_true,Bool.not_true,happ]
end Go.Proofs.YthpgjbbjpfiniaaGreat
namespace Go.Proofs.YthpgjbbjpfiniaaGreat
open Go.RowKit
set_option linter.unusedSimpArgs false
set_option linter.unusedVariables false
abbrev Wa:=QG
structure At (p:Pr) (v:Ve) (w:Wa) (x:Vi) (m:Int) (l:List Vi):Prop where
 pl:w.place=⟨x.Node,x.Leave,x.Load,m⟩
 ep:w.p=p
 ev:w.v=v
 vs:w.visits=l
 ok:okC p w.legs
theorem QjS {w:Wa} {s a b:Int} (h:w.visits.length≤1000):W1 w s a b=some ⟨w.place,w.p,w.v,w.legs,w.visits++[⟨s,w.place.node,a,b,w.place.time,w.place.load⟩]⟩:=by
 unfold W1
 rw[Yj (by simp;omega)]
 rfl
theorem Ql6 {F:Nat} (hF:40000≤F) {p:Pr} {v:Ve} (hp:OkP p) (hv:OkV p.Road.Nodes v) {t:Qa} (hn:t.Stops.length≤40) {k:Nat} {s:Int} (hk:t.Stops[k]? =some s) {x:Vi} (hx:InV p v k x) {w:Wa} {m:Int} {l:List Vi}
  (hw:At p v w x m l) (hl:l.length≤900) (hm0:0≤m) (hm1:m≤k*6400000) :
  match Qax p v (t.Stops.take k) x s with
   | .inl y=> ∃w',Vd F w t (k:Int)=some (0,w')∧At p v w' y (m+(Zp p x.Node y.Node).Meters) (l++[y])
   | .inr e=> ∃w',Vd F w t (k:Int)=some (e,w'):=by
 obtain ⟨pl,wp,wv,wl,wvs⟩:=w;obtain ⟨e1,e2,e3,e4,e5⟩:=hw
 simp only at e1 e2 e3 e4 e5
 subst e1 e2 e3 e4;have hkl:=Qt hk;have h1:=hx.t0;have h2:=hx.t1;have h3:=hx.l0;have h4:=hx.l1;have hg:=hv.g1;have hsub:WI t.Stops 0 (k:Int)=some (t.Stops.take k):=VR (Nat.le_of_lt hkl);have hcon:YD (t.Stops.take k) s=some (decide (s∈t.Stops.take k)):=QcA _ (by simp;omega) s;unfold Vd Qax
 simp only[Qs,hk,Option.bind_some]
 by_cases hs:s= -1
 ·subst hs;have hu:=J1 hp ⟨hx.n0,hx.n1⟩ ⟨hp.u0,hp.u1⟩;have hus0:=hp.us0;have hus1:=hp.us1;obtain ⟨c,hc1,hc2⟩:=QlG hF (w:=⟨⟨x.Node,x.Leave,x.Load,m⟩,wp,wv,wl,wvs⟩) hp e5 ⟨hx.n0,hx.n1⟩ ⟨hp.u0,hp.u1⟩
  simp only[decide_true,Bool.not_true,cond_false,cond_true,if_true,Option.bind_some,QI,hc1,oun]
  by_cases hl2:(Zp wp x.Node wp.Unload).Secs<0
  ·rw[if_pos hl2,show decide (0≤(Zp wp x.Node wp.Unload).Secs)=false by simp;omega]
   exact ⟨_,rfl⟩
  ·rw[if_neg hl2,show decide (0≤(Zp wp x.Node wp.Unload).Secs)=true by simp;omega]
   simp only[Bool.not_true,cond_false]
   rw[Yg (n:=x.Leave+(Zp wp x.Node wp.Unload).Secs) (by omega) (by omega),Yg (n:=x.Leave+(Zp wp x.Node wp.Unload).Secs+wp.UnloadSecs) (by omega) (by omega),Yg (n:=m+(Zp wp x.Node wp.Unload).Meters) (by omega) (by omega)]
   rw[QjS (by simp only[];omega)]
   exact ⟨_,rfl,⟨rfl,rfl,rfl,rfl,hc2⟩⟩
 ·simp only[show decide (s= -1)=false by simpa using hs,cond_false,cond_true,Bool.not_false,if_neg hs,Zc,Option.bind_some]
  by_cases h7:s<0∨((wp.Demands.length:Nat):Int)≤s
  ·rw[if_pos h7,show (decide (s<0)||decide (((wp.Demands.length:Nat):Int)≤s))=true by simpa using h7]
   exact ⟨_,rfl⟩
  ·rw[if_neg h7,show (decide (s<0)||decide (((wp.Demands.length:Nat):Int)≤s))=false by simpa using h7]
   simp only[cond_false,hsub,hcon,Option.bind_some]
   by_cases h6:s∈t.Stops.take k
   ·rw[if_pos h6]
    simp only[h6,decide_true,cond_true,Option.bind_some,QI]
    exact ⟨_,rfl⟩
   ·rw[if_neg h6]
    obtain ⟨i,rfl⟩: ∃i:Nat,s=i:=⟨s.toNat,by omega⟩
    have hd:wp.Demands[i]? =some wp.Demands[i]:=List.getElem?_eq_getElem (by omega)
    generalize wp.Demands[i]=d at hd
    have hd2:=hp.de d (List.mem_of_getElem? hd);have hl3:=J1 hp ⟨hx.n0,hx.n1⟩ ⟨hd2.n0,hd2.n1⟩;have a1:=hd2.g0;have a2:=hd2.w0;have a3:=hd2.w1;have a4:=hd2.w2;have a5:=hd2.s0;have a6:=hd2.s1;have a7:=hd2.g1;obtain ⟨c,hc1,hc2⟩:=QlG hF (w:=⟨⟨x.Node,x.Leave,x.Load,m⟩,wp,wv,wl,wvs⟩) hp e5 ⟨hx.n0,hx.n1⟩ ⟨hd2.n0,hd2.n1⟩
    simp only[h6,decide_false,cond_false,Option.bind_some,QI,Qs,hd,Int.toNat_natCast,(Qe8 hv hd2.k0 hd2.k1).1]
    cases hc:Qhz wv d.Kind with
    | false=>simp only[Bool.not_false,cond_true,Option.bind_some,QI,if_true];exact ⟨_,rfl⟩
    | true =>
     simp only[Bool.not_true,cond_false,Option.bind_some,Bool.true_eq_false,if_false,QI,hc1,oun]
     by_cases hl2:(Zp wp x.Node d.Node).Secs<0
     ·rw[if_pos hl2,show decide (0≤(Zp wp x.Node d.Node).Secs)=false by simp;omega]
      exact ⟨_,rfl⟩
     ·rw[if_neg hl2,show decide (0≤(Zp wp x.Node d.Node).Secs)=true by simp;omega]
      simp only[Bool.not_true,cond_false,Qs,hd,Option.bind_some]
      rw[Yg (n:=x.Leave+(Zp wp x.Node d.Node).Secs) (by omega) (by omega),Yg (n:=x.Load+d.Grams) (by omega) (by omega),Yg (n:=m+(Zp wp x.Node d.Node).Meters) (by omega) (by omega)]
      by_cases hw:d.When.To≤max (x.Leave+(Zp wp x.Node d.Node).Secs) d.When.From
      ·rw[if_pos hw]
       simp only[hw,decide_true,cond_true]
       exact ⟨_,rfl⟩
      ·rw[if_neg hw]
       by_cases hgr:wv.Grams<x.Load+d.Grams
       ·rw[if_pos hgr]
        simp only[hw,hgr,decide_true,decide_false,cond_true,cond_false]
        exact ⟨_,rfl⟩
       ·rw[if_neg hgr]
        rw[Yg (n:=max (x.Leave+(Zp wp x.Node d.Node).Secs) d.When.From+d.Service) (by omega) (by omega)]
        simp only[hw,hgr,decide_false,cond_false]
        rw[QjS (by simp only[];omega)]
        exact ⟨_,rfl,⟨rfl,rfl,rfl,rfl,hc2⟩⟩
def VC (p:Pr) (v:Ve):List Int→List Int→Vi→(Vi×List Vi)⊕(Int×Nat)
 | _,[],x=> .inl (x,[])
 | pre,s::rest,x=>match Qax p v pre x s with
  | .inr e=> .inr (e,pre.length)
  | .inl y=>match VC p v (pre++[s]) rest y with
   | .inl z=> .inl (z.1,y::z.2)
   | .inr q=> .inr q
def QaS (p:Pr):Int→List Vi→Int
 | _,[]=>0
 | a,y::l=>(Zp p a y.Node).Meters+QaS p y.Node l
theorem QfP {p:Pr} {v:Ve}: ∀(rest pre:List Int) (x:Vi) (q:Int×Nat),VC p v pre rest x= .inr q→q.1≠0
 | [],pre,x,q,h=>by cases h
 | s::rest,pre,x,q,h=>by
  unfold VC at h
  split at h
  ·rename_i e he
   injection h with h;subst h
   exact Qjp he
  ·rename_i y hy
   split at h
   ·cases h
   ·rename_i q' hq
    injection h with h;subst h
    exact QfP rest _ _ _ hq
theorem Qdt {p:Pr} {v:Ve} (hp:OkP p) (hv:OkV p.Road.Nodes v): ∀(rest pre:List Int) (x:Vi) (z:Vi×List Vi),InV p v pre.length x→VC p v pre rest x= .inl z→InV p v (pre.length+rest.length) z.1∧z.2.length=rest.length∧0≤QaS p x.Node z.2∧QaS p x.Node z.2≤rest.length*6400000
 | [],pre,x,z,hx,h=>by
  injection h with h;subst h
  exact ⟨hx,rfl,Int.le_refl _,by simp[QaS]⟩
 | s::rest,pre,x,z,hx,h=>by
  unfold VC at h
  split at h
  ·cases h
  ·rename_i y hy
   obtain ⟨h1,h2,_⟩:=QeD hp hv hx hy
   split at h
   ·rename_i z' hz
    injection h with h;subst h
    have h3:=Qdt hp hv rest (pre++[s]) y z' (by simpa using h1) hz;have h4:=J1 hp ⟨hx.n0,hx.n1⟩ ⟨h1.n0,h1.n1⟩
    simp only[List.length_append,List.length_singleton,List.length_cons,QaS] at h3 ⊢
    refine ⟨by rw[show pre.length+(rest.length+1)=pre.length+1+rest.length by omega];exact h3.1,by omega,by omega,by omega⟩
   ·cases h
theorem Qjq {t:List Int} {k:Nat} {s:Int} {rest:List Int} (h:t.drop k=s::rest):t[k]? =some s∧t.take (k+1)=t.take k++[s]∧t.drop (k+1)=rest:=by
 have h1:t[k]? =some s:=by
  have:(t.drop k)[0]? =some s:=by rw[h];rfl
  rw[List.getElem?_drop] at this
  simpa using this
 refine ⟨h1,YK h1,?_⟩
 rw[←List.drop_drop,h]
 rfl
theorem QoF {p:Pr} {v:Ve} (hp:OkP p) (hv:OkV p.Road.Nodes v) {t:Qa} (hn:t.Stops.length≤40): ∀(rest:List Int) (k:Nat) (x:Vi) (out:List Vi) (n:Nat),t.Stops.drop k=rest→k≤t.Stops.length→rest.length<n→InV p v k x→out.length=k →
  iter (Y6 p t v) n (x.Stop,x.Node,x.Arrive,x.Start,x.Leave,x.Load,out,(k:Int))=some (match VC p v (t.Stops.take k) rest x with
   | .inl z=> .inl (z.1.Stop,z.1.Node,z.1.Arrive,z.1.Start,z.1.Leave,z.1.Load,out++z.2)
   | .inr q=> .inr ([],q.1,((q.2:Nat):Int))):=by
 intro rest
 induction rest with
 | nil =>
  intro k x out n hd hk hn2 hx ho;obtain ⟨n,rfl⟩: ∃f,n=f+1:=⟨n-1,by omega⟩
  have hk2:k=t.Stops.length:=by
   have:=congrArg List.length hd
   simp at this;omega
  rw[iter]
  simp only[Y6,oun]
  rw[show decide ((k:Int)<((t.Stops.length:Nat):Int))=false by simp;omega]
  simp only[cond_false,Option.bind_some,QI,VC,List.append_nil]
 | cons s rest ih =>
  intro k x out n hd hk hn2 hx ho;obtain ⟨n,rfl⟩: ∃f,n=f+1:=⟨n-1,by omega⟩
  obtain ⟨h1,h2,h3⟩:=Qjq hd;have hkl:=Qt h1
  rw[iter,QoG hp hv hn h1 hx out (by omega)]
  unfold VC;cases hs:Qax p v (t.Stops.take k) x s with
  | inr e =>
   simp only[Option.bind_some,QI]
   rw[Yk (Nat.le_of_lt hkl)]
  | inl y =>
   simp only[Option.bind_some,QI]
   have:=ih (k+1) y (out++[y]) n h3 (by omega) (by simp only[List.length_cons] at hn2;omega) (QeD hp hv hx hs).1 (by simp;omega)
   rw[this,h2]
   cases VC p v (t.Stops.take k++[s]) rest y with
   | inl z=>simp
   | inr q=>rfl
theorem Qox {F:Nat} (hF:40000≤F) {p:Pr} {v:Ve} (hp:OkP p) (hv:OkV p.Road.Nodes v) {t:Qa} (hn:t.Stops.length≤40): ∀(rest:List Int) (k:Nat) (x:Vi) (w:Wa) (m:Int) (l:List Vi) (n:Nat),t.Stops.drop k=rest→k≤t.Stops.length→rest.length<n→InV p v k x→At p v w x m l→l.length=k→0≤m→m≤k*6400000 →
  match VC p v (t.Stops.take k) rest x with
   | .inl z=> ∃w',iter (JD F t) n (w,0,(k:Int))=some (w',0,((t.Stops.length:Nat):Int))∧At p v w' z.1 (m+QaS p x.Node z.2) (l++z.2)
   | .inr q=> ∃w',iter (JD F t) n (w,0,(k:Int))=some (w',q.1,((q.2:Nat):Int)):=by
 intro rest
 induction rest with
 | nil =>
  intro k x w m l n hd hk hn2 hx hw ho hm0 hm1;obtain ⟨n,rfl⟩: ∃f,n=f+1:=⟨n-1,by omega⟩
  have hk2:k=t.Stops.length:=by
   have:=congrArg List.length hd
   simp at this;omega
  refine ⟨w,?_,by simpa [QaS] using hw⟩
  rw[iter]
  simp only[JD,oun]
  rw[show decide ((k:Int)<((t.Stops.length:Nat):Int))=false by simp;omega]
  simp only[cond_false,Option.bind_some,QI,hk2]
 | cons s rest ih =>
  intro k x w m l n hd hk hn2 hx hw ho hm0 hm1;obtain ⟨n,rfl⟩: ∃f,n=f+1:=⟨n-1,by omega⟩
  obtain ⟨h1,h2,h3⟩:=Qjq hd;have hkl:=Qt h1;have hst:=Ql6 hF hp hv hn h1 hx hw (by omega) hm0 hm1;have hk2:decide ((k:Int)<((t.Stops.length:Nat):Int))=true:=by simp;omega
  unfold VC;cases hs:Qax p v (t.Stops.take k) x s with
  | inr e =>
   rw[hs] at hst
   obtain ⟨w',hw'⟩:=hst;refine ⟨w',?_⟩
   rw[iter]
   simp only[JD,oun,hk2,cond_true,hw',Option.bind_some]
   rw[show decide (e=0)=false by simpa using Qjp hs]
   simp only[Bool.not_false,cond_true,Option.bind_some,QI]
   rw[Yk (Nat.le_of_lt hkl)]
  | inl y =>
   rw[hs] at hst
   obtain ⟨w',hw',hat⟩:=hst;have hin:=QeD hp hv hx hs;have hlb:=J1 hp ⟨hx.n0,hx.n1⟩ ⟨hin.1.n0,hin.1.n1⟩;have:=ih (k+1) y w' (m+(Zp p x.Node y.Node).Meters) (l++[y]) n h3 (by omega) (by simp only[List.length_cons] at hn2;omega) hin.1 hat (by simp;omega) (by omega) (by omega)
   rw[h2] at this
   have hb:iter (JD F t) (n+1) (w,0,(k:Int))=iter (JD F t) n (w',0,((k+1:Nat):Int)):=by
    rw[iter]
    simp only[JD,oun,hk2,cond_true,hw',Option.bind_some,decide_true,Bool.not_true,cond_false,QI]
    rw[Wn (by omega)]
   rw[hb]
   simp only[]
   cases hf:VC p v (t.Stops.take k++[s]) rest y with
   | inl z =>
    rw[hf] at this
    obtain ⟨w2,g1,g2⟩:=this;refine ⟨w2,g1,?_⟩
    simp only[QaS]
    rw[show m+((Zp p x.Node y.Node).Meters+QaS p y.Node z.2)=m+(Zp p x.Node y.Node).Meters+QaS p y.Node z.2 by omega,show l++y::z.2=l++[y]++z.2 by simp]
    exact g2
   | inr q =>
    rw[hf] at this
    exact this
def QaN (p:Pr) (v:Ve) (x:Vi):Vi⊕Int :=
 if (Zp p x.Node v.Depot).Secs<0 then .inr 22
 else if x.Load≠0 then .inr 20
 else if v.Shift.To≤x.Leave+(Zp p x.Node v.Depot).Secs then .inr 19
 else .inl ⟨-2,v.Depot,x.Leave+(Zp p x.Node v.Depot).Secs,x.Leave+(Zp p x.Node v.Depot).Secs,x.Leave+(Zp p x.Node v.Depot).Secs,0⟩
theorem Qgo {p:Pr} {v:Ve} {x:Vi} {e:Int} (hs:QaN p v x= .inr e):e≠0:=by
 unfold QaN at hs
 repeat' split at hs
 all_goals first | (cases hs;done) | (injection hs with hs;subst hs;decide)
theorem QoD {p:Pr} {v:Ve} (hp:OkP p) (hv:OkV p.Road.Nodes v) {k:Nat} (hk:k≤1000) {x:Vi} (hx:InV p v k x):JE p v x=match QaN p v x with
  | .inl y=>some (y,0)
  | .inr e=>some (⟨0,0,0,0,0,0⟩,e):=by
 have h1:=hx.t0;have h2:=hx.t1;have h3:=hx.l0;have hl:=J1 hp ⟨hx.n0,hx.n1⟩ ⟨hv.d0,hv.d1⟩;unfold JE QaN
 rw[Qhk hp ⟨hx.n0,hx.n1⟩ ⟨hv.d0,hv.d1⟩]
 simp only[Option.bind_some]
 by_cases c1:(Zp p x.Node v.Depot).Secs<0
 ·rw[if_pos c1];simp only[c1,decide_true,cond_true]
 ·rw[if_neg c1,Yg (n:=x.Leave+(Zp p x.Node v.Depot).Secs) (by omega) (by omega)]
  simp only[c1,decide_false,cond_false]
  by_cases c2:x.Load≠0
  ·rw[if_pos c2,show decide (0<x.Load)=true by simp;omega];rfl
  ·rw[if_neg c2,show decide (0<x.Load)=false by simp;omega]
   simp only[cond_false]
   by_cases c3:v.Shift.To≤x.Leave+(Zp p x.Node v.Depot).Secs
   ·rw[if_pos c3];simp only[c3,decide_true,cond_true]
   ·rw[if_neg c3];simp only[c3,decide_false,cond_false]
theorem Qow {F:Nat} (hF:40000≤F) {p:Pr} {v:Ve} (hp:OkP p) (hv:OkV p.Road.Nodes v) {k:Nat} (hk:k≤1000) {x:Vi} (hx:InV p v k x) {w:Wa} {m:Int} {l:List Vi} (hw:At p v w x m l) (hl:l.length≤900) (hm0:0≤m) (hm1:m≤k*6400000):match QaN p v x with
  | .inl y=> ∃w',Vw F w=some (0,w')∧w'.visits=l++[y]∧w'.place.meters=m+(Zp p x.Node v.Depot).Meters
  | .inr e=> ∃w',Vw F w=some (e,w'):=by
 obtain ⟨pl,wp,wv,wl,wvs⟩:=w;obtain ⟨e1,e2,e3,e4,e5⟩:=hw
 simp only at e1 e2 e3 e4 e5
 subst e1 e2 e3 e4;have h1:=hx.t0;have h2:=hx.t1;have h3:=hx.l0;have hlb:=J1 hp ⟨hx.n0,hx.n1⟩ ⟨hv.d0,hv.d1⟩;obtain ⟨c,hc1,hc2⟩:=QlG hF (w:=⟨⟨x.Node,x.Leave,x.Load,m⟩,wp,wv,wl,wvs⟩) hp e5 ⟨hx.n0,hx.n1⟩ ⟨hv.d0,hv.d1⟩;unfold Vw QaN
 simp only[hc1,Option.bind_some,oun]
 by_cases c1:(Zp wp x.Node wv.Depot).Secs<0
 ·rw[if_pos c1,show decide (0≤(Zp wp x.Node wv.Depot).Secs)=false by simp;omega]
  exact ⟨_,rfl⟩
 ·rw[if_neg c1,show decide (0≤(Zp wp x.Node wv.Depot).Secs)=true by simp;omega]
  simp only[Bool.not_true,cond_false]
  rw[Yg (n:=x.Leave+(Zp wp x.Node wv.Depot).Secs) (by omega) (by omega),Yg (n:=m+(Zp wp x.Node wv.Depot).Meters) (by omega) (by omega)]
  by_cases c2:x.Load≠0
  ·rw[if_pos c2,show decide (x.Load=0)=false by simpa using c2]
   exact ⟨_,rfl⟩
  ·rw[if_neg c2]
   simp only[ne_eq,Decidable.not_not] at c2
   simp only[c2,decide_true,Bool.not_true,cond_false]
   by_cases c3:wv.Shift.To≤x.Leave+(Zp wp x.Node wv.Depot).Secs
   ·rw[if_pos c3];simp only[c3,decide_true,cond_true];exact ⟨_,rfl⟩
   ·rw[if_neg c3];simp only[c3,decide_false,cond_false]
    rw[QjS (by simp only[];omega)]
    exact ⟨_,rfl,rfl,rfl⟩
end Go.Proofs.YthpgjbbjpfiniaaGreat
namespace Go.Proofs.YthpgjbbjpfiniaaGreat
open Go.RowKit
set_option linter.unusedSimpArgs false
set_option linter.unusedVariables false
def x0 (v:Ve):Vi:=⟨0,v.Depot,0,0,v.Shift.From,0⟩
theorem Qg0 {p:Pr} {v:Ve} (hv:OkV p.Road.Nodes v):InV p v 0 (x0 v):=by
 have h1:=hv.s0;have h2:=hv.s1;have h3:=hv.s2;have h4:=hv.g0;exact ⟨hv.d0,hv.d1,h1,by simp only[x0];omega,Int.le_refl _,by simp only[x0];omega⟩
def WU (p:Pr) (t:Qa):(Vi×List Vi×Ve)⊕(Int×Int) :=
 if t.Vehicle<0∨((p.Vehicles.length:Nat):Int)≤t.Vehicle then .inr (7,0)
 else if 40<t.Stops.length then .inr (8,0)
 else match p.Vehicles[t.Vehicle.toNat]? with
  | none=> .inr (7,0)
  | some v=>match VC p v [] t.Stops (x0 v) with
   | .inr q=> .inr (q.1,((q.2:Nat):Int))
   | .inl z=>match QaN p v z.1 with
    | .inr e=> .inr (e,((t.Stops.length:Nat):Int))
    | .inl y=> .inl (z.1,z.2++[y],v)
def Qdn (p:Pr) (t:Qa):List Vi×Int×Int:=match WU p t with
 | .inl z=>(z.2.1,0,0)
 | .inr q=>([],q.1,q.2)
def YF (p:Pr) (t:Qa):Int×Int:=match WU p t with
 | .inl z=>(QaS p z.2.2.Depot z.2.1,0)
 | .inr q=>(0,q.1)
theorem Qah {p:Pr} {t:Qa} {q:Int×Int} (h:WU p t= .inr q):q.1≠0:=by
 unfold WU at h
 split at h
 ·injection h with h;subst h;decide
 ·split at h
  ·injection h with h;subst h;decide
  ·split at h
   ·injection h with h;subst h;decide
   ·split at h
    ·rename_i q' hq
     injection h with h;subst h
     exact QfP _ _ _ _ hq
    ·split at h
     ·rename_i e he
      injection h with h;subst h
      exact Qgo he
     ·cases h
theorem Qgs {p:Pr} {v:Ve} (y:Vi): ∀(rest pre:List Int) (x:Vi) (z:Vi×List Vi),VC p v pre rest x= .inl z→QaS p x.Node (z.2++[y])=QaS p x.Node z.2+(Zp p z.1.Node y.Node).Meters
 | [],pre,x,z,h=>by
  injection h with h;subst h
  simp[QaS]
 | s::rest,pre,x,z,h=>by
  unfold VC at h
  split at h
  ·cases h
  ·split at h
   ·rename_i y' _ z' hz
    injection h with h;subst h
    have:=Qgs y rest _ _ _ hz
    simp only[List.cons_append,QaS] at this ⊢
    omega
   ·cases h
theorem Qih {p:Pr} (hp:OkP p) (hc:Qo p=some 0) (t:Qa):ZT p t=some (Qdn p t):=by
 unfold ZT Qdn WU
 rw[hc]
 simp only[Option.bind_some,decide_true,Bool.not_true,cond_false,Zc]
 by_cases h1:t.Vehicle<0∨((p.Vehicles.length:Nat):Int)≤t.Vehicle
 ·rw[if_pos h1,show (decide (t.Vehicle<0)||decide (((p.Vehicles.length:Nat):Int)≤t.Vehicle))=true by simpa using h1]
  rfl
 ·rw[if_neg h1,show (decide (t.Vehicle<0)||decide (((p.Vehicles.length:Nat):Int)≤t.Vehicle))=false by simpa using h1]
  simp only[cond_false]
  by_cases h2:40<t.Stops.length
  ·rw[if_pos h2,show decide ((40:Int)<((t.Stops.length:Nat):Int))=true by simp;omega]
   rfl
  ·rw[if_neg h2,show decide ((40:Int)<((t.Stops.length:Nat):Int))=false by simp;omega]
   simp only[cond_false]
   obtain ⟨i,hi⟩: ∃i:Nat,t.Vehicle=i:=⟨t.Vehicle.toNat,by omega⟩
   have hd:p.Vehicles[i]? =some p.Vehicles[i]:=List.getElem?_eq_getElem (by omega)
   generalize p.Vehicles[i]=v at hd
   have hv:=hp.ve v (List.mem_of_getElem? hd)
   rw[hi]
   simp only[Qs,hd,Option.bind_some,Int.toNat_natCast]
   have hl:=QoF hp hv (t:=t) (by omega) t.Stops 0 (x0 v) [] (t.Stops.length+1) rfl (Nat.zero_le _) (by simp) (Qg0 hv) rfl
   rw[List.take_zero] at hl
   have hl2:iter (Y6 p t v) (t.Stops.length+1) (0,v.Depot,0,0,v.Shift.From,0,[],0)=_:=hl
   rw[hl2]
   cases hf:VC p v [] t.Stops (x0 v) with
   | inr q=>rfl
   | inl z =>
    have hz:=Qdt hp hv t.Stops [] _ _ (Qg0 hv) hf
    simp only[List.length_nil,Nat.zero_add] at hz
    simp only[Option.bind_some,QI,oun,List.nil_append]
    have hh:JE p v ⟨z.1.Stop,z.1.Node,z.1.Arrive,z.1.Start,z.1.Leave,z.1.Load⟩=_:=QoD hp hv (k:=t.Stops.length) (by omega) hz.1
    rw[hh]
    cases hm:QaN p v z.1 with
    | inr e =>
     simp only[Option.bind_some,oun]
     rw[show decide (e=0)=false by simpa using Qgo hm]
     rfl
    | inl y =>
     simp only[Option.bind_some,oun,decide_true,Bool.not_true,cond_false]
     rw[Yj (by simp;omega)]
     rfl
theorem Qfq {F:Nat} (hF:40000≤F) {p:Pr} (hp:OkP p) (t:Qa):match WU p t with
  | .inl z=> ∃w,Vz F p t=some (some w,0,0)∧w.visits=z.2.1∧w.place.meters=QaS p z.2.2.Depot z.2.1
  | .inr q=>Vz F p t=some (none,q.1,q.2):=by
 unfold Vz WU
 simp only[Option.bind_some,Zc]
 by_cases h1:t.Vehicle<0∨((p.Vehicles.length:Nat):Int)≤t.Vehicle
 ·rw[if_pos h1,show (decide (t.Vehicle<0)||decide (((p.Vehicles.length:Nat):Int)≤t.Vehicle))=true by simpa using h1]
  rfl
 ·rw[if_neg h1,show (decide (t.Vehicle<0)||decide (((p.Vehicles.length:Nat):Int)≤t.Vehicle))=false by simpa using h1]
  simp only[cond_false]
  by_cases h2:40<t.Stops.length
  ·rw[if_pos h2,show decide ((40:Int)<((t.Stops.length:Nat):Int))=true by simp;omega]
   rfl
  ·rw[if_neg h2,show decide ((40:Int)<((t.Stops.length:Nat):Int))=false by simp;omega]
   simp only[cond_false]
   obtain ⟨i,hi⟩: ∃i:Nat,t.Vehicle=i:=⟨t.Vehicle.toNat,by omega⟩
   have hd:p.Vehicles[i]? =some p.Vehicles[i]:=List.getElem?_eq_getElem (by omega)
   generalize p.Vehicles[i]=v at hd
   have hv:=hp.ve v (List.mem_of_getElem? hd)
   rw[hi]
   simp only[Qs,hd,Option.bind_some,Int.toNat_natCast]
   have hl:=Qox hF hp hv (t:=t) (by omega) t.Stops 0 (x0 v) ⟨⟨v.Depot,v.Shift.From,0,0⟩,p,v,[],[]⟩ 0 [] (t.Stops.length+1) rfl (Nat.zero_le _) (by simp) (Qg0 hv) ⟨rfl,rfl,rfl,rfl,fun n L h=>by cases h⟩ rfl (Int.le_refl _) (by simp)
   rw[List.take_zero] at hl
   cases hf:VC p v [] t.Stops (x0 v) with
   | inr q =>
    rw[hf] at hl
    obtain ⟨w',hw'⟩:=hl
    rw[show ((0:Nat):Int)=(0:Int) from rfl] at hw'
    simp only[hw',Option.bind_some,oun]
    rw[show decide (q.1=0)=false by simpa using QfP _ _ _ _ hf]
    simp only[cond_false,Option.bind_some,oun]
    rw[show decide (q.1=0)=false by simpa using QfP _ _ _ _ hf]
    rfl
   | inl z =>
    rw[hf] at hl
    obtain ⟨w',hw',hat⟩:=hl
    rw[show ((0:Nat):Int)=(0:Int) from rfl] at hw'
    have hz:=Qdt hp hv t.Stops [] _ _ (Qg0 hv) hf
    simp only[List.length_nil,Nat.zero_add] at hz
    simp only[hw',Option.bind_some,oun,decide_true,cond_true]
    have hb:=Qow hF hp hv (k:=t.Stops.length) (by omega) hz.1 hat (by simp;omega) (by omega) (by omega);cases hm:QaN p v z.1 with
    | inr e =>
     rw[hm] at hb
     obtain ⟨w2,hw2⟩:=hb
     simp only[hw2,Option.bind_some,oun]
     rw[show decide (e=0)=false by simpa using Qgo hm]
     rfl
    | inl y =>
     rw[hm] at hb
     obtain ⟨w2,hw2,g1,g2⟩:=hb
     simp only[hw2,Option.bind_some,oun,decide_true,Bool.not_true,cond_false]
     refine ⟨w2,rfl,by simpa using g1,?_⟩
     rw[g2]
     have h5:=Qgs y _ _ _ _ hf;have h6:y.Node=v.Depot:=by
      unfold QaN at hm
      repeat' split at hm
      all_goals first | (cases hm;done) | (injection hm with hm;subst hm;rfl)
     rw[h6] at h5
     show 0+QaS p (x0 v).Node z.2+_=QaS p (x0 v).Node (z.2++[y])
     omega
theorem Qcy (p:Pr) (hn:p.Road.Edges.length≤600):(Qo p=some 0∧OkP p)∨ ∃e,e≠0∧Qo p=some e:=by
 obtain ⟨e,he⟩:=QlV p hn
 by_cases h:e=0
 ·subst h;exact .inl ⟨he,OkP.of hn he⟩
 ·exact .inr ⟨e,h,he⟩
theorem Qml {F:Nat} (hF:40000≤F) {p:Pr} (hp:OkP p) (hc:Qo p=some 0) (hn:p.Road.Edges.length≤600) (t:Qa):Qcd F p t=some (Qdn p t):=by
 unfold Qcd Qdn
 rw[ZJ (by omega) p hn,hc]
 simp only[Option.bind_some,decide_true,Bool.not_true,cond_false]
 have:=Qfq hF hp t;cases h:WU p t with
 | inr q =>
  rw[h] at this
  simp only[this,Option.bind_some,oun]
  rw[show decide (q.1=0)=false by simpa using Qah h]
  rfl
 | inl z =>
  rw[h] at this
  obtain ⟨w,h1,h2,_⟩:=this
  simp only[h1,Option.bind_some,oun,decide_true,Bool.not_true,cond_false,h2]
theorem Qo2 {F:Nat} (hF:40000≤F) {p:Pr} (hp:OkP p) (hc:Qo p=some 0) (hn:p.Road.Edges.length≤600) (t:Qa):Qdj F p t=some (YF p t):=by
 unfold Qdj YF
 rw[ZJ (by omega) p hn,hc]
 simp only[Option.bind_some,decide_true,Bool.not_true,cond_false]
 have:=Qfq hF hp t;cases h:WU p t with
 | inr q =>
  rw[h] at this
  simp only[this,Option.bind_some,oun]
  rw[show decide (q.1=0)=false by simpa using Qah h]
  rfl
 | inl z =>
  rw[h] at this
  obtain ⟨w,h1,_,h3⟩:=this
  simp only[h1,Option.bind_some,oun,decide_true,Bool.not_true,cond_false,h3]
theorem QhQ {p:Pr} {v:Ve} (hp:OkP p) (hv:OkV p.Road.Nodes v): ∀(rest pre:List Int) (x:Vi) (z:Vi×List Vi),InV p v pre.length x→VC p v pre rest x= .inl z→ ∀y∈z.2,0≤y.Node∧y.Node<p.Road.Nodes
 | [],pre,x,z,hx,h=>by
  injection h with h;subst h
  intro y hy;cases hy
 | s::rest,pre,x,z,hx,h=>by
  unfold VC at h
  split at h
  ·cases h
  ·rename_i y hy
   obtain ⟨h1,_,_⟩:=QeD hp hv hx hy
   split at h
   ·rename_i z' hz
    injection h with h;subst h
    have h3:=QhQ hp hv rest (pre++[s]) y z' (by simpa using h1) hz;intro u hu;rcases List.mem_cons.1 hu with h4 | h4
    ·subst h4;exact ⟨h1.n0,h1.n1⟩
    ·exact h3 u h4
   ·cases h
theorem QlR {p:Pr} (hp:OkP p) (L:List Vi) (hL:L.length≤100) (hnd: ∀y∈L,0≤y.Node∧y.Node<p.Road.Nodes): ∀(rest:List Vi) (k:Nat) (sum a:Int) (n:Nat),L.drop k=rest→k≤L.length→rest.length<n→0≤a∧a<p.Road.Nodes→0≤sum→sum≤k*6400000 →
  iter (ZO p L) n (sum,a,(k:Int))=some (sum+QaS p a rest):=by
 intro rest
 induction rest with
 | nil =>
  intro k sum a n hd hk hn ha hs0 hs1;obtain ⟨n,rfl⟩: ∃f,n=f+1:=⟨n-1,by omega⟩
  have hk2:k=L.length:=by
   have:=congrArg List.length hd
   simp at this;omega
  rw[iter]
  simp only[ZO,oun]
  rw[show decide ((k:Int)<((L.length:Nat):Int))=false by simp;omega]
  simp[QaS,QI]
 | cons y rest ih =>
  intro k sum a n hd hk hn ha hs0 hs1;obtain ⟨n,rfl⟩: ∃f,n=f+1:=⟨n-1,by omega⟩
  have h1:L[k]? =some y:=by
   have:(L.drop k)[0]? =some y:=by rw[hd];rfl
   rw[List.getElem?_drop] at this
   simpa using this
  have h3:L.drop (k+1)=rest:=by rw[←List.drop_drop,hd];rfl
  have hkl:=Qt h1;have hy:=hnd y (List.mem_of_getElem? h1);have hl:=J1 hp ha hy
  rw[iter]
  simp only[ZO,oun]
  rw[show decide ((k:Int)<((L.length:Nat):Int))=true by simp;omega]
  simp only[cond_true,Qs,h1,Option.bind_some,Qhk hp ha hy,QI]
  rw[Wn (by omega),Yg (by omega) (by omega)]
  rw[ih (k+1) _ _ n h3 (by omega) (by simp only[List.length_cons] at hn;omega) hy (by omega) (by omega)]
  simp only[QaS]
  congr 1
  omega
theorem Qey {p:Pr} (hp:OkP p) (hc:Qo p=some 0) (t:Qa):Yp p t=some (YF p t):=by
 unfold Yp
 rw[Qih hp hc]
 unfold Qdn YF;cases h:WU p t with
 | inr q =>
  simp only[Option.bind_some,oun]
  rw[show decide (q.1=0)=false by simpa using Qah h]
  rfl
 | inl z =>
  simp only[Option.bind_some,oun,decide_true,Bool.not_true,cond_false]
  unfold WU at h
  split at h
  ·cases h
  ·rename_i h1
   split at h
   ·cases h
   ·rename_i h2
    obtain ⟨i,hi⟩: ∃i:Nat,t.Vehicle=i:=⟨t.Vehicle.toNat,by omega⟩
    have hd:p.Vehicles[i]? =some p.Vehicles[i]:=List.getElem?_eq_getElem (by omega)
    generalize p.Vehicles[i]=v at hd
    have hv:=hp.ve v (List.mem_of_getElem? hd)
    rw[hi] at h ⊢
    simp only[Qs,hd,Option.bind_some,Int.toNat_natCast] at h ⊢
    cases hf:VC p v [] t.Stops (x0 v) with
    | inr q=>rw[hf] at h;cases h
    | inl w =>
     rw[hf] at h
     simp only[] at h
     cases hm:QaN p v w.1 with
     | inr e=>rw[hm] at h;cases h
     | inl y =>
      rw[hm] at h
      injection h with h;subst h
      have hz:=Qdt hp hv t.Stops [] _ _ (Qg0 hv) hf;have hnn:=QhQ hp hv t.Stops [] _ _ (Qg0 hv) hf
      simp only[List.length_nil,Nat.zero_add] at hz
      have h6:y.Node=v.Depot:=by
       unfold QaN at hm
       repeat' split at hm
       all_goals first | (cases hm;done) | (injection hm with hm;subst hm;rfl)
      have:=QlR hp (w.2++[y]) (by simp;omega) (fun u hu=>by
       rcases List.mem_append.1 hu with h7 | h7
       ·exact hnn u h7
       ·rw[List.mem_singleton.1 h7,h6];exact ⟨hv.d0,hv.d1⟩) (w.2++[y]) 0 0 v.Depot ((w.2++[y]).length+1) rfl (Nat.zero_le _) (by simp) ⟨hv.d0,hv.d1⟩ (Int.le_refl _) (by simp)
      rw[show ((0:Nat):Int)=(0:Int) from rfl,Int.zero_add] at this
      show Option.bind (iter (ZO p (w.2++[y])) ((w.2++[y]).length+1) (0,v.Depot,0)) _=_
      rw[this]
      rfl
end Go.Proofs.YthpgjbbjpfiniaaGreat
namespace Go.Proofs.YthpgjbbjpfiniaaGreat
open Go.RowKit
set_option linter.unusedSimpArgs false
set_option linter.unusedVariables false
structure Fol (p:Pr) (t:Qa) (v:Ve) (z:Vi×List Vi) (y:Vi):Prop where
 t0:0≤t.Vehicle
 t1:t.Vehicle<((p.Vehicles.length:Nat):Int)
 sl:t.Stops.length≤40
 hv:getI p.Vehicles t.Vehicle=some v
 fol:VC p v [] t.Stops (x0 v)= .inl z
 hom:QaN p v z.1= .inl y
theorem Qf7 {p:Pr} {t:Qa} {u:Vi×List Vi×Ve} (h:WU p t= .inl u): ∃z y,Fol p t u.2.2 z y∧u.1=z.1∧u.2.1=z.2++[y]:=by
 unfold WU at h
 split at h
 ·cases h
 ·rename_i h1
  split at h
  ·cases h
  ·rename_i h2
   split at h
   ·cases h
   ·rename_i v hv
    split at h
    ·cases h
    ·rename_i z hf
     split at h
     ·cases h
     ·rename_i y hm
      injection h with h;subst h
      exact ⟨z,y,⟨by omega,by omega,by omega,by unfold getI;rw[if_pos (by omega)];exact hv,hf,hm⟩,rfl,rfl⟩
end Go.Proofs.YthpgjbbjpfiniaaGreat
namespace Go.Proofs.YthpgjbbjpfiniaaGreat
open Go.RowKit
set_option linter.unusedSimpArgs false
set_option linter.unusedVariables false
def vec (n:Nat) (f:Nat→Nat):List Int:=(List.range n).map fun d=>((f d:Nat):Int)
theorem VJ (n:Nat) (f:Nat→Nat):(vec n f).length=n:=by simp[vec]
theorem Qga {n i:Nat} (f:Nat→Nat) (h:i<n):(vec n f)[i]? =some ((f i:Nat):Int):=by simp[vec,h]
theorem Qb5 {n:Nat} {f g:Nat→Nat} (h: ∀d,d<n→f d=g d):vec n f=vec n g:=by
 unfold vec;apply List.map_congr_left;intro d hd
 rw[h d (List.mem_range.1 hd)]
theorem Qpz {n i:Nat} (f:Nat→Nat) (h:i<n) (hb:f i<1000000):Yi (vec n f) (i:Int) (w64 (((f i:Nat):Int)+1))=vec n (fun d=>f d+if d=i then 1 else 0):=by
 rw[Yg (by omega) (by omega)]
 apply List.ext_getElem?;intro j;unfold Yi
 rw[Int.toNat_natCast,List.getElem?_set]
 rcases Nat.lt_or_ge j n with hj | hj
 ·rw[Qga _ hj,Qga _ hj,VJ]
  by_cases hij:i=j
  ·subst hij;simp[h]
  ·have: ¬j=i:=fun e=>hij e.symm
   simp[hij,this]
 ·rw[List.getElem?_eq_none (by rw[VJ];exact hj),List.getElem?_eq_none (by rw[VJ];exact hj)]
  split
  ·omega
  ·rfl
theorem Qej (n:Nat) (h:n≤1000):QbQ (0:Int) ((n:Nat):Int)=some (vec n fun _=>0):=by
 unfold QbQ
 rw[if_pos (by omega)]
 congr 1
 apply List.ext_getElem?;intro j
 rw[Int.toNat_natCast]
 rcases Nat.lt_or_ge j n with hj | hj
 ·rw[Qga _ hj,List.getElem?_replicate,if_pos hj];rfl
 ·rw[List.getElem?_eq_none (by simp;exact hj),List.getElem?_eq_none (by rw[VJ];exact hj)]
def cn (L:List Int) (d:Nat):Nat:=L.count (d:Int)
theorem Qmq (L:List Int) (s:Int) (d:Nat):cn (L++[s]) d=cn L d+if s=(d:Int) then 1 else 0:=by
 unfold cn
 rw[List.count_append,List.count_singleton]
 simp
theorem QiV (L:List Int) (d:Nat):cn L d≤L.length:=List.count_le_length
def okS (n:Nat) (s:Int):Prop:=s= -1∨(0≤s∧s<(n:Int))
theorem Qgb {n:Nat} {L:List Int} {k:Nat} {s:Int} (f:Nat→Nat) (hs:L[k]? =some s) (h0:0≤s) (h1:s<(n:Int)) (hb:f s.toNat+L.length<1000000) :
  getI (vec n fun d=>f d+cn (L.take k) d) s=some ((f s.toNat+cn (L.take k) s.toNat:Nat):Int)∧Yi (vec n fun d=>f d+cn (L.take k) d) s (w64 (((f s.toNat+cn (L.take k) s.toNat:Nat):Int)+1))=vec n fun d=>f d+cn (L.take (k+1)) d:=by
 obtain ⟨i,rfl⟩: ∃i:Nat,s=i:=⟨s.toNat,by omega⟩
 have hc:=QiV (L.take k) i;have hk:=Qt hs
 rw[Yk (Nat.le_of_lt hk)] at hc
 rw[Int.toNat_natCast] at *
 refine ⟨by rw[Qs,Qga _ (by omega)],?_⟩
 rw[Qpz (fun d=>f d+cn (L.take k) d) (by omega) (by show f i+cn (L.take k) i<1000000;omega)]
 refine Qb5 fun d _=> ?_
 rw[YK hs,Qmq]
 by_cases h:d=i
 ·subst h;simp;omega
 ·have: ¬((i:Int)=(d:Int)):=by omega
  simp[h,this]
theorem Qmp {L:List Int} {k:Nat} {s:Int} (hs:L[k]? =some s) (h0:s<0) (f:Nat→Nat) (n:Nat):(vec n fun d=>f d+cn (L.take (k+1)) d)=vec n fun d=>f d+cn (L.take k) d:=by
 refine Qb5 fun d _=> ?_
 rw[YK hs,Qmq,if_neg (by omega)]
 rfl
theorem Qmc {n:Nat} (t:Qa) (f:Nat→Nat) (hn:t.Stops.length≤1000) (hf: ∀d,f d≤900000) (ho: ∀s∈t.Stops,okS n s) :
  iter (Qak t) (((t.Stops.length:Nat):Int).toNat+1) (vec n f,0)=some (vec n fun d=>f d+cn t.Stops d) ∧
  iter (Zh t) (((t.Stops.length:Nat):Int).toNat+1) (vec n f,0)=some (vec n fun d=>f d+cn t.Stops d):=by
 have hz:(vec n fun d=>f d+cn (t.Stops.take 0) d)=vec n f:=Qb5 fun d _=>by simp[cn]
 have hx:(vec n fun d=>f d+cn (t.Stops.take t.Stops.length) d)=vec n fun d=>f d+cn t.Stops d:=by rw[List.take_length]
 constructor
 ·have:=YX (body:=Qak t) t.Stops (fun k=>vec n fun d=>f d+cn (t.Stops.take k) d) (fun m k=>(m,k)) (fun _ _=>none) (vec n fun d=>f d+cn t.Stops d) (by omega) (fun k s hs _=> ?_) (fun _=>by simp only[Qak,oun,hx];simp) (((t.Stops.length:Nat):Int).toNat+1) (by simp)
  ·rw[QW _ _ (fun _ _ _=>rfl),hz] at this
   exact this
  ·have hk:=Qt hs;have hk2:((k:Int)<(t.Stops.length:Nat)):=by omega
   simp only[Qak,oun,hk2,decide_true,cond_true,Qs,hs,Option.bind_some,Je]
   rcases ho s (List.mem_of_getElem? hs) with h1 | ⟨h1,h2⟩
   ·simp only[h1,decide_true,Bool.not_true,cond_false,Option.bind_some]
    rw[Qmp hs (by omega)]
   ·rw[show decide (s= -1)=false by simp;omega]
    obtain ⟨g1,g2⟩:=Qgb f hs h1 h2 (by have:=hf s.toNat;omega)
    simp only[Bool.not_false,cond_true,g1,Option.bind_some,g2]
 ·have:=YX (body:=Zh t) t.Stops (fun k=>vec n fun d=>f d+cn (t.Stops.take k) d) (fun m k=>(m,k)) (fun _ _=>none) (vec n fun d=>f d+cn t.Stops d) (by omega) (fun k s hs _=> ?_) (fun _=>by simp only[Zh,oun,hx];simp) (((t.Stops.length:Nat):Int).toNat+1) (by simp)
  ·rw[QW _ _ (fun _ _ _=>rfl),hz] at this
   exact this
  ·have hk:=Qt hs;have hk2:((k:Int)<(t.Stops.length:Nat)):=by omega
   simp only[Zh,oun,hk2,decide_true,cond_true,Qs,hs,Option.bind_some,Je]
   rcases ho s (List.mem_of_getElem? hs) with h1 | ⟨h1,h2⟩
   ·rw[show decide (0≤s)=false by simp;omega]
    simp only[cond_false,Option.bind_some]
    rw[Qmp hs (by omega)]
   ·rw[show decide (0≤s)=true by simpa using h1]
    obtain ⟨g1,g2⟩:=Qgb f hs h1 h2 (by have:=hf s.toNat;omega)
    simp only[cond_true,g1,Option.bind_some,g2]
end Go.Proofs.YthpgjbbjpfiniaaGreat
namespace Go.Proofs.YthpgjbbjpfiniaaGreat
open Go.RowKit
set_option linter.unusedSimpArgs false
set_option linter.unusedVariables false
abbrev To:=Qa
def tn (ts:List To) (d:Nat):Nat:=(ts.map fun t=>cn t.Stops d).sum
theorem Qpy (ts:List To) (t:To) (d:Nat):tn (ts++[t]) d=tn ts d+cn t.Stops d:=by simp[tn]
theorem QpJ {ts:List To} (h: ∀t∈ts,t.Stops.length≤1000) (d:Nat):tn ts d≤ts.length*1000:=by
 induction ts with
 | nil=>simp[tn]
 | cons t ts ih =>
  have h1:=ih fun u hu=>h u (List.mem_cons_of_mem _ hu);have h2:=QiV t.Stops d;have h3:=h t List.mem_cons_self
  simp only[tn,List.map_cons,List.sum_cons,List.length_cons] at h1 ⊢
  omega
theorem Qcp {n:Nat} (x:Qf) (f:Nat→Nat) (hn:x.Tours.length≤100) (hf: ∀d,f d≤1000) (hl: ∀t∈x.Tours,t.Stops.length≤1000) (ho: ∀t∈x.Tours,∀s∈t.Stops,okS n s) :
  iter (Qal x) (((x.Tours.length:Nat):Int).toNat+1) (vec n f,0)=some (vec n fun d=>f d+tn x.Tours d) ∧
  iter (Zi x) (((x.Tours.length:Nat):Int).toNat+1) (vec n f,0)=some (vec n fun d=>f d+tn x.Tours d):=by
 have hz:(vec n fun d=>f d+tn (x.Tours.take 0) d)=vec n f:=Qb5 fun d _=>by simp[tn]
 have hx:(vec n fun d=>f d+tn (x.Tours.take x.Tours.length) d)=vec n fun d=>f d+tn x.Tours d:=by rw[List.take_length]
 have hstep: ∀(k:Nat) (t:To),x.Tours[k]? =some t→_:=fun k t ht=>Qmc (n:=n) t (fun d=>f d+tn (x.Tours.take k) d) (hl t (List.mem_of_getElem? ht)) (fun d=>by
  have h1:=hf d;have h2:=QpJ (ts:=x.Tours.take k) (fun u hu=>hl u (List.mem_of_mem_take hu)) d;have h3:=Yk (Nat.le_of_lt (Qt ht));have h4:=Qt ht
  omega) (ho t (List.mem_of_getElem? ht))
 have hnext: ∀(k:Nat) (t:To),x.Tours[k]? =some t→(vec n fun d=>f d+tn (x.Tours.take k) d+cn t.Stops d)=vec n fun d=>f d+tn (x.Tours.take (k+1)) d:=fun k t ht=>Qb5 fun d _=>by
  rw[YK ht,Qpy];omega
 constructor
 ·have:=YX (body:=Qal x) x.Tours (fun k=>vec n fun d=>f d+tn (x.Tours.take k) d) (fun m k=>(m,k)) (fun _ _=>none) (vec n fun d=>f d+tn x.Tours d) (by omega) (fun k t ht _=> ?_) (fun _=>by simp only[Qal,oun,hx];simp) (((x.Tours.length:Nat):Int).toNat+1) (by simp)
  ·rw[QW _ _ (fun _ _ _=>rfl),hz] at this
   exact this
  ·have hk:=Qt ht;have hk2:((k:Int)<(x.Tours.length:Nat)):=by omega
   simp only[Qal,oun,hk2,decide_true,cond_true,Qs,ht,Option.bind_some,Je]
   rw[(hstep k t ht).1]
   simp only[Option.bind_some,hnext k t ht]
 ·have:=YX (body:=Zi x) x.Tours (fun k=>vec n fun d=>f d+tn (x.Tours.take k) d) (fun m k=>(m,k)) (fun _ _=>none) (vec n fun d=>f d+tn x.Tours d) (by omega) (fun k t ht _=> ?_) (fun _=>by simp only[Zi,oun,hx];simp) (((x.Tours.length:Nat):Int).toNat+1) (by simp)
  ·rw[QW _ _ (fun _ _ _=>rfl),hz] at this
   exact this
  ·have hk:=Qt ht;have hk2:((k:Int)<(x.Tours.length:Nat)):=by omega
   simp only[Zi,oun,hk2,decide_true,cond_true,Qs,ht,Option.bind_some,Je]
   rw[(hstep k t ht).2]
   simp only[Option.bind_some,hnext k t ht]
def Qfb (n:Nat) (L:List Int):Bool:=L.any fun s=>decide (s<0)||decide ((n:Int)≤s)
theorem Qc7 {n:Nat} (x:Qf) (f:Nat→Nat) (hn:x.Left.length≤1000) (hf: ∀d,f d≤500000) :
  iter (Qaj x) (((x.Left.length:Nat):Int).toNat+1) (vec n f,0)=some (bif Qfb n x.Left then .inr (0,7) else .inl (vec n fun d=>f d+cn x.Left d)) ∧
  iter (Zj x) (((x.Left.length:Nat):Int).toNat+1) (vec n f,0)=some (bif Qfb n x.Left then .inr ([],7) else .inl (vec n fun d=>f d+cn x.Left d)):=by
 have hz:(vec n fun d=>f d+cn (x.Left.take 0) d)=vec n f:=Qb5 fun d _=>by simp[cn]
 have hx:(vec n fun d=>f d+cn (x.Left.take x.Left.length) d)=vec n fun d=>f d+cn x.Left d:=by rw[List.take_length]
 constructor
 ·have:=YX (body:=Qaj x) x.Left (fun k=>vec n fun d=>f d+cn (x.Left.take k) d) (fun m k=>(m,k)) (fun _ s=>bif decide (s<0)||decide ((n:Int)≤s) then some (.inr (0,7)) else none) (.inl (vec n fun d=>f d+cn x.Left d)) (by omega) (fun k s hs _=> ?_) (fun _=>by simp only[Qaj,oun,hx];simp) (((x.Left.length:Nat):Int).toNat+1) (by simp)
  ·rw[Qkf,hz] at this
   exact this
  ·have hk:=Qt hs;have hk2:((k:Int)<(x.Left.length:Nat)):=by omega
   simp only[Qaj,oun,hk2,decide_true,cond_true,Qs,hs,Option.bind_some,Zc,VJ]
   cases hb:(decide (s<0)||decide ((n:Int)≤s)) with
   | true=>rfl
   | false =>
    simp only[Bool.or_eq_false_iff,decide_eq_false_iff_not] at hb
    obtain ⟨g1,g2⟩:=Qgb (n:=n) f hs (by omega) (by omega) (by have:=hf s.toNat;omega)
    simp only[cond_false,g1,Option.bind_some,g2,Je]
 ·have:=YX (body:=Zj x) x.Left (fun k=>vec n fun d=>f d+cn (x.Left.take k) d) (fun m k=>(m,k)) (fun _ s=>bif decide (s<0)||decide ((n:Int)≤s) then some (.inr ([],7)) else none) (.inl (vec n fun d=>f d+cn x.Left d)) (by omega) (fun k s hs _=> ?_) (fun _=>by simp only[Zj,oun,hx];simp) (((x.Left.length:Nat):Int).toNat+1) (by simp)
  ·rw[Qkf,hz] at this
   exact this
  ·have hk:=Qt hs;have hk2:((k:Int)<(x.Left.length:Nat)):=by omega
   simp only[Zj,oun,hk2,decide_true,cond_true,Qs,hs,Option.bind_some,Zc,VJ]
   cases hb:(decide (s<0)||decide ((n:Int)≤s)) with
   | true=>rfl
   | false =>
    simp only[Bool.or_eq_false_iff,decide_eq_false_iff_not] at hb
    obtain ⟨g1,g2⟩:=Qgb (n:=n) f hs (by omega) (by omega) (by have:=hf s.toNat;omega)
    simp only[cond_false,g1,Option.bind_some,g2,Je]
def Qg1 (L:List Int):Int:=bif L.any (fun c=>decide (1<c)) then 6 else bif L.any (fun c=>decide (c=0)) then 38 else 0
theorem Qhh (L:List Int) (hn:L.length≤1000):Zx L=some (L.any fun c=>decide (1<c)):=by
 unfold Zx J6;have:=YN (body:=Zy L) L (fun k y=>bif decide (1<y) then some (.inr (k:Int)) else none) (.inl ():Unit⊕Int) (by omega) (fun k y hy=> ?_) (by simp[Zy]) (((L.length:Nat):Int).toNat+1) (by simp)
 ·rw[this]
  rcases Qkg (fun y:Int=>decide (1<y)) L 0 with ⟨h1,h2⟩ | ⟨j,h1,h2⟩
  ·rw[h1,h2];rfl
  ·rw[h1,h2]
   simp only[Option.bind_some,QI]
   simp
 ·have hk:=Qt hy;have hk2:((k:Int)<(L.length:Nat)):=by omega
  simp only[Zy,hk2,decide_true,cond_true,Qs,hy,Option.bind_some,QcK]
  cases decide (1<y)<;>rfl
theorem Qhl (L:List Int) (hn:L.length≤1000):YD L 0=some (L.any fun c=>decide (c=0)):=by
 rw[QcA L hn]
 congr 1
 rw[Bool.eq_iff_iff]
 simp only[List.any_eq_true,decide_eq_true_eq]
 exact ⟨fun h=>⟨0,h,rfl⟩,fun ⟨y,h1,h2⟩=>h2▸h1⟩
theorem Qni (L:List Int) (hn:L.length≤1000):iter (YS L) (((L.length:Nat):Int).toNat+1) (false,0)=some (bif L.any (fun c=>decide (1<c)) then .inr 6 else .inl (L.any fun c=>decide (c=0))):=by
 have:=YX (body:=YS L) L (fun k=>(L.take k).any fun c=>decide (c=0)) (fun m k=>(m,k)) (fun _ c=>bif decide (1<c) then some (.inr 6) else none) (.inl (L.any fun c=>decide (c=0))) (by omega) (fun k c hc _=> ?_) (fun _=>by simp only[YS,oun,List.take_length];simp) (((L.length:Nat):Int).toNat+1) (by simp)
 ·rw[Qkf] at this
  simpa using this
 ·have hk:=Qt hc;have hk2:((k:Int)<(L.length:Nat)):=by omega
  simp only[YS,oun,hk2,decide_true,cond_true,Qs,hc,Option.bind_some]
  rw[YK hc,List.any_append]
  cases h1:decide (1<c) with
  | true=>rfl
  | false =>
   simp only[cond_false]
   cases (L.take k).any fun c=>decide (c=0)
   ·simp[QI,Je]
   ·simp[QI,Je]
end Go.Proofs.YthpgjbbjpfiniaaGreat
namespace Go.Proofs.YthpgjbbjpfiniaaGreat
open Go.RowKit
set_option linter.unusedSimpArgs false
set_option linter.unusedVariables false
theorem Qmb {p:Pr} {v:Ve} {pre:List Int} {x y:Vi} {s:Int} (hs:Qax p v pre x s= .inl y):okS p.Demands.length s:=by
 unfold Qax at hs;unfold okS
 split at hs
 ·exact .inl (by assumption)
 ·split at hs
  ·cases hs
  ·exact .inr (by omega)
theorem QhR {p:Pr} {v:Ve}: ∀(rest pre:List Int) (x:Vi) (z:Vi×List Vi),VC p v pre rest x= .inl z→ ∀s∈rest,okS p.Demands.length s
 | [],_,_,_,_,s,hs=>by cases hs
 | a::rest,pre,x,z,h,s,hs=>by
  unfold VC at h
  split at h
  ·cases h
  ·rename_i y hy
   split at h
   ·rename_i z' hz
    rcases List.mem_cons.1 hs with h1 | h1
    ·subst h1;exact Qmb hy
    ·exact QhR rest _ _ _ hz s h1
   ·cases h
theorem VB {p:Pr} (hp:OkP p) {t:Qa} {u:Vi×List Vi×Ve} (h:WU p t= .inl u):0≤QaS p u.2.2.Depot u.2.1∧QaS p u.2.2.Depot u.2.1≤262400000∧(∀s∈t.Stops,okS p.Demands.length s)∧t.Stops.length≤40:=by
 obtain ⟨z,y,hf,_,e2⟩:=Qf7 h;have hv:=hp.ve u.2.2 (by
  have:=hf.hv;unfold getI at this
  rw[if_pos hf.t0] at this
  exact List.mem_of_getElem? this)
 have hz:=Qdt hp hv t.Stops [] _ _ (Qg0 hv) hf.fol;have hm:=Qgs y _ _ _ _ hf.fol;have hsl:=hf.sl;have h6:y.Node=u.2.2.Depot:=by
  have hom:=hf.hom;unfold QaN at hom
  repeat' split at hom
  all_goals first | (cases hom;done) | (injection hom with hom;subst hom;rfl)
 have hlb:=J1 hp ⟨hz.1.n0,hz.1.n1⟩ ⟨hv.d0,hv.d1⟩
 rw[h6] at hm
 rw[e2]
 refine ⟨?_,?_,QhR _ _ _ _ hf.fol,hf.sl⟩
 ·show 0≤QaS p (x0 u.2.2).Node (z.2++[y])
  omega
 ·show QaS p (x0 u.2.2).Node (z.2++[y])≤262400000
  omega
def QcX (p:Pr) (ts:List To) (k:Nat) (t:To):Option Int:=bif (ts.take k).any (fun u=>decide (u.Vehicle=t.Vehicle)) then some 6 else match WU p t with
 | .inl _=>none
 | .inr q=>some q.1
def Zm (p:Pr) (ts:List To):Int:=Qay (fun t=>(YF p t).1) ts
theorem QiP (L:List To) (hn:L.length≤1000) (x:To):Za L x=some (L.any fun y=>decide (y.Vehicle=x.Vehicle)):=by
 unfold Za JR;have:=YN (body:=Zb L x) L (fun k y=>bif decide (y.Vehicle=x.Vehicle) then some (.inr (k:Int)) else none) (.inl ():Unit⊕Int) (by omega) (fun k y hy=> ?_) (by simp[Zb]) (((L.length:Nat):Int).toNat+1) (by simp)
 ·rw[this]
  rcases Qkg (fun y:To=>decide (y.Vehicle=x.Vehicle)) L 0 with ⟨h1,h2⟩ | ⟨j,h1,h2⟩
  ·rw[h1,h2];rfl
  ·rw[h1,h2]
   simp only[Option.bind_some,QI]
   simp
 ·have hk:=Qt hy;have hk2:((k:Int)<(L.length:Nat)):=by omega
  simp only[Zb,hk2,decide_true,cond_true,Qs,hy,Option.bind_some,QcJ]
  cases decide (y.Vehicle=x.Vehicle)<;>rfl
theorem QcY {p:Pr} {ts:List To} {k:Nat} {t:To} (h:QcX p ts k t=none): ∃u,WU p t= .inl u:=by
 unfold QcX at h;cases hb:(ts.take k).any (fun u=>decide (u.Vehicle=t.Vehicle)) with
 | true=>rw[hb] at h;cases h
 | false =>
  rw[hb] at h
  cases hr:WU p t with
  | inl u=>exact ⟨u,rfl⟩
  | inr q=>rw[hr] at h;cases h
theorem Qfd {p:Pr} (hp:OkP p) {ts:List To}: ∀(k:Nat),k≤ts.length→(∀(j:Nat) (y:To),j<k→ts[j]? =some y→QcX p ts j y=none)→0≤Zm p (ts.take k)∧Zm p (ts.take k)≤k*262400000
 | 0,_,_=>by simp[Zm,Qay]
 | k+1,hk,h=>by
  have h1:=Qfd hp k (by omega) fun j y hj=>h j y (by omega);have hx:ts[k]? =some ts[k]:=List.getElem?_eq_getElem (by omega);obtain ⟨u,hu⟩:=QcY (h k _ (by omega) hx);have h2:=VB hp hu;have h3:(YF p ts[k]).1=QaS p u.2.2.Depot u.2.1:=by unfold YF;rw[hu]
  rw[YK hx]
  unfold Zm at h1 ⊢
  rw[Qb4]
  have h4:Qay (fun t=>(YF p t).1) [ts[k]]=(YF p ts[k]).1:=by simp[Qay]
  rw[h4]
  omega
theorem QeO {F:Nat} (hF:40000≤F) {p:Pr} (hp:OkP p) (x:Qf) (hn:x.Tours.length≤30) :
  iter (Qai F p x) (((x.Tours.length:Nat):Int).toNat+1) (0,0)=some (YI (fun k t=>(QcX p x.Tours k t).map fun c=> .inr (0,c)) (.inl (Zm p x.Tours)) 0 x.Tours):=by
 have:=YX (body:=Qai F p x) x.Tours (fun k=>Zm p (x.Tours.take k)) (fun m k=>(m,k)) (fun k t=>(QcX p x.Tours k t).map fun c=> .inr (0,c)) (.inl (Zm p x.Tours)) (by omega) (fun k t ht hno=> ?_) (fun _=>by simp[Qai,oun]) (((x.Tours.length:Nat):Int).toNat+1) (by simp)
 ·exact this
 ·have hk:=Qt ht;have hk2:((k:Int)<(x.Tours.length:Nat)):=by omega
  have hb:=Qfd hp k (Nat.le_of_lt hk) (fun j y hj hy=>by
   have:=hno j y hj hy;cases h:QcX p x.Tours j y with
   | none=>rfl
   | some c=>rw[h] at this;cases this)
  simp only[Qai,oun,hk2,decide_true,cond_true,Qs,ht,Option.bind_some,VR (Nat.le_of_lt hk)]
  rw[QiP _ (by simp;omega)]
  simp only[Option.bind_some]
  unfold QcX;cases (x.Tours.take k).any (fun u=>decide (u.Vehicle=t.Vehicle)) with
  | true=>rfl
  | false =>
   simp only[cond_false]
   have hfo:=Qfq hF hp t;cases hr:WU p t with
   | inr q =>
    rw[hr] at hfo
    simp only[hfo,Option.bind_some]
    rw[show decide (q.1=0)=false by simpa using Qah hr]
    rfl
   | inl u =>
    rw[hr] at hfo
    obtain ⟨w,h1,_,h3⟩:=hfo;have h2:=VB hp hr;have h4:(YF p t).1=QaS p u.2.2.Depot u.2.1:=by unfold YF;rw[hr]
    simp only[h1,Option.bind_some,decide_true,Bool.not_true,cond_false,h3,Option.map_none,Je]
    rw[Yg (n:=Zm p (x.Tours.take k)+QaS p u.2.2.Depot u.2.1) (by omega) (by omega),YK ht]
    unfold Zm
    rw[Qb4]
    have h5:Qay (fun t=>(YF p t).1) [t]=(YF p t).1:=by simp[Qay]
    rw[h5,h4]
theorem Qmt {p:Pr} (hp:OkP p) (hc:Qo p=some 0) (x:Qf) (hn:x.Tours.length≤30) :
  iter (YR p x) (((x.Tours.length:Nat):Int).toNat+1) 0=some (YI (fun k t=>(QcX p x.Tours k t).map fun c=> .inr c) (.inl ()) 0 x.Tours):=by
 refine YN (body:=YR p x) x.Tours (fun k t=>(QcX p x.Tours k t).map fun c=> .inr c) (.inl ()) (by omega) (fun k t ht=> ?_) (by simp[YR]) (((x.Tours.length:Nat):Int).toNat+1) (by simp);have hk:=Qt ht;have hk2:((k:Int)<(x.Tours.length:Nat)):=by omega
 have hin:=YN (body:=ZH x (k:Int) t) (x.Tours.take k) (fun _ u=>bif decide (u.Vehicle=t.Vehicle) then some (.inr 6) else none) (.inl ():Unit⊕Int) (by simp;omega) (fun j u hu=>by
  have hj:=Qt hu
  rw[Yk (Nat.le_of_lt hk)] at hj
  rw[List.getElem?_take,if_pos hj] at hu
  have hj2:((j:Int)<(k:Int)):=by omega
  simp only[ZH,hj2,decide_true,cond_true,Qs,hu,Option.bind_some]
  cases decide (u.Vehicle=t.Vehicle)<;>rfl) (by rw[Yk (Nat.le_of_lt hk)];simp[ZH]) ((k:Int).toNat+1) (by rw[Yk (Nat.le_of_lt hk)];omega)
 rw[Qkf] at hin
 simp only[YR,hk2,decide_true,cond_true,Qs,ht,Option.bind_some]
 rw[hin]
 unfold QcX;cases (x.Tours.take k).any (fun u=>decide (u.Vehicle=t.Vehicle)) with
 | true=>rfl
 | false =>
  simp only[cond_false,Option.bind_some,QI,Qih hp hc]
  unfold Qdn;cases hr:WU p t with
  | inr q =>
   simp only[oun]
   rw[show decide (q.1=0)=false by simpa using Qah hr]
   rfl
  | inl u=>rfl
end Go.Proofs.YthpgjbbjpfiniaaGreat
namespace Go.Proofs.YthpgjbbjpfiniaaGreat
open Go.RowKit
set_option linter.unusedSimpArgs false
set_option linter.unusedVariables false
theorem Qfl {α γ:Type} (g:Nat→α→Option γ): ∀(l:List α) (k:Nat),(∀(i:Nat) (x:α),l[i]? =some x→g (k+i) x=none) ∨
  ∃(c:γ) (i:Nat) (x:α),g i x=some c∧ ∀{ρ:Type} (h:γ→ρ) (fin:ρ),YI (fun k t=>(g k t).map h) fin k l=h c
 | [],k=> .inl fun i x h=>by simp at h
 | y::l,k=>by
  cases hg:g k y with
  | some c=>exact .inr ⟨c,k,y,hg,fun h fin=>by simp only[YI,hg,Option.map_some]⟩
  | none =>
   rcases Qfl g l (k+1) with h1 | ⟨c,i,x,h1,h2⟩
   ·refine .inl fun i x hx=> ?_;cases i with
    | zero=>simp at hx;subst hx;exact hg
    | succ i=>have:=h1 i x (by simpa using hx);rwa [show k+(i+1)=k+1+i by omega]
   ·exact .inr ⟨c,i,x,h1,fun h fin=>by simp only[YI,hg,Option.map_none];exact h2 h fin⟩
theorem Qkj {p:Pr} {ts:List To} {k:Nat} {t:To} {c:Int} (h:QcX p ts k t=some c):c≠0:=by
 unfold QcX at h;cases hb:(ts.take k).any (fun u=>decide (u.Vehicle=t.Vehicle)) with
 | true=>rw[hb] at h;injection h with h;subst h;decide
 | false =>
  rw[hb] at h
  simp only[cond_false] at h
  cases hr:WU p t with
  | inl u=>rw[hr] at h;cases h
  | inr q=>rw[hr] at h;injection h with h;subst h;exact Qah hr
theorem Qhn (x:Qf):(∃b,Zg x=some b)∧(Zg x=some false→x.Tours.length≤30∧x.Left.length≤100):=by
 unfold Zg
 simp only[Zc,Option.bind_some]
 by_cases h:(decide ((30:Int)<((x.Tours.length:Nat):Int))||decide ((100:Int)<((x.Left.length:Nat):Int)))=true
 ·rw[h]
  exact ⟨⟨true,rfl⟩,fun e=>by cases e⟩
 ·rw[Bool.not_eq_true] at h
  rw[h]
  simp only[Bool.or_eq_false_iff,decide_eq_false_iff_not] at h
  obtain ⟨o,ho⟩:=Qbo (body:=Zw x) (N:=x.Tours.length) (by omega) (fun k hk=>by
   obtain ⟨t,ht⟩: ∃t,x.Tours[k]? =some t:=⟨_,List.getElem?_eq_getElem hk⟩
   have hk2:((k:Int)<((x.Tours.length:Nat):Int)):=by omega
   simp only[Zw,hk2,decide_true,cond_true,Qs,ht,Option.bind_some,Wn (show k<9223372036854775807 by omega)]
   cases decide ((100:Int)<((t.Stops.length:Nat):Int)) with
   | true=>exact .inl ⟨_,rfl⟩
   | false=>exact .inr rfl) ⟨_,by simp[Zw];rfl⟩ x.Tours.length 0 (by omega)
  refine ⟨?_,fun _=>by omega⟩
  simp only[cond_false]
  rw[show (((x.Tours.length:Nat):Int).toNat+1)=x.Tours.length+1 by simp,show (0:Int)=((0:Nat):Int) from rfl,ho]
  cases o with
  | inl u=>exact ⟨false,rfl⟩
  | inr b=>exact ⟨b,rfl⟩
theorem Qnm {F:Nat} (hF:40000≤F) {p:Pr} (hn:p.Road.Edges.length≤600) (x:Qf) (hx:x.Tours.length≤30) (hl:x.Left.length≤100) :
  ∃s e,Zl F p x=some (s,e)∧QO p x=some e∧Yf p x=some (s,e):=by
 rcases Qcy p hn with ⟨g1,g2⟩ | ⟨e,g1,g2⟩
 ·have hdl:=g2.dl;have ht: ∀e,QO p x=some e→e≠0→Yf p x=some (0,e):=fun e he h0=>by
   unfold Yf
   rw[he]
   simp only[Option.bind_some]
   rw[show decide (e=0)=false by simpa using h0]
   rfl
  rcases Qfl (QcX p x.Tours) x.Tours 0 with h1 | ⟨c,i,t,h1,h2⟩
  ·simp only[Nat.zero_add] at h1
   have hall: ∀t∈x.Tours,(∀s∈t.Stops,okS p.Demands.length s)∧t.Stops.length≤40:=fun t htm=>by
    obtain ⟨i,hi⟩:=List.getElem?_of_mem htm;obtain ⟨u,hu⟩:=QcY (h1 i t hi);exact (VB g2 hu).2.2
   have q1:=QeO hF g2 x hx
   rw[QW _ _ (fun i t hi=>by rw[Nat.zero_add,h1 i t hi];rfl)] at q1
   have q2:=Qmt g2 g1 x hx
   rw[QW _ _ (fun i t hi=>by rw[Nat.zero_add,h1 i t hi];rfl)] at q2
   have q3:=(Qc7 (n:=p.Demands.length) x (fun _=>0) (by omega) (fun _=>Nat.zero_le _)).1;have q4:=(Qcp (n:=p.Demands.length) x (fun d=>0+cn x.Left d) (by omega) (fun d=>by have:=QiV x.Left d;omega) (fun t htm=>by have:=(hall t htm).2;omega) (fun t htm=>(hall t htm).1)).1;have q5:=(Qcp (n:=p.Demands.length) x (fun _=>0) (by omega) (fun d=>by omega) (fun t htm=>by have:=(hall t htm).2;omega) (fun t htm=>(hall t htm).1)).2;have q6:=(Qc7 (n:=p.Demands.length) x (fun d=>0+tn x.Tours d) (by omega) (fun d=>by have:=QpJ (ts:=x.Tours) (fun t htm=>by have:=(hall t htm).2;omega) d;omega)).2;have q7:(vec p.Demands.length fun d=>0+tn x.Tours d+cn x.Left d)=vec p.Demands.length fun d=>0+cn x.Left d+tn x.Tours d:=Qb5 fun d _=>by omega
   rw[q7] at q6
   have hfe:QO p x=some (bif Qfb p.Demands.length x.Left then 7 else Qg1 (vec p.Demands.length fun d=>0+cn x.Left d+tn x.Tours d)):=by
    unfold QO W3
    rw[g1]
    simp only[Option.bind_some,decide_true,Bool.not_true,cond_false]
    rw[q2]
    simp only[Option.bind_some,QI]
    rw[Qej _ (by omega)]
    simp only[Option.bind_some]
    rw[q5]
    simp only[Option.bind_some]
    rw[q6]
    cases Qfb p.Demands.length x.Left with
    | true=>rfl
    | false =>
     simp only[cond_false,Option.bind_some,QI,oun,decide_true,Bool.not_true]
     rw[Qni _ (by rw[VJ];omega)]
     unfold Qg1
     generalize (vec p.Demands.length fun d=>0+cn x.Left d+tn x.Tours d).any (fun c=>decide (1<c))=a
     generalize (vec p.Demands.length fun d=>0+cn x.Left d+tn x.Tours d).any (fun c=>decide (c=0))=b
     cases a<;>cases b<;>rfl
   have hpl:Zl F p x=some (bif Qfb p.Demands.length x.Left then (0,7) else (bif decide (Qg1 (vec p.Demands.length fun d=>0+cn x.Left d+tn x.Tours d)=0) then Zm p x.Tours else 0,Qg1 (vec p.Demands.length fun d=>0+cn x.Left d+tn x.Tours d))):=by
    unfold Zl
    rw[ZJ (by omega) _ hn,g1]
    simp only[Option.bind_some,decide_true,Bool.not_true,cond_false]
    rw[q1]
    simp only[Option.bind_some,QI]
    rw[Qej _ (by omega)]
    simp only[Option.bind_some]
    rw[q3]
    cases Qfb p.Demands.length x.Left with
    | true=>rfl
    | false =>
     simp only[cond_false,Option.bind_some,QI]
     rw[q4]
     simp only[Option.bind_some]
     rw[Qhh _ (by rw[VJ];omega),Qhl _ (by rw[VJ];omega)]
     unfold Qg1
     simp only[Option.bind_some]
     generalize (vec p.Demands.length fun d=>0+cn x.Left d+tn x.Tours d).any (fun c=>decide (1<c))=a
     generalize (vec p.Demands.length fun d=>0+cn x.Left d+tn x.Tours d).any (fun c=>decide (c=0))=b
     cases a<;>cases b<;>rfl
   cases hbl:Qfb p.Demands.length x.Left with
   | true =>
    rw[hbl] at hfe hpl
    exact ⟨0,7,hpl,hfe,ht 7 hfe (by decide)⟩
   | false =>
    rw[hbl] at hfe hpl
    simp only[cond_false] at hfe hpl
    by_cases h0:Qg1 (vec p.Demands.length fun d=>0+cn x.Left d+tn x.Tours d)=0
    ·rw[h0] at hfe hpl
     refine ⟨Zm p x.Tours,0,by simpa using hpl,hfe,?_⟩;unfold Yf
     rw[hfe]
     simp only[Option.bind_some,decide_true,Bool.not_true,cond_false]
     have:=YX (body:=Wl p x) x.Tours (fun k=>Zm p (x.Tours.take k)) (fun m k=>(m,k)) (fun _ _=>none) (Zm p x.Tours) (by omega) (fun k t htk _=> ?_) (fun _=>by simp[Wl,oun]) (((x.Tours.length:Nat):Int).toNat+1) (by simp)
     ·rw[QW _ _ (fun _ _ _=>rfl)] at this
      have e0:Zm p (x.Tours.take 0)=0:=by simp[Zm,Qay]
      rw[e0] at this
      rw[this]
      rfl
     ·have hk:=Qt htk;have hk2:((k:Int)<(x.Tours.length:Nat)):=by omega
      have hb:=Qfd g2 k (Nat.le_of_lt hk) (fun j y _ hy=>h1 j y hy);obtain ⟨u,hu⟩:=QcY (h1 k t htk);have h3:=VB g2 hu;have h4:(YF p t).1=QaS p u.2.2.Depot u.2.1:=by unfold YF;rw[hu]
      simp only[Wl,oun,hk2,decide_true,cond_true,Qs,htk,Option.bind_some,Qey g2 g1,Je]
      rw[Yg (n:=Zm p (x.Tours.take k)+(YF p t).1) (by omega) (by omega),YK htk]
      unfold Zm
      rw[Qb4]
      have h5:Qay (fun t=>(YF p t).1) [t]=(YF p t).1:=by simp[Qay]
      rw[h5]
    ·rw[show decide (Qg1 (vec p.Demands.length fun d=>0+cn x.Left d+tn x.Tours d)=0)=false by simpa using h0] at hpl
     exact ⟨0,_,hpl,hfe,ht _ hfe h0⟩
  ·have hc0:=Qkj h1;have q1:=QeO hF g2 x hx
   rw[h2] at q1
   have q2:=Qmt g2 g1 x hx
   rw[h2] at q2
   have hfe:QO p x=some c:=by
    unfold QO
    rw[g1]
    simp only[Option.bind_some,decide_true,Bool.not_true,cond_false]
    rw[q2]
    rfl
   refine ⟨0,c,?_,hfe,ht c hfe hc0⟩;unfold Zl
   rw[ZJ (by omega) _ hn,g1]
   simp only[Option.bind_some,decide_true,Bool.not_true,cond_false]
   rw[q1]
   rfl
 ·refine ⟨0,e,?_,?_,?_⟩
  ·unfold Zl
   rw[ZJ (by omega) _ hn,g2]
   simp only[Option.bind_some]
   rw[show decide (e=0)=false by simpa using g1]
   rfl
  ·unfold QO
   rw[g2]
   simp only[Option.bind_some]
   rw[show decide (e=0)=false by simpa using g1]
   rfl
  ·unfold Yf QO
   rw[g2]
   simp only[Option.bind_some]
   rw[show decide (e=0)=false by simpa using g1]
   simp only[Bool.not_false,cond_true,Option.bind_some]
   rw[show decide (e=0)=false by simpa using g1]
   rfl
end Go.Proofs.YthpgjbbjpfiniaaGreat
