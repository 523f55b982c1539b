/- ExactServes: for every input the given law returns true, and its arguments read as before. No condition. -/
import Derived.Test.YtilbengnjgglhaaGreatc2x7
import Derived.Test.YtilbengnjgglhaaGreatc2x2
namespace Go.Proofs.YtilbengnjgglhaaGreat
open Go.RowKit
set_option linter.unusedSimpArgs false
set_option linter.unusedVariables false
abbrev Ed:=QM
abbrev Rd_:=QB
structure OkR (r:Rd_):Prop where
 n1:1≤r.Nodes
 n2:r.Nodes≤64
 el:r.Edges.length≤512
 ed: ∀x∈r.Edges,Ww r x
theorem OkR.of {r:Rd_} (h:V1 r=0):OkR r:=let ⟨a,b,c,d⟩:=QeD h;⟨a,b,c,d⟩
def Z8 (l:Lg) (x:Ed):Lg:=⟨l.Secs+x.Secs,l.Meters+x.Meters⟩
theorem Qj4 {l:Lg} {x:Ed} (h:1≤x.Secs):Lg.lt l (Z8 l x):=by unfold Lg.lt Z8;simp only[];omega
theorem QcW {a b:Lg} {x:Ed} (h:Lg.le a b):Lg.le (Z8 a x) (Z8 b x):=by unfold Lg.le Z8 at *;simp only[];omega
theorem Lg.lt_irrefl {a:Lg}: ¬Lg.lt a a:=by unfold Lg.lt;omega
theorem Lg.lt_of_lt_le {a b c:Lg} (h:Lg.lt a b) (h2:Lg.le b c):Lg.lt a c:=by unfold Lg.lt Lg.le at *;omega
theorem Lg.lt_of_le_lt {a b c:Lg} (h:Lg.le a b) (h2:Lg.lt b c):Lg.lt a c:=by unfold Lg.lt Lg.le at *;omega
theorem Lg.lt_of_le_ne {a b:Lg} (h:Lg.le a b) (h2:a≠b):Lg.lt a b:=by
 cases a;cases b;unfold Lg.lt Lg.le at *
 simp only[ne_eq,Qd.mk.injEq] at *
 omega
theorem Lg.antisymm {a b:Lg} (h:Lg.le a b) (h2:Lg.le b a):a=b:=by
 cases a;cases b;unfold Lg.le at *
 simp only[Qd.mk.injEq] at *
 omega
inductive Wk (r:Rd_) (s:Int):Nat→Int→Lg→Prop
 | nil:Wk r s 0 s ⟨0,0⟩
 | cons {k:Nat} {a:Int} {l:Lg} {x:Ed} (h:Wk r s k a l) (hx:x∈r.Edges) (ha:x.From=a):Wk r s (k+1) x.To (Z8 l x)
theorem Wk.bound {r:Rd_} {s:Int} (hr:OkR r): ∀{k:Nat} {n:Int} {l:Lg},Wk r s k n l→0≤l.Secs∧l.Secs≤k*100000∧0≤l.Meters∧l.Meters≤k*100000
 | _,_,_,.nil=>by simp
 | _,_,_,.cons h hx ha=>by
  have h1:=h.bound hr;have h2:=hr.ed _ hx;unfold Ww at h2;unfold Z8
  simp only[]
  omega
theorem Wk.node {r:Rd_} {s:Int} (hr:OkR r) (hs:0≤s∧s<r.Nodes): ∀{k:Nat} {n:Int} {l:Lg},Wk r s k n l→0≤n∧n<r.Nodes
 | _,_,_,.nil=>hs
 | _,_,_,.cons h hx ha=>by
  have h2:=hr.ed _ hx;unfold Ww at h2
  omega
def lab (out:List Lg) (n:Int):Lg:=(QJ out n).getD noL
theorem Vg {out:List Lg} {n:Int} (h0:0≤n) (h1:n<(out.length:Nat)):QJ out n=some (lab out n):=by
 obtain ⟨x,hx⟩:=QfM h0 h1;unfold lab
 rw[hx];rfl
theorem QbK {out:List Lg} {b n:Int} {l:Lg} (h0:0≤b) (h1:b<(out.length:Nat)) (hn:0≤n):lab (Z2 out b l) n=if n=b then l else lab out n:=by
 unfold lab Z2 QJ
 simp only[hn,if_true]
 rw[List.getElem?_set]
 by_cases h:n=b
 ·subst h
  simp only[if_true]
  rw[if_pos (by omega)];rfl
 ·rw[if_neg h,if_neg (by omega)]
theorem QcP (out:List Lg) (b:Int) (l:Lg):(Z2 out b l).length=out.length:=by simp[Z2]
structure Dj (r:Rd_) (s:Int) (M:Nat) (S:List Int) (W:Nat) (b:Lg) (cur:Int) (j:Nat) (out:List Lg) (h:List It):Prop where
 len:((out.length:Nat):Int)=r.Nodes
 hp:Hp h
 lenh:h.length≤M
 it: ∀y∈h,0≤y.value.node∧y.value.node<r.Nodes∧Lg.le b y.value.leg∧0≤(lab out y.value.node).Secs∧Lg.le (lab out y.value.node) y.value.leg
 nd:(h.map fun y=>(y.value.node,y.value.leg)).Nodup
 lb: ∀n,0≤n→n<r.Nodes→lab out n=noL∨ ∃k,k≤W∧Wk r s k n (lab out n)
 src:lab out s=⟨0,0⟩
 pend: ∀n,0≤n→n<r.Nodes→n∉S→lab out n≠noL→ ∃y∈h,y.value.node=n∧y.value.leg=lab out n
 sn:S.Nodup
 sr: ∀n∈S,0≤n∧n<r.Nodes
 dn: ∀n∈S,0≤(lab out n).Secs∧Lg.le (lab out n) b
 st: ∀y∈h,y.value.node∈S→Lg.lt (lab out y.value.node) y.value.leg
 bs:0≤b.Secs
 edge: ∀n∈S,∀x∈(if n=cur then r.Edges.take j else r.Edges),x.From=n→0≤(lab out x.To).Secs∧Lg.le (lab out x.To) (Z8 (lab out n) x)
theorem Dj.okH {r:Rd_} {s:Int} {M:Nat} {S:List Int} {W:Nat} {b:Lg} {cur:Int} {j:Nat} {out:List Lg} {h:List It} (d:Dj r s M S W b cur j out h):okH h:=fun y hy=>by
 have h1:=d.it y hy;have h2:=d.bs;unfold okI;have h3:=h1.2.2.1;unfold Lg.le at h3
 omega
theorem QfX {l:Lg} (h:0≤l.Secs):l≠noL:=by intro e;rw[e] at h;exact absurd h (by decide)
theorem QdU {r:Rd_} {s:Int} {W:Nat} (hr:OkR r) {l:Lg} {n:Int} (h:l=noL∨ ∃k,k≤W∧Wk r s k n l) (hne:l≠noL): ∃k,k≤W∧Wk r s k n l∧0≤l.Secs:=by
 rcases h with h | ⟨k,h1,h2⟩
 ·exact absurd h hne
 ·exact ⟨k,h1,h2,(h2.bound hr).1⟩
theorem Qai {α:Type} {l:List α} {j:Nat} {x y:α} (hx:l[j]? =some x) (hy:y∈l.take (j+1)):y∈l.take j∨y=x:=by
 rw[QaZ hx] at hy
 rcases List.mem_append.1 hy with h | h
 ·exact .inl h
 ·exact .inr (List.mem_singleton.1 h)
theorem Dj.skip {r:Rd_} {s:Int} {M:Nat} {S:List Int} {W:Nat} {b:Lg} {cur:Int} {j:Nat} {out:List Lg} {h:List It} {x:Ed} (d:Dj r s M S W b cur j out h) (hx:r.Edges[j]? =some x)
  (hc:x.From=cur→0≤(lab out x.To).Secs∧Lg.le (lab out x.To) (Z8 (lab out cur) x)):Dj r s (M+1) S W b cur (j+1) out h:=by
 refine { d with lenh:=by have:=d.lenh;omega,edge:=fun n hn y hy hf=> ?_ }
 by_cases hnc:n=cur
 ·rw[if_pos hnc] at hy
  rcases Qai hx hy with h1 | h1
  ·exact d.edge n hn y (by rw[if_pos hnc];exact h1) hf
  ·subst h1
   rw[hnc]
   exact hc (by rw[hf,hnc])
 ·rw[if_neg hnc] at hy
  exact d.edge n hn y (by rw[if_neg hnc];exact hy) hf
theorem Dj.take {r:Rd_} {s:Int} {M:Nat} {S:List Int} {W:Nat} {b:Lg} {cur:Int} {j:Nat} {out:List Lg} {h h':List It} {x:Ed} {c:Int} (hr:OkR r) (hs:0≤s∧s<r.Nodes) (d:Dj r s M S W b cur j out h) (hx:r.Edges[j]? =some x)
  (hcur:lab out cur=b) (hcs:cur∈S) (hf:x.From=cur) (hk: ∃k,k+1≤W∧Wk r s k cur (lab out cur)) (hb:lab out x.To=noL∨Lg.lt (Z8 b x) (lab out x.To))
  (hp:h'.Perm (h++[⟨⟨x.To,Z8 b x⟩,c⟩])) (hh:Hp h'):Dj r s (M+1) S W b cur (j+1) (Z2 out x.To (Z8 b x)) h':=by
 have hok:=hr.ed x (List.mem_of_getElem? hx);unfold Ww at hok;have hlen:=d.len;have hto0:0≤x.To:=by omega
 have hto1:x.To<((out.length:Nat):Int):=by omega
 have hbx:Lg.lt b (Z8 b x):=Qj4 (by omega);have hset: ∀n,0≤n→lab (Z2 out x.To (Z8 b x)) n=if n=x.To then Z8 b x else lab out n:=fun n hn=>QbK hto0 hto1 hn
 have hself:lab (Z2 out x.To (Z8 b x)) x.To=Z8 b x:=by rw[hset _ hto0,if_pos rfl]
 have hbs:=d.bs;have hxs:0≤(Z8 b x).Secs:=by unfold Z8;simp only[];omega
 have hnS:x.To∉S:=fun hm=>by
  have h1:=d.dn _ hm;rcases hb with h2 | h2
  ·rw[h2] at h1;exact absurd h1.1 (by decide)
  ·exact Lg.lt_irrefl (Lg.lt_of_lt_le (Lg.lt_of_lt_le (Lg.lt_of_le_lt h1.2 hbx) (Lg.le_of_lt h2)) (Lg.le_refl _))
 have hne: ∀n∈S,n≠x.To:=fun n hn e=>hnS (e▸hn);have hold: ∀n∈S,lab (Z2 out x.To (Z8 b x)) n=lab out n:=fun n hn=>by rw[hset _ (d.sr n hn).1,if_neg (hne n hn)]
 have hsrc:s≠x.To:=fun e=>by
  have h1:=d.src
  rw[e] at h1
  rcases hb with h2 | h2
  ·rw[h1] at h2;cases h2
  ·rw[h1] at h2
   unfold Lg.lt Z8 at h2
   simp only[] at h2
   omega
 have hmem: ∀y,y∈h'↔y∈h∨y=⟨⟨x.To,Z8 b x⟩,c⟩:=fun y=>by rw[hp.mem_iff];simp
 have himp: ∀n,0≤n→0≤(lab out n).Secs→0≤(lab (Z2 out x.To (Z8 b x)) n).Secs∧Lg.le (lab (Z2 out x.To (Z8 b x)) n) (lab out n):=fun n hn h0=>by
  rw[hset n hn]
  by_cases h1:n=x.To
  ·subst h1
   rw[if_pos rfl]
   rcases hb with h2 | h2
   ·rw[h2] at h0;exact absurd h0 (by decide)
   ·exact ⟨hxs,Lg.le_of_lt h2⟩
  ·rw[if_neg h1];exact ⟨h0,Lg.le_refl _⟩
 refine { len:=by rw[QcP];exact hlen,hp:=hh,lenh:= ?_,it:= ?_,nd:= ?_,lb:= ?_,src:= ?_,pend:= ?_,sn:=d.sn,sr:=d.sr,dn:= ?_,st:= ?_,bs:=d.bs,edge:= ?_ }
 ·rw[hp.length_eq,List.length_append,List.length_singleton];have:=d.lenh;omega
 ·intro y hy;rcases (hmem y).1 hy with h1 | h1
  ·have h2:=d.it y h1;have h3:=himp _ h2.1 h2.2.2.2.1;exact ⟨h2.1,h2.2.1,h2.2.2.1,h3.1,Lg.le_trans h3.2 h2.2.2.2.2⟩
  ·subst h1
   simp only[]
   rw[hself]
   exact ⟨hto0,by omega,Lg.le_of_lt hbx,hxs,Lg.le_refl _⟩
 ·rw[(hp.map _).nodup_iff,List.map_append,List.nodup_append]
  refine ⟨d.nd,by simp,fun p hp1 q hq=> ?_⟩
  simp only[List.map_cons,List.map_nil,List.mem_singleton] at hq
  subst hq;obtain ⟨y,hy,rfl⟩:=List.mem_map.1 hp1;intro e;injection e with e1 e2
  have h2:=d.it y hy
  rw[e1,e2] at h2
  rcases hb with h3 | h3
  ·rw[h3] at h2;exact absurd h2.2.2.2.1 (by decide)
  ·exact Lg.lt_irrefl (Lg.lt_of_lt_le h3 h2.2.2.2.2)
 ·intro n h0 h1
  rw[hset n h0]
  by_cases h2:n=x.To
  ·subst h2
   rw[if_pos rfl]
   obtain ⟨k,hk1,hk2⟩:=hk;refine .inr ⟨k+1,hk1,?_⟩
   rw[←hcur]
   exact .cons hk2 (List.mem_of_getElem? hx) hf
  ·rw[if_neg h2];exact d.lb n h0 h1
 ·rw[hset s hs.1,if_neg hsrc];exact d.src
 ·intro n h0 h1 h2 h3
  rw[hset n h0] at h3 ⊢
  by_cases h4:n=x.To
  ·rw[if_pos h4]
   exact ⟨_,(hmem _).2 (.inr rfl),h4.symm,rfl⟩
  ·rw[if_neg h4] at h3 ⊢
   obtain ⟨y,hy,h5⟩:=d.pend n h0 h1 h2 h3;exact ⟨y,(hmem y).2 (.inl hy),h5⟩
 ·intro n hn
  rw[hold n hn];exact d.dn n hn
 ·intro y hy hyS;rcases (hmem y).1 hy with h1 | h1
  ·rw[hold _ hyS];exact d.st y h1 hyS
  ·subst h1;exact absurd hyS hnS
 ·intro n hn y hy hfy;have hyE:y∈r.Edges:=by
   split at hy
   ·exact List.mem_of_mem_take hy
   ·exact hy
  have hyok:=hr.ed y hyE;unfold Ww at hyok;have h5:(y=x∧n=cur)∨y∈(if n=cur then r.Edges.take j else r.Edges):=by
   by_cases hnc:n=cur
   ·rw[if_pos hnc] at hy ⊢
    rcases Qai hx hy with h1 | h1
    ·exact .inr h1
    ·exact .inl ⟨h1,hnc⟩
   ·rw[if_neg hnc] at hy ⊢
    exact .inr hy
  rw[hold n hn]
  rcases h5 with ⟨rfl,rfl⟩ | h5
  ·rw[hself,hcur];exact ⟨hxs,Lg.le_refl _⟩
  ·have h6:=d.edge n hn y h5 hfy;have h7:=himp y.To (by omega) h6.1;exact ⟨h7.1,Lg.le_trans h7.2 h6.2⟩
end Go.Proofs.YtilbengnjgglhaaGreat
namespace Go.Proofs.YtilbengnjgglhaaGreat
open Go.RowKit
set_option linter.unusedSimpArgs false
set_option linter.unusedVariables false
variable {r:Rd_} {s:Int}
theorem Qge {l:Lg} {x:Ed} (hr:OkR r) (hx:x∈r.Edges) {k:Nat} {n:Int} (hw:Wk r s k n l) (hk:k≤100000):VN l x=some (Z8 l x):=by
 have h1:=hw.bound hr;have h2:=hr.ed x hx;unfold Ww at h2;unfold VN Z8
 rw[QV (by omega) (by omega),QV (by omega) (by omega)]
theorem Qhu {F:Nat} {S:List Int} {W:Nat} {b:Lg} {cur:Int} {y:QN} (hr:OkR r) (hs:0≤s∧s<r.Nodes) (hcs:cur∈S) (hyn:y.node=cur) (hyl:y.leg=b) (hW:W≤64) {M0:Nat} (hM:M0+600≤F) (hM2:M0≤100000) :
  ∀(d j:Nat) (out:List Lg) (q:Qu) (n:Nat),r.Edges.length-j=d→j≤r.Edges.length→d<n→lab out cur=b→(∃k,k+1≤W∧Wk r s k cur (lab out cur))→Dj r s (M0+j) S W b cur j out q.heap →
   ∃out' q',iter (ZE F r y) n (out,q,(j:Int))=some (out',q')∧lab out' cur=b∧Dj r s (M0+r.Edges.length) S W b cur r.Edges.length out' q'.heap:=by
 intro d
 induction d with
 | zero =>
  intro j out q n hd hj hn hl hk hD;obtain ⟨n,rfl⟩: ∃f,n=f+1:=⟨n-1,by omega⟩
  obtain rfl:j=r.Edges.length:=by omega
  refine ⟨out,q,?_,hl,hD⟩
  rw[iter]
  simp only[ZE,oun]
  rw[show decide (((r.Edges.length:Nat):Int)<((r.Edges.length:Nat):Int))=false by simp]
  rfl
 | succ d ih =>
  intro j out q n hd hj hn hl hk hD;obtain ⟨n,rfl⟩: ∃f,n=f+1:=⟨n-1,by omega⟩
  have hjl:j<r.Edges.length:=by omega
  have hx:r.Edges[j]? =some r.Edges[j]:=List.getElem?_eq_getElem hjl
  generalize r.Edges[j]=x at hx
  have hxm:=List.mem_of_getElem? hx;have hok:=hr.ed x hxm;unfold Ww at hok;have hel:=hr.el;have hlen:=hD.len;have hto:QJ out x.To=some (lab out x.To):=Vg (by omega) (by omega);have step:(∃out1 q1,ZE F r y (out,q,(j:Int))=some (.inl (out1,q1,((j+1:Nat):Int)))∧lab out1 cur=b∧(∃k,k+1≤W∧Wk r s k cur (lab out1 cur))∧Dj r s (M0+(j+1)) S W b cur (j+1) out1 q1.heap):=by
   simp only[ZE,oun]
   rw[show decide ((j:Int)<((r.Edges.length:Nat):Int))=true by simp;omega]
   simp only[cond_true,Qt,hx,Option.bind_some,Vy,hyn,hyl]
   rw[JY (by omega)]
   by_cases hf:x.From=cur
   ·simp only[hf,decide_true,Bool.not_true,cond_false]
    obtain ⟨k,hk1,hk2⟩:=hk;have hk3:=hk2
    rw[hl] at hk3
    rw[Qge hr hxm hk3 (by omega)]
    simp only[Option.bind_some,hto,Qe3]
    cases hb:(decide (lab out x.To=noL)||decide (Lg.lt (Z8 b x) (lab out x.To))) with
    | true =>
     simp only[cond_true]
     have hb':lab out x.To=noL∨Lg.lt (Z8 b x) (lab out x.To):=by simpa using hb
     have hbnd:=hk3.bound hr;have hlh:=hD.lenh;obtain ⟨q1,hq1,hq2,hq3⟩:=QhJ (F:=F) (q:=q) ⟨x.To,Z8 b x⟩ (by omega) (by omega) hD.okH (by unfold Z8;simp only[];omega) hD.hp
     rw[hq1]
     simp only[Option.bind_some]
     have hD2:=hD.take hr hs hx hl hcs hf ⟨k,hk1,hk2⟩ hb' hq2 hq3;have hne:cur≠x.To:=fun e=>by omega
     have hl2:lab (Z2 out x.To (Z8 b x)) cur=lab out cur:=by rw[QbK (by omega) (by omega) (hD.sr cur hcs).1,if_neg hne]
     exact ⟨_,q1,rfl,by rw[hl2];exact hl,⟨k,hk1,by rw[hl2];exact hk2⟩,hD2⟩
    | false =>
     simp only[cond_false]
     refine ⟨out,q,rfl,hl,⟨k,hk1,hk2⟩,hD.skip hx fun _=> ?_⟩
     simp only[Bool.or_eq_false_iff,decide_eq_false_iff_not] at hb
     obtain ⟨k2,_,_,h5⟩:=QdU hr (hD.lb x.To (by omega) (by omega)) hb.1
     rw[hl]
     exact ⟨h5,Lg.le_of_not_lt hb.2⟩
   ·simp only[show decide (x.From=cur)=false by simpa using hf,Bool.not_false,cond_true,Option.bind_some]
    exact ⟨out,q,rfl,hl,hk,hD.skip hx fun e=>absurd e hf⟩
  obtain ⟨out1,q1,h1,h2,h3,h4⟩:=step;obtain ⟨out',q',g1,g2,g3⟩:=ih (j+1) out1 q1 n (by omega) (by omega) (by omega) h2 h3 h4;refine ⟨out',q',?_,g2,g3⟩
  rw[iter,h1]
  exact g1
theorem Dj.drop {M:Nat} {S:List Int} {W:Nat} {b:Lg} {cur:Int} {j:Nat} {out:List Lg} {h h':List It} {y:It} (d:Dj r s M S W b cur j out h) (hc:cur∉S) (hp:(y::h').Perm h) (hh:Hp h') (hmin: ∀z∈h,kle y z)
  (hst:lab out y.value.node≠y.value.leg):Dj r s M S W y.value.leg cur j out h':=by
 have hmem: ∀z,z∈h'→z∈h:=fun z hz=>hp.mem_iff.1 (List.mem_cons_of_mem _ hz);have hy:y∈h:=hp.mem_iff.1 List.mem_cons_self;have hby:=(d.it y hy).2.2.1;refine { d with hp:=hh,lenh:= ?_,it:=fun z hz=> ?_,nd:= ?_,pend:=fun n h0 h1 h2 h3=> ?_,dn:=fun n hn=>⟨(d.dn n hn).1,Lg.le_trans (d.dn n hn).2 hby⟩,st:=fun z hz=>d.st z (hmem z hz),bs:= ?_ }
 ·have:=d.lenh;have h2:=hp.length_eq;rw[List.length_cons] at h2;omega
 ·have h2:=d.it z (hmem z hz);exact ⟨h2.1,h2.2.1,hmin z (hmem z hz),h2.2.2.2⟩
 ·have h2:=((hp.map fun y=>(y.value.node,y.value.leg)).nodup_iff).2 d.nd
  rw[List.map_cons,List.nodup_cons] at h2
  exact h2.2
 ·obtain ⟨z,hz,h5,h6⟩:=d.pend n h0 h1 h2 h3;rcases List.mem_cons.1 (hp.mem_iff.2 hz) with h7 | h7
  ·subst h7;exact absurd (by rw[h5];exact h6.symm) hst
  ·exact ⟨z,h7,h5,h6⟩
 ·have:=d.bs;unfold Lg.le at hby;omega
theorem Dj.enter {M:Nat} {S:List Int} {W:Nat} {b:Lg} {out:List Lg} {h h':List It} {y:It} (hr:OkR r) (d:Dj r s M S W b (-1) 0 out h) (hp:(y::h').Perm h) (hh:Hp h') (hmin: ∀z∈h,kle y z)
  (hst:lab out y.value.node=y.value.leg):y.value.node∉S∧Dj r s (M-1) (y.value.node::S) (W+1) y.value.leg y.value.node 0 out h':=by
 have hmem: ∀z,z∈h'→z∈h:=fun z hz=>hp.mem_iff.1 (List.mem_cons_of_mem _ hz);have hy:y∈h:=hp.mem_iff.1 List.mem_cons_self;have hyi:=d.it y hy;have hby:=hyi.2.2.1;have hnS:y.value.node∉S:=fun hm=>by
  have:=d.st y hy hm
  rw[hst] at this
  exact Lg.lt_irrefl this
 have hnd:=((hp.map fun y=>(y.value.node,y.value.leg)).nodup_iff).2 d.nd
 rw[List.map_cons,List.nodup_cons] at hnd
 refine ⟨hnS,{ len:=d.len,hp:=hh,lenh:= ?_,it:=fun z hz=> ?_,nd:=hnd.2,lb:=fun n h0 h1=> ?_,src:=d.src,pend:=fun n h0 h1 h2 h3=> ?_,sn:=List.nodup_cons.2 ⟨hnS,d.sn⟩,sr:=fun n hn=> ?_,dn:=fun n hn=> ?_,st:=fun z hz hzS=> ?_,bs:= ?_,edge:=fun n hn x hx hf=> ?_ }⟩
 ·have:=d.lenh;have h2:=hp.length_eq;rw[List.length_cons] at h2;omega
 ·have h2:=d.it z (hmem z hz);exact ⟨h2.1,h2.2.1,hmin z (hmem z hz),h2.2.2.2⟩
 ·rcases d.lb n h0 h1 with h2 | ⟨k,h2,h3⟩
  ·exact .inl h2
  ·exact .inr ⟨k,by omega,h3⟩
 ·obtain ⟨z,hz,h5,h6⟩:=d.pend n h0 h1 (fun e=>h2 (List.mem_cons_of_mem _ e)) h3;rcases List.mem_cons.1 (hp.mem_iff.2 hz) with h7 | h7
  ·subst h7;exact absurd (by rw[←h5];exact List.mem_cons_self) h2
  ·exact ⟨z,h7,h5,h6⟩
 ·rcases List.mem_cons.1 hn with h1 | h1
  ·subst h1;exact ⟨hyi.1,hyi.2.1⟩
  ·exact d.sr n h1
 ·rcases List.mem_cons.1 hn with h1 | h1
  ·subst h1;exact ⟨hyi.2.2.2.1,by rw[hst];exact Lg.le_refl _⟩
  ·exact ⟨(d.dn n h1).1,Lg.le_trans (d.dn n h1).2 hby⟩
 ·rcases List.mem_cons.1 hzS with h1 | h1
  ·have h2:=(d.it z (hmem z hz)).2.2.2.2;refine Lg.lt_of_le_ne h2 fun e=>hnd.1 ?_
   rw[h1,hst] at e
   exact List.mem_map.2 ⟨z,hz,by rw[h1,←e]⟩
  ·exact d.st z (hmem z hz) h1
 ·have:=d.bs;unfold Lg.le at hby;omega
 ·rcases List.mem_cons.1 hn with h1 | h1
  ·subst h1
   rw[if_pos rfl] at hx
   simp at hx
  ·have hne:n≠y.value.node:=fun e=>hnS (e▸h1)
   rw[if_neg hne] at hx
   refine d.edge n h1 x ?_ hf
   rw[if_neg (by have:=(d.sr n h1).1;omega)]
   exact hx
theorem Dj.leave {M:Nat} {S:List Int} {W:Nat} {b:Lg} {cur:Int} {out:List Lg} {h:List It} (d:Dj r s M S W b cur r.Edges.length out h):Dj r s M S W b (-1) 0 out h:=by
 refine { d with edge:=fun n hn x hx hf=>d.edge n hn x ?_ hf }
 rw[if_neg (by have:=(d.sr n hn).1;omega)] at hx
 split
 ·rw[List.take_length];exact hx
 ·exact hx
theorem Qkl {S:List Int} (hr:OkR r) (h1:S.Nodup) (h2: ∀n∈S,0≤n∧n<r.Nodes):S.length≤64:=by
 have:=V7 (m:=(List.range 64).map fun k:Nat=>(k:Int)) h1 fun n hn=>by
  have h3:=h2 n hn;have h4:=hr.n2;exact List.mem_map.2 ⟨n.toNat,List.mem_range.2 (by omega),by omega⟩
 simpa using this
theorem QgT {F:Nat} (hF:40000≤F) (hr:OkR r) (hs:0≤s∧s<r.Nodes): ∀(m:Nat) (n:Nat) (S:List Int) (b:Lg) (out:List Lg) (q:Qu),514*(64-S.length)+q.heap.length≤m→m<n→Dj r s (1+512*S.length) S S.length b (-1) 0 out q.heap →
  ∃out',iter (ZF F r) n (out,q)=some out'∧ ∃S' b',Dj r s (1+512*S'.length) S' S'.length b' (-1) 0 out' []:=by
 intro m
 induction m using Nat.strongRecOn with
 | ind m ih =>
  intro n S b out q hm hn hD;obtain ⟨n,rfl⟩: ∃f,n=f+1:=⟨n-1,by omega⟩
  have hS:=Qkl hr hD.sn hD.sr;have hlh:=hD.lenh
  by_cases hq:q.heap=[]
  ·refine ⟨out,?_,S,b,by rw[←hq];exact hD⟩
   rw[iter]
   simp only[ZF,oun]
   rw[QjR F q hq]
   rfl
  ·obtain ⟨y,q',h1,h2,h3,h4⟩:=Qkr (F:=F) (q:=q) (by omega) (by omega) hD.okH hD.hp hq;have hy:y∈q.heap:=h2.mem_iff.1 List.mem_cons_self;have hyi:=hD.it y hy;have hlen:=hD.len;have hql:=h2.length_eq
   rw[List.length_cons] at hql
   have hget:QJ out y.value.node=some (lab out y.value.node):=Vg hyi.1 (by omega)
   by_cases hst:lab out y.value.node=y.value.leg
   ·obtain ⟨hnS,hE⟩:=hD.enter hr h2 h3 h4 hst;have hS2:=Qkl hr hE.sn hE.sr
    rw[List.length_cons] at hS2
    obtain ⟨k,hk1,hk2⟩: ∃k,k+1≤S.length+1∧Wk r s k y.value.node (lab out y.value.node):=by
     obtain ⟨k,h5,h6,_⟩:=QdU hr (hD.lb _ hyi.1 hyi.2.1) (QfX hyi.2.2.2.1);exact ⟨k,by omega,h6⟩
    have hE':Dj r s (q'.heap.length+0) (y.value.node::S) (S.length+1) y.value.leg y.value.node 0 out q'.heap:={ hE with lenh:=Nat.le_refl _ }
    obtain ⟨out',q2,g1,g2,g3⟩:=Qhu (F:=F) (y:=y.value) (M0:=q'.heap.length) hr hs List.mem_cons_self rfl rfl (by omega) (by omega) (by omega) r.Edges.length 0 out q' (((r.Edges.length:Nat):Int).toNat+1) (by omega) (by omega) (by omega) hst ⟨k,hk1,hk2⟩ hE';have hel:=hr.el;have g6:=g3.lenh;have g5:Dj r s (1+512*(y.value.node::S).length) (y.value.node::S) (y.value.node::S).length y.value.leg (-1) 0 out' q2.heap:=by
     refine { g3.leave with lenh:= ?_ }
     rw[List.length_cons]
     omega
    obtain ⟨out2,k1,k2⟩:=ih (514*(64-(y.value.node::S).length)+q2.heap.length) (by rw[List.length_cons];omega) n (y.value.node::S) y.value.leg out' q2 (Nat.le_refl _) (by rw[List.length_cons];omega) g5;refine ⟨out2,?_,k2⟩
    rw[iter]
    simp only[ZF,oun,h1,Option.bind_some,Bool.not_true,cond_false,hget,hst,decide_true]
    rw[show (0:Int)=((0:Nat):Int) from rfl,g1]
    exact k1
   ·have hE:=hD.drop (by intro hm;have:=hD.sr _ hm;omega) h2 h3 h4 hst;obtain ⟨out',k1,k2⟩:=ih (514*(64-S.length)+q'.heap.length) (by omega) n S y.value.leg out q' (Nat.le_refl _) (by omega) hE;refine ⟨out',?_,k2⟩
    rw[iter]
    simp only[ZF,oun,h1,Option.bind_some,Bool.not_true,cond_false,hget]
    rw[show decide (lab out y.value.node=y.value.leg)=false by simpa using hst]
    simp only[Bool.not_false,cond_true,Option.bind_some,QQ]
    exact k1
structure IsL (r:Rd_) (s:Int) (out:List Lg):Prop where
 len:((out.length:Nat):Int)=r.Nodes
 lb: ∀n,0≤n→n<r.Nodes→lab out n=noL∨ ∃k,k≤out.length∧Wk r s k n (lab out n)
 best: ∀k n l,Wk r s k n l→0≤(lab out n).Secs∧Lg.le (lab out n) l
theorem Dj.legs {S:List Int} {b:Lg} {out:List Lg} {M:Nat} (hr:OkR r) (hs:0≤s∧s<r.Nodes) (d:Dj r s M S S.length b (-1) 0 out []):IsL r s out:=by
 have hlen:=d.len;have hS:S.length≤out.length:=by
  have:=V7 (m:=(List.range out.length).map fun k:Nat=>(k:Int)) d.sn fun n hn=>by
   have h3:=d.sr n hn;exact List.mem_map.2 ⟨n.toNat,List.mem_range.2 (by omega),by omega⟩
  simpa using this
 refine ⟨hlen,fun n h0 h1=> ?_,fun k n l hw=> ?_⟩
 ·rcases d.lb n h0 h1 with h2 | ⟨k,h2,h3⟩
  ·exact .inl h2
  ·exact .inr ⟨k,by omega,h3⟩
 ·have hin: ∀n,0≤n→n<r.Nodes→0≤(lab out n).Secs→n∈S:=fun n h0 h1 h2=>by
   by_cases h3:n∈S
   ·exact h3
   ·obtain ⟨y,hy,_⟩:=d.pend n h0 h1 h3 (QfX h2);cases hy
  induction hw with
  | nil=>rw[d.src];exact ⟨Int.le_refl _,Lg.le_refl _⟩
  | cons h hx ha ih =>
   rename_i k a l x
   have hnode:=h.node hr hs;have hS:=hin a hnode.1 hnode.2 ih.1;have h2:=d.edge a hS x (by rw[if_neg (by omega)];exact hx) ha;exact ⟨h2.1,Lg.le_trans h2.2 (QcW ih.2)⟩
theorem QfQ {n:Nat} {i:Int}:lab (List.replicate n noL) i=noL:=by
 unfold lab QJ
 split
 ·rw[List.getElem?_replicate];split<;>rfl
 ·rfl
theorem QfT {a b:List Lg} (h:a.length=b.length) (h2: ∀n:Nat,n<a.length→lab a n=lab b n):a=b:=by
 apply List.ext_getElem?;intro i;rcases Nat.lt_or_ge i a.length with hi | hi
 ·have h3:=h2 i hi;have h4:=Vg (out:=a) (n:=(i:Int)) (by omega) (by omega);have h5:=Vg (out:=b) (n:=(i:Int)) (by omega) (by omega)
  rw[Qt] at h4 h5
  rw[h4,h5,h3]
 ·rw[List.getElem?_eq_none hi,List.getElem?_eq_none (by omega)]
theorem IsL.unique {a b:List Lg} (hr:OkR r) (ha:IsL r s a) (hb:IsL r s b):a=b:=by
 have h1:=ha.len;have h2:=hb.len;refine QfT (by omega) fun n hn=> ?_;rcases ha.lb n (by omega) (by omega) with h3 | ⟨k,_,h3⟩<;>rcases hb.lb n (by omega) (by omega) with h4 | ⟨k',_,h4⟩
 ·rw[h3,h4]
 ·have h5:=ha.best _ _ _ h4
  rw[h3] at h5;exact absurd h5.1 (by decide)
 ·have h5:=hb.best _ _ _ h3
  rw[h4] at h5;exact absurd h5.1 (by decide)
 ·exact Lg.antisymm (ha.best _ _ _ h4).2 (hb.best _ _ _ h3).2
theorem Qfv {F:Nat} (hF:40000≤F) (hr:OkR r) (hs:0≤s∧s<r.Nodes): ∃out,JA F r s=some out∧IsL r s out:=by
 have h1:=hr.n1;have h2:=hr.n2;have hmk:WO (⟨0,0⟩:Lg) r.Nodes=some (List.replicate r.Nodes.toNat ⟨0,0⟩):=by
  unfold WO
  rw[if_pos (by omega)]
 have hl1:iter (ZD (List.replicate r.Nodes.toNat ⟨0,0⟩)) ((((List.replicate r.Nodes.toNat (⟨0,0⟩:Lg)).length:Nat):Int).toNat+1) (List.replicate r.Nodes.toNat ⟨0,0⟩,0)=some (List.replicate r.Nodes.toNat noL):=by
  have hN:r.Nodes.toNat≤64:=by omega
  generalize r.Nodes.toNat=N at *
  have:=QcF (body:=ZD (List.replicate N ⟨0,0⟩)) (List.replicate N (⟨0,0⟩:Lg)) (fun k=>List.replicate k noL++List.replicate (N-k) (⟨0,0⟩:Lg)) (fun m k=>(m,k)) (fun _ _=>none) (List.replicate N noL) (by simp;omega) (fun k x hx _=> ?_) (fun _=>by simp[ZD,oun]) ((((List.replicate N (⟨0,0⟩:Lg)).length:Nat):Int).toNat+1) (by simp)
  ·rw[J4 _ _ (fun _ _ _=>rfl)] at this
   simpa using this
  ·have hk:=Qz hx;have hk2:((k:Int)<(((List.replicate N (⟨0,0⟩:Lg)).length:Nat):Int)):=by omega
   rw[List.length_replicate] at hk
   simp only[ZD,oun,hk2,decide_true,cond_true,VF,Option.bind_some]
   obtain ⟨z,hz⟩: ∃z,QJ (List.replicate k noL++List.replicate (N-k) (⟨0,0⟩:Lg)) (k:Int)=some z:=QfM (by omega) (by simp;omega)
   rw[hz]
   simp only[Option.bind_some,Qey]
   congr 3
   unfold Z2
   rw[Int.toNat_natCast,show N-k=(N-(k+1))+1 by omega,List.replicate_succ,List.set_append_right _ _ (by simp),List.length_replicate,Nat.sub_self,List.set_cons_zero,List.replicate_succ',List.append_assoc]
   rfl
 have hlenR:((((List.replicate r.Nodes.toNat noL).length:Nat)):Int)=r.Nodes:=by simp;omega
 obtain ⟨q,hq1,hq2,hq3⟩:=QhJ (F:=F) (q:=⟨[],0⟩) ⟨s,⟨0,0⟩⟩ (by simp;omega) (by simp) (by intro y hy;cases hy) (Int.le_refl _) (by intro k a b _ ha;simp at ha);have hset: ∀n,0≤n→lab (Z2 (List.replicate r.Nodes.toNat noL) s ⟨0,0⟩) n=if n=s then ⟨0,0⟩ else noL:=fun n hn=>by
  rw[QbK hs.1 (by omega) hn,QfQ]
 have hmem: ∀y,y∈q.heap↔y=⟨⟨s,⟨0,0⟩⟩,0⟩:=fun y=>by rw[hq2.mem_iff];simp
 have hD:Dj r s (1+512*([]:List Int).length) [] ([]:List Int).length ⟨0,0⟩ (-1) 0 (Z2 (List.replicate r.Nodes.toNat noL) s ⟨0,0⟩) q.heap:=by
  refine { len:=by rw[QcP];exact hlenR,hp:=hq3,lenh:=by rw[hq2.length_eq];simp,it:=fun y hy=> ?_,nd:= ?_,lb:=fun n h0 h3=> ?_,src:=by rw[hset s hs.1,if_pos rfl],pend:=fun n h0 h3 h4 h5=> ?_,sn:=List.nodup_nil,sr:=(fun n hn=>by cases hn),dn:=(fun n hn=>by cases hn),st:=(fun y hy h=>by cases h),bs:=Int.le_refl _,edge:=(fun n hn=>by cases hn) }
  ·rw[(hmem y).1 hy]
   simp only[]
   rw[hset s hs.1,if_pos rfl]
   exact ⟨hs.1,hs.2,Lg.le_refl _,Int.le_refl _,Lg.le_refl _⟩
  ·rw[(hq2.map _).nodup_iff];simp
  ·rw[hset n h0]
   by_cases h4:n=s
   ·rw[if_pos h4,h4];exact .inr ⟨0,Nat.le_refl _,.nil⟩
   ·rw[if_neg h4];exact .inl rfl
  ·rw[hset n h0] at h5 ⊢
   by_cases h6:n=s
   ·rw[if_pos h6];exact ⟨_,(hmem _).2 rfl,h6.symm,rfl⟩
   ·rw[if_neg h6] at h5;exact absurd rfl h5
 obtain ⟨out,k1,S',b',k2⟩:=QgT hF hr hs (514*64+q.heap.length) F [] ⟨0,0⟩ _ q (by simp) (by rw[hq2.length_eq];simp;omega) hD;refine ⟨out,?_,k2.legs hr hs⟩;unfold JA
 rw[hmk]
 simp only[Option.bind_some]
 rw[hl1]
 simp only[Option.bind_some,Jl]
 rw[Vg hs.1 (by omega)]
 simp only[Option.bind_some]
 rw[hq1]
 simp only[Option.bind_some,k1]
end Go.Proofs.YtilbengnjgglhaaGreat
namespace Go.Proofs.YtilbengnjgglhaaGreat
open Go.RowKit
set_option linter.unusedSimpArgs false
set_option linter.unusedVariables false
variable {r:Rd_} {s:Int}
structure Bf (r:Rd_) (s:Int) (t k:Nat) (out:List Lg):Prop where
 len:((out.length:Nat):Int)=r.Nodes
 lb: ∀n,0≤n→n<r.Nodes→lab out n=noL∨ ∃k,k≤t∧Wk r s k n (lab out n)
 best: ∀j n l,j≤k→Wk r s j n l→0≤(lab out n).Secs∧Lg.le (lab out n) l
theorem Qho {a b:Lg} (h:0≤a.Secs):Y5 a b=some (decide (b.Secs<0)||decide (Lg.lt a b)):=by
 unfold Y5
 by_cases h1:b.Secs<0
 ·simp[h1,h]
 ·by_cases h2:a.Secs<b.Secs
  ·simp[h1,h2,Lg.lt,show ¬a.Secs<0 by omega]
  ·by_cases h3:a.Secs=b.Secs
   ·simp[h1,h2,h3,Lg.lt,show ¬b.Secs<0 by omega]
   ·simp[h1,h2,h3,Lg.lt,show ¬a.Secs<0 by omega]
theorem Bf.better {t k:Nat} {out:List Lg} {b:Int} {l:Lg} (d:Bf r s t k out) (h0:0≤b) (h1:b<r.Nodes) (hw: ∃j,j≤t+1∧Wk r s j b l) (hl:0≤l.Secs) (hb:(lab out b).Secs<0∨Lg.lt l (lab out b)) :
  Bf r s (t+1) k (Z2 out b l)∧ ∀n,0≤n→0≤(lab out n).Secs→0≤(lab (Z2 out b l) n).Secs∧Lg.le (lab (Z2 out b l) n) (lab out n):=by
 have hlen:=d.len;have hset: ∀n,0≤n→lab (Z2 out b l) n=if n=b then l else lab out n:=fun n hn=>QbK h0 (by omega) hn
 have himp: ∀n,0≤n→0≤(lab out n).Secs→0≤(lab (Z2 out b l) n).Secs∧Lg.le (lab (Z2 out b l) n) (lab out n):=fun n hn h2=>by
  rw[hset n hn]
  by_cases h3:n=b
  ·subst h3
   rw[if_pos rfl]
   rcases hb with h4 | h4
   ·omega
   ·exact ⟨hl,Lg.le_of_lt h4⟩
  ·rw[if_neg h3];exact ⟨h2,Lg.le_refl _⟩
 refine ⟨⟨by rw[QcP];exact hlen,fun n hn hn2=> ?_,fun j n l' hj hw'=> ?_⟩,himp⟩
 ·rw[hset n hn]
  by_cases h3:n=b
  ·subst h3;rw[if_pos rfl];exact .inr hw
  ·rw[if_neg h3]
   rcases d.lb n hn hn2 with h4 | ⟨j,h4,h5⟩
   ·exact .inl h4
   ·exact .inr ⟨j,by omega,h5⟩
 ·have h2:=d.best j n l' hj hw'
  by_cases hn:0≤n
  ·have h3:=himp n hn h2.1;exact ⟨h3.1,Lg.le_trans h3.2 h2.2⟩
  ·have:lab out n=noL:=by unfold lab QJ;rw[if_neg hn];rfl
   rw[this] at h2
   exact absurd h2.1 (by decide)
theorem Bf.more {t t' k:Nat} {out:List Lg} (d:Bf r s t k out) (h:t≤t'):Bf r s t' k out :=
 ⟨d.len,fun n h0 h1=>by
  rcases d.lb n h0 h1 with h4 | ⟨j,h4,h5⟩
  ·exact .inl h4
  ·exact .inr ⟨j,by omega,h5⟩,d.best⟩
theorem Qhw (hr:OkR r) (hs:0≤s∧s<r.Nodes) {k:Nat}: ∀(d j:Nat) (t:Nat) (out:List Lg) (n:Nat),r.Edges.length-j=d→j≤r.Edges.length→d<n→t+d≤90000→Bf r s t k out →
   (∀x∈r.Edges.take j,∀i l,i≤k→Wk r s i x.From l→0≤(lab out x.To).Secs∧Lg.le (lab out x.To) (Z8 l x)) →
   ∃out',iter (YS r) n (out,(j:Int))=some out'∧Bf r s (t+d) (k+1) out':=by
 intro d
 induction d with
 | zero =>
  intro j t out n hd hj hn ht hB hE;obtain ⟨n,rfl⟩: ∃f,n=f+1:=⟨n-1,by omega⟩
  obtain rfl:j=r.Edges.length:=by omega
  refine ⟨out,?_,hB.len,hB.lb,fun i m l hi hw=> ?_⟩
  ·rw[iter]
   simp only[YS,oun]
   rw[show decide (((r.Edges.length:Nat):Int)<((r.Edges.length:Nat):Int))=false by simp]
   rfl
  ·rcases Nat.lt_or_ge k i with h1 | h1
   ·obtain rfl:i=k+1:=by omega
    rw[List.take_length] at hE
    cases hw with
    | cons h hx ha=>subst ha;exact hE _ hx _ _ (Nat.le_refl _) h
   ·exact hB.best i m l h1 hw
 | succ d ih =>
  intro j t out n hd hj hn ht hB hE;obtain ⟨n,rfl⟩: ∃f,n=f+1:=⟨n-1,by omega⟩
  have hjl:j<r.Edges.length:=by omega
  have hx:r.Edges[j]? =some r.Edges[j]:=List.getElem?_eq_getElem hjl
  generalize r.Edges[j]=x at hx
  have hxm:=List.mem_of_getElem? hx;have hok:=hr.ed x hxm;unfold Ww at hok;have hel:=hr.el;have hlen:=hB.len;have hto:QJ out x.To=some (lab out x.To):=Vg (by omega) (by omega);have hfrom:QJ out x.From=some (lab out x.From):=Vg (by omega) (by omega);have step: ∃out1,YS r (out,(j:Int))=some (.inl (out1,((j+1:Nat):Int)))∧Bf r s (t+1) k out1 ∧
    (∀n,0≤n→0≤(lab out n).Secs→0≤(lab out1 n).Secs∧Lg.le (lab out1 n) (lab out n))∧ ∀i l,i≤k→Wk r s i x.From l→0≤(lab out1 x.To).Secs∧Lg.le (lab out1 x.To) (Z8 l x):=by
   simp only[YS,oun]
   rw[show decide ((j:Int)<((r.Edges.length:Nat):Int))=true by simp;omega]
   simp only[cond_true,Qt,hx,Option.bind_some,hfrom,hto]
   rw[JY (by omega)]
   by_cases hf:0≤(lab out x.From).Secs
   ·simp only[hf,decide_true,cond_true]
    obtain ⟨i0,h1,h2,_⟩:=QdU hr (hB.lb x.From (by omega) (by omega)) (QfX hf);have hal:Jm (lab out x.From) ⟨x.Secs,x.Meters⟩=some (Z8 (lab out x.From) x):=by
     have:=Qge hr hxm h2 (by omega);exact this
    rw[hal]
    simp only[Option.bind_some]
    have hls:0≤(Z8 (lab out x.From) x).Secs:=by unfold Z8;simp only[];omega
    have hbe:Y5 ⟨(Z8 (lab out x.From) x).Secs,(Z8 (lab out x.From) x).Meters⟩ (lab out x.To)=_:=Qho hls
    rw[hbe]
    simp only[Option.bind_some]
    cases hb:(decide ((lab out x.To).Secs<0)||decide (Lg.lt (Z8 (lab out x.From) x) (lab out x.To))) with
    | true =>
     have hb':(lab out x.To).Secs<0∨Lg.lt (Z8 (lab out x.From) x) (lab out x.To):=by simpa using hb
     have hB2:=hB.better (b:=x.To) (l:=Z8 (lab out x.From) x) (by omega) (by omega) ⟨i0+1,by omega,.cons h2 hxm rfl⟩ hls hb';refine ⟨Z2 out x.To (Z8 (lab out x.From) x),?_,hB2.1,hB2.2,fun i l hi hw=> ?_⟩
     ·rw[show (⟨(Z8 (lab out x.From) x).Secs,(Z8 (lab out x.From) x).Meters⟩:Lg)=Z8 (lab out x.From) x from rfl] at *
      simp only[hb,cond_true,Option.bind_some]
     ·rw[QbK (by omega) (by omega) (by omega),if_pos rfl]
      exact ⟨hls,QcW (hB.best i _ l hi hw).2⟩
    | false =>
     refine ⟨out,?_,hB.more (by omega),fun n _ h=>⟨h,Lg.le_refl _⟩,fun i l hi hw=> ?_⟩
     ·rw[show (⟨(Z8 (lab out x.From) x).Secs,(Z8 (lab out x.From) x).Meters⟩:Lg)=Z8 (lab out x.From) x from rfl] at *
      simp only[hb,cond_false,Option.bind_some]
     ·simp only[Bool.or_eq_false_iff,decide_eq_false_iff_not] at hb
      exact ⟨by omega,Lg.le_trans (Lg.le_of_not_lt hb.2) (QcW (hB.best i _ l hi hw).2)⟩
   ·simp only[show decide (0≤(lab out x.From).Secs)=false by simpa using hf,cond_false,Option.bind_some]
    refine ⟨out,rfl,hB.more (by omega),fun n _ h=>⟨h,Lg.le_refl _⟩,fun i l hi hw=> ?_⟩;exact absurd (hB.best i _ l hi hw).1 hf
  obtain ⟨out1,h1,h2,h3,h4⟩:=step;obtain ⟨out',g1,g2⟩:=ih (j+1) (t+1) out1 n (by omega) (by omega) (by omega) (by omega) h2 (fun y hy i l hi hw=>by
   rcases Qai hx hy with h5 | h5
   ·have h6:=hE y h5 i l hi hw;have hyk:=hr.ed y (List.mem_of_mem_take h5);unfold Ww at hyk;have h7:=h3 y.To (by omega) h6.1;exact ⟨h7.1,Lg.le_trans h7.2 h6.2⟩
   ·subst h5;exact h4 i l hi hw)
  refine ⟨out',?_,by rw[show t+(d+1)=t+1+d by omega];exact g2⟩
  rw[iter,h1]
  exact g1
theorem Qk5 (hr:OkR r) (hs:0≤s∧s<r.Nodes): ∀(d k:Nat) (out:List Lg) (n:Nat),((k+d:Nat):Int)=r.Nodes→d<n→Bf r s (512*k) k out →
  ∃out',iter (Zx r) n (out,(k:Int))=some out'∧Bf r s (512*(k+d)) (k+d) out':=by
 intro d
 induction d with
 | zero =>
  intro k out n hk hn hB;obtain ⟨n,rfl⟩: ∃f,n=f+1:=⟨n-1,by omega⟩
  refine ⟨out,?_,hB⟩
  rw[iter]
  simp only[Zx,oun]
  rw[show decide ((k:Int)<r.Nodes)=false by simp;omega]
  rfl
 | succ d ih =>
  intro k out n hk hn hB;obtain ⟨n,rfl⟩: ∃f,n=f+1:=⟨n-1,by omega⟩
  have hel:=hr.el;have h2:=hr.n2;obtain ⟨out1,h3,h4⟩:=Qhw hr hs (k:=k) r.Edges.length 0 (512*k) out (((r.Edges.length:Nat):Int).toNat+1) (by omega) (by omega) (by omega) (by omega) hB (by intro x hx;simp at hx);obtain ⟨out',g1,g2⟩:=ih (k+1) out1 n (by omega) (by omega) (h4.more (by omega));refine ⟨out',?_,by rw[show k+(d+1)=k+1+d by omega];exact g2⟩
  rw[iter]
  simp only[Zx,oun]
  rw[show decide ((k:Int)<r.Nodes)=true by simp;omega]
  simp only[cond_true]
  rw[show (0:Int)=((0:Nat):Int) from rfl,h3]
  simp only[Option.bind_some,QQ]
  rw[JY (by omega)]
  exact g1
theorem Qjq (hr:OkR r) (hc:V1 r=0) (hs:0≤s∧s<r.Nodes): ∃out,YB r s=some (out,0)∧IsL r s out:=by
 have h1:=hr.n1;have h2:=hr.n2;obtain ⟨L,_,hL⟩:=Qfv (F:=40000) (Nat.le_refl _) hr hs;have hmk:WO (⟨0,0⟩:Lg) r.Nodes=some (List.replicate r.Nodes.toNat ⟨0,0⟩):=by
  unfold WO
  rw[if_pos (by omega)]
 have hl1:iter (YR (List.replicate r.Nodes.toNat ⟨0,0⟩)) ((((List.replicate r.Nodes.toNat (⟨0,0⟩:Lg)).length:Nat):Int).toNat+1) (List.replicate r.Nodes.toNat ⟨0,0⟩,0)=some (List.replicate r.Nodes.toNat noL):=by
  have hN:r.Nodes.toNat≤64:=by omega
  generalize r.Nodes.toNat=N at *
  have:=QcF (body:=YR (List.replicate N ⟨0,0⟩)) (List.replicate N (⟨0,0⟩:Lg)) (fun k=>List.replicate k noL++List.replicate (N-k) (⟨0,0⟩:Lg)) (fun m k=>(m,k)) (fun _ _=>none) (List.replicate N noL) (by simp;omega) (fun k x hx _=> ?_) (fun _=>by simp[YR,oun]) ((((List.replicate N (⟨0,0⟩:Lg)).length:Nat):Int).toNat+1) (by simp)
  ·rw[J4 _ _ (fun _ _ _=>rfl)] at this
   simpa using this
  ·have hk:=Qz hx;have hk2:((k:Int)<(((List.replicate N (⟨0,0⟩:Lg)).length:Nat):Int)):=by omega
   rw[List.length_replicate] at hk
   simp only[YR,oun,hk2,decide_true,cond_true,Qt]
   rw[List.getElem?_append_right (by simp),List.length_replicate,Nat.sub_self,List.getElem?_replicate,if_pos (by omega)]
   simp only[Option.bind_some,Qey]
   congr 3
   unfold Z2
   rw[Int.toNat_natCast,show N-k=(N-(k+1))+1 by omega,List.replicate_succ,List.set_append_right _ _ (by simp),List.length_replicate,Nat.sub_self,List.set_cons_zero,List.replicate_succ',List.append_assoc]
   rfl
 have hlenR:((((List.replicate r.Nodes.toNat noL).length:Nat)):Int)=r.Nodes:=by simp;omega
 have hset: ∀n,0≤n→lab (Z2 (List.replicate r.Nodes.toNat noL) s ⟨0,0⟩) n=if n=s then ⟨0,0⟩ else noL:=fun n hn=>by
  rw[QbK hs.1 (by omega) hn,QfQ]
 have hB:Bf r s (512*0) 0 (Z2 (List.replicate r.Nodes.toNat noL) s ⟨0,0⟩):=by
  refine ⟨by rw[QcP];exact hlenR,fun n h0 h3=> ?_,fun j n l hj hw=> ?_⟩
  ·rw[hset n h0]
   by_cases h4:n=s
   ·rw[if_pos h4,h4];exact .inr ⟨0,Nat.le_refl _,.nil⟩
   ·rw[if_neg h4];exact .inl rfl
  ·cases hw with
   | nil=>rw[hset s hs.1,if_pos rfl];exact ⟨Int.le_refl _,Lg.le_refl _⟩
   | cons=>omega
 obtain ⟨out,k1,k2⟩:=Qk5 hr hs r.Nodes.toNat 0 _ (r.Nodes.toNat+1) (by omega) (by omega) hB;refine ⟨out,?_,k2.len,fun n h0 h3=> ?_,fun k n l hw=> ?_⟩
 ·unfold YB
  rw[J9 _ (by have:=hr.el;omega),hc]
  simp only[Option.bind_some,decide_true,Bool.not_true,cond_false,Jr]
  rw[show decide ((0:Int)≤s)=true by simp;exact hs.1,show decide (s<r.Nodes)=true by simp;exact hs.2]
  simp only[cond_true,Option.bind_some,Bool.not_true,cond_false,hmk,hl1]
  rw[Vg hs.1 (by omega),QfQ]
  simp only[Option.bind_some]
  rw[show ((Z2 (List.replicate r.Nodes.toNat noL) s ⟨0,noL.Meters⟩,(0:Int)))=(Z2 (List.replicate r.Nodes.toNat noL) s ⟨0,0⟩,((0:Nat):Int)) from rfl,k1]
  rfl
 ·have hb:=hL.lb n h0 h3;rcases k2.lb n h0 h3 with h4 | ⟨j,h4,h5⟩
  ·exact .inl h4
  ·
   have h6:=hL.best _ _ _ h5;rcases hb with h7 | ⟨i,h7,h8⟩
   ·rw[h7] at h6;exact absurd h6.1 (by decide)
   ·have h9:=k2.best i n _ (by have:=hL.len;omega) h8;have:=k2.len;have:=hL.len;exact .inr ⟨i,by omega,(Lg.antisymm h9.2 h6.2)▸h8⟩
 ·have h6:=hL.best _ _ _ hw;have hn:=hw.node hr hs;obtain ⟨i,h7,h8,_⟩:=QdU hr (hL.lb n hn.1 hn.2) (QfX h6.1);have h9:=k2.best i n _ (by have:=hL.len;omega) h8;exact ⟨h9.1,Lg.le_trans h9.2 h6.2⟩
theorem Qio (hc:V1 r=0) (hs:0≤s∧s<r.Nodes): ∃L,IsL r s L∧(∀F,40000≤F→VE F r s=some (L,0))∧YB r s=some (L,0):=by
 have hr:=OkR.of hc;obtain ⟨L,h1,h2⟩:=Qjq hr hc hs;refine ⟨L,h2,fun F hF=> ?_,h1⟩;obtain ⟨L',h3,h4⟩:=Qfv hF hr hs
 rw[h4.unique hr h2] at h3
 unfold VE
 rw[Qb1 _ (by have:=hr.el;omega),hc]
 simp only[Option.bind_some,decide_true,Bool.not_true,cond_false,Y1]
 rw[show (decide (s<0)||decide (r.Nodes≤s))=false by simp;omega]
 simp only[cond_false,h3,Option.bind_some]
end Go.Proofs.YtilbengnjgglhaaGreat
namespace Go.Proofs.YtilbengnjgglhaaGreat
open Go.RowKit
set_option linter.unusedSimpArgs false
set_option linter.unusedVariables false
abbrev Pr:=Qb
abbrev Ve:=Qo
abbrev De:=Qn
abbrev Vi:=QK
structure OkV (n:Int) (v:Ve):Prop where
 d0:0≤v.Depot
 d1:v.Depot<n
 s0:0≤v.Shift.From
 s1:v.Shift.From<v.Shift.To
 s2:v.Shift.To≤86400
 g0:1≤v.Grams
 g1:v.Grams≤1073741824
 k0:1≤v.Kinds
 k1:v.Kinds<65536
structure OkD (n:Int) (d:De):Prop where
 n0:0≤d.Node
 n1:d.Node<n
 k0:0≤d.Kind
 k1:d.Kind<16
 g0:0≤d.Grams
 g1:d.Grams≤1073741824
 w0:0≤d.When.From
 w1:d.When.From≤d.When.To
 w2:d.When.To≤86400
 s0:0≤d.Service
 s1:d.Service≤3600
structure OkP (p:Pr):Prop where
 road:V1 p.Road=0
 ve: ∀v∈p.Vehicles,OkV p.Road.Nodes v
 de: ∀d∈p.Demands,OkD p.Road.Nodes d
 dl:p.Demands.length≤32
 u0:0≤p.Unload
 u1:p.Unload<p.Road.Nodes
 us0:0≤p.UnloadSecs
 us1:p.UnloadSecs≤7200
theorem Qjb {v:Ve} {n:Int} (h:QT v n 16=some 0):OkV n v:=by
 unfold QT at h;obtain ⟨b,hb,h⟩:=Qf h
 simp only[Y1,Option.bind_some,Jf (show (0:Int)≤16∧(16:Int)≤64 by decide)] at h
 rw[show w64 (1*2^(16:Int).toNat)=65536 by decide] at h
 cases b with
 | false=>cases h
 | true =>
  simp only[Bool.not_true,cond_false] at h
  cases h1:(decide (v.Depot<0)||decide (n≤v.Depot))<;>rw[h1] at h
  ·cases h2:(decide (v.Shift.From<0)||(decide (v.Shift.To≤v.Shift.From)||decide (86400<v.Shift.To)))<;>rw[h2] at h
   ·cases h3:(decide (v.Grams<1)||decide (1073741824<v.Grams))<;>rw[h3] at h
    ·cases h4:(decide (v.Kinds<1)||decide (65536≤v.Kinds))<;>rw[h4] at h
     ·simp only[Bool.or_eq_false_iff,decide_eq_false_iff_not] at h1 h2 h3 h4
      exact ⟨by omega,by omega,by omega,by omega,by omega,by omega,by omega,by omega,by omega⟩
     ·cases h
    ·cases h
   ·cases h
  ·cases h
theorem Qhr {l:List Ve} {n:Int} (h:QZ l n 16=some 0): ∀v∈l,OkV n v:=by
 by_cases hl:(16:Int)<((l.length:Nat):Int)
 ·unfold QZ at h
  simp only[Y1,Option.bind_some,hl,decide_true,cond_true] at h
  cases h1:(decide (n<1)||(decide (64<n)||(decide ((16:Int)<1)||decide ((16:Int)<16))))<;>rw[h1] at h
  ·rw[show decide (((l.length:Nat):Int)=0)=false by simp;intro e;rw[e] at hl;exact absurd hl (by decide)] at h
   cases h
  ·cases h
 ·have e1:=YA (body:=QH l n 16) l (fun _ x=>bif decide ((QT x n 16).getD 0=0) then none else some (.inr ((QT x n 16).getD 0))) (.inl ():Unit⊕Int) (by omega) (fun k x hx=>by
   have hk:=Qz hx;obtain ⟨e,he⟩:=QcJ x n;have hk2:((k:Int)<((l.length:Nat):Int)):=by omega
   simp only[QH,hk2,decide_true,cond_true,Qt,hx,Option.bind_some,he,Option.getD_some]
   cases decide (e=0)<;>rfl) (by simp[QH]) (((l.length:Nat):Int).toNat+1) (by simp)
  unfold QZ at h
  rw[e1] at h
  rcases Vx (step:=fun (_:Nat) (x:Ve)=>bif decide ((QT x n 16).getD 0=0) then none else some (.inr ((QT x n 16).getD 0):Unit⊕Int)) (fin:= .inl ()) l 0 with ⟨h1,_⟩ | ⟨i,x,o,h1,h2,h3,_⟩
  ·intro v hv;obtain ⟨i,hi⟩:=List.getElem?_of_mem hv;have:=h1 i v hi;obtain ⟨e,he⟩:=QcJ v n
   rw[he,Option.getD_some] at this
   by_cases h0:e=0
   ·subst h0;exact Qjb he
   ·rw[show decide (e=0)=false by simpa using h0] at this;cases this
  ·rw[h3] at h
   obtain ⟨e,he⟩:=QcJ x n
   rw[he,Option.getD_some] at h2
   by_cases h0:e=0
   ·subst h0;cases h2
   ·rw[show decide (e=0)=false by simpa using h0] at h2
    injection h2 with h2
    subst h2
    simp only[Y1,Option.bind_some,QQ] at h
    generalize (decide (n<1)||_)=a at h
    generalize decide (((l.length:Nat):Int)=0)=b at h
    generalize decide ((16:Int)<((l.length:Nat):Int))=c at h
    cases a<;>cases b<;>cases c<;>simp at h<;>exact absurd h h0
theorem Qhs {l:List De} {n:Int} (h:Q4 l n 16=some 0):(∀d∈l,OkD n d)∧l.length≤32:=by
 unfold Q4 at h
 by_cases hl:(32:Int)<((l.length:Nat):Int)
 ·simp only[hl,decide_true,cond_true] at h
  cases h
 ·refine ⟨?_,by omega⟩;have e1:=YA (body:=QL l n 16) l (fun _ x=>bif (decide (x.Container<0)||(decide (256≤x.Container)||(decide (x.Node<0)||(decide (n≤x.Node)||(decide (x.Kind<0)||decide (16≤x.Kind)))))) then some (.inr 7) else
    bif (decide (x.Grams<0)||(decide (1073741824<x.Grams)||(decide (x.When.From<0)||(decide (x.When.To<x.When.From)||(decide (86400<x.When.To)||(decide (x.Service<0)||decide (3600<x.Service))))))) then some (.inr 1) else none) (.inl ():Unit⊕Int) (by omega) (fun k x hx=>by
   have hk:=Qz hx;have hk2:((k:Int)<((l.length:Nat):Int)):=by omega
   simp only[QL,hk2,decide_true,cond_true,Qt,hx,Option.bind_some,Y1]
   generalize (decide (x.Container<0)||_)=a
   generalize (decide (x.Grams<0)||_)=b
   cases a<;>cases b<;>rfl) (by simp[QL]) (((l.length:Nat):Int).toNat+1) (by simp)
  rw[e1] at h
  rcases Vx (step:=fun (_:Nat) (x:De)=>bif (decide (x.Container<0)||(decide (256≤x.Container)||(decide (x.Node<0)||(decide (n≤x.Node)||(decide (x.Kind<0)||decide (16≤x.Kind)))))) then some (.inr 7:Unit⊕Int) else
    bif (decide (x.Grams<0)||(decide (1073741824<x.Grams)||(decide (x.When.From<0)||(decide (x.When.To<x.When.From)||(decide (86400<x.When.To)||(decide (x.Service<0)||decide (3600<x.Service))))))) then some (.inr 1) else none) (fin:= .inl ()) l 0 with ⟨h1,_⟩ | ⟨i,x,o,h1,h2,h3,_⟩
  ·intro v hv;obtain ⟨i,hi⟩:=List.getElem?_of_mem hv;have:=h1 i v hi
   simp only[cond_eq_ite,Bool.or_eq_true,decide_eq_true_eq] at this
   split at this
   ·cases this
   ·split at this
    ·cases this
    ·exact ⟨by omega,by omega,by omega,by omega,by omega,by omega,by omega,by omega,by omega,by omega,by omega⟩
  ·rw[h3] at h
   simp only[cond_eq_ite] at h2
   split at h2
   ·injection h2 with h2;subst h2
    simp only[hl,decide_false,cond_false,Option.bind_some,QQ] at h
    cases h
   ·split at h2
    ·injection h2 with h2;subst h2
     simp only[hl,decide_false,cond_false,Option.bind_some,QQ] at h
     cases h
    ·cases h2
theorem OkP.of {p:Pr} (hn:p.Road.Edges.length≤600) (h:Qi p=some 0):OkP p:=by
 unfold Qi at h
 rw[J9 _ hn] at h
 simp only[Option.bind_some,Y1] at h
 by_cases h1:V1 p.Road=0
 ·simp only[h1,decide_true,Bool.not_true,cond_false] at h
  obtain ⟨e2,he2,h⟩:=Qf h
  by_cases h2:e2=0
  ·subst h2
   simp only[decide_true,Bool.not_true,cond_false] at h
   obtain ⟨e3,he3,h⟩:=Qf h
   by_cases h3:e3=0
   ·subst h3
    simp only[decide_true,Bool.not_true,cond_false] at h
    obtain ⟨g1,g2⟩:=Qhs he3;cases h4:(decide (p.Unload<0)||decide (p.Road.Nodes≤p.Unload))<;>rw[h4] at h
    ·cases h5:(decide (p.UnloadSecs<0)||decide (7200<p.UnloadSecs))<;>rw[h5] at h
     ·simp only[Bool.or_eq_false_iff,decide_eq_false_iff_not] at h4 h5
      exact ⟨h1,Qhr he2,g1,g2,by omega,by omega,by omega,by omega⟩
     ·cases h
    ·cases h
   ·rw[show decide (e3=0)=false by simpa using h3] at h
    simp only[Bool.not_false,cond_true,Option.some.injEq] at h
    exact absurd h h3
  ·rw[show decide (e2=0)=false by simpa using h2] at h
   simp only[Bool.not_false,cond_true,Option.some.injEq] at h
   exact absurd h h2
 ·rw[show decide (V1 p.Road=0)=false by simpa using h1] at h
  simp only[Bool.not_false,cond_true,Option.some.injEq] at h
  exact absurd h h1
def Qb0 (p:Pr) (a:Int):List Lg:=match YB p.Road a with | some (L,_)=>L | none=>[]
def QR (p:Pr) (a b:Int):Lg:=lab (Qb0 p a) b
theorem QfR {p:Pr} (hp:OkP p) {a:Int} (ha:0≤a∧a<p.Road.Nodes):IsL p.Road a (Qb0 p a)∧YB p.Road a=some (Qb0 p a,0)∧ ∀F,40000≤F→VE F p.Road a=some (Qb0 p a,0):=by
 obtain ⟨L,h1,h2,h3⟩:=Qio hp.road ha;have:Qb0 p a=L:=by unfold Qb0;rw[h3]
 rw[this]
 exact ⟨h1,h3,h2⟩
theorem Zb {p:Pr} (hp:OkP p) {a b:Int} (ha:0≤a∧a<p.Road.Nodes) (hb:0≤b∧b<p.Road.Nodes):(QR p a b=noL∨0≤(QR p a b).Secs)∧ -1≤(QR p a b).Secs∧(QR p a b).Secs≤6400000∧0≤(QR p a b).Meters∧(QR p a b).Meters≤6400000:=by
 obtain ⟨h1,_⟩:=QfR hp ha;have hr:=OkR.of hp.road;have h2:=hr.n2;have h3:=h1.len;rcases h1.lb b hb.1 hb.2 with h4 | ⟨k,h4,h5⟩
 ·unfold QR
  rw[h4]
  exact ⟨.inl rfl,by decide,by decide,by decide,by decide⟩
 ·have h6:=h5.bound hr;unfold QR;exact ⟨.inr (by omega),by omega,by omega,by omega,by omega⟩
theorem QcM {p:Pr} (hp:OkP p) {a b:Int} (ha:0≤a∧a<p.Road.Nodes) (hb:0≤b∧b<p.Road.Nodes):YP p a b=some (QR p a b):=by
 obtain ⟨h1,h2,_⟩:=QfR hp ha;have h3:=h1.len;unfold YP
 rw[h2]
 simp only[Option.bind_some,oun,Y1,decide_true,Bool.not_true,Bool.false_or]
 rw[show (decide (b<0)||decide ((((Qb0 p a).length:Nat):Int)≤b))=false by simp;omega]
 simp only[cond_false]
 rw[Vg hb.1 (by omega)]
 rfl
def okC (p:Pr) (m:List (Int×List Lg)):Prop:= ∀n L,Wv n m=some L→L=Qb0 p n
theorem Qhi {F:Nat} (hF:40000≤F) {w:Qs} (hp:OkP w.p) (hc:okC w.p w.legs) {b:Int} (ha:0≤w.place.node∧w.place.node<w.p.Road.Nodes) (hb:0≤b∧b<w.p.Road.Nodes) :
  ∃m,JQ F w b=some (QR w.p w.place.node b,decide (0≤(QR w.p w.place.node b).Secs),⟨w.place,w.p,w.v,m,w.visits⟩)∧okC w.p m:=by
 obtain ⟨h1,_,h2⟩:=QfR hp ha;have h3:=h1.len;have hg:QJ (Qb0 w.p w.place.node) b=some (QR w.p w.place.node b):=Vg hb.1 (by omega);unfold JQ;cases hm:Wv w.place.node w.legs with
 | none =>
  refine ⟨Qaq w.place.node (Qb0 w.p w.place.node) w.legs,?_,fun n L hL=> ?_⟩
  ·simp only[Option.isSome_none,Bool.not_false,cond_true,h2 F hF,Option.bind_some,oun,hg]
  ·by_cases hn:n=w.place.node
   ·subst hn
    rw[Qev] at hL
    injection hL with hL;exact hL.symm
   ·rw[QfW hn] at hL
    exact hc n L hL
 | some L =>
  have:=hc _ _ hm;subst this;refine ⟨w.legs,?_,hc⟩
  simp only[Option.isSome_some,Bool.not_true,cond_false,Option.bind_some,oun,Option.getD_some,hg]
def Qd4 (v:Ve) (k:Int):Bool:=decide ((v.Kinds/2^k.toNat)%2=1)
theorem QjX {x:Int} (h0:0≤x) (h1:x<65536):QeO .i64 x 1=x%2:=by
 obtain ⟨n,rfl⟩: ∃n:Nat,x=n:=⟨x.toNat,by omega⟩
 unfold QeO;have e1:(BitVec.ofInt IntKind.i64.bits (n:Int) &&& BitVec.ofInt IntKind.i64.bits 1).toNat=n%2:=by
  rw[BitVec.toNat_and]
  have e2:(BitVec.ofInt IntKind.i64.bits (n:Int)).toNat=n:=by
   rw[BitVec.toNat_ofInt]
   show (((n:Int)%((2^64:Nat):Int)).toNat)=n
   omega
  have e3:(BitVec.ofInt IntKind.i64.bits 1).toNat=1:=by decide
  rw[e2,e3,Nat.and_one_is_mod]
 rw[e1]
 have:IntKind.i64.wrap ((n%2:Nat):Int)=w64 ((n%2:Nat):Int):=rfl
 rw[this,QV (by omega) (by omega)]
 omega
theorem QlA {v:Ve} {n:Int} (hv:OkV n v) (k:Nat):0≤v.Kinds/2^k∧v.Kinds/2^k<65536:=by
 have h0:=hv.k0;have h1:=hv.k1;have h2:(0:Int)<2^k:=Int.pow_pos (by decide);refine ⟨Int.ediv_nonneg (by omega) (by omega),?_⟩;have:v.Kinds/2^k≤v.Kinds:=Int.ediv_le_self _ (by omega)
 omega
theorem QdW {v:Ve} {n:Int} (hv:OkV n v) {k:Int} (h0:0≤k) (h1:k<16):JO v k=some (Qd4 v k)∧JI v k=some (Qd4 v k):=by
 have h2:=QlA hv k.toNat;have h3:=hv.k0;have h4:=hv.k1
 constructor
 ·unfold JO Qd4
  rw[show decide (0≤k)=true by simpa using h0,show decide (k<16)=true by simpa using h1]
  simp only[cond_true,Jf (show 0≤k∧k≤64 by omega),Option.bind_some,QjX h2.1 h2.2]
 ·unfold JI Qd4
  simp only[Y1,Option.bind_some]
  rw[show (decide (k<0)||decide (16≤k))=false by simp;omega]
  simp only[cond_false,Jf (show 0≤k∧k≤64 by omega),Option.bind_some]
  have e1:IntKind.u64.wrap v.Kinds=v.Kinds:=by
   show v.Kinds%18446744073709551616=v.Kinds
   omega
  rw[e1,Int.tmod_eq_emod_of_nonneg h2.1]
end Go.Proofs.YtilbengnjgglhaaGreat
namespace Go.Proofs.YtilbengnjgglhaaGreat
open Go.RowKit
set_option linter.unusedSimpArgs false
set_option linter.unusedVariables false
theorem Qdl (L:List Int) (hn:L.length≤1000) (s:Int):Y0 L s=some (decide (s∈L)):=by
 unfold Y0 We;have:=YA (body:=ZZ L s) L (fun k y=>bif decide (s=y) then some (.inr (k:Int)) else none) (.inl ():Unit⊕Int) (by omega) (fun k y hy=> ?_) (by simp[ZZ]) (((L.length:Nat):Int).toNat+1) (by simp)
 ·rw[this]
  have ha:L.any (fun y=>decide (s=y))=decide (s∈L):=by
   rw[Bool.eq_iff_iff]
   simp only[List.any_eq_true,decide_eq_true_eq]
   exact ⟨fun ⟨y,h1,h2⟩=>h2▸h1,fun h=>⟨s,h,rfl⟩⟩
  rw[←ha]
  rcases QhN (fun y:Int=>decide (s=y)) L 0 with ⟨h1,h2⟩ | ⟨j,h1,h2⟩
  ·rw[h1,h2];rfl
  ·rw[h1,h2]
   simp only[Option.bind_some,QQ]
   simp
 ·have hk:=Qz hy;have hk2:((k:Int)<(L.length:Nat)):=by omega
  simp only[ZZ,hk2,decide_true,cond_true,Qt,hy,Option.bind_some]
  cases decide (s=y)<;>rfl
def JX (p:Pr) (v:Ve) (pre:List Int) (x:Vi) (s:Int):Vi⊕Int :=
 if s= -1 then
  if (QR p x.Node p.Unload).Secs<0 then .inr 22
  else .inl ⟨s,p.Unload,x.Leave+(QR p x.Node p.Unload).Secs,x.Leave+(QR p x.Node p.Unload).Secs,x.Leave+(QR p x.Node p.Unload).Secs+p.UnloadSecs,0⟩
 else if s<0∨((p.Demands.length:Nat):Int)≤s then .inr 7
 else if s∈pre then .inr 6
 else match p.Demands[s.toNat]? with
  | none=> .inr 7
  | some d =>
   if Qd4 v d.Kind=false then .inr 21
   else if (QR p x.Node d.Node).Secs<0 then .inr 22
   else if d.When.To≤max (x.Leave+(QR p x.Node d.Node).Secs) d.When.From then .inr 19
   else if v.Grams<x.Load+d.Grams then .inr 20
   else .inl ⟨s,d.Node,x.Leave+(QR p x.Node d.Node).Secs,max (x.Leave+(QR p x.Node d.Node).Secs) d.When.From,max (x.Leave+(QR p x.Node d.Node).Secs) d.When.From+d.Service,x.Load+d.Grams⟩
structure InV (p:Pr) (v:Ve) (k:Nat) (x:Vi):Prop where
 n0:0≤x.Node
 n1:x.Node<p.Road.Nodes
 t0:0≤x.Leave
 t1:x.Leave≤100000+k*7000000
 l0:0≤x.Load
 l1:x.Load≤v.Grams
theorem QbB {p:Pr} {v:Ve} (hp:OkP p) (hv:OkV p.Road.Nodes v) {k:Nat} {x y:Vi} {pre:List Int} {s:Int} (h:InV p v k x) (hs:JX p v pre x s= .inl y) :
  InV p v (k+1) y∧0≤(QR p x.Node y.Node).Secs∧y.Stop=s:=by
 have hu:=Zb hp ⟨h.n0,h.n1⟩ ⟨hp.u0,hp.u1⟩;have h1:=h.t0;have h2:=h.t1;have h3:=h.l0;have h4:=h.l1;have hus0:=hp.us0;have hus1:=hp.us1;have hg:=hv.g0;unfold JX at hs
 split at hs
 ·split at hs
  ·cases hs
  ·injection hs with hs;subst hs
   refine ⟨⟨hp.u0,hp.u1,by simp only[];omega,by simp only[];omega,Int.le_refl _,by simp only[];omega⟩,by simp only[];omega,rfl⟩
 ·split at hs
  ·cases hs
  ·split at hs
   ·cases hs
   ·split at hs
    ·cases hs
    ·rename_i d hd
     have hd2:=hp.de d (List.mem_of_getElem? hd);have hl:=Zb hp ⟨h.n0,h.n1⟩ ⟨hd2.n0,hd2.n1⟩;have a1:=hd2.g0;have a2:=hd2.w0;have a3:=hd2.w1;have a4:=hd2.w2;have a5:=hd2.s0;have a6:=hd2.s1
     split at hs
     ·cases hs
     ·split at hs
      ·cases hs
      ·split at hs
       ·cases hs
       ·split at hs
        ·cases hs
        ·injection hs with hs;subst hs
         refine ⟨⟨hd2.n0,hd2.n1,by simp only[];omega,by simp only[];omega,by simp only[];omega,by simp only[];omega⟩,by simp only[];omega,rfl⟩
theorem Qfw {p:Pr} {v:Ve} {x:Vi} {pre:List Int} {s e:Int} (hs:JX p v pre x s= .inr e):e≠0:=by
 unfold JX at hs
 repeat' split at hs
 all_goals first | (cases hs;done) | (injection hs with hs;subst hs;decide)
theorem Qju (stops:List Int) (i:Nat) (hi:i≤stops.length) (hn:stops.length≤1000) (s:Int):iter (Zk stops (i:Int) s) ((i:Int).toNat+1) 0=some (bif decide (s∈stops.take i) then .inr 6 else .inl ()):=by
 have:=YA (body:=Zk stops (i:Int) s) (stops.take i) (fun _ y=>bif decide (y=s) then some (.inr 6) else none) (.inl ():Unit⊕Int) (by simp;omega) (fun k y hy=> ?_) (by rw[Zs hi];simp[Zk]) ((i:Int).toNat+1) (by rw[Zs hi];omega)
 ·rw[this,QiS]
  have ha:(stops.take i).any (fun y=>decide (y=s))=decide (s∈stops.take i):=by
   rw[Bool.eq_iff_iff]
   simp only[List.any_eq_true,decide_eq_true_eq]
   exact ⟨fun ⟨y,h1,h2⟩=>h2▸h1,fun h=>⟨s,h,rfl⟩⟩
  rw[ha]
 ·have hk:=Qz hy
  rw[Zs hi] at hk
  rw[List.getElem?_take,if_pos hk] at hy
  have hk2:((k:Int)<(i:Int)):=by omega
  simp only[Zk,hk2,decide_true,cond_true,Qt,hy,Option.bind_some]
  cases decide (y=s)<;>rfl
theorem Qjs {p:Pr} {v:Ve} (hp:OkP p) (hv:OkV p.Road.Nodes v) {t:Ql} (hn:t.Stops.length≤40) {k:Nat} {s:Int} (hk:t.Stops[k]? =some s) {x:Vi} (hx:InV p v k x) (out:List Vi) (ho:out.length≤1000) :
  YT p t v (x.Stop,x.Node,x.Arrive,x.Start,x.Leave,x.Load,out,(k:Int))=match JX p v (t.Stops.take k) x s with
   | .inl y=>some (.inl (y.Stop,y.Node,y.Arrive,y.Start,y.Leave,y.Load,out++[y],((k+1:Nat):Int)))
   | .inr e=>some (.inr (.inr ([],e,(k:Int)))):=by
 have hkl:=Qz hk;have hk2:((k:Int)<((t.Stops.length:Nat):Int)):=by omega
 have h1:=hx.t0;have h2:=hx.t1;have h3:=hx.l0;have h4:=hx.l1;have hg:=hv.g1;have happ: ∀y,Wh out [y]=some (out++[y]):=fun y=>ZP (by simp;omega)
 simp only[YT,oun,hk2,decide_true,cond_true,Qt,hk,Option.bind_some,JY (show k<9223372036854775807 by omega)]
 unfold Vr JX
 simp only[Qt,hk,Option.bind_some]
 by_cases hs:s= -1
 ·subst hs;have hu:=Zb hp ⟨hx.n0,hx.n1⟩ ⟨hp.u0,hp.u1⟩;have hus0:=hp.us0;have hus1:=hp.us1
  simp only[decide_true,cond_true,if_true,Option.bind_some]
  unfold J8
  rw[show decide ((0:Int)≤ -1)=false by decide]
  simp only[cond_false,Option.bind_some]
  rw[QcM hp ⟨hx.n0,hx.n1⟩ ⟨hp.u0,hp.u1⟩]
  simp only[Option.bind_some]
  by_cases hl:(QR p x.Node p.Unload).Secs<0
  ·simp only[hl,decide_true,cond_true,if_true,Option.bind_some,oun]
   rfl
  ·rw[if_neg hl]
   simp only[hl,decide_false,cond_false,show decide ((-1:Int)<0)=true by decide,cond_true,Option.bind_some,oun,decide_true,Bool.not_true]
   rw[QV (n:=x.Leave+(QR p x.Node p.Unload).Secs) (by omega) (by omega),QV (by omega) (by omega),happ]
   rfl
 ·simp only[show decide (s= -1)=false by simpa using hs,cond_false,if_neg hs,Y1,Option.bind_some]
  by_cases h7:s<0∨((p.Demands.length:Nat):Int)≤s
  ·rw[if_pos h7,show (decide (s<0)||decide (((p.Demands.length:Nat):Int)≤s))=true by simpa using h7]
   simp only[cond_true,Option.bind_some,show decide ((7:Int)=0)=false by decide,cond_false,oun,Bool.not_false]
  ·rw[if_neg h7,show (decide (s<0)||decide (((p.Demands.length:Nat):Int)≤s))=false by simpa using h7]
   simp only[cond_false]
   rw[Qju _ _ (Nat.le_of_lt hkl) (by omega)]
   by_cases h6:s∈t.Stops.take k
   ·rw[if_pos h6]
    simp only[h6,decide_true,cond_true,Option.bind_some,QQ,show decide ((6:Int)=0)=false by decide,cond_false,oun,Bool.not_false]
   ·rw[if_neg h6]
    obtain ⟨i,rfl⟩: ∃i:Nat,s=i:=⟨s.toNat,by omega⟩
    have hd:p.Demands[i]? =some p.Demands[i]:=List.getElem?_eq_getElem (by omega)
    generalize p.Demands[i]=d at hd
    have hd2:=hp.de d (List.mem_of_getElem? hd);have hl:=Zb hp ⟨hx.n0,hx.n1⟩ ⟨hd2.n0,hd2.n1⟩;have a1:=hd2.g0;have a2:=hd2.w0;have a3:=hd2.w1;have a4:=hd2.w2;have a5:=hd2.s0;have a6:=hd2.s1;have a7:=hd2.g1
    simp only[h6,decide_false,cond_false,Option.bind_some,QQ,Qt,hd,Int.toNat_natCast,(QdW hv hd2.k0 hd2.k1).2]
    cases hc:Qd4 v d.Kind with
    | false=>simp only[Bool.not_false,cond_true,Option.bind_some,show decide ((21:Int)=0)=false by decide,cond_false,oun,if_true]
    | true =>
     simp only[Bool.not_true,cond_false,Option.bind_some,decide_true,cond_true,Bool.true_eq_false,if_false]
     unfold J8
     rw[show decide ((0:Int)≤(i:Int))=true by simp]
     simp only[cond_true,Qt,hd,Option.bind_some]
     rw[QcM hp ⟨hx.n0,hx.n1⟩ ⟨hd2.n0,hd2.n1⟩]
     simp only[Option.bind_some]
     by_cases hl2:(QR p x.Node d.Node).Secs<0
     ·rw[if_pos hl2]
      simp only[hl2,decide_true,cond_true,Option.bind_some,oun,show decide ((22:Int)=0)=false by decide,Bool.not_false]
     ·rw[if_neg hl2]
      simp only[hl2,decide_false,cond_false,show decide ((i:Int)<0)=false by simp,Option.bind_some]
      rw[QV (n:=x.Leave+(QR p x.Node d.Node).Secs) (by omega) (by omega),QV (n:=x.Load+d.Grams) (by omega) (by omega)]
      by_cases hw:d.When.To≤max (x.Leave+(QR p x.Node d.Node).Secs) d.When.From
      ·rw[if_pos hw]
       simp only[hw,decide_true,cond_true,Option.bind_some,oun,show decide ((19:Int)=0)=false by decide,Bool.not_false]
      ·rw[if_neg hw]
       by_cases hgr:v.Grams<x.Load+d.Grams
       ·rw[if_pos hgr]
        simp only[hw,hgr,decide_true,decide_false,cond_true,cond_false,Option.bind_some,oun,show decide ((20:Int)=0)=false by decide,Bool.not_false]
       ·rw[if_neg hgr]
        rw[QV (n:=max (x.Leave+(QR p x.Node d.Node).Secs) d.When.From+d.Service) (by omega) (by omega)]
        simp only[hw,hgr,decide_false,cond_false,Option.bind_some,oun,decide_true,Bool.not_true,happ]
end Go.Proofs.YtilbengnjgglhaaGreat
namespace Go.Proofs.YtilbengnjgglhaaGreat
open Go.RowKit
set_option linter.unusedSimpArgs false
set_option linter.unusedVariables false
abbrev Wa:=Qs
structure At (p:Pr) (v:Ve) (w:Wa) (x:Vi) (m:Int) (l:List Vi):Prop where
 pl:w.place=⟨x.Node,x.Leave,x.Load,m⟩
 ep:w.p=p
 ev:w.v=v
 vs:w.visits=l
 ok:okC p w.legs
theorem QfY {w:Wa} {s a b:Int} (h:w.visits.length≤1000):Jb w s a b=some ⟨w.place,w.p,w.v,w.legs,w.visits++[⟨s,w.place.node,a,b,w.place.time,w.place.load⟩]⟩:=by
 unfold Jb
 rw[ZP (by simp;omega)]
 rfl
theorem QhC {F:Nat} (hF:40000≤F) {p:Pr} {v:Ve} (hp:OkP p) (hv:OkV p.Road.Nodes v) {t:Ql} (hn:t.Stops.length≤40) {k:Nat} {s:Int} (hk:t.Stops[k]? =some s) {x:Vi} (hx:InV p v k x) {w:Wa} {m:Int} {l:List Vi}
  (hw:At p v w x m l) (hl:l.length≤900) (hm0:0≤m) (hm1:m≤k*6400000) :
  match JX p v (t.Stops.take k) x s with
   | .inl y=> ∃w',Jh F w t (k:Int)=some (0,w')∧At p v w' y (m+(QR p x.Node y.Node).Meters) (l++[y])
   | .inr e=> ∃w',Jh F w t (k:Int)=some (e,w'):=by
 obtain ⟨pl,wp,wv,wl,wvs⟩:=w;obtain ⟨e1,e2,e3,e4,e5⟩:=hw
 simp only at e1 e2 e3 e4 e5
 subst e1 e2 e3 e4;have hkl:=Qz hk;have h1:=hx.t0;have h2:=hx.t1;have h3:=hx.l0;have h4:=hx.l1;have hg:=hv.g1;have hsub:J0 t.Stops 0 (k:Int)=some (t.Stops.take k):=Va (Nat.le_of_lt hkl);have hcon:Y0 (t.Stops.take k) s=some (decide (s∈t.Stops.take k)):=Qdl _ (by simp;omega) s;unfold Jh JX
 simp only[Qt,hk,Option.bind_some]
 by_cases hs:s= -1
 ·subst hs;have hu:=Zb hp ⟨hx.n0,hx.n1⟩ ⟨hp.u0,hp.u1⟩;have hus0:=hp.us0;have hus1:=hp.us1;obtain ⟨c,hc1,hc2⟩:=Qhi hF (w:=⟨⟨x.Node,x.Leave,x.Load,m⟩,wp,wv,wl,wvs⟩) hp e5 ⟨hx.n0,hx.n1⟩ ⟨hp.u0,hp.u1⟩
  simp only[decide_true,Bool.not_true,cond_false,cond_true,if_true,Option.bind_some,QQ,hc1,oun]
  by_cases hl2:(QR wp x.Node wp.Unload).Secs<0
  ·rw[if_pos hl2,show decide (0≤(QR wp x.Node wp.Unload).Secs)=false by simp;omega]
   exact ⟨_,rfl⟩
  ·rw[if_neg hl2,show decide (0≤(QR wp x.Node wp.Unload).Secs)=true by simp;omega]
   simp only[Bool.not_true,cond_false]
   rw[QV (n:=x.Leave+(QR wp x.Node wp.Unload).Secs) (by omega) (by omega),QV (n:=x.Leave+(QR wp x.Node wp.Unload).Secs+wp.UnloadSecs) (by omega) (by omega),QV (n:=m+(QR wp x.Node wp.Unload).Meters) (by omega) (by omega)]
   rw[QfY (by simp only[];omega)]
   exact ⟨_,rfl,⟨rfl,rfl,rfl,rfl,hc2⟩⟩
 ·simp only[show decide (s= -1)=false by simpa using hs,cond_false,cond_true,Bool.not_false,if_neg hs,Y1,Option.bind_some]
  by_cases h7:s<0∨((wp.Demands.length:Nat):Int)≤s
  ·rw[if_pos h7,show (decide (s<0)||decide (((wp.Demands.length:Nat):Int)≤s))=true by simpa using h7]
   exact ⟨_,rfl⟩
  ·rw[if_neg h7,show (decide (s<0)||decide (((wp.Demands.length:Nat):Int)≤s))=false by simpa using h7]
   simp only[cond_false,hsub,hcon,Option.bind_some]
   by_cases h6:s∈t.Stops.take k
   ·rw[if_pos h6]
    simp only[h6,decide_true,cond_true,Option.bind_some,QQ]
    exact ⟨_,rfl⟩
   ·rw[if_neg h6]
    obtain ⟨i,rfl⟩: ∃i:Nat,s=i:=⟨s.toNat,by omega⟩
    have hd:wp.Demands[i]? =some wp.Demands[i]:=List.getElem?_eq_getElem (by omega)
    generalize wp.Demands[i]=d at hd
    have hd2:=hp.de d (List.mem_of_getElem? hd);have hl3:=Zb hp ⟨hx.n0,hx.n1⟩ ⟨hd2.n0,hd2.n1⟩;have a1:=hd2.g0;have a2:=hd2.w0;have a3:=hd2.w1;have a4:=hd2.w2;have a5:=hd2.s0;have a6:=hd2.s1;have a7:=hd2.g1;obtain ⟨c,hc1,hc2⟩:=Qhi hF (w:=⟨⟨x.Node,x.Leave,x.Load,m⟩,wp,wv,wl,wvs⟩) hp e5 ⟨hx.n0,hx.n1⟩ ⟨hd2.n0,hd2.n1⟩
    simp only[h6,decide_false,cond_false,Option.bind_some,QQ,Qt,hd,Int.toNat_natCast,(QdW hv hd2.k0 hd2.k1).1]
    cases hc:Qd4 wv d.Kind with
    | false=>simp only[Bool.not_false,cond_true,Option.bind_some,QQ,if_true];exact ⟨_,rfl⟩
    | true =>
     simp only[Bool.not_true,cond_false,Option.bind_some,Bool.true_eq_false,if_false,QQ,hc1,oun]
     by_cases hl2:(QR wp x.Node d.Node).Secs<0
     ·rw[if_pos hl2,show decide (0≤(QR wp x.Node d.Node).Secs)=false by simp;omega]
      exact ⟨_,rfl⟩
     ·rw[if_neg hl2,show decide (0≤(QR wp x.Node d.Node).Secs)=true by simp;omega]
      simp only[Bool.not_true,cond_false,Qt,hd,Option.bind_some]
      rw[QV (n:=x.Leave+(QR wp x.Node d.Node).Secs) (by omega) (by omega),QV (n:=x.Load+d.Grams) (by omega) (by omega),QV (n:=m+(QR wp x.Node d.Node).Meters) (by omega) (by omega)]
      by_cases hw:d.When.To≤max (x.Leave+(QR wp x.Node d.Node).Secs) d.When.From
      ·rw[if_pos hw]
       simp only[hw,decide_true,cond_true]
       exact ⟨_,rfl⟩
      ·rw[if_neg hw]
       by_cases hgr:wv.Grams<x.Load+d.Grams
       ·rw[if_pos hgr]
        simp only[hw,hgr,decide_true,decide_false,cond_true,cond_false]
        exact ⟨_,rfl⟩
       ·rw[if_neg hgr]
        rw[QV (n:=max (x.Leave+(QR wp x.Node d.Node).Secs) d.When.From+d.Service) (by omega) (by omega)]
        simp only[hw,hgr,decide_false,cond_false]
        rw[QfY (by simp only[];omega)]
        exact ⟨_,rfl,⟨rfl,rfl,rfl,rfl,hc2⟩⟩
def Wc (p:Pr) (v:Ve):List Int→List Int→Vi→(Vi×List Vi)⊕(Int×Nat)
 | _,[],x=> .inl (x,[])
 | pre,s::rest,x=>match JX p v pre x s with
  | .inr e=> .inr (e,pre.length)
  | .inl y=>match Wc p v (pre++[s]) rest y with
   | .inl z=> .inl (z.1,y::z.2)
   | .inr q=> .inr q
def VS (p:Pr):Int→List Vi→Int
 | _,[]=>0
 | a,y::l=>(QR p a y.Node).Meters+VS p y.Node l
theorem QcD {p:Pr} {v:Ve}: ∀(rest pre:List Int) (x:Vi) (q:Int×Nat),Wc p v pre rest x= .inr q→q.1≠0
 | [],pre,x,q,h=>by cases h
 | s::rest,pre,x,q,h=>by
  unfold Wc at h
  split at h
  ·rename_i e he
   injection h with h;subst h
   exact Qfw he
  ·rename_i y hy
   split at h
   ·cases h
   ·rename_i q' hq
    injection h with h;subst h
    exact QcD rest _ _ _ hq
theorem QdR {p:Pr} {v:Ve} (hp:OkP p) (hv:OkV p.Road.Nodes v): ∀(rest pre:List Int) (x:Vi) (z:Vi×List Vi),InV p v pre.length x→Wc p v pre rest x= .inl z→InV p v (pre.length+rest.length) z.1∧z.2.length=rest.length∧0≤VS p x.Node z.2∧VS p x.Node z.2≤rest.length*6400000
 | [],pre,x,z,hx,h=>by
  injection h with h;subst h
  exact ⟨hx,rfl,Int.le_refl _,by simp[VS]⟩
 | s::rest,pre,x,z,hx,h=>by
  unfold Wc at h
  split at h
  ·cases h
  ·rename_i y hy
   obtain ⟨h1,h2,_⟩:=QbB hp hv hx hy
   split at h
   ·rename_i z' hz
    injection h with h;subst h
    have h3:=QdR hp hv rest (pre++[s]) y z' (by simpa using h1) hz;have h4:=Zb hp ⟨hx.n0,hx.n1⟩ ⟨h1.n0,h1.n1⟩
    simp only[List.length_append,List.length_singleton,List.length_cons,VS] at h3 ⊢
    refine ⟨by rw[show pre.length+(rest.length+1)=pre.length+1+rest.length by omega];exact h3.1,by omega,by omega,by omega⟩
   ·cases h
theorem Qfx {t:List Int} {k:Nat} {s:Int} {rest:List Int} (h:t.drop k=s::rest):t[k]? =some s∧t.take (k+1)=t.take k++[s]∧t.drop (k+1)=rest:=by
 have h1:t[k]? =some s:=by
  have:(t.drop k)[0]? =some s:=by rw[h];rfl
  rw[List.getElem?_drop] at this
  simpa using this
 refine ⟨h1,QaZ h1,?_⟩
 rw[←List.drop_drop,h]
 rfl
theorem Qjr {p:Pr} {v:Ve} (hp:OkP p) (hv:OkV p.Road.Nodes v) {t:Ql} (hn:t.Stops.length≤40): ∀(rest:List Int) (k:Nat) (x:Vi) (out:List Vi) (n:Nat),t.Stops.drop k=rest→k≤t.Stops.length→rest.length<n→InV p v k x→out.length=k →
  iter (YT p t v) n (x.Stop,x.Node,x.Arrive,x.Start,x.Leave,x.Load,out,(k:Int))=some (match Wc p v (t.Stops.take k) rest x with
   | .inl z=> .inl (z.1.Stop,z.1.Node,z.1.Arrive,z.1.Start,z.1.Leave,z.1.Load,out++z.2)
   | .inr q=> .inr ([],q.1,((q.2:Nat):Int))):=by
 intro rest
 induction rest with
 | nil =>
  intro k x out n hd hk hn2 hx ho;obtain ⟨n,rfl⟩: ∃f,n=f+1:=⟨n-1,by omega⟩
  have hk2:k=t.Stops.length:=by
   have:=congrArg List.length hd
   simp at this;omega
  rw[iter]
  simp only[YT,oun]
  rw[show decide ((k:Int)<((t.Stops.length:Nat):Int))=false by simp;omega]
  simp only[cond_false,Option.bind_some,QQ,Wc,List.append_nil]
 | cons s rest ih =>
  intro k x out n hd hk hn2 hx ho;obtain ⟨n,rfl⟩: ∃f,n=f+1:=⟨n-1,by omega⟩
  obtain ⟨h1,h2,h3⟩:=Qfx hd;have hkl:=Qz h1
  rw[iter,Qjs hp hv hn h1 hx out (by omega)]
  unfold Wc;cases hs:JX p v (t.Stops.take k) x s with
  | inr e =>
   simp only[Option.bind_some,QQ]
   rw[Zs (Nat.le_of_lt hkl)]
  | inl y =>
   simp only[Option.bind_some,QQ]
   have:=ih (k+1) y (out++[y]) n h3 (by omega) (by simp only[List.length_cons] at hn2;omega) (QbB hp hv hx hs).1 (by simp;omega)
   rw[this,h2]
   cases Wc p v (t.Stops.take k++[s]) rest y with
   | inl z=>simp
   | inr q=>rfl
theorem Qjk {F:Nat} (hF:40000≤F) {p:Pr} {v:Ve} (hp:OkP p) (hv:OkV p.Road.Nodes v) {t:Ql} (hn:t.Stops.length≤40): ∀(rest:List Int) (k:Nat) (x:Vi) (w:Wa) (m:Int) (l:List Vi) (n:Nat),t.Stops.drop k=rest→k≤t.Stops.length→rest.length<n→InV p v k x→At p v w x m l→l.length=k→0≤m→m≤k*6400000 →
  match Wc p v (t.Stops.take k) rest x with
   | .inl z=> ∃w',iter (ZA F t) n (w,0,(k:Int))=some (w',0,((t.Stops.length:Nat):Int))∧At p v w' z.1 (m+VS p x.Node z.2) (l++z.2)
   | .inr q=> ∃w',iter (ZA F t) n (w,0,(k:Int))=some (w',q.1,((q.2:Nat):Int)):=by
 intro rest
 induction rest with
 | nil =>
  intro k x w m l n hd hk hn2 hx hw ho hm0 hm1;obtain ⟨n,rfl⟩: ∃f,n=f+1:=⟨n-1,by omega⟩
  have hk2:k=t.Stops.length:=by
   have:=congrArg List.length hd
   simp at this;omega
  refine ⟨w,?_,by simpa [VS] using hw⟩
  rw[iter]
  simp only[ZA,oun]
  rw[show decide ((k:Int)<((t.Stops.length:Nat):Int))=false by simp;omega]
  simp only[cond_false,Option.bind_some,QQ,hk2]
 | cons s rest ih =>
  intro k x w m l n hd hk hn2 hx hw ho hm0 hm1;obtain ⟨n,rfl⟩: ∃f,n=f+1:=⟨n-1,by omega⟩
  obtain ⟨h1,h2,h3⟩:=Qfx hd;have hkl:=Qz h1;have hst:=QhC hF hp hv hn h1 hx hw (by omega) hm0 hm1;have hk2:decide ((k:Int)<((t.Stops.length:Nat):Int))=true:=by simp;omega
  unfold Wc;cases hs:JX p v (t.Stops.take k) x s with
  | inr e =>
   rw[hs] at hst
   obtain ⟨w',hw'⟩:=hst;refine ⟨w',?_⟩
   rw[iter]
   simp only[ZA,oun,hk2,cond_true,hw',Option.bind_some]
   rw[show decide (e=0)=false by simpa using Qfw hs]
   simp only[Bool.not_false,cond_true,Option.bind_some,QQ]
   rw[Zs (Nat.le_of_lt hkl)]
  | inl y =>
   rw[hs] at hst
   obtain ⟨w',hw',hat⟩:=hst;have hin:=QbB hp hv hx hs;have hlb:=Zb hp ⟨hx.n0,hx.n1⟩ ⟨hin.1.n0,hin.1.n1⟩;have:=ih (k+1) y w' (m+(QR p x.Node y.Node).Meters) (l++[y]) n h3 (by omega) (by simp only[List.length_cons] at hn2;omega) hin.1 hat (by simp;omega) (by omega) (by omega)
   rw[h2] at this
   have hb:iter (ZA F t) (n+1) (w,0,(k:Int))=iter (ZA F t) n (w',0,((k+1:Nat):Int)):=by
    rw[iter]
    simp only[ZA,oun,hk2,cond_true,hw',Option.bind_some,decide_true,Bool.not_true,cond_false,QQ]
    rw[JY (by omega)]
   rw[hb]
   simp only[]
   cases hf:Wc p v (t.Stops.take k++[s]) rest y with
   | inl z =>
    rw[hf] at this
    obtain ⟨w2,g1,g2⟩:=this;refine ⟨w2,g1,?_⟩
    simp only[VS]
    rw[show m+((QR p x.Node y.Node).Meters+VS p y.Node z.2)=m+(QR p x.Node y.Node).Meters+VS p y.Node z.2 by omega,show l++y::z.2=l++[y]++z.2 by simp]
    exact g2
   | inr q =>
    rw[hf] at this
    exact this
def JV (p:Pr) (v:Ve) (x:Vi):Vi⊕Int :=
 if (QR p x.Node v.Depot).Secs<0 then .inr 22
 else if x.Load≠0 then .inr 20
 else if v.Shift.To≤x.Leave+(QR p x.Node v.Depot).Secs then .inr 19
 else .inl ⟨-2,v.Depot,x.Leave+(QR p x.Node v.Depot).Secs,x.Leave+(QR p x.Node v.Depot).Secs,x.Leave+(QR p x.Node v.Depot).Secs,0⟩
theorem QbJ {p:Pr} {v:Ve} {x:Vi} {e:Int} (hs:JV p v x= .inr e):e≠0:=by
 unfold JV at hs
 repeat' split at hs
 all_goals first | (cases hs;done) | (injection hs with hs;subst hs;decide)
theorem Qjp {p:Pr} {v:Ve} (hp:OkP p) (hv:OkV p.Road.Nodes v) {k:Nat} (hk:k≤1000) {x:Vi} (hx:InV p v k x):Js p v x=match JV p v x with
  | .inl y=>some (y,0)
  | .inr e=>some (⟨0,0,0,0,0,0⟩,e):=by
 have h1:=hx.t0;have h2:=hx.t1;have h3:=hx.l0;have hl:=Zb hp ⟨hx.n0,hx.n1⟩ ⟨hv.d0,hv.d1⟩;unfold Js JV
 rw[QcM hp ⟨hx.n0,hx.n1⟩ ⟨hv.d0,hv.d1⟩]
 simp only[Option.bind_some]
 by_cases c1:(QR p x.Node v.Depot).Secs<0
 ·rw[if_pos c1];simp only[c1,decide_true,cond_true]
 ·rw[if_neg c1,QV (n:=x.Leave+(QR p x.Node v.Depot).Secs) (by omega) (by omega)]
  simp only[c1,decide_false,cond_false]
  by_cases c2:x.Load≠0
  ·rw[if_pos c2,show decide (0<x.Load)=true by simp;omega];rfl
  ·rw[if_neg c2,show decide (0<x.Load)=false by simp;omega]
   simp only[cond_false]
   by_cases c3:v.Shift.To≤x.Leave+(QR p x.Node v.Depot).Secs
   ·rw[if_pos c3];simp only[c3,decide_true,cond_true]
   ·rw[if_neg c3];simp only[c3,decide_false,cond_false]
theorem Qjj {F:Nat} (hF:40000≤F) {p:Pr} {v:Ve} (hp:OkP p) (hv:OkV p.Road.Nodes v) {k:Nat} (hk:k≤1000) {x:Vi} (hx:InV p v k x) {w:Wa} {m:Int} {l:List Vi} (hw:At p v w x m l) (hl:l.length≤900) (hm0:0≤m) (hm1:m≤k*6400000):match JV p v x with
  | .inl y=> ∃w',JB F w=some (0,w')∧w'.visits=l++[y]∧w'.place.meters=m+(QR p x.Node v.Depot).Meters
  | .inr e=> ∃w',JB F w=some (e,w'):=by
 obtain ⟨pl,wp,wv,wl,wvs⟩:=w;obtain ⟨e1,e2,e3,e4,e5⟩:=hw
 simp only at e1 e2 e3 e4 e5
 subst e1 e2 e3 e4;have h1:=hx.t0;have h2:=hx.t1;have h3:=hx.l0;have hlb:=Zb hp ⟨hx.n0,hx.n1⟩ ⟨hv.d0,hv.d1⟩;obtain ⟨c,hc1,hc2⟩:=Qhi hF (w:=⟨⟨x.Node,x.Leave,x.Load,m⟩,wp,wv,wl,wvs⟩) hp e5 ⟨hx.n0,hx.n1⟩ ⟨hv.d0,hv.d1⟩;unfold JB JV
 simp only[hc1,Option.bind_some,oun]
 by_cases c1:(QR wp x.Node wv.Depot).Secs<0
 ·rw[if_pos c1,show decide (0≤(QR wp x.Node wv.Depot).Secs)=false by simp;omega]
  exact ⟨_,rfl⟩
 ·rw[if_neg c1,show decide (0≤(QR wp x.Node wv.Depot).Secs)=true by simp;omega]
  simp only[Bool.not_true,cond_false]
  rw[QV (n:=x.Leave+(QR wp x.Node wv.Depot).Secs) (by omega) (by omega),QV (n:=m+(QR wp x.Node wv.Depot).Meters) (by omega) (by omega)]
  by_cases c2:x.Load≠0
  ·rw[if_pos c2,show decide (x.Load=0)=false by simpa using c2]
   exact ⟨_,rfl⟩
  ·rw[if_neg c2]
   simp only[ne_eq,Decidable.not_not] at c2
   simp only[c2,decide_true,Bool.not_true,cond_false]
   by_cases c3:wv.Shift.To≤x.Leave+(QR wp x.Node wv.Depot).Secs
   ·rw[if_pos c3];simp only[c3,decide_true,cond_true];exact ⟨_,rfl⟩
   ·rw[if_neg c3];simp only[c3,decide_false,cond_false]
    rw[QfY (by simp only[];omega)]
    exact ⟨_,rfl,rfl,rfl⟩
end Go.Proofs.YtilbengnjgglhaaGreat
namespace Go.Proofs.YtilbengnjgglhaaGreat
open Go.RowKit
set_option linter.unusedSimpArgs false
set_option linter.unusedVariables false
def x0 (v:Ve):Vi:=⟨0,v.Depot,0,0,v.Shift.From,0⟩
theorem QeM {p:Pr} {v:Ve} (hv:OkV p.Road.Nodes v):InV p v 0 (x0 v):=by
 have h1:=hv.s0;have h2:=hv.s1;have h3:=hv.s2;have h4:=hv.g0;exact ⟨hv.d0,hv.d1,h1,by simp only[x0];omega,Int.le_refl _,by simp only[x0];omega⟩
def V4 (p:Pr) (t:Ql):(Vi×List Vi×Ve)⊕(Int×Int) :=
 if t.Vehicle<0∨((p.Vehicles.length:Nat):Int)≤t.Vehicle then .inr (7,0)
 else if 40<t.Stops.length then .inr (8,0)
 else match p.Vehicles[t.Vehicle.toNat]? with
  | none=> .inr (7,0)
  | some v=>match Wc p v [] t.Stops (x0 v) with
   | .inr q=> .inr (q.1,((q.2:Nat):Int))
   | .inl z=>match JV p v z.1 with
    | .inr e=> .inr (e,((t.Stops.length:Nat):Int))
    | .inl y=> .inl (z.1,z.2++[y],v)
def QjN (p:Pr) (t:Ql):List Vi×Int×Int:=match V4 p t with
 | .inl z=>(z.2.1,0,0)
 | .inr q=>([],q.1,q.2)
def Jv (p:Pr) (t:Ql):Int×Int:=match V4 p t with
 | .inl z=>(VS p z.2.2.Depot z.2.1,0)
 | .inr q=>(0,q.1)
theorem Qdb {p:Pr} {t:Ql} {q:Int×Int} (h:V4 p t= .inr q):q.1≠0:=by
 unfold V4 at h
 split at h
 ·injection h with h;subst h;decide
 ·split at h
  ·injection h with h;subst h;decide
  ·split at h
   ·injection h with h;subst h;decide
   ·split at h
    ·rename_i q' hq
     injection h with h;subst h
     exact QcD _ _ _ _ hq
    ·split at h
     ·rename_i e he
      injection h with h;subst h
      exact QbJ he
     ·cases h
theorem QbL {p:Pr} {v:Ve} (y:Vi): ∀(rest pre:List Int) (x:Vi) (z:Vi×List Vi),Wc p v pre rest x= .inl z→VS p x.Node (z.2++[y])=VS p x.Node z.2+(QR p z.1.Node y.Node).Meters
 | [],pre,x,z,h=>by
  injection h with h;subst h
  simp[VS]
 | s::rest,pre,x,z,h=>by
  unfold Wc at h
  split at h
  ·cases h
  ·split at h
   ·rename_i y' _ z' hz
    injection h with h;subst h
    have:=QbL y rest _ _ _ hz
    simp only[List.cons_append,VS] at this ⊢
    omega
   ·cases h
theorem Qjo {p:Pr} (hp:OkP p) (hc:Qi p=some 0) (t:Ql):Wj p t=some (QjN p t):=by
 unfold Wj QjN V4
 rw[hc]
 simp only[Option.bind_some,decide_true,Bool.not_true,cond_false,Y1]
 by_cases h1:t.Vehicle<0∨((p.Vehicles.length:Nat):Int)≤t.Vehicle
 ·rw[if_pos h1,show (decide (t.Vehicle<0)||decide (((p.Vehicles.length:Nat):Int)≤t.Vehicle))=true by simpa using h1]
  rfl
 ·rw[if_neg h1,show (decide (t.Vehicle<0)||decide (((p.Vehicles.length:Nat):Int)≤t.Vehicle))=false by simpa using h1]
  simp only[cond_false]
  by_cases h2:40<t.Stops.length
  ·rw[if_pos h2,show decide ((40:Int)<((t.Stops.length:Nat):Int))=true by simp;omega]
   rfl
  ·rw[if_neg h2,show decide ((40:Int)<((t.Stops.length:Nat):Int))=false by simp;omega]
   simp only[cond_false]
   obtain ⟨i,hi⟩: ∃i:Nat,t.Vehicle=i:=⟨t.Vehicle.toNat,by omega⟩
   have hd:p.Vehicles[i]? =some p.Vehicles[i]:=List.getElem?_eq_getElem (by omega)
   generalize p.Vehicles[i]=v at hd
   have hv:=hp.ve v (List.mem_of_getElem? hd)
   rw[hi]
   simp only[Qt,hd,Option.bind_some,Int.toNat_natCast]
   have hl:=Qjr hp hv (t:=t) (by omega) t.Stops 0 (x0 v) [] (t.Stops.length+1) rfl (Nat.zero_le _) (by simp) (QeM hv) rfl
   rw[List.take_zero] at hl
   have hl2:iter (YT p t v) (t.Stops.length+1) (0,v.Depot,0,0,v.Shift.From,0,[],0)=_:=hl
   rw[hl2]
   cases hf:Wc p v [] t.Stops (x0 v) with
   | inr q=>rfl
   | inl z =>
    have hz:=QdR hp hv t.Stops [] _ _ (QeM hv) hf
    simp only[List.length_nil,Nat.zero_add] at hz
    simp only[Option.bind_some,QQ,oun,List.nil_append]
    have hh:Js p v ⟨z.1.Stop,z.1.Node,z.1.Arrive,z.1.Start,z.1.Leave,z.1.Load⟩=_:=Qjp hp hv (k:=t.Stops.length) (by omega) hz.1
    rw[hh]
    cases hm:JV p v z.1 with
    | inr e =>
     simp only[Option.bind_some,oun]
     rw[show decide (e=0)=false by simpa using QbJ hm]
     rfl
    | inl y =>
     simp only[Option.bind_some,oun,decide_true,Bool.not_true,cond_false]
     rw[ZP (by simp;omega)]
     rfl
theorem Qhl {F:Nat} (hF:40000≤F) {p:Pr} (hp:OkP p) (t:Ql):match V4 p t with
  | .inl z=> ∃w,WE F p t=some (some w,0,0)∧w.visits=z.2.1∧w.place.meters=VS p z.2.2.Depot z.2.1
  | .inr q=>WE F p t=some (none,q.1,q.2):=by
 unfold WE V4
 simp only[Option.bind_some,Y1]
 by_cases h1:t.Vehicle<0∨((p.Vehicles.length:Nat):Int)≤t.Vehicle
 ·rw[if_pos h1,show (decide (t.Vehicle<0)||decide (((p.Vehicles.length:Nat):Int)≤t.Vehicle))=true by simpa using h1]
  rfl
 ·rw[if_neg h1,show (decide (t.Vehicle<0)||decide (((p.Vehicles.length:Nat):Int)≤t.Vehicle))=false by simpa using h1]
  simp only[cond_false]
  by_cases h2:40<t.Stops.length
  ·rw[if_pos h2,show decide ((40:Int)<((t.Stops.length:Nat):Int))=true by simp;omega]
   rfl
  ·rw[if_neg h2,show decide ((40:Int)<((t.Stops.length:Nat):Int))=false by simp;omega]
   simp only[cond_false]
   obtain ⟨i,hi⟩: ∃i:Nat,t.Vehicle=i:=⟨t.Vehicle.toNat,by omega⟩
   have hd:p.Vehicles[i]? =some p.Vehicles[i]:=List.getElem?_eq_getElem (by omega)
   generalize p.Vehicles[i]=v at hd
   have hv:=hp.ve v (List.mem_of_getElem? hd)
   rw[hi]
   simp only[Qt,hd,Option.bind_some,Int.toNat_natCast]
   have hl:=Qjk hF hp hv (t:=t) (by omega) t.Stops 0 (x0 v) ⟨⟨v.Depot,v.Shift.From,0,0⟩,p,v,[],[]⟩ 0 [] (t.Stops.length+1) rfl (Nat.zero_le _) (by simp) (QeM hv) ⟨rfl,rfl,rfl,rfl,fun n L h=>by cases h⟩ rfl (Int.le_refl _) (by simp)
   rw[List.take_zero] at hl
   cases hf:Wc p v [] t.Stops (x0 v) with
   | inr q =>
    rw[hf] at hl
    obtain ⟨w',hw'⟩:=hl
    rw[show ((0:Nat):Int)=(0:Int) from rfl] at hw'
    simp only[hw',Option.bind_some,oun]
    rw[show decide (q.1=0)=false by simpa using QcD _ _ _ _ hf]
    simp only[cond_false,Option.bind_some,oun]
    rw[show decide (q.1=0)=false by simpa using QcD _ _ _ _ hf]
    rfl
   | inl z =>
    rw[hf] at hl
    obtain ⟨w',hw',hat⟩:=hl
    rw[show ((0:Nat):Int)=(0:Int) from rfl] at hw'
    have hz:=QdR hp hv t.Stops [] _ _ (QeM hv) hf
    simp only[List.length_nil,Nat.zero_add] at hz
    simp only[hw',Option.bind_some,oun,decide_true,cond_true]
    have hb:=Qjj hF hp hv (k:=t.Stops.length) (by omega) hz.1 hat (by simp;omega) (by omega) (by omega);cases hm:JV p v z.1 with
    | inr e =>
     rw[hm] at hb
     obtain ⟨w2,hw2⟩:=hb
     simp only[hw2,Option.bind_some,oun]
     rw[show decide (e=0)=false by simpa using QbJ hm]
     rfl
    | inl y =>
     rw[hm] at hb
     obtain ⟨w2,hw2,g1,g2⟩:=hb
     simp only[hw2,Option.bind_some,oun,decide_true,Bool.not_true,cond_false]
     refine ⟨w2,rfl,by simpa using g1,?_⟩
     rw[g2]
     have h5:=QbL y _ _ _ _ hf;have h6:y.Node=v.Depot:=by
      unfold JV at hm
      repeat' split at hm
      all_goals first | (cases hm;done) | (injection hm with hm;subst hm;rfl)
     rw[h6] at h5
     show 0+VS p (x0 v).Node z.2+_=VS p (x0 v).Node (z.2++[y])
     omega
theorem QjO {F:Nat} (hF:40000≤F) {p:Pr} (hp:OkP p) (hc:Qi p=some 0) (hn:p.Road.Edges.length≤600) (t:Ql):Qaz F p t=some (Jv p t):=by
 unfold Qaz Jv
 rw[Qb5 (by omega) p hn,hc]
 simp only[Option.bind_some,decide_true,Bool.not_true,cond_false]
 have:=Qhl hF hp t;cases h:V4 p t with
 | inr q =>
  rw[h] at this
  simp only[this,Option.bind_some,oun]
  rw[show decide (q.1=0)=false by simpa using Qdb h]
  rfl
 | inl z =>
  rw[h] at this
  obtain ⟨w,h1,_,h3⟩:=this
  simp only[h1,Option.bind_some,oun,decide_true,Bool.not_true,cond_false,h3]
theorem Qei {p:Pr} {v:Ve} (hp:OkP p) (hv:OkV p.Road.Nodes v): ∀(rest pre:List Int) (x:Vi) (z:Vi×List Vi),InV p v pre.length x→Wc p v pre rest x= .inl z→ ∀y∈z.2,0≤y.Node∧y.Node<p.Road.Nodes
 | [],pre,x,z,hx,h=>by
  injection h with h;subst h
  intro y hy;cases hy
 | s::rest,pre,x,z,hx,h=>by
  unfold Wc at h
  split at h
  ·cases h
  ·rename_i y hy
   obtain ⟨h1,_,_⟩:=QbB hp hv hx hy
   split at h
   ·rename_i z' hz
    injection h with h;subst h
    have h3:=Qei hp hv rest (pre++[s]) y z' (by simpa using h1) hz;intro u hu;rcases List.mem_cons.1 hu with h4 | h4
    ·subst h4;exact ⟨h1.n0,h1.n1⟩
    ·exact h3 u h4
   ·cases h
theorem Qhp {p:Pr} (hp:OkP p) (L:List Vi) (hL:L.length≤100) (hnd: ∀y∈L,0≤y.Node∧y.Node<p.Road.Nodes): ∀(rest:List Vi) (k:Nat) (sum a:Int) (n:Nat),L.drop k=rest→k≤L.length→rest.length<n→0≤a∧a<p.Road.Nodes→0≤sum→sum≤k*6400000 →
  iter (Zy p L) n (sum,a,(k:Int))=some (sum+VS p a rest):=by
 intro rest
 induction rest with
 | nil =>
  intro k sum a n hd hk hn ha hs0 hs1;obtain ⟨n,rfl⟩: ∃f,n=f+1:=⟨n-1,by omega⟩
  have hk2:k=L.length:=by
   have:=congrArg List.length hd
   simp at this;omega
  rw[iter]
  simp only[Zy,oun]
  rw[show decide ((k:Int)<((L.length:Nat):Int))=false by simp;omega]
  simp[VS,QQ]
 | cons y rest ih =>
  intro k sum a n hd hk hn ha hs0 hs1;obtain ⟨n,rfl⟩: ∃f,n=f+1:=⟨n-1,by omega⟩
  have h1:L[k]? =some y:=by
   have:(L.drop k)[0]? =some y:=by rw[hd];rfl
   rw[List.getElem?_drop] at this
   simpa using this
  have h3:L.drop (k+1)=rest:=by rw[←List.drop_drop,hd];rfl
  have hkl:=Qz h1;have hy:=hnd y (List.mem_of_getElem? h1);have hl:=Zb hp ha hy
  rw[iter]
  simp only[Zy,oun]
  rw[show decide ((k:Int)<((L.length:Nat):Int))=true by simp;omega]
  simp only[cond_true,Qt,h1,Option.bind_some,QcM hp ha hy,QQ]
  rw[JY (by omega),QV (by omega) (by omega)]
  rw[ih (k+1) _ _ n h3 (by omega) (by simp only[List.length_cons] at hn;omega) hy (by omega) (by omega)]
  simp only[VS]
  congr 1
  omega
theorem Qjn {p:Pr} (hp:OkP p) (hc:Qi p=some 0) (t:Ql):Wi p t=some (Jv p t):=by
 unfold Wi
 rw[Qjo hp hc]
 unfold QjN Jv;cases h:V4 p t with
 | inr q =>
  simp only[Option.bind_some,oun]
  rw[show decide (q.1=0)=false by simpa using Qdb h]
  rfl
 | inl z =>
  simp only[Option.bind_some,oun,decide_true,Bool.not_true,cond_false]
  unfold V4 at h
  split at h
  ·cases h
  ·rename_i h1
   split at h
   ·cases h
   ·rename_i h2
    obtain ⟨i,hi⟩: ∃i:Nat,t.Vehicle=i:=⟨t.Vehicle.toNat,by omega⟩
    have hd:p.Vehicles[i]? =some p.Vehicles[i]:=List.getElem?_eq_getElem (by omega)
    generalize p.Vehicles[i]=v at hd
    have hv:=hp.ve v (List.mem_of_getElem? hd)
    rw[hi] at h ⊢
    simp only[Qt,hd,Option.bind_some,Int.toNat_natCast] at h ⊢
    cases hf:Wc p v [] t.Stops (x0 v) with
    | inr q=>rw[hf] at h;cases h
    | inl w =>
     rw[hf] at h
     simp only[] at h
     cases hm:JV p v w.1 with
     | inr e=>rw[hm] at h;cases h
     | inl y =>
      rw[hm] at h
      injection h with h;subst h
      have hz:=QdR hp hv t.Stops [] _ _ (QeM hv) hf;have hnn:=Qei hp hv t.Stops [] _ _ (QeM hv) hf
      simp only[List.length_nil,Nat.zero_add] at hz
      have h6:y.Node=v.Depot:=by
       unfold JV at hm
       repeat' split at hm
       all_goals first | (cases hm;done) | (injection hm with hm;subst hm;rfl)
      have:=Qhp hp (w.2++[y]) (by simp;omega) (fun u hu=>by
       rcases List.mem_append.1 hu with h7 | h7
       ·exact hnn u h7
       ·rw[List.mem_singleton.1 h7,h6];exact ⟨hv.d0,hv.d1⟩) (w.2++[y]) 0 0 v.Depot ((w.2++[y]).length+1) rfl (Nat.zero_le _) (by simp) ⟨hv.d0,hv.d1⟩ (Int.le_refl _) (by simp)
      rw[show ((0:Nat):Int)=(0:Int) from rfl,Int.zero_add] at this
      show Option.bind (iter (Zy p (w.2++[y])) ((w.2++[y]).length+1) (0,v.Depot,0)) _=_
      rw[this]
      rfl
end Go.Proofs.YtilbengnjgglhaaGreat
namespace Go.Proofs.YtilbengnjgglhaaGreat
open Go.RowKit
set_option linter.unusedSimpArgs false
set_option linter.unusedVariables false
structure Fol (p:Pr) (t:Ql) (v:Ve) (z:Vi×List Vi) (y:Vi):Prop where
 t0:0≤t.Vehicle
 t1:t.Vehicle<((p.Vehicles.length:Nat):Int)
 sl:t.Stops.length≤40
 hv:QJ p.Vehicles t.Vehicle=some v
 fol:Wc p v [] t.Stops (x0 v)= .inl z
 hom:JV p v z.1= .inl y
end Go.Proofs.YtilbengnjgglhaaGreat
namespace Go.Proofs.YtilbengnjgglhaaGreat
open Go.RowKit
set_option linter.unusedSimpArgs false
set_option linter.unusedVariables false
theorem Qbj {p:Pr} {v:Ve} (b:List Int): ∀(a pre:List Int) (x:Vi),Wc p v pre (a++b) x=match Wc p v pre a x with
  | .inr q=> .inr q
  | .inl z=>match Wc p v (pre++a) b z.1 with
   | .inr q=> .inr q
   | .inl z2=> .inl (z2.1,z.2++z2.2)
 | [],pre,x=>by
  simp only[List.nil_append,Wc,List.append_nil]
  cases Wc p v pre b x<;>rfl
 | s::a,pre,x=>by
  simp only[List.cons_append,Wc]
  cases JX p v pre x s with
  | inr e=>rfl
  | inl y =>
   simp only[]
   rw[Qbj b a (pre++[s]) y]
   cases Wc p v (pre++[s]) a y with
   | inr q=>rfl
   | inl z =>
    simp only[List.append_assoc,List.singleton_append]
    cases Wc p v (pre++s::a) b z.1<;>rfl
theorem QjK {p:Pr} {t:Ql} {v:Ve} (h0:0≤t.Vehicle) (h1:t.Vehicle<((p.Vehicles.length:Nat):Int)) (hv:QJ p.Vehicles t.Vehicle=some v) (hs:t.Stops.length≤40) :
  V4 p t=match Wc p v [] t.Stops (x0 v) with
   | .inr q=> .inr (q.1,((q.2:Nat):Int))
   | .inl z=>match JV p v z.1 with
    | .inr e=> .inr (e,((t.Stops.length:Nat):Int))
    | .inl y=> .inl (z.1,z.2++[y],v):=by
 unfold V4
 rw[if_neg (by omega),if_neg (by omega)]
 unfold QJ at hv
 rw[if_pos h0] at hv
 rw[hv]<;>rfl
end Go.Proofs.YtilbengnjgglhaaGreat
namespace Go.Proofs.YtilbengnjgglhaaGreat
open Go.RowKit
set_option linter.unusedSimpArgs false
set_option linter.unusedVariables false
structure Lax (p:Pr) (x' x:Vi):Prop where
 leg: ∀b,0≤b→b<p.Road.Nodes→0≤(QR p x.Node b).Secs→0≤(QR p x'.Node b).Secs∧x'.Leave+(QR p x'.Node b).Secs≤x.Leave+(QR p x.Node b).Secs
 load:x'.Load≤x.Load
theorem Lax.same {p:Pr} {x' x:Vi} (h1:x'.Node=x.Node) (h2:x'.Leave≤x.Leave) (h3:x'.Load≤x.Load):Lax p x' x :=
 ⟨fun b _ _ h=>⟨by rw[h1];exact h,by rw[h1];omega⟩,h3⟩
end Go.Proofs.YtilbengnjgglhaaGreat
namespace Go.Proofs.YtilbengnjgglhaaGreat
open Go.RowKit
set_option linter.unusedSimpArgs false
set_option linter.unusedVariables false
def Jd:List Int→List Int→Bool
 | [],[]=>false
 | [],_::_=>true
 | _::_,[]=>false
 | a::x,b::y=>decide (a<b)||(decide (a=b)&&Jd x y)
theorem Qer: ∀a:List Int,Jd a a=false
 | []=>rfl
 | a::x=>by simp[Jd,Qer x]
theorem QaP: ∀{a b c:List Int},Jd a b=true→Jd b c=true→Jd a c=true
 | [],[],_,h,_=>by cases h
 | [],_::_,[],_,h=>by cases h
 | [],_::_,_::_,_,_=>rfl
 | _::_,[],_,h,_=>by cases h
 | _::_,_::_,[],_,h=>by cases h
 | a::x,b::y,c::z,h1,h2=>by
  simp only[Jd,Bool.or_eq_true,Bool.and_eq_true,decide_eq_true_eq] at h1 h2 ⊢
  rcases h1 with h1 | ⟨h1,h3⟩
  ·rcases h2 with h2 | ⟨h2,_⟩
   ·left;omega
   ·left;omega
  ·rcases h2 with h2 | ⟨h2,h4⟩
   ·left;omega
   ·right;exact ⟨by omega,QaP h3 h4⟩
theorem Qes: ∀{a b:List Int},Jd a b=false→Jd b a=false→a=b
 | [],[],_,_=>rfl
 | [],_::_,h,_=>by cases h
 | _::_,[],_,h=>by cases h
 | a::x,b::y,h1,h2=>by
  simp only[Jd,Bool.or_eq_false_iff,Bool.and_eq_false_iff,decide_eq_false_iff_not] at h1 h2
  obtain ⟨h1,h3⟩:=h1;obtain ⟨h2,h4⟩:=h2;have e:a=b:=by omega
  subst e;have e1:Jd x y=false:=by rcases h3 with h3 | h3;exact absurd rfl h3;exact h3
  have e2:Jd y x=false:=by rcases h4 with h4 | h4;exact absurd rfl h4;exact h4
  rw[Qes e1 e2]
def VH:List Int→List Int→Int
 | [],[]=>0
 | [],_::_=> -1
 | _::_,[]=>1
 | a::x,b::y=>if a<b then -1 else if b<a then 1 else VH x y
theorem Qd9: ∀a b:List Int,(VH a b<0↔Jd a b=true)∧(VH a b=0↔a=b)
 | [],[]=>by simp[VH,Jd]
 | [],_::_=>by simp[VH,Jd]
 | _::_,[]=>by simp[VH,Jd]
 | a::x,b::y=>by
  have ih:=Qd9 x y
  simp only[VH,Jd,Bool.or_eq_true,Bool.and_eq_true,decide_eq_true_eq,List.cons.injEq]
  by_cases h1:a<b
  ·rw[if_pos h1]
   exact ⟨⟨fun _=> .inl h1,fun _=>by decide⟩,⟨fun h=>by omega,fun h=>by omega⟩⟩
  ·rw[if_neg h1]
   by_cases h2:b<a
   ·rw[if_pos h2]
    exact ⟨⟨fun h=>by omega,fun h=>by omega⟩,⟨fun h=>by omega,fun h=>by omega⟩⟩
   ·rw[if_neg h2]
    have e:a=b:=by omega
    rw[ih.1,ih.2]
    exact ⟨⟨fun h=> .inr ⟨e,h⟩,fun h=>by rcases h with h | h;omega;exact h.2⟩,⟨fun h=>⟨e,h⟩,fun h=>h.2⟩⟩
theorem QfG (a b:Int):JK a b=some (if a<b then -1 else if b<a then 1 else 0):=by
 unfold JK Wo
 simp only[Option.bind_some,decide_true,Bool.not_true,cond_false]
 by_cases h:a<b
 ·simp[h]
 ·by_cases h2:b<a<;>simp[h,h2]
theorem Qgm {a b:List Int} (hn:a.length≤1000000): ∀(x y:List Int) (k f:Nat),a.drop k=x→b.drop k=y→k≤a.length→k≤b.length→x.length<f →
  ∃o,iter (Q9 a b) f (k:Int)=some o∧QQ o (fun _=>bif decide (((a.length:Nat):Int)<((b.length:Nat):Int)) then some (-1) else some 0) (fun z=>some z)=some (VH x y)
 | _,_,_,0,_,_,_,_,h=>by omega
 | [],y,k,f+1,hx,hy,ha,hb,_=>by
  have h0:a.length=k:=by
   have:=congrArg List.length hx
   simp at this;omega
  have h1: ¬((k:Int)<((a.length:Nat):Int)):=by omega
  refine ⟨.inl (),by simp only[iter,Q9,h1,decide_false,cond_false,Option.bind_some,QQ],?_⟩;have hl:=congrArg List.length hy
  simp only[List.length_drop] at hl
  cases y with
  | nil =>
   have: ¬(((a.length:Nat):Int)<((b.length:Nat):Int)):=by simp at hl;omega
   simp[QQ,this,VH]
  | cons d y =>
   have:((a.length:Nat):Int)<((b.length:Nat):Int):=by simp at hl;omega
   simp[QQ,this,VH]
 | c::x,y,k,f+1,hx,hy,ha,hb,hf=>by
  have hka:k<a.length:=by
   have:=congrArg List.length hx
   simp at this;omega
  have h1:((k:Int)<((a.length:Nat):Int)):=by omega
  have ga:a[k]? =some c:=by
   have:(a.drop k)[0]? =some c:=by rw[hx];rfl
   simpa using this
  have gx:a.drop (k+1)=x:=by
   rw[←List.drop_drop,hx];rfl
  cases y with
  | nil =>
   have h2:((b.length:Nat):Int)≤(k:Int):=by
    have:=congrArg List.length hy
    simp at this;omega
   refine ⟨.inr 1,by simp only[iter,Q9,h1,decide_true,cond_true,Qt,ga,Option.bind_some,h2,QQ],?_⟩
   simp[QQ,VH]
  | cons d y =>
   have hkb:k<b.length:=by
    have:=congrArg List.length hy
    simp at this;omega
   have h2: ¬(((b.length:Nat):Int)≤(k:Int)):=by omega
   have gb:b[k]? =some d:=by
    have:(b.drop k)[0]? =some d:=by rw[hy];rfl
    simpa using this
   have gy:b.drop (k+1)=y:=by
    rw[←List.drop_drop,hy];rfl
   have e1:w64 ((k:Int)+1)=((k+1:Nat):Int):=by rw[QV (by omega) (by omega)];omega
   by_cases h3:c<d
   ·refine ⟨.inr (-1),?_,by simp[QQ,VH,h3]⟩
    simp only[iter,Q9,h1,decide_true,cond_true,Qt,ga,gb,Option.bind_some,h2,decide_false,cond_false,QfG,h3,if_true]
    rfl
   ·by_cases h4:d<c
    ·refine ⟨.inr 1,?_,by simp[QQ,VH,h3,h4]⟩
     simp only[iter,Q9,h1,decide_true,cond_true,Qt,ga,gb,Option.bind_some,h2,decide_false,cond_false,QfG,h3,h4,if_true,if_false]
     rfl
    ·obtain ⟨o,o1,o2⟩:=Qgm hn x y (k+1) f gx gy (by omega) (by omega) (by simp at hf;omega);refine ⟨o,?_,by simp only[VH,h3,h4,if_false];exact o2⟩
     rw[←o1]
     simp only[iter,Q9,h1,decide_true,cond_true,Qt,ga,gb,Option.bind_some,h2,decide_false,cond_false,QfG,h3,h4,if_false,decide_true,Bool.not_true,cond_false,e1,QQ]
theorem QdX {a b:List Int} (hn:a.length≤1000000):ZM a b=some (VH a b):=by
 unfold ZM;obtain ⟨o,o1,o2⟩:=Qgm (a:=a) (b:=b) hn a b 0 (((a.length:Nat):Int).toNat+1) rfl rfl (by omega) (by omega) (by simp);have o1':iter (Q9 a b) (((a.length:Nat):Int).toNat+1) 0=some o:=o1
 rw[o1']
 exact o2
theorem Qfd {a b:List Int} (hn:a.length≤1000000): ∀(x y:List Int) (k f:Nat),a.drop k=x→b.drop k=y→k≤a.length→k≤b.length→x.length<f →
  ∃o,iter (Ye a b) f (k:Int)=some o∧QQ o (fun _=>some (decide (((a.length:Nat):Int)<((b.length:Nat):Int)))) (fun z=>some z)=some (Jd x y)
 | _,_,_,0,_,_,_,_,h=>by omega
 | [],y,k,f+1,hx,hy,ha,hb,_=>by
  have h0:a.length=k:=by
   have:=congrArg List.length hx
   simp at this;omega
  have h1: ¬((k:Int)<((a.length:Nat):Int)):=by omega
  refine ⟨.inl (),by simp only[iter,Ye,h1,decide_false,cond_false,Option.bind_some,QQ],?_⟩;have hl:=congrArg List.length hy
  simp only[List.length_drop] at hl
  cases y with
  | nil =>
   have: ¬(((a.length:Nat):Int)<((b.length:Nat):Int)):=by simp at hl;omega
   simp[QQ,this,Jd]
  | cons d y =>
   have:((a.length:Nat):Int)<((b.length:Nat):Int):=by simp at hl;omega
   simp[QQ,this,Jd]
 | c::x,y,k,f+1,hx,hy,ha,hb,hf=>by
  have hka:k<a.length:=by
   have:=congrArg List.length hx
   simp at this;omega
  have h1:((k:Int)<((a.length:Nat):Int)):=by omega
  have ga:a[k]? =some c:=by
   have:(a.drop k)[0]? =some c:=by rw[hx];rfl
   simpa using this
  have gx:a.drop (k+1)=x:=by
   rw[←List.drop_drop,hx];rfl
  cases y with
  | nil =>
   have h2: ¬((k:Int)<((b.length:Nat):Int)):=by
    have:=congrArg List.length hy
    simp at this;omega
   refine ⟨.inl (),by simp only[iter,Ye,h1,decide_true,cond_true,Option.bind_some,h2,decide_false,cond_false,QQ],?_⟩;have: ¬(((a.length:Nat):Int)<((b.length:Nat):Int)):=by omega
   simp[QQ,Jd,this]
  | cons d y =>
   have hkb:k<b.length:=by
    have:=congrArg List.length hy
    simp at this;omega
   have h2:((k:Int)<((b.length:Nat):Int)):=by omega
   have gb:b[k]? =some d:=by
    have:(b.drop k)[0]? =some d:=by rw[hy];rfl
    simpa using this
   have gy:b.drop (k+1)=y:=by
    rw[←List.drop_drop,hy];rfl
   have e1:w64 ((k:Int)+1)=((k+1:Nat):Int):=by rw[QV (by omega) (by omega)];omega
   by_cases h3:c=d
   ·obtain ⟨o,o1,o2⟩:=Qfd hn x y (k+1) f gx gy (by omega) (by omega) (by simp at hf;omega);refine ⟨o,?_,by subst h3;simp only[Jd,Int.lt_irrefl,decide_false,Bool.false_or,decide_true,Bool.true_and];exact o2⟩
    rw[←o1]
    simp only[iter,Ye,h1,h2,decide_true,cond_true,Qt,ga,gb,Option.bind_some,h3,Bool.not_true,cond_false,e1,QQ]
   ·refine ⟨.inr (decide (c<d)),?_,by simp[QQ,Jd,h3]⟩
    simp only[iter,Ye,h1,h2,decide_true,cond_true,Qt,ga,gb,Option.bind_some,h3,decide_false,Bool.not_false,QQ]
theorem QhG {F:Nat} (hF:40000≤F) {a b:List Int} (hn:a.length≤1000):ZB F a b=some (Jd a b):=by
 unfold ZB;obtain ⟨o,o1,o2⟩:=Qfd (a:=a) (b:=b) (by omega) a b 0 F rfl rfl (by omega) (by omega) (by omega);have o1':iter (Ye a b) F 0=some o:=o1
 rw[o1']
 exact o2
def ZG:List (Int×Bool)→List Int
 | []=>[]
 | (d,f)::r=>d::((if f then [-1] else [])++ZG r)
def Qg2 (rem:List Int) (c:List Int):Prop:= ∃P:List (Int×Bool),(P.map Prod.fst).Perm rem∧c=ZG P
theorem Qg2.perm {a b c:List Int} (h:a.Perm b):Qg2 a c↔Qg2 b c :=
 ⟨fun ⟨P,h1,h2⟩=>⟨P,h1.trans h,h2⟩,fun ⟨P,h1,h2⟩=>⟨P,h1.trans h.symm,h2⟩⟩
theorem QbC: ∀P:List (Int×Bool),(ZG P).length≤2*P.length
 | []=>by simp[ZG]
 | (d,f)::r=>by
  have:=QbC r;cases f<;>simp[ZG]<;>omega
theorem Qg2.len {ds c:List Int} (h:Qg2 ds c):c.length≤2*ds.length:=by
 obtain ⟨P,h1,rfl⟩:=h;have h2:=QbC P;have h3:=h1.length_eq
 simp at h3
 omega
def ZK:List Int→List Bool→List Int
 | d::ds,u::us=>if u=true then ZK ds us else d::ZK ds us
 | _,_=>[]
theorem Vj: ∀{ds:List Int} {us:List Bool} {i:Nat} {d:Int},ds[i]? =some d→us[i]? =some false→(ZK ds us).Perm (d::ZK ds (us.set i true))
 | [],_,_,_,h,_=>by simp at h
 | _::_,[],_,_,_,h=>by simp at h
 | a::ds,u::us,0,d,h1,h2=>by
  simp at h1 h2
  subst h1 h2
  simp[ZK]
 | a::ds,u::us,i+1,d,h1,h2=>by
  have ih:=Vj (ds:=ds) (us:=us) (i:=i) (d:=d) (by simpa using h1) (by simpa using h2);cases u with
  | true=>simpa [ZK] using ih
  | false =>
   simp only[ZK,List.set_cons_succ,Bool.false_eq_true,if_false]
   exact (List.Perm.cons a ih).trans (List.Perm.swap d a _)
theorem QcN: ∀{ds:List Int} {us:List Bool} {d:Int},d∈ZK ds us→ ∃i:Nat,ds[i]? =some d∧us[i]? =some false
 | [],_,_,h=>by simp[ZK] at h
 | _::_,[],_,h=>by simp[ZK] at h
 | a::ds,u::us,d,h=>by
  cases u with
  | true =>
   obtain ⟨i,h1,h2⟩:=QcN (ds:=ds) (us:=us) (d:=d) (by simpa [ZK] using h);exact ⟨i+1,by simpa using h1,by simpa using h2⟩
  | false =>
   simp only[ZK,Bool.false_eq_true,if_false,List.mem_cons] at h
   rcases h with rfl | h
   ·exact ⟨0,rfl,rfl⟩
   ·obtain ⟨i,h1,h2⟩:=QcN h;exact ⟨i+1,by simpa using h1,by simpa using h2⟩
theorem QbO: ∀(ds:List Int),ZK ds (List.replicate ds.length false)=ds
 | []=>rfl
 | a::ds=>by simp[ZK,List.replicate_succ,QbO ds]
def QaH (ds:List Int):Nat→List Int→List Bool→List (List Int)
 | 0,pre,_=>[pre]
 | n+1,pre,us=>(List.range ds.length).flatMap fun i=>match ds[i]?,us[i]? with
  | some d,some false=>QaH ds n (pre++[d]) (us.set i true)++QaH ds n (pre++[d,-1]) (us.set i true)
  | _,_=>[]
theorem Qbd {ds:List Int} {c:List Int}: ∀(n:Nat) (pre:List Int) (us:List Bool),(ZK ds us).length=n→(c∈QaH ds n pre us↔ ∃P:List (Int×Bool),(P.map Prod.fst).Perm (ZK ds us)∧c=pre++ZG P)
 | 0,pre,us,hn=>by
  have h0:ZK ds us=[]:=List.eq_nil_of_length_eq_zero hn
  simp only[QaH,List.mem_singleton,h0]
  constructor
  ·rintro rfl;exact ⟨[],List.Perm.refl _,by simp[ZG]⟩
  ·rintro ⟨P,h1,rfl⟩;have:P=[]:=by simpa using h1.eq_nil
   subst this
   simp[ZG]
 | n+1,pre,us,hn=>by
  simp only[QaH,List.mem_flatMap,List.mem_range]
  constructor
  ·rintro ⟨
       i,hi,hc⟩
   cases hd:ds[i]? with
   | none=>rw[hd] at hc;simp at hc
   | some d =>
    cases hu:us[i]? with
    | none=>rw[hd,hu] at hc;simp at hc
    | some u =>
     cases u with
     | true=>rw[hd,hu] at hc;simp at hc
     | false =>
      rw[hd,hu] at hc
      simp only at hc
      have hp:=Vj hd hu;have hl:(ZK ds (us.set i true)).length=n:=by
       have:=hp.length_eq
       simp at this;omega
      rcases List.mem_append.1 hc with hc | hc
      ·obtain ⟨P,h1,h2⟩:=(Qbd n _ _ hl).1 hc;exact ⟨(d,false)::P,(List.Perm.cons d h1).trans hp.symm,by rw[h2];simp[ZG]⟩
      ·obtain ⟨P,h1,h2⟩:=(Qbd n _ _ hl).1 hc;exact ⟨(d,true)::P,(List.Perm.cons d h1).trans hp.symm,by rw[h2];simp[ZG]⟩
  ·rintro ⟨P,h1,h2⟩;cases P with
   | nil =>
    have:=h1.length_eq
    simp at this;omega
   | cons q P =>
    obtain ⟨d,f⟩:=q;obtain ⟨i,hd,hu⟩:=QcN (h1.subset (show d∈((d,f)::P).map Prod.fst by simp));have hp:=Vj hd hu;have h3:(P.map Prod.fst).Perm (ZK ds (us.set i true)):=(List.perm_cons d).1 (show (d::P.map Prod.fst).Perm _ from h1.trans hp);have hl:(ZK ds (us.set i true)).length=n:=by
     have:=hp.length_eq
     simp at this;omega
    refine ⟨i,Qz hd,?_⟩
    rw[hd,hu]
    simp only[List.mem_append]
    cases f with
    | false=>exact .inl ((Qbd n _ _ hl).2 ⟨P,h3,by rw[h2];simp[ZG]⟩)
    | true=>exact .inr ((Qbd n _ _ hl).2 ⟨P,h3,by rw[h2];simp[ZG]⟩)
end Go.Proofs.YtilbengnjgglhaaGreat
