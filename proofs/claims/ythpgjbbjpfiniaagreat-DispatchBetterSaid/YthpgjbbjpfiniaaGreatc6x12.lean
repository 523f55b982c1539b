/- DispatchBetter: for every input the given law returns true, and its arguments read as before. No condition. -/
import Derived.Test.YthpgjbbjpfiniaaGreatc6x11
import Derived.Test.YthpgjbbjpfiniaaGreatc6x1
import Derived.ProofKit
import Derived.Below
import Derived.ChangeSame
import Derived.Carry
import Derived.WideKeyArgs
import Derived.Test.YthpgjbbjpfiniaaGreatc6x2
import Derived.Deep.Slices
import Derived.Deep.Fields
import Derived.OpenShut
import Derived.Test.YthpgjbbjpfiniaaGreatRows
import Derived.Test.YthpgjbbjpfiniaaGreatc6x8
namespace Go.Proofs.YthpgjbbjpfiniaaGreat
open Go.RowKit
set_option linter.unusedSimpArgs false
set_option linter.unusedVariables false
abbrev Ra:=Qb
theorem Qoa (rec_:List Ra→Int→Int→Int→Option (List Ra)) (F:Nat) (d:List Ra) (a m b:Int):YZ rec_ F d a m b=QdQ QV rec_ F d a m b:=rfl
theorem Qjz: ∀F:Nat,Q7 F=Qje QV F
 | 0=>rfl
 | F+1=>by
  funext d a m b
  show YZ (Q7 F) F d a m b=QdQ QV (Qje QV F) F d a m b
  rw[Qjz F];exact Qoa _ _ _ _ _ _
theorem Qp7 (F:Nat) (n s:Int):Y4 F n s=Qgl QV F n s:=by
 funext j
 unfold Y4 Qgl
 rw[Qjz]
theorem Qp8 (F:Nat) (n:Int):Y5 F n=Qgm QV F n:=by
 funext j
 unfold Y5 Qgm
 simp only[Qjz,Qp7]
theorem Qn9 (F:Nat) (d:List Ra):Yn F d=QiD QV F d:=by
 unfold Yn QiD Zu gSt
 simp only[Qp8]
 rfl
theorem Qlr {F:Nat} {L:List Ra} (hn:L.length≤1000) (hF:40000≤F) (hb: ∀x∈L,QaM x): ∃L',Yn F L=some L'∧Srt ZN L'∧Yz ZN L L':=by
 rw[Qn9]
 exact Qka (α:=Ra) (k:=ZN) (cmp:=QV) (Pv:=QaM) (fun x y hx hy=>Qha hx hy) (by omega) (by omega) hb
theorem Qhl {α ρ:Type} {step:Nat→α→Option ρ} {fin r:ρ}: ∀(l:List α) (k i:Nat) (y:α),l[i]? =some y→step (k+i) y=some r→(∀(j:Nat) (z:α),j<i→l[j]? =some z→step (k+j) z=none)→YA step fin k l=r
 | [],_,_,_,h,_,_=>by simp at h
 | x::l,k,0,y,h,hs,_=>by
  simp at h;subst h
  simp only[YA]
  rw[Nat.add_zero] at hs
  rw[hs]
 | x::l,k,i+1,y,h,hs,hn=>by
  have h0:=hn 0 x (by omega) rfl
  rw[Nat.add_zero] at h0
  simp only[YA,h0]
  exact Qhl l (k+1) i y (by simpa using h) (by rw[show k+1+i=k+(i+1) by omega];exact hs) fun j z hj hz=>by
   have:=hn (j+1) z (by omega) (by simpa using hz)
   rwa [show k+(j+1)=k+1+j by omega] at this
def tO (x:Pl) (d v:Int):To:=⟨v,wo d (ofP x v).Stops⟩
def bsO (F:Nat) (p:Pr) (x:Pl) (d v:Int):Option Op:=VR F p d ⟨tO x d v,0⟩
def mvR (F:Nat) (p:Pr) (x:Pl) (d v:Int):Option Pl:=(bsO F p x d v).map fun y=>Qdz p x d v y.tour
def Qjc:Option Pl→Pl×Bool
 | some y=>(y,true)
 | none=>(⟨[],[]⟩,false)
def stK (x:Pl) (d v:Int) (b:To) (k:Nat):List To:=((List.range k).map (stB x d v b)).filter Qbb
theorem QhZ (x:Pl) (d v:Int) (b:To) (k:Nat):stK x d v b (k+1)=stK x d v b k++if Qbb (stB x d v b k)=true then [stB x d v b k] else []:=by
 unfold stK
 rw[List.range_succ,List.map_append,List.filter_append]
 simp[List.filter_cons]
theorem Qmp (x:Pl) (d v:Int) (b:To) (k:Nat):(stK x d v b k).length≤k:=Nat.le_trans (List.length_filter_le _ _) (by simp)
theorem Qkk {F:Nat} (hF:40000≤F) {p:Pr} {x:Pl} (hx:x.Tours.length≤1000) (hs: ∀v,(ofP x v).Stops.length≤1000) (hv:p.Vehicles.length≤1000) (d v:Int) {b:To} (hb:b.Stops.length≤1000) :
  iter (JJ F p x d v b.Vehicle b.Stops) (((p.Vehicles.length:Nat):Int).toNat+1) ([],0)=some (stK x d v b p.Vehicles.length):=by
 have:=YG (body:=JJ F p x d v b.Vehicle b.Stops) p.Vehicles (stK x d v b) (fun m k=>(m,k)) (fun _ _=>none) (stK x d v b p.Vehicles.length) (by omega) (fun k y hk _=> ?_) (fun _=>by simp[JJ,oun]) (((p.Vehicles.length:Nat):Int).toNat+1) (by simp)
 ·rw[QP _ _ (fun _ _ _=>rfl)] at this
  exact this
 ·have h0:=Qr hk;have h1:((k:Int)<((p.Vehicles.length:Nat):Int)):=by omega
  have hl:=Qmp x d v b k;have fin: ∀t:To,t=stB x d v b k→t.Stops.length≤1000→(Option.bind (Option.bind (W0 (Qa.mk t.Vehicle t.Stops)) fun r7=>bif r7 then Option.bind (ZH (stK x d v b k) [(Qa.mk t.Vehicle t.Stops)]) fun l1=>some l1 else some (stK x d v b k)) fun f6 =>
    some (Sum.inl (f6,w64 ((k:Int)+1))))=some (ZU none (stK x d v b (k+1),w64 ((k:Int)+1)):(List To×Int)⊕List To):=fun t ht hl2=>by
   rw[(Qf6 (t:=⟨t.Vehicle,t.Stops⟩) (by simpa using (by omega:t.Stops.length≤1000000))).1,QhZ,←ht]
   cases Qbb t with
   | true =>
    simp only[Option.bind_some,cond_true]
    rw[Yh (by simp;omega)]
    rfl
   | false=>simp[ZU]
  by_cases h:(k:Int)=v
  ·have ht:b=stB x d v b k:=by unfold stB;rw[if_pos h]
   have h1v:v<((p.Vehicles.length:Nat):Int):=by omega
   simp only[JJ,oun,h1v,decide_true,cond_true,h,Bool.not_true,cond_false,Option.bind_some]
   rw[←h]
   have:=fin b ht hb
   rw[h] at this ⊢
   exact this
  ·have ht:(⟨(k:Int),wo d (ofP x (k:Int)).Stops⟩:To)=stB x d v b k:=by unfold stB;rw[if_neg h]
   simp only[JJ,oun,h1,decide_true,cond_true,h,decide_false,Bool.not_false,(QgY (x:=x) (k:Int) hx).1,Option.bind_some,Qfa hF d (hs k)]
   exact fin ⟨(k:Int),wo d (ofP x (k:Int)).Stops⟩ ht (Nat.le_trans (QjI _ _) (hs k))
theorem Qkl {F:Nat} (hF:40000≤F) {p:Pr} {x:Pl} (hx:x.Tours.length≤1000) (hs: ∀v,(ofP x v).Stops.length≤1000) (hv:p.Vehicles.length≤1000) (d:Int) {v:Nat} (hvv:v<p.Vehicles.length) {b:To} (hb:b.Stops.length≤1000) {e:Int} (hbe:Y8 F p (tO x d v) d=some (b,e)) :
  iter (Zt F p x d v) (((p.Vehicles.length:Nat):Int).toNat+1) ([],0)=some (if e=0 then .inl (stK x d v b p.Vehicles.length) else .inr (⟨[],[]⟩,false)):=by
 have:=YG (body:=Zt F p x d v) p.Vehicles (stK x d v b) (fun m k=>(m,k)) (fun k _=>if k=v∧e≠0 then some (.inr (⟨[],[]⟩,false)) else none) (.inl (stK x d v b p.Vehicles.length)) (by omega) (fun k y hk hno=> ?_) (fun _=>by simp[Zt,oun]) (((p.Vehicles.length:Nat):Int).toNat+1) (by simp)
 ·have e0:(stK x d v b 0,(0:Int))=(([]:List To),(0:Int)):=rfl;refine this.trans ?_
  by_cases he:e=0
  ·rw[if_pos he,QP _ _ (fun i y _=>by simp[he])]
  ·rw[if_neg he,Qhl p.Vehicles 0 v p.Vehicles[v] (List.getElem?_eq_getElem hvv) (r:= .inr (⟨[],[]⟩,false)) (by simp[he]) (fun j z hj _=>by simp;omega)]
 ·have h0:=Qr hk;have h1:((k:Int)<((p.Vehicles.length:Nat):Int)):=by omega
  have hl:=Qmp x d v b k
  by_cases h:k=v
  ·subst h;have ht:b=stB x d k b k:=by unfold stB;rw[if_pos rfl]
   simp only[Zt,oun,h1,decide_true,cond_true,(QgY (x:=x) (k:Int) hx).2,Option.bind_some,Qks d (show (ofP x (k:Int)).Stops.length≤1000000 by have:=hs k;omega)]
   have hbe':Y8 F p (Qa.mk (k:Int) (wo d (ofP x (k:Int)).Stops)) d=some (b,e):=hbe
   rw[hbe']
   simp only[Option.bind_some]
   by_cases he:e=0
   ·simp only[he,decide_true,Bool.not_true,cond_false,Option.bind_some,QD]
    rw[(Qf6 (t:=⟨b.Vehicle,b.Stops⟩) (by simpa using (by omega:b.Stops.length≤1000000))).2,QhZ,←ht]
    cases Qbb b with
    | true =>
     simp only[Option.bind_some,cond_true]
     rw[Yh (by simp;omega)]
     simp[ZU,QD]
    | false=>simp[ZU,QD]
   ·simp[he,ZU,QD]
  ·have hkv: ¬((k:Int)=(v:Int)):=by omega
   have ht:(⟨(k:Int),wo d (ofP x (k:Int)).Stops⟩:To)=stB x d v b k:=by unfold stB;rw[if_neg hkv]
   have hl2:=Nat.le_trans (QjI d (ofP x (k:Int)).Stops) (hs k)
   simp only[Zt,oun,h1,decide_true,cond_true,(QgY (x:=x) (k:Int) hx).2,Option.bind_some,Qks d (show (ofP x (k:Int)).Stops.length≤1000000 by have:=hs k;omega),hkv,decide_false,cond_false,QD]
   rw[(Qf6 (t:=⟨(k:Int),wo d (ofP x (k:Int)).Stops⟩) (by simpa using (by omega:(wo d (ofP x (k:Int)).Stops).length≤1000000))).2,QhZ,←ht]
   cases Qbb ⟨(k:Int),wo d (ofP x (k:Int)).Stops⟩ with
   | true =>
    simp only[Option.bind_some,cond_true]
    rw[Yh (by simp;omega)]
    simp[ZU,QD,h]
   | false=>simp[ZU,QD,h]
theorem Qkm {p:Pr} {x:Pl} (hl:x.Left.length≤1000) (hd:p.Demands.length≤1000) (d:Int) :
  iter (Jm p x d) (((p.Demands.length:Nat):Int).toNat+1) ([],0)=some (QgH p x d):=by
 have:=YG (body:=Jm p x d) p.Demands (fun k=>((List.range k).map fun k:Nat=>(k:Int)).filter fun k=> !decide (k=d)&&decide (k∈x.Left)) (fun m k=>(m,k)) (fun _ _=>none) (QgH p x d) (by omega) (fun k y hk _=> ?_) (fun _=>by simp[Jm,oun,QgH]) (((p.Demands.length:Nat):Int).toNat+1) (by simp)
 ·rw[QP _ _ (fun _ _ _=>rfl)] at this
  exact this
 ·have h0:=Qr hk;have h1:((k:Int)<((p.Demands.length:Nat):Int)):=by omega
  have hl2:(((List.range k).map fun k:Nat=>(k:Int)).filter fun k=> !decide (k=d)&&decide (k∈x.Left)).length≤k:=Nat.le_trans (List.length_filter_le _ _) (by simp)
  simp only[Jm,oun,h1,decide_true,cond_true,QnG (k:Int) (show x.Left.length≤1000000 by omega)]
  rw[List.range_succ,List.map_append,List.filter_append]
  generalize (((List.range k).map fun k:Nat=>(k:Int)).filter fun k=> !decide (k=d)&&decide (k∈x.Left))=A at *
  by_cases e1:(k:Int)=d
  ·simp[e1,ZU]
  ·by_cases e2:(k:Int)∈x.Left
   ·simp only[e1,e2,decide_false,decide_true,Bool.not_false,cond_true,Option.bind_some]
    rw[Yh (by simp;omega)]
    simp[ZU,e1,e2]
   ·simp[e1,e2,ZU]
theorem QmU {F:Nat} (hF:40000≤F) {p:Pr} (hn:p.Road.Edges.length≤600) {x:Pl} (h:Fe p x) (hx:x.Tours.length≤1000) (hl:x.Left.length≤1000) (hv:p.Vehicles.length≤1000) {d v:Nat} (hdd:d<p.Demands.length) (hvv:v<p.Vehicles.length) :
  VH F p x d v=some (Qjc (mvR F p x d v))∧Vf F p x d v=some (Qjc (mvR F p x d v))∧(∀y,bsO F p x d v=some y→IsO p (tO x d v) d y∧y.tour.Stops.length≤40):=by
 have hs: ∀v,(ofP x v).Stops.length≤1000:=fun v=>by have:=h.of_len v;omega
 have hts:(tO x d v).Stops.length≤1000:=Nat.le_trans (QjI _ _) (hs _);have hdl:=h.ok.dl;obtain ⟨L,e,h1,h2,h3,h4⟩:=QaV hF p hn (tO x d v) hts d;have hbad:Qi6 p (tO x d v) d=false:=by
  unfold Qi6 tO
  simp;omega
 have he:=h4 h.chk hbad
 rw[show decide ((d:Int)∈(tO x d v).Stops)=false from decide_eq_false (QlR (d:Int) _)] at he
 have he:e=0:=he;subst he;rcases h3 with ⟨h3,_⟩ | ⟨_,h3⟩
 ·exact absurd rfl h3
 obtain ⟨e',b1,b2,_,b4⟩:=Qi1 h2 (.inr ⟨rfl,h3⟩);have hB:=(QgZ hF p hn (tO x d v) hts d).2;have hbs:bsO F p x d v=L.head? :=by
  unfold bsO VR
  rw[h1]
  cases L<;>rfl
 have hisO: ∀y,bsO F p x d v=some y→IsO p (tO x d v) d y∧y.tour.Stops.length≤40:=fun y hy=>QnH (x:=⟨tO x d v,0⟩) hy ⟨L,0,h1,.inr ⟨rfl,h3⟩⟩;have hbl:(hdT L).Stops.length≤1000:=by
  cases L with
  | nil=>simp[hdT]
  | cons y M=>have:=(hisO y (by rw[hbs];rfl)).2;simp only[hdT];omega
 rw[b1] at hB
 have hB':VX F p (Qa.mk (v:Int) (wo (d:Int) (ofP x (v:Int)).Stops)) d=some (hdT L,e'):=hB;refine ⟨?_,?_,hisO⟩
 ·unfold VH
  simp only[(QgY (x:=x) (v:Int) hx).1,Option.bind_some,Qfa hF (d:Int) (hs v),hB',oun]
  cases L with
  | nil =>
   rw[b4 rfl rfl,mvR,hbs]
   rfl
  | cons y M =>
   have he':e'=0:=b2.2 (by simp)
   simp only[he',decide_true,Bool.not_true,cond_false]
   rw[Qkk hF hx hs hv (d:Int) (v:Int) hbl,Qfa hF (d:Int) hl]
   simp only[Option.bind_some]
   rw[h.left_sort hl,mvR,hbs]
   rfl
 ·unfold Vf
  rw[Qkl hF hx hs hv (d:Int) hvv hbl b1]
  cases L with
  | nil =>
   rw[b4 rfl rfl,mvR,hbs]
   rfl
  | cons y M =>
   have he':e'=0:=b2.2 (by simp)
   rw[if_pos he']
   simp only[Option.bind_some,QD]
   rw[Qkm hl (by omega),mvR,hbs]
   rfl
theorem QoS {p:Pr} {x:Pl} (h:Fe p x) {d v:Nat} (hdd:d<p.Demands.length) (hvv:v<p.Vehicles.length) {y:Op} (hy:IsO p (tO x d v) d y) :
  Fe p (Qdz p x d v y.tour)∧(Qdz p x d v y.tour).Tours.Pairwise fun a b=>a.Vehicle<b.Vehicle:=by
 have hyv:y.tour.Vehicle=(v:Int):=by
  obtain ⟨i,_,hi⟩:=hy.cand
  rw[hi];rfl
 have hveh: ∀i:Nat,(stB x d v y.tour i).Vehicle=(i:Int):=fun i=>by
  unfold stB
  by_cases e:(i:Int)=(v:Int)
  ·rw[if_pos e,hyv,e]
  ·rw[if_neg e]
 have hasc:(Qdz p x d v y.tour).Tours.Pairwise fun a b=>a.Vehicle<b.Vehicle:=by
  refine List.Pairwise.filter _ ?_
  rw[List.pairwise_map]
  exact List.Pairwise.imp (fun h=>by rw[hveh,hveh];omega) List.pairwise_lt_range
 have hcnt: ∀e:Nat,tn (Qdz p x d v y.tour).Tours e=((List.range p.Vehicles.length).map fun i:Nat=>cn (stB x d v y.tour i).Stops e).sum:=fun e=>by
  show tn (((List.range p.Vehicles.length).map (stB x d v y.tour)).filter Qbb) e=_
  have key: ∀ts:List To,tn (ts.filter Qbb) e=(ts.map fun t=>cn t.Stops e).sum:=by
   intro ts
   induction ts with
   | nil=>rfl
   | cons t ts ih =>
    rw[List.filter_cons]
    by_cases hs:Qbb t=true
    ·rw[if_pos hs]
     simp only[tn,List.map_cons,List.sum_cons] at ih ⊢
     rw[ih]
    ·rw[if_neg hs,ih]
     have:cn t.Stops e=0:=by
      unfold cn
      rw[List.count_eq_zero]
      intro hm;refine hs ?_;unfold Qbb
      rw[List.any_eq_true]
      exact ⟨_,hm,by simp⟩
     simp[this]
  rw[key,List.map_map]
  rfl
 have hcE: ∀e i:Nat,e≠d→cn (stB x d v y.tour i).Stops e=cn (ofP x (i:Int)).Stops e:=fun e i hed=>by
  have hed':(e:Int)≠(d:Int):=by omega
  unfold stB cn
  by_cases hi:(i:Int)=(v:Int)
  ·rw[if_pos hi]
   obtain ⟨j,_,hj⟩:=hy.cand
   rw[hj,QbI _ _ _ (by omega),if_neg hed']
   show (wo (d:Int) (ofP x (v:Int)).Stops).count (e:Int)+0=_
   rw[Qh8 _ hed',hi];rfl
  ·rw[if_neg hi]
   exact Qh8 _ hed'
 have hcD: ∀i:Nat,cn (stB x d v y.tour i).Stops d=if v=i then 1 else 0:=fun i=>by
  unfold stB cn
  by_cases hi:(i:Int)=(v:Int)
  ·rw[if_pos hi,if_pos (by omega)]
   obtain ⟨j,_,hj⟩:=hy.cand
   rw[hj,QbI _ _ _ (by omega),if_pos rfl]
   show (wo (d:Int) (ofP x (v:Int)).Stops).count (d:Int)+1=1
   rw[List.count_eq_zero.2 (QlR _ _)]
  ·rw[if_neg hi,if_neg (by omega)]
   exact List.count_eq_zero.2 (QlR _ _)
 refine ⟨⟨h.ok,h.chk,fun t ht=> ?_,List.Pairwise.imp (fun h=>by omega) hasc,fun e he=>(QhE.1 he).1,fun e he=> ?_⟩,hasc⟩
 ·obtain ⟨h1,h2⟩:=List.mem_filter.1 ht;obtain ⟨i,_,rfl⟩:=List.mem_map.1 h1;unfold stB at h2 ⊢
  by_cases hi:(i:Int)=(v:Int)
  ·rw[if_pos hi];exact hy.ok
  ·rw[if_neg hi] at h2 ⊢
   rcases QgT x (i:Int) with ⟨h3,h4⟩ | h3
   ·have:=h.less (d:=(d:Int)) (by omega) (by omega) h3
    rw[h4] at this
    exact this
   ·rw[h3] at h2
    simp[Qbb,wo] at h2
 ·show tn (Qdz p x d v y.tour).Tours e+cn (QgH p x d) e=1
  rw[hcnt]
  by_cases hed:e=d
  ·subst hed;have e1:((List.range p.Vehicles.length).map fun i:Nat=>cn (stB x e v y.tour i).Stops e)=(List.range p.Vehicles.length).map fun i=>if v=i then 1 else (fun _=>0) i:=List.map_congr_left fun i _=>hcD i
   rw[e1,Qmr 1 (fun _=>0) hvv rfl,QkF]
   have:cn (QgH p x e) e=0:=by
    unfold cn
    rw[List.count_eq_zero]
    exact fun hm=>(QhE.1 hm).2.1 rfl
   omega
  ·have e1:((List.range p.Vehicles.length).map fun i:Nat=>cn (stB x d v y.tour i).Stops e)=(List.range p.Vehicles.length).map fun i:Nat=>cn (ofP x (i:Int)).Stops e:=List.map_congr_left fun i _=>hcE e i hed
   rw[e1,h.sum]
   have h1:=h.one e he;have h2:cn (QgH p x d) e=cn x.Left e:=by
    unfold cn
    rw[←(h.left_perm d).count_eq,Qh8 _ (by omega)]
   rw[h2];exact h1
end Go.Proofs.YthpgjbbjpfiniaaGreat
namespace Go.Proofs.YthpgjbbjpfiniaaGreat
open Go.RowKit
set_option linter.unusedSimpArgs false
set_option linter.unusedVariables false
theorem QjZ {p:Pr} (hp:OkP p) {ts:List To} (h:ts.length≤30):0≤YF p ts∧YF p ts<1000000000000:=by
 have:=Qgs (f:=fun t=>(Yx p t).1) (B:=262400000) (l:=ts) (fun t _=>Qgh hp t);unfold YF
 omega
def Z9 (p:Pr) (y:Pl):Ra:=⟨y,YF p y.Tours⟩
structure QkR (p:Pr) (z:Ra):Prop where
 eq:z=Z9 p z.plan
 fe:Fe p z.plan
 asc:z.plan.Tours.Pairwise fun a b=>a.Vehicle<b.Vehicle
 tl:z.plan.Tours.length≤p.Vehicles.length
 ll:z.plan.Left.length≤p.Demands.length
theorem Qmj {p:Pr} (hp:OkP p) {y:Pl} (h:y.Tours.length≤30):QaM (Z9 p y):=QjZ hp h
theorem QkR.cost {p:Pr} {z:Ra} (h:QkR p z) (hv:p.Vehicles.length≤30):QaM z:=by
 rw[h.eq]
 exact Qmj h.fe.ok (Nat.le_trans h.tl hv)
def mvs (F:Nat) (p:Pr) (x:Pl) (d v:Nat):Option Ra:=(mvR F p x d v).bind fun y=>if ZN (Z9 p y)<ZN (Z9 p x) then some (Z9 p y) else none
def QcA (F:Nat) (p:Pr) (x:Pl) (d:Nat):Nat→List Ra
 | 0=>[]
 | n+1=>QcA F p x d n++(mvs F p x d n).toList
def Qah (F:Nat) (p:Pr) (x:Pl):Nat→List Ra
 | 0=>[]
 | m+1=>Qah F p x m++QcA F p x m p.Vehicles.length
theorem QfD (F:Nat) (p:Pr) (x:Pl) (d:Nat): ∀n,(QcA F p x d n).length≤n
 | 0=>Nat.le_refl _
 | n+1=>by
  have:=QfD F p x d n
  simp only[QcA,List.length_append]
  cases mvs F p x d n<;>simp<;>omega
theorem QdG (F:Nat) (p:Pr) (x:Pl): ∀m,(Qah F p x m).length≤m*p.Vehicles.length
 | 0=>by simp[Qah]
 | m+1=>by
  have h1:=QdG F p x m;have h2:=QfD F p x m p.Vehicles.length
  simp only[Qah,List.length_append,Nat.succ_mul]
  omega
theorem QhU {F:Nat} {p:Pr} {x:Pl} {d:Nat} {z:Ra}: ∀{n:Nat},z∈QcA F p x d n→ ∃v,v<n∧mvs F p x d v=some z
 | 0,h=>by cases h
 | n+1,h=>by
  rcases List.mem_append.1 h with h | h
  ·obtain ⟨v,h1,h2⟩:=QhU h;exact ⟨v,by omega,h2⟩
  ·refine ⟨n,by omega,?_⟩;cases hm:mvs F p x d n with
   | none=>rw[hm] at h;simp at h
   | some y=>rw[hm] at h;simp at h;rw[h]
theorem Qg1 {F:Nat} {p:Pr} {x:Pl} {z:Ra}: ∀{m:Nat},z∈Qah F p x m→ ∃d v,d<m∧v<p.Vehicles.length∧mvs F p x d v=some z
 | 0,h=>by cases h
 | m+1,h=>by
  rcases List.mem_append.1 h with h | h
  ·obtain ⟨d,v,h1,h2⟩:=Qg1 h;exact ⟨d,v,by omega,h2⟩
  ·obtain ⟨v,h1,h2⟩:=QhU h;exact ⟨m,v,by omega,h1,h2⟩
structure Cx (F:Nat) (p:Pr) (x:Pl):Prop where
 hF:40000≤F
 hn:p.Road.Edges.length≤600
 hv:p.Vehicles.length≤30
 fe:Fe p x
 tl:x.Tours.length≤30
 ll:x.Left.length≤100
theorem QmT (p:Pr) (x:Pl) (d v:Int) (b:To):(Qdz p x d v b).Tours.length≤p.Vehicles.length∧(Qdz p x d v b).Left.length≤p.Demands.length :=
 ⟨Nat.le_trans (List.length_filter_le _ _) (by simp),Nat.le_trans (List.length_filter_le _ _) (by simp)⟩
theorem Qlp (L:List Ra) (hl:L.length≤10000):iter (JY L) (((L.length:Nat):Int).toNat+1) ([],0)=some (L.map Qb.plan):=by
 have:=YG (body:=JY L) L (fun k=>(L.take k).map Qb.plan) (fun m k=>(m,k)) (fun _ _=>none) (L.map Qb.plan) (by omega) (fun k y hk _=> ?_) (fun _=>by simp[JY,oun]) (((L.length:Nat):Int).toNat+1) (by simp)
 ·rw[QP _ _ (fun _ _ _=>rfl)] at this
  simpa using this
 ·have h0:=Qr hk;have h1:((k:Int)<((L.length:Nat):Int)):=by omega
  simp only[JY,oun,h1,decide_true,cond_true,Qq,hk,Option.bind_some]
  rw[Yh (by simp;omega),Yw hk]
  simp[ZU]
section
variable {F:Nat} {p:Pr} {x:Pl} (h:Cx F p x)
include h
theorem Cx.move {d v:Nat} (hd:d<p.Demands.length) (hv:v<p.Vehicles.length):VH F p x d v=some (Qjc (mvR F p x d v))∧Vf F p x d v=some (Qjc (mvR F p x d v))∧ ∀y,mvR F p x d v=some y→QkR p (Z9 p y)∧YT F p y=some (YF p y.Tours,0)∧Yd p y=some (YF p y.Tours,0):=by
 have htl:=h.tl;have hll:=h.ll;have hvl:=h.hv;obtain ⟨m1,m2,m3⟩:=QmU h.hF h.hn h.fe (by omega) (by omega) (by omega) hd hv;refine ⟨m1,m2,fun y hy=> ?_⟩;unfold mvR at hy;cases hb:bsO F p x d v with
 | none=>rw[hb] at hy;cases hy
 | some o =>
  rw[hb] at hy
  injection hy with hy
  have hy:Qdz p x d v o.tour=y:=hy;obtain ⟨q1,q2⟩:=QoS h.fe hd hv (m3 o hb).1
  rw[hy] at q1 q2
  have ⟨l1,l2⟩:=QmT p x d v o.tour
  rw[hy] at l1 l2
  have hdl:=h.fe.ok.dl;have hpl:=Qmi h.hF h.hn h.fe.ok h.fe.chk y (by omega) (by omega) q2 q1.drv q1.lft q1.one;refine ⟨⟨rfl,q1,q2,l1,l2⟩,hpl,?_⟩;obtain ⟨s,e,a1,a2,a3,_⟩:=QcV h.hF h.hn y (by omega) (by omega)
  rw[hpl] at a1
  injection a1 with a1
  rw[a3,←a1]
theorem Cx.mvs_ok {d v:Nat} (hd:d<p.Demands.length) (hv:v<p.Vehicles.length) {z:Ra} (hz:mvs F p x d v=some z):QkR p z∧ZN z<ZN (Z9 p x):=by
 obtain ⟨_,_,m3⟩:=h.move hd hv;unfold mvs at hz;cases hm:mvR F p x d v with
 | none=>rw[hm] at hz;cases hz
 | some y =>
  rw[hm] at hz
  simp only[Option.bind_some] at hz
  split at hz
  ·injection hz with hz
   subst hz;exact ⟨(m3 y hm).1,by assumption⟩
  ·cases hz
theorem Cx.all_ok {z:Ra} (hz:z∈Qah F p x p.Demands.length):QkR p z∧ZN z<ZN (Z9 p x):=by
 obtain ⟨d,v,h1,h2,h3⟩:=Qg1 hz;exact h.mvs_ok h1 h2 h3
theorem Cx.part_ok {d n:Nat} (hd:d<p.Demands.length) (hn:n≤p.Vehicles.length) {z:Ra} (hz:z∈Qah F p x d++QcA F p x d n):QkR p z:=by
 rcases List.mem_append.1 hz with hz | hz
 ·obtain ⟨d',v,h1,h2,h3⟩:=Qg1 hz;exact (h.mvs_ok (by omega) h2 h3).1
 ·obtain ⟨v,h1,h2⟩:=QhU hz;exact (h.mvs_ok hd (by omega) h2).1
theorem Cx.part_len {d n:Nat} (hd:d<p.Demands.length) (hn:n≤p.Vehicles.length):(Qah F p x d++QcA F p x d n).length≤990:=by
 have h1:=QdG F p x d;have h2:=QfD F p x d n;have h3:=h.fe.ok.dl;have h4:=h.hv;have:d*p.Vehicles.length≤31*30:=Nat.mul_le_mul (by omega) h4
 simp only[List.length_append]
 omega
theorem Cx.xOk:QaM (Z9 p x):=Qmj h.fe.ok h.tl
theorem Cx.y_pro {y:Pl} (hy:QkR p (Z9 p y)) (hpl:YT F p y=some (YF p y.Tours,0)) {q:List Ra} (hq:q.length≤1000) :
  Vj F p x (YF p x.Tours) q y=some (q++(if ZN (Z9 p y)<ZN (Z9 p x) then some (Z9 p y) else none).toList):=by
 unfold Vj JO
 rw[hpl]
 obtain ⟨z,hz,hzz⟩:=Qha (hy.cost h.hv) h.xOk;have hz':QV (Qb.mk y (YF p y.Tours)) (Qb.mk x (YF p x.Tours))=some z:=hz
 simp only[Option.bind_some,oun,decide_true,cond_true,hz']
 by_cases hlt:ZN (Z9 p y)<ZN (Z9 p x)
 ·rw[if_pos hlt,decide_eq_true (hzz.2 hlt)]
  simp only[cond_true]
  rw[Yh (by simp;omega)]
  rfl
 ·rw[if_neg hlt,decide_eq_false (fun hh=>hlt (hzz.1 hh))]
  simp
theorem Cx.row_pro {d:Nat} (hd:d<p.Demands.length) {q:List Ra} (hq:q.length≤960) :
  iter (Zf F p x (YF p x.Tours) p x d) (((p.Vehicles.length:Nat):Int).toNat+1) (0,q)=some (q++QcA F p x d p.Vehicles.length):=by
 have hvl:=h.hv;have:=YG (body:=Zf F p x (YF p x.Tours) p x d) p.Vehicles (fun k=>q++QcA F p x d k) (fun m k=>(k,m)) (fun _ _=>none) (q++QcA F p x d p.Vehicles.length) (by omega) (fun k y hk _=> ?_) (fun _=>by simp[Zf,oun]) (((p.Vehicles.length:Nat):Int).toNat+1) (by simp)
 ·rw[QP _ _ (fun _ _ _=>rfl)] at this
  simpa [QcA] using this
 ·have h0:=Qr hk;have h1:((k:Int)<((p.Vehicles.length:Nat):Int)):=by omega
  obtain ⟨m1,_,m3⟩:=h.move hd h0;have hrl:=QfD F p x d k
  simp only[Zf,oun,h1,decide_true,cond_true,m1,Option.bind_some]
  cases hm:mvR F p x d k with
  | none=>simp[Qjc,ZU,QcA,mvs,hm]
  | some y =>
   obtain ⟨a1,a2,_⟩:=m3 y hm
   simp only[Qjc,cond_true]
   rw[h.y_pro a1 a2 (by simp;omega)]
   simp[ZU,QcA,mvs,hm]
theorem Cx.all_pro:JR F p x (YF p x.Tours) [] p x=some (Qah F p x p.Demands.length):=by
 have hdl:=h.fe.ok.dl;unfold JR;have:=YG (body:=ZS F p x (YF p x.Tours) p x) p.Demands (fun k=>Qah F p x k) (fun m k=>(k,m)) (fun _ _=>none) (Qah F p x p.Demands.length) (by omega) (fun k y hk _=> ?_) (fun _=>by simp[ZS,oun]) (((p.Demands.length:Nat):Int).toNat+1) (by simp)
 ·rw[QP _ _ (fun _ _ _=>rfl)] at this
  have e:(Qah F p x 0)=[]:=rfl
  rw[e] at this
  rw[this];rfl
 ·have h0:=Qr hk;have h1:((k:Int)<((p.Demands.length:Nat):Int)):=by omega
  have hl:=QdG F p x k;have hvl:=h.hv;have:k*p.Vehicles.length≤31*30:=Nat.mul_le_mul (by omega) hvl
  simp only[ZS,oun,h1,decide_true,cond_true]
  rw[h.row_pro h0 (by omega)]
  simp[ZU,Qah]
theorem Cx.total:YT F p x=some (YF p x.Tours,0)∧QN p x=some 0∧Yd p x=some (YF p x.Tours,0):=by
 obtain ⟨s,e,a1,a2,a3,a4⟩:=QcV h.hF h.hn x h.tl h.ll;have hbad: ∀(k:Nat) (t:To),x.Tours[k]? =some t→QcH p x.Tours k t=none:=fun k t hk=>by
  obtain ⟨u,hu⟩:=QcL (h.fe.drv t (List.mem_of_getElem? hk));have hany:(x.Tours.take k).any (fun u=>decide (u.Vehicle=t.Vehicle))=false:=by
   rw[List.any_eq_false]
   intro y hy he;obtain ⟨j,hj⟩:=List.getElem?_of_mem hy;have hjk:=Qr hj;have hkl:=Qr hk
   rw[Yi (Nat.le_of_lt hkl)] at hjk
   rw[List.getElem?_take,if_pos hjk] at hj
   have:=List.pairwise_iff_getElem.1 h.fe.dis j k (by omega) hkl hjk
   rw[List.getElem?_eq_getElem (by omega)] at hj hk
   injection hj with hj
   injection hk with hk
   rw[hj,hk,of_decide_eq_true he] at this
   exact this rfl
  unfold QcH
  rw[hany,hu]
  rfl
 have he:e=0:=by
  have hp:=h.fe.ok;have hdl:=hp.dl;have htl:=h.tl;have hll:=h.ll;have hall: ∀t∈x.Tours,(∀s∈t.Stops,okS p.Demands.length s)∧t.Stops.length≤40:=fun t htm=>by
   obtain ⟨u,hu⟩:=QcL (h.fe.drv t htm);exact (Vt hp hu).2.2
  have q1:=Qer h.hF hp x h.tl
  rw[QP _ _ (fun i t hi=>by rw[Nat.zero_add,hbad i t hi];rfl)] at q1
  have q3:=(QcS (n:=p.Demands.length) x (fun _=>0) (by omega) (fun _=>Nat.zero_le _)).1;have q4:=(Qcd (n:=p.Demands.length) x (fun d=>0+cn x.Left d) (by omega) (fun d=>by have:=Qiu x.Left d;omega) (fun t htm=>by have:=(hall t htm).2;omega) (fun t htm=>(hall t htm).1)).1;have hbl:QeN p.Demands.length x.Left=false:=by
   unfold QeN
   rw[List.any_eq_false]
   intro e he;have:=h.fe.lft e he
   simp;omega
  have hv:(vec p.Demands.length fun d=>0+cn x.Left d+tn x.Tours d)=vec p.Demands.length fun _=>1:=QbT fun d hd=>by have:=h.fe.one d hd;omega
  rw[hv] at q4
  rw[hbl] at q3
  have hmem: ∀c∈vec p.Demands.length (fun _=>1),c=(1:Int):=fun c hc=>by
   unfold vec at hc;obtain ⟨j,_,rfl⟩:=List.mem_map.1 hc
   rfl
  have b1:(vec p.Demands.length (fun _=>1)).any (fun c=>decide (1<c))=false:=by
   rw[List.any_eq_false];intro c hc;rw[hmem c hc];decide
  have b2:(vec p.Demands.length (fun _=>1)).any (fun c=>decide (c=0))=false:=by
   rw[List.any_eq_false];intro c hc;rw[hmem c hc];decide
  have hF:=h.hF;unfold YT at a1
  rw[Zq (by omega) _ h.hn,h.fe.chk] at a1
  simp only[Option.bind_some,decide_true,Bool.not_true,cond_false] at a1
  rw[q1] at a1
  simp only[Option.bind_some,QD] at a1
  rw[QdW _ (by omega)] at a1
  simp only[Option.bind_some] at a1
  rw[q3] at a1
  simp only[cond_false,Option.bind_some,QD] at a1
  rw[q4] at a1
  simp only[Option.bind_some] at a1
  rw[QgR _ (by rw[VB];omega),QgV _ (by rw[VB];omega),b1,b2] at a1
  simp only[Option.bind_some,cond_false,Option.some.injEq,Prod.mk.injEq] at a1
  exact a1.2.symm
 subst he;have:=(a4 rfl).1;subst this;exact ⟨a1,a2,a3⟩
theorem Cx.pro: ∃L,Y0 F p x=some (L.map Qb.plan,0)∧Srt ZN L∧Yz ZN (Qah F p x p.Demands.length) L:=by
 have hdl:=h.fe.ok.dl;have hvl:=h.hv;have hl:=QdG F p x p.Demands.length;have h9:p.Demands.length*p.Vehicles.length≤32*30:=Nat.mul_le_mul (by omega) hvl;obtain ⟨L,s1,s2,s3⟩:=Qlr (F:=F) (L:=Qah F p x p.Demands.length) (by omega) h.hF (fun z hz=>(h.all_ok hz).1.cost hvl);have hl2:=s3.perm.length_eq;refine ⟨L,?_,s2,s3⟩;unfold Y0 JO
 rw[h.total.1]
 simp only[Option.bind_some,oun,decide_true,Bool.not_true,cond_false]
 rw[h.all_pro]
 simp only[Option.bind_some]
 rw[s1]
 simp only[Option.bind_some]
 rw[Qlp L (by omega)]
 rfl
end
end Go.Proofs.YthpgjbbjpfiniaaGreat
namespace Go.Proofs.YthpgjbbjpfiniaaGreat
open Go.RowKit
set_option linter.unusedSimpArgs false
set_option linter.unusedVariables false
abbrev rpl:Ra→Pl:=Qb.plan
abbrev rco:Ra→Int:=Qb.cost
theorem Qmv (a b c d:Int):Q4 a b c d=some (decide (a<c)||(decide (a=c)&&decide (b<d))):=by
 unfold Q4
 by_cases h:a<c
 ·simp[h]
 ·by_cases h2:a=c
  ·subst h2;simp
  ·simp[h,h2]
theorem Qc8 {a b:Ra} (ha:QaM a) (hb:QaM b):Q4 ((a.plan.Left.length:Nat):Int) a.cost ((b.plan.Left.length:Nat):Int) b.cost=some (decide (ZN a<ZN b)):=by
 rw[Qmv]
 congr 1
 unfold ZN;obtain ⟨a0,a1⟩:=ha;obtain ⟨b0,b1⟩:=hb
 rw[Bool.eq_iff_iff]
 simp only[Bool.or_eq_true,Bool.and_eq_true,decide_eq_true_eq]
 omega
theorem Qn2 {c:Ra} (hc:QaM c): ∀(n:Nat) (Z R:List Ra) (f:Nat),Z.length=n→n<f→n≤100000→Srt ZN Z→(∀z∈Z,QaM z) →
  ∃Z1 Z2,Z=Z1++Z2∧iter (Zi ((Z++R).map rpl) ((Z++R).map rco) c.plan c.cost) f (n:Int)=some ((Z1.length:Nat):Int)∧(∀z∈Z1,ZN z≤ZN c)∧ ∀z∈Z2,ZN c<ZN z
 | _,_,_,0,_,h,_,_,_=>by omega
 | 0,Z,R,f+1,hZ,_,_,_,_=>by
  have:Z=[]:=List.eq_nil_of_length_eq_zero hZ;subst this;exact ⟨[],[],rfl,by simp[iter,Zi,QD],by simp,by simp⟩
 | n+1,Z,R,f+1,hZ,hf,hb,hs,ho=>by
  obtain ⟨Y,y,rfl⟩: ∃Y y,Z=Y++[y]:=by
   have:Z≠[]:=by intro e;rw[e] at hZ;simp at hZ
   exact ⟨Z.dropLast,Z.getLast this,(List.dropLast_concat_getLast this).symm⟩
  have hY:Y.length=n:=by simpa using hZ
  have h0:(0:Int)<((n+1:Nat):Int):=by omega
  have e1:w64 (((n+1:Nat):Int)-1)=(n:Int):=by rw[Yc (by omega) (by omega)];omega
  have g0:(Y++[y]++R)[n]? =some y:=by
   rw[List.append_assoc,List.getElem?_append_right (by omega),hY]
   simp
  have g1:((Y++[y]++R).map rpl)[n]? =some y.plan:=by rw[List.getElem?_map,g0];rfl
  have g2:((Y++[y]++R).map rco)[n]? =some y.cost:=by rw[List.getElem?_map,g0];rfl
  have hp:=List.pairwise_append.1 hs;have hk:=Qc8 hc (ho y (by simp))
  by_cases h:ZN c<ZN y
  ·obtain ⟨Z1,Z2,k1,k2,k3,k4⟩:=Qn2 hc n Y (y::R) f hY (by omega) (by omega) hp.1 (fun z hz=>ho z (by simp[hz]));refine ⟨Z1,Z2++[y],by rw[k1];simp,?_,k3,fun z hz=> ?_⟩
   ·have e2:Y++[y]++R=Y++y::R:=by simp
    rw[e2] at g1 g2 ⊢
    simp only[iter,Zi,h0,decide_true,cond_true,e1,Qq,g1,g2,Option.bind_some,hk,h,QD,k2]
   ·rcases List.mem_append.1 hz with hz | hz
    ·exact k4 z hz
    ·rw[List.mem_singleton.1 hz];exact h
  ·refine ⟨Y++[y],[],by simp,?_,fun z hz=> ?_,by simp⟩
   ·simp only[iter,Zi,h0,decide_true,cond_true,e1,Qq,g1,g2,Option.bind_some,hk,h,decide_false,cond_false,QD]
    rw[hZ]
   ·rcases List.mem_append.1 hz with hz | hz
    ·have:=hp.2.2 z hz y (by simp)
     omega
    ·rw[List.mem_singleton.1 hz];omega
theorem QnS {α β γ:Type} (f:α→β) (g:α→γ) (Z1 Z2:List α) (x:α) (hl:(Z1++Z2).length≤100000):(Option.bind (Wx ((Z1++Z2).map g) 0 ((Z1.length:Nat):Int)) fun l1 =>
      Option.bind (ZH [] l1) fun l2 =>
      Option.bind (ZH l2 [g x]) fun l3 =>
      Option.bind (Wx ((Z1++Z2).map g) ((Z1.length:Nat):Int) ((((Z1++Z2).map g).length:Nat):Int)) fun l4 =>
      Option.bind (ZH l3 l4) fun l5 =>
      Option.bind (Wx ((Z1++Z2).map f) 0 ((Z1.length:Nat):Int)) fun l6 =>
      Option.bind (ZH [] l6) fun l7 =>
      Option.bind (ZH l7 [f x]) fun l8 =>
      Option.bind (Wx ((Z1++Z2).map f) ((Z1.length:Nat):Int) ((((Z1++Z2).map f).length:Nat):Int)) fun l9 =>
      Option.bind (ZH l8 l9) fun l10 =>
      some (l5,l10))=some ((Z1++x::Z2).map g,(Z1++x::Z2).map f):=by
 simp only[List.length_append] at hl
 rw[VJ (by simp),Qbi (by simp),VJ (by simp),Qbi (by simp)]
 simp only[Option.bind_some]
 rw[Yh (by simp;omega)]
 simp only[Option.bind_some]
 rw[Yh (by simp;omega)]
 simp only[Option.bind_some]
 rw[Yh (by simp;omega)]
 simp only[Option.bind_some]
 rw[Yh (by simp;omega)]
 simp only[Option.bind_some]
 rw[Yh (by simp;omega)]
 simp only[Option.bind_some]
 rw[Yh (by simp;omega)]
 simp[List.map_append]
section
variable {F:Nat} {p:Pr} {x:Pl} (h:Cx F p x)
include h
theorem Cx.empty_total: ∃s e,Yd p ⟨[],[]⟩=some (s,e):=by
 obtain ⟨s,e,_,_,a3,_⟩:=QcV h.hF h.hn ⟨[],[]⟩ (by simp) (by simp);exact ⟨s,e,a3⟩
theorem Cx.row_ref {d:Nat} (hd:d<p.Demands.length): ∀(r v:Nat) (L:List Ra) (f:Nat),v+r=p.Vehicles.length→r<f→Srt ZN L→Yz ZN (Qah F p x d++QcA F p x d v) L →
  ∃L',iter (YJ F p x (YF p x.Tours) d) f (L.map rpl,L.map rco,(v:Int))=some (L'.map rpl,L'.map rco)∧Srt ZN L'∧Yz ZN (Qah F p x d++QcA F p x d p.Vehicles.length) L'
 | _,_,_,0,_,hf,_,_=>by omega
 | 0,v,L,f+1,hv,_,h1,h2=>by
  have hv:v=p.Vehicles.length:=by omega
  subst hv;refine ⟨L,?_,h1,h2⟩
  simp only[iter,YJ,oun,Int.lt_irrefl,decide_false,cond_false,Option.bind_some,QD]
 | r+1,v,L,f+1,hv,hf,h1,h2=>by
  have hvv:v<p.Vehicles.length:=by omega
  have hvl:=h.hv;have hlt:((v:Int)<((p.Vehicles.length:Nat):Int)):=by omega
  have e2:w64 ((v:Int)+1)=((v+1:Nat):Int):=by rw[Yc (by omega) (by omega)];omega
  obtain ⟨_,m2,m3⟩:=h.move hd hvv;have hlen:L.length≤990:=by
   rw[←h2.perm.length_eq]
   exact h.part_len hd (by omega)
  have hok: ∀z∈L,QaM z:=fun z hz=>(h.part_ok hd (show v≤p.Vehicles.length by omega) (h2.perm.symm.subset hz)).cost hvl;have keep:mvs F p x d v=none→Yz ZN (Qah F p x d++QcA F p x d (v+1)) L:=fun hm=>by
   simp only[QcA,hm,Option.toList_none,List.append_nil]
   exact h2
  cases hm:mvR F p x d v with
  | none =>
   obtain ⟨s,e,ht⟩:=h.empty_total;obtain ⟨L',q1,q2,q3⟩:=Cx.row_ref hd r (v+1) L f (by omega) (by omega) h1 (keep (by unfold mvs;rw[hm];rfl));refine ⟨L',?_,q2,q3⟩
   rw[hm] at m2
   simp only[iter,YJ,oun,hlt,decide_true,cond_true,m2,Qjc,Option.bind_some,ht,Bool.not_false,e2,QD,q1]
  | some y =>
   obtain ⟨a1,a2,a3⟩:=m3 y hm
   rw[hm] at m2
   have hyc:=a1.cost hvl;have hb:Q4 ((y.Left.length:Nat):Int) (YF p y.Tours) ((x.Left.length:Nat):Int) (YF p x.Tours)=some (decide (ZN (Z9 p y)<ZN (Z9 p x))):=Qc8 hyc h.xOk
   by_cases hlt2:ZN (Z9 p y)<ZN (Z9 p x)
   ·have hms:mvs F p x d v=some (Z9 p y):=by unfold mvs;rw[hm];simp only[Option.bind_some];rw[if_pos hlt2]
    have hF:=h.hF;obtain ⟨Z1,Z2,k1,k2,k3,k4⟩:=Qn2 (c:=Z9 p y) hyc L.length L [] F rfl (by omega) (by omega) h1 hok
    rw[List.append_nil] at k2
    obtain ⟨j1,j2⟩:=Qfs (k:=ZN) (x:=Z9 p y) (by rw[←k1];exact h1) k4 k3
    rw[←k1] at j2
    have h3:Yz ZN (Qah F p x d++QcA F p x d (v+1)) (Z1++Z9 p y::Z2):=by
     simp only[QcA,hms,Option.toList_some]
     rw[←List.append_assoc]
     exact Yz.trans (h2.append (Yz.refl _)) j2
    obtain ⟨L',q1,q2,q3⟩:=Cx.row_ref hd r (v+1) (Z1++Z9 p y::Z2) f (by omega) (by omega) j1 h3;refine ⟨L',?_,q2,q3⟩;have hmi:=QnS rco rpl Z1 Z2 (Z9 p y) (by rw[←k1];omega)
    rw[←k1] at hmi
    have hmi':=hmi
    rw[List.length_map,List.length_map] at hmi'
    have k2':iter (Zi (L.map rpl) (L.map rco) y (YF p y.Tours)) F ((L.length:Nat):Int)=some ((Z1.length:Nat):Int):=k2
    simp only[iter,YJ,oun,hlt,decide_true,cond_true,m2,Qjc,Option.bind_some,a3,Bool.not_true,cond_false,hb,hlt2,List.length_map,k2']
    have hmi2:_=_:=hmi'
    rw[show rpl (Z9 p y)=y from rfl,show rco (Z9 p y)=YF p y.Tours from rfl] at hmi2
    rw[hmi2]
    simp only[Option.bind_some,e2,QD,q1]
   ·have hms:mvs F p x d v=none:=by unfold mvs;rw[hm];simp only[Option.bind_some];rw[if_neg hlt2]
    obtain ⟨L',q1,q2,q3⟩:=Cx.row_ref hd r (v+1) L f (by omega) (by omega) h1 (keep hms);refine ⟨L',?_,q2,q3⟩
    simp only[iter,YJ,oun,hlt,decide_true,cond_true,m2,Qjc,Option.bind_some,a3,Bool.not_true,cond_false,hb,hlt2,decide_false,Bool.not_false,e2,QD,q1]
theorem Cx.all_ref: ∀(r d:Nat) (L:List Ra) (f:Nat),d+r=p.Demands.length→r<f→Srt ZN L→Yz ZN (Qah F p x d) L →
  ∃L',iter (Zj F p x (YF p x.Tours)) f (L.map rpl,L.map rco,(d:Int))=some (L'.map rpl)∧Srt ZN L'∧Yz ZN (Qah F p x p.Demands.length) L'
 | _,_,_,0,_,hf,_,_=>by omega
 | 0,d,L,f+1,hd,_,h1,h2=>by
  have hd:d=p.Demands.length:=by omega
  subst hd;refine ⟨L,?_,h1,h2⟩
  simp only[iter,Zj,oun,Int.lt_irrefl,decide_false,cond_false,Option.bind_some,QD]
 | r+1,d,L,f+1,hd,hf,h1,h2=>by
  have hdd:d<p.Demands.length:=by omega
  have hdl:=h.fe.ok.dl;have hlt:((d:Int)<((p.Demands.length:Nat):Int)):=by omega
  have e2:w64 ((d:Int)+1)=((d+1:Nat):Int):=by rw[Yc (by omega) (by omega)];omega
  obtain ⟨M,q1,q2,q3⟩:=h.row_ref hdd p.Vehicles.length 0 L (((p.Vehicles.length:Nat):Int).toNat+1) (by omega) (by simp) h1 (by simpa [QcA] using h2);obtain ⟨L',g1,g2,g3⟩:=Cx.all_ref r (d+1) M f (by omega) (by omega) q2 q3;refine ⟨L',?_,g2,g3⟩;have q1':iter (YJ F p x (YF p x.Tours) d) (((p.Vehicles.length:Nat):Int).toNat+1) (L.map rpl,L.map rco,0)=some (M.map rpl,M.map rco):=q1;have hb:Zj F p x (YF p x.Tours) (L.map rpl,L.map rco,(d:Int))=some (.inl (M.map rpl,M.map rco,((d+1:Nat):Int))):=by
   unfold Zj
   simp only[oun,hlt,decide_true,cond_true]
   rw[q1']
   simp only[Option.bind_some,e2]
  simp only[iter,hb,Option.bind_some,QD,g1]
theorem Cx.both: ∃L,Y0 F p x=some (L.map rpl,0)∧W8 F p x=some (L.map rpl,0)∧Srt ZN L∧Yz ZN (Qah F p x p.Demands.length) L:=by
 obtain ⟨L,h1,h2,h3⟩:=h.pro;obtain ⟨L',g1,g2,g3⟩:=h.all_ref p.Demands.length 0 [] (((p.Demands.length:Nat):Int).toNat+1) (by omega) (by simp) List.Pairwise.nil (Yz.refl _);have:L=L':=Srt.unique h2 g2 (h3.symm.trans g3);subst this;refine ⟨L,h1,?_,h2,h3⟩;unfold W8
 rw[h.total.2.1,h.total.2.2]
 simp only[Option.bind_some,oun,decide_true,Bool.not_true,cond_false]
 have g1':iter (Zj F p x (YF p x.Tours)) (((p.Demands.length:Nat):Int).toNat+1) ([],[],0)=some (L.map rpl):=g1
 rw[g1']
 rfl
end
theorem Qli {F:Nat} (hF:40000≤F) {p:Pr} (hn:p.Road.Edges.length≤600) (hv:p.Vehicles.length≤30) (x:Pl) (hx:x.Tours.length≤30) (hl:x.Left.length≤100) :
  ∃L e s,Y0 F p x=some (L.map rpl,e)∧W8 F p x=some (L.map rpl,e)∧YT F p x=some (s,e)∧QN p x=some e∧((e≠0∧L=[])∨(e=0∧s=YF p x.Tours∧Cx F p x∧Srt ZN L∧Yz ZN (Qah F p x p.Demands.length) L)):=by
 obtain ⟨s,e,a1,a2,a3,a4⟩:=QcV hF hn x hx hl
 by_cases he:e=0
 ·obtain ⟨b1,b2⟩:=a4 he;subst he;have hc:Cx F p x:=⟨hF,hn,hv,b2,hx,hl⟩
  obtain ⟨L,h1,h2,h3,h4⟩:=hc.both;exact ⟨L,0,s,h1,h2,a1,a2,.inr ⟨rfl,b1,hc,h3,h4⟩⟩
 ·refine ⟨[],e,s,?_,?_,a1,a2,.inl ⟨he,rfl⟩⟩
  ·unfold Y0 JO
   rw[a1]
   simp[he,oun]
  ·unfold W8
   rw[a2]
   simp[he]
end Go.Proofs.YthpgjbbjpfiniaaGreat
namespace Go.Proofs.YthpgjbbjpfiniaaGreat
open Go.RowKit
set_option linter.unusedSimpArgs false
set_option linter.unusedVariables false
theorem Cx.next {F:Nat} {p:Pr} {x:Pl} (h:Cx F p x) {z:Ra} (hz:z∈Qah F p x p.Demands.length):Cx F p z.plan∧z=Z9 p z.plan∧ZN z<ZN (Z9 p x):=by
 obtain ⟨h1,h2⟩:=h.all_ok hz;have h3:=h1.tl;have h4:=h1.ll;have h5:=h.hv;have h6:=h.fe.ok.dl;exact ⟨⟨h.hF,h.hn,h.hv,h1.fe,by omega,by omega⟩,h1.eq,h2⟩
theorem Qn4 {F:Nat} (hF:40000≤F) {p:Pr} (hn:p.Road.Edges.length≤600) (hv:p.Vehicles.length≤30) (hp:OkP p) (hc:Ql p=some 0):Cx F p (QbE F p):=by
 have h1:=Qn5 hF hn hv hp hc;have hi:=Qet hF hp hn p.Demands.length;have hl1:=Qew (Qci F p p.Demands.length).1;have hl2:=hi.len;have hl3:=hi.ll;have hdl:=hp.dl;have ht:(QbE F p).Tours.length≤30:=by show (Qa2 (Qci F p p.Demands.length).1).length≤30;omega
 have hl:(QbE F p).Left.length≤100:=by show ((Qci F p p.Demands.length).2).length≤100;omega
 obtain ⟨s,e,a1,_,_,a4⟩:=QcV hF hn (QbE F p) ht hl
 rw[h1] at a1
 injection a1 with a1
 injection a1 with a2 a3
 exact ⟨hF,hn,hv,(a4 a3.symm).2,ht,hl⟩
theorem QdF (x:Pl) (h1:x.Tours.length≤1000000) (h2: ∀t∈x.Tours,t.Stops.length≤1000000) (h3:x.Left.length≤1000000):Yt x x=some true:=by
 unfold Yt
 rw[QkV _ h1 h2,Qip _ h3]
 rfl
theorem Cx.same {F:Nat} {p:Pr} {x:Pl} (h:Cx F p x):Yt x x=some true:=by
 have h1:=h.tl;have h2:=h.ll;exact QdF x (by omega) (fun t ht=>by have:=(h.fe.tour ht).2.2.1;omega) (by omega)
theorem Qi2 (p:Pr) (x:Pl):(∃b,YQ p x=some b)∧(YQ p x=some false→p.Road.Edges.length≤100∧p.Vehicles.length≤4∧p.Demands.length≤8∧x.Tours.length≤8∧x.Left.length≤100):=by
 obtain ⟨⟨b,hb⟩,hl⟩:=QkP p;obtain ⟨⟨b2,hb2⟩,hl2⟩:=QgX x;unfold YQ
 rw[hb,hb2]
 cases b with
 | true=>exact ⟨⟨true,rfl⟩,fun e=>by cases e⟩
 | false =>
  cases b2 with
  | true=>exact ⟨⟨true,rfl⟩,fun e=>by cases e⟩
  | false =>
   obtain ⟨g2,g3⟩:=hl2 hb2
   simp only[Option.bind_some,cond_false]
   by_cases h1:(100:Int)<((p.Road.Edges.length:Nat):Int)
   ·simp only[h1,decide_true,cond_true,Option.bind_some]
    exact ⟨⟨true,rfl⟩,fun e=>by cases e⟩
   by_cases h2:(4:Int)<((p.Vehicles.length:Nat):Int)
   ·simp only[h1,h2,decide_true,decide_false,cond_true,cond_false,Option.bind_some]
    exact ⟨⟨true,rfl⟩,fun e=>by cases e⟩
   by_cases h3:(8:Int)<((p.Demands.length:Nat):Int)
   ·simp only[h1,h2,h3,decide_true,decide_false,cond_true,cond_false,Option.bind_some]
    exact ⟨⟨true,rfl⟩,fun e=>by cases e⟩
   by_cases h4:(8:Int)<((x.Tours.length:Nat):Int)
   ·simp only[h1,h2,h3,h4,decide_true,decide_false,cond_true,cond_false,Option.bind_some]
    exact ⟨⟨true,rfl⟩,fun e=>by cases e⟩
   simp only[h1,h2,h3,h4,decide_false,cond_false,Option.bind_some]
   obtain ⟨o,ho⟩:=Qbd (body:=Z0 x) (N:=x.Tours.length) (by omega) (fun k hk=>by
    obtain ⟨t,ht⟩: ∃t,x.Tours[k]? =some t:=⟨_,List.getElem?_eq_getElem hk⟩
    have hk2:((k:Int)<((x.Tours.length:Nat):Int)):=by omega
    simp only[Z0,hk2,decide_true,cond_true,Qq,ht,Option.bind_some,J6 (show k<9223372036854775807 by omega)]
    cases decide ((16:Int)<((t.Stops.length:Nat):Int)) with
    | true=>exact .inl ⟨_,rfl⟩
    | false=>exact .inr rfl) ⟨_,by simp[Z0];rfl⟩ x.Tours.length 0 (by omega)
   refine ⟨?_,fun _=>by omega⟩
   rw[show (((x.Tours.length:Nat):Int).toNat+1)=x.Tours.length+1 by simp,show (0:Int)=((0:Nat):Int) from rfl,ho]
   cases o with
   | inl u=>exact ⟨false,rfl⟩
   | inr b=>exact ⟨b,rfl⟩
structure Lt (p:Pr) (x:Pl):Prop where
 ed:p.Road.Edges.length≤600
 ve:p.Vehicles.length≤4
 de:p.Demands.length≤8
 to:x.Tours.length≤8
 le:x.Left.length≤100
theorem QoE (p:Pr) (x:Pl):YQ p x=some true∨(YQ p x=some false∧Lt p x):=by
 obtain ⟨⟨b,hb⟩,hl⟩:=Qi2 p x;cases b with
 | true=>exact .inl hb
 | false =>
  obtain ⟨h1,h2,h3,h4,h5⟩:=hl hb;exact .inr ⟨hb,⟨by omega,h2,h3,h4,h5⟩⟩
end Go.Proofs.YthpgjbbjpfiniaaGreat
namespace Go.Proofs.YthpgjbbjpfiniaaGreat
open Go.RowKit
set_option linter.unusedSimpArgs false
set_option linter.unusedVariables false
abbrev Rn:=QI
theorem QhS {body:Int→Option (Int⊕(Unit⊕Bool))} {a b:List Rn} (hl:a.length=b.length) (hn:a.length≤1000000) (hb: ∀k,body k=bif decide (k<((a.length:Nat):Int)) then Option.bind (getI a k) fun x1=>Option.bind (getI b k) fun x2=>bif (!(decide (x1=x2))) then some (.inr (.inr false)) else some (.inl (w64 (k+1))) else some (.inr (.inl ()))): ∀(r k f:Nat),k+r=a.length→r<f→a.take k=b.take k →
  iter body f (k:Int)=some (if a=b then .inl () else .inr false)
 | _,_,0,_,h,_=>by omega
 | 0,k,f+1,hk,_,ht=>by
  have h1: ¬((k:Int)<((a.length:Nat):Int)):=by omega
  have:a=b:=by
   have h2:a.take k=a:=List.take_of_length_le (by omega);have h3:b.take k=b:=List.take_of_length_le (by omega)
   rw[h2,h3] at ht;exact ht
  simp only[iter,hb,h1,decide_false,cond_false,Option.bind_some,QD]
  rw[if_pos this]
 | r+1,k,f+1,hk,hf,ht=>by
  have h1:((k:Int)<((a.length:Nat):Int)):=by omega
  have ga:a[k]? =some a[k]:=List.getElem?_eq_getElem (by omega);have gb:b[k]? =some b[k]:=List.getElem?_eq_getElem (by omega);have e1:w64 ((k:Int)+1)=((k+1:Nat):Int):=by rw[Yc (by omega) (by omega)];omega
  by_cases h:a[k]=b[k]
  ·have ih:=QhS hl hn hb r (k+1) f (by omega) (by omega) (by rw[Yw ga,Yw gb,ht,h])
   simp only[iter]
   rw[hb]
   simp only[h1,decide_true,cond_true,Qq,ga,gb,Option.bind_some,h,Bool.not_true,cond_false,QD,e1]
   exact ih
  ·have:a≠b:=by intro e;subst e;exact h rfl
   simp only[iter]
   rw[hb]
   simp only[h1,decide_true,cond_true,Qq,ga,gb,Option.bind_some,h,decide_false,Bool.not_false,cond_true,QD]
   rw[if_neg this]
theorem Qoj {a b:List Rn} (hn:a.length≤1000000):Ye a b=some (decide (a=b))∧QbG a b=some (decide (a=b)):=by
 unfold Ye QbG
 by_cases hl:a.length=b.length
 ·have h1:=QhS (body:=JV a b) hl hn (fun k=>rfl) a.length 0 (((a.length:Nat):Int).toNat+1) (by omega) (by simp) (by simp);have h2:=QhS (body:=Qa0 a b) hl hn (fun k=>rfl) a.length 0 (((a.length:Nat):Int).toNat+1) (by omega) (by simp) (by simp);have hl':(((a.length:Nat):Int)=((b.length:Nat):Int)):=by omega
  simp only[hl',decide_true,Bool.not_true,cond_false]
  rw[←hl',show (0:Int)=((0:Nat):Int) from rfl,h1,h2]
  by_cases h:a=b
  ·simp[h,QD]
  ·simp[h,QD]
 ·have hl': ¬(((a.length:Nat):Int)=((b.length:Nat):Int)):=by omega
  have:a≠b:=by intro e;subst e;exact hl rfl
  simp[hl',this]
def Qgv (p:Pr) (d v:Nat):Int:=(Qc5 p ⟨(v:Int),[(d:Int),-1]⟩).2.1
structure Rs (F:Nat) (p:Pr) (x:Pl) (d v:Nat) (r:Int) (ve:Ve) (de:De) (car:Bool) (L:List Op):Prop where
 hv:p.Vehicles[v]? =some ve
 hd:p.Demands[d]? =some de
 hc:ZP ve de.Kind=some car
 ops:Jd F p (ofP x v) d=some (L.map Z8,0)
 bst: ∃e,VX F p (ofP x v) d=some (hdT L,e)∧(e=0↔L≠[])
 hdO:bsO F p x d v=L.head?
 cb:car=Qg7 ve de.Kind
 eq:r=bif !car then 21 else bif decide (ve.Grams<de.Grams) then 20 else bif !(decide (Qgv p d v=0)) then Qgv p d v else bif decide ((((L.map Z8).length:Nat):Int)=0) then 40 else 0
section
variable {F:Nat} {p:Pr} {x:Pl} (h:Cx F p x)
include h
theorem Cx.not_in {d:Nat} (hd:(d:Int)∈x.Left) (v:Int):(d:Int)∉(ofP x v).Stops:=by
 have h1:=h.fe.lft _ hd;have h2:=h.fe.one d (by omega);have h3:0<cn x.Left d:=List.count_pos_iff.2 hd;rcases QgT x v with ⟨h4,_⟩ | h4
 ·have h5:=Qpi h4 d;intro hm;have h6:0<cn (ofP x v).Stops d:=List.count_pos_iff.2 hm
  omega
 ·rw[h4];simp
theorem Cx.tO_self {d:Nat} (hd:(d:Int)∈x.Left) (v:Int):tO x (d:Int) v=ofP x v:=by
 unfold tO
 rw[QfM (fun y hy=>by
  simp only[decide_eq_false_iff_not]
  intro e
  rw[e] at hy
  exact h.not_in hd v hy)]
 have:=Qmh x v;cases hq:ofP x v with
 | mk a b=>rw[hq] at this;simp only at this ⊢;rw[this]
theorem Cx.reason {d v:Nat} (hd:(d:Int)∈x.Left) (hv:v<p.Vehicles.length): ∃r ve de car L,Yl F p x d v=some r∧WQ F p x d v=some r∧Rs F p x d v r ve de car L:=by
 have hF:=h.hF;have htl:=h.tl;have hdd:=h.fe.lft _ hd;have hdl:d<p.Demands.length:=by omega
 have g1:p.Vehicles[v]? =some p.Vehicles[v]:=List.getElem?_eq_getElem hv;have g2:p.Demands[d]? =some p.Demands[d]:=List.getElem?_eq_getElem hdl;have hvk:=h.fe.ok.ve _ (List.mem_of_getElem? g1);have hdk:=h.fe.ok.de _ (List.mem_of_getElem? g2);obtain ⟨c1,c2⟩:=QeK hvk hdk.k0 hdk.k1;have hs:(ofP x (v:Int)).Stops.length≤1000:=by have:=h.fe.of_len v;omega
 obtain ⟨L,e,o1,o2,o3,o4⟩:=QaV hF p h.hn (ofP x v) hs d;have hbad:Qi6 p (ofP x v) d=false:=by
  unfold Qi6
  rw[Qmh]
  simp;omega
 have he:=o4 h.fe.chk hbad
 rw[show decide ((d:Int)∈(ofP x (v:Int)).Stops)=false from decide_eq_false (h.not_in hd v)] at he
 have he:e=0:=he;subst he;obtain ⟨b1,b2⟩:=QgZ hF p h.hn (ofP x v) hs d;obtain ⟨e',k1,k2,_⟩:=Qi1 o2 o3;have hbs:bsO F p x d v=L.head? :=by
  unfold bsO VR
  rw[h.tO_self hd,o1]
  cases L<;>rfl
 refine ⟨_,p.Vehicles[v],p.Demands[d],Qg7 p.Vehicles[v] p.Demands[d].Kind,L,?_,?_,⟨g1,g2,c1,by rw[b1,o2],⟨e',by rw[b2,k1],k2⟩,hbs,rfl,rfl⟩⟩
 ·unfold Yl
  rw[Qq,Qq,g1,g2]
  simp only[Option.bind_some,c1]
  rw[QlX hF h.fe.ok h.fe.chk h.hn,(QgY (x:=x) (v:Int) (by omega)).1]
  simp only[Option.bind_some,oun,b1,o2]
  cases Qg7 p.Vehicles[v] p.Demands[d].Kind with
  | false=>rfl
  | true =>
   simp only[Bool.not_true,cond_false]
   cases decide (p.Vehicles[v].Grams<p.Demands[d].Grams) with
   | true=>rfl
   | false =>
    simp only[cond_false]
    show (bif !(decide (Qgv p d v=0)) then some (Qgv p d v) else _)=_
    cases decide (Qgv p d v=0) with
    | false=>rfl
    | true =>
     simp only[Bool.not_true,cond_false,decide_true]
     cases decide ((((L.map Z8).length:Nat):Int)=0)<;>rfl
 ·unfold WQ
  rw[Qq,Qq,g1,g2]
  simp only[Option.bind_some,c2]
  rw[QhP h.fe.ok h.fe.chk,(QgY (x:=x) (v:Int) (by omega)).2]
  simp only[Option.bind_some,oun,o2]
  cases Qg7 p.Vehicles[v] p.Demands[d].Kind with
  | false=>rfl
  | true =>
   simp only[Bool.not_true,cond_false]
   cases decide (p.Vehicles[v].Grams<p.Demands[d].Grams) with
   | true=>rfl
   | false =>
    simp only[cond_false]
    show (bif !(decide (Qgv p d v=0)) then some (Qgv p d v) else _)=_
    cases decide (Qgv p d v=0) with
    | false=>rfl
    | true =>
     simp only[Bool.not_true,cond_false]
     cases decide ((((L.map Z8).length:Nat):Int)=0)<;>rfl
def rsn (F:Nat) (p:Pr) (x:Pl) (d v:Nat):Int:=(Yl F p x d v).getD 0
theorem Cx.rsn_at {d v:Nat} (hd:(d:Int)∈x.Left) (hv:v<p.Vehicles.length):Yl F p x d v=some (rsn F p x d v)∧WQ F p x d v=some (rsn F p x d v)∧ ∃ve de car L,Rs F p x d v (rsn F p x d v) ve de car L:=by
 obtain ⟨r,ve,de,car,L,h1,h2,h3⟩:=h.reason hd hv;have:rsn F p x d v=r:=by unfold rsn;rw[h1];rfl
 rw[this]
 exact ⟨h1,h2,ve,de,car,L,h3⟩
end
def rsL (F:Nat) (p:Pr) (x:Pl) (d:Nat) (n:Nat):List Rn:=(List.range n).map fun v:Nat=>⟨(v:Int),rsn F p x d v⟩
theorem Qml (F:Nat) (p:Pr) (x:Pl) (d n:Nat):(rsL F p x d n).length=n:=by simp[rsL]
theorem Qok (F:Nat) (p:Pr) (x:Pl) (d n:Nat):rsL F p x d (n+1)=rsL F p x d n++[⟨(n:Int),rsn F p x d n⟩]:=by simp[rsL,List.range_succ]
theorem QkL {F:Nat} {p:Pr} {x:Pl} {d:Nat} {body:List Rn×Int→Option ((List Rn×Int)⊕List Rn)} {rf:Int→Option Int} (hV:p.Vehicles.length≤1000) (hb: ∀q:List Rn×Int,body q=bif decide (q.2<((p.Vehicles.length:Nat):Int)) then Option.bind (rf q.2) fun r3=>Option.bind (ZH q.1 [⟨q.2,r3⟩]) fun l1=>some (.inl (l1,w64 (q.2+1))) else some (.inr q.1))
  (hr: ∀v:Nat,v<p.Vehicles.length→rf v=some (rsn F p x d v)):iter body (((p.Vehicles.length:Nat):Int).toNat+1) ([],0)=some (rsL F p x d p.Vehicles.length):=by
 have:=YG (body:=body) p.Vehicles (fun k=>rsL F p x d k) (fun m k=>(m,k)) (fun _ _=>none) (rsL F p x d p.Vehicles.length) (by omega) (fun k y hk _=> ?_) (fun _=>by rw[hb];simp) (((p.Vehicles.length:Nat):Int).toNat+1) (by simp)
 ·rw[QP _ _ (fun _ _ _=>rfl)] at this
  exact this
 ·have h0:=Qr hk;have h1:((k:Int)<((p.Vehicles.length:Nat):Int)):=by omega
  have h2:=Qml F p x d k
  rw[hb]
  simp only[h1,decide_true,cond_true,hr k h0,Option.bind_some]
  rw[Yh (by simp;omega),Qok]
  rfl
theorem Qpb {F:Nat} (hF:40000≤F) {p:Pr} (hn:p.Road.Edges.length≤600) (hv:p.Vehicles.length≤30) (x:Pl) (hx:x.Tours.length≤30) (hl:x.Left.length≤100) (d:Int) :
  ∃R e,Wr F p x d=some (R,e)∧Qb9 F p x d=some (R,e)∧R.length≤30∧((e≠0∧R=[])∨(e=0∧Cx F p x∧ ∃n:Nat,d=(n:Int)∧d∈x.Left∧n<p.Demands.length∧R=rsL F p x n p.Vehicles.length))∧(d∈x.Left→WJ F p x=some 0→e=0):=by
 obtain ⟨s,e,a1,a2,a3,a4⟩:=QcV hF hn x hx hl;have hfe:WJ F p x=some e:=by unfold WJ;rw[a1];rfl
 unfold Wr Qb9
 rw[hfe,a2]
 by_cases he:e=0
 ·have hc:Cx F p x:=⟨hF,hn,hv,(a4 he).2,hx,hl⟩
  subst he
  simp only[Option.bind_some,decide_true,Bool.not_true,cond_false]
  by_cases h1:d<0
  ·simp only[h1,decide_true,cond_true,Option.bind_some]
   exact ⟨[],7,rfl,rfl,by simp,.inl ⟨by decide,rfl⟩,fun hm _=>by have:=hc.fe.lft _ hm;omega⟩
  by_cases h2:((p.Demands.length:Nat):Int)≤d
  ·simp only[h1,h2,decide_true,decide_false,cond_true,cond_false,Option.bind_some]
   exact ⟨[],7,rfl,rfl,by simp,.inl ⟨by decide,rfl⟩,fun hm _=>by have:=hc.fe.lft _ hm;omega⟩
  simp only[h1,h2,decide_false,cond_false,Option.bind_some]
  rw[QnG d (by omega),Qcl _ (by omega)]
  simp only[Option.bind_some]
  by_cases h3:d∈x.Left
  ·obtain ⟨n,rfl⟩: ∃n:Nat,d=(n:Int):=⟨d.toNat,by omega⟩
   simp only[h3,decide_true,Bool.not_true,cond_false]
   have q1:=QkL (F:=F) (p:=p) (x:=x) (d:=n) (body:=Qbz F p x n) (rf:=Yl F p x n) (by omega) (fun q=>rfl) (fun v hv=>(hc.rsn_at h3 hv).1);have q2:=QkL (F:=F) (p:=p) (x:=x) (d:=n) (body:=Qba F p x n) (rf:=WQ F p x n) (by omega) (fun q=>rfl) (fun v hv=>(hc.rsn_at h3 hv).2.1)
   rw[q1,q2]
   exact ⟨_,0,rfl,rfl,by rw[Qml];exact hv,.inr ⟨rfl,hc,n,rfl,by first | exact h3 | trivial,by omega,rfl⟩,fun _ _=>rfl⟩
  ·simp only[h3,decide_false,Bool.not_false,cond_true]
   exact ⟨[],13,rfl,rfl,by simp,.inl ⟨by decide,rfl⟩,fun hm _=>by first | exact absurd hm h3 | exact hm.elim⟩
 ·simp only[Option.bind_some,he,decide_false,Bool.not_false,cond_true]
  exact ⟨[],e,rfl,rfl,by simp,.inl ⟨he,rfl⟩,fun _ h=>by first | (injection h;done) | (injection h with h;exact h)⟩
end Go.Proofs.YthpgjbbjpfiniaaGreat
namespace Go.Proofs.YthpgjbbjpfiniaaGreat
open Go.RowKit
set_option linter.unusedSimpArgs false
set_option linter.unusedVariables false
def exD:Pr:=⟨⟨2,[⟨0,1,500,60⟩,⟨1,0,500,60⟩]⟩,[⟨⟨#[118]⟩,0,⟨1000,2000⟩,1000,1⟩],[⟨0,1,0,300,⟨1100,1200⟩,30⟩],0,20⟩
def exE:Pr:=⟨⟨2,[⟨0,1,500,60⟩,⟨1,0,500,60⟩]⟩,[⟨⟨#[118]⟩,0,⟨1000,2000⟩,299,1⟩],[⟨0,1,0,300,⟨1100,1200⟩,30⟩],0,20⟩
theorem Qic:Ql exD=some 0:=by decide +kernel
theorem Qnr:Ql exE=some 0:=by decide +kernel
theorem Qll:OkP exD:=OkP.of (by decide) Qic
theorem QpZ:OkP exE:=OkP.of (by decide) Qnr
theorem Qfj {p:Pr} (hp:OkP p) (hc:Ql p=some 0) {t:Qa} {c:Int×Int} (h:YE p t=some c):Yx p t=c:=by
 rw[Qea hp hc t] at h
 injection h
theorem QjX:Yx exD ⟨0,[0,-1]⟩=(1000,0):=Qfj Qll Qic (by decide +kernel)
theorem Qnu:Yx exD ⟨0,[0,-1,-1]⟩=(1000,0):=Qfj Qll Qic (by decide +kernel)
theorem Qnv:Yx exD ⟨0,[-1,0,-1]⟩=(1000,0):=Qfj Qll Qic (by decide +kernel)
theorem QqE:Yx exE ⟨0,[0,-1]⟩=(0,20):=Qfj QpZ Qnr (by decide +kernel)
theorem Qhh {F:Nat} (hF:40000≤F):QO F exD ⟨0,[]⟩ 0=some ([⟨⟨0,[0,-1]⟩,1000⟩],0):=by
 obtain ⟨L,h1,h2⟩:=Qd4 hF (p:=exD) (by decide) (t:=⟨0,[]⟩) (by decide) (d:=0) Qic (by decide) (by decide);have hf:QbK exD ((Qa6 [] 0).map (toT 0))=[⟨⟨0,[0,-1]⟩,1000⟩]:=by
  rw[show Qa6 [] 0=[[0,-1]] by decide]
  simp[QbK,Qf4,toT,QjX]
 have h3:=h2.stab
 simp only at h3
 rw[hf] at h3
 have:=h3.perm.symm.eq_singleton
 rw[this] at h1
 exact h1
theorem Qj4 {F:Nat} (hF:40000≤F):QO F exE ⟨0,[]⟩ 0=some ([],0):=by
 obtain ⟨L,h1,h2⟩:=Qd4 hF (p:=exE) (by decide) (t:=⟨0,[]⟩) (by decide) (d:=0) Qnr (by decide) (by decide);have hf:QbK exE ((Qa6 [] 0).map (toT 0))=[]:=by
  rw[show Qa6 [] 0=[[0,-1]] by decide]
  simp[QbK,Qf4,toT,QqE]
 have h3:=h2.stab
 simp only at h3
 rw[hf] at h3
 have:=h3.perm.symm.eq_nil
 rw[this] at h1
 exact h1
theorem QmF {F:Nat} (hF:40000≤F): ∃L,QO F exD ⟨0,[-1]⟩ 0=some (L,0)∧ ∀y∈L,y.tour=⟨0,[0,-1]⟩∨y.tour=⟨0,[0,-1,-1]⟩∨y.tour=⟨0,[-1,0,-1]⟩:=by
 obtain ⟨L,h1,h2⟩:=Qd4 hF (p:=exD) (by decide) (t:=⟨0,[-1]⟩) (by decide) (d:=0) Qic (by decide) (by decide);refine ⟨L,h1,fun y hy=> ?_⟩;have hf:QbK exD ((Qa6 [-1] 0).map (toT 0))=[⟨⟨0,[0,-1]⟩,1000⟩,⟨⟨0,[0,-1,-1]⟩,1000⟩,⟨⟨0,[-1,0,-1]⟩,1000⟩]:=by
  rw[show Qa6 [-1] 0=[[0,-1],[0,-1,-1],[-1,0,-1]] by decide]
  simp[QbK,Qf4,toT,QjX,Qnu,Qnv]
 have h3:=h2.stab
 simp only at h3
 rw[hf] at h3
 have h4:=h3.perm.symm.subset hy
 simp only[List.mem_cons,List.not_mem_nil,or_false] at h4
 rcases h4 with rfl | rfl | rfl
 ·exact .inl rfl
 ·exact .inr (.inl rfl)
 ·exact .inr (.inr rfl)
def pD:Pl:=⟨[⟨0,[0,-1]⟩],[]⟩
def p0:Pl:=⟨[],[0]⟩
theorem QoY {F:Nat} (hF:40000≤F):QbE F exD=pD:=by
 have h1:VR F exD ((0:Nat):Int) ⟨⟨0,[]⟩,0⟩=some ⟨⟨0,[0,-1]⟩,1000⟩:=by
  unfold VR
  rw[show QO F exD (Qc.mk ⟨0,[]⟩ 0).tour ((0:Nat):Int)=QO F exD ⟨0,[]⟩ 0 from rfl,Qhh hF]
 have h2:Qci F exD 1=QdB (VR F exD ((0:Nat):Int)) ((0:Nat):Int) ([⟨⟨0,[]⟩,0⟩],[]):=rfl;have h3:Qci F exD 1=([⟨⟨0,[0,-1]⟩,1000⟩],[]):=by
  rw[h2]
  unfold QdB
  simp only[VE,h1]
  rfl
 unfold QbE
 rw[show exD.Demands.length=1 from rfl,h3]
 rfl
theorem QoZ {F:Nat} (hF:40000≤F):QbE F exE=p0:=by
 have h1:VR F exE ((0:Nat):Int) ⟨⟨0,[]⟩,0⟩=none:=by
  unfold VR
  rw[show QO F exE (Qc.mk ⟨0,[]⟩ 0).tour ((0:Nat):Int)=QO F exE ⟨0,[]⟩ 0 from rfl,Qj4 hF]
 have h2:Qci F exE 1=QdB (VR F exE ((0:Nat):Int)) ((0:Nat):Int) ([⟨⟨0,[]⟩,0⟩],[]):=rfl;have h3:Qci F exE 1=([⟨⟨0,[]⟩,0⟩],[0]):=by
  rw[h2]
  unfold QdB
  simp only[VE,h1]
  rfl
 unfold QbE
 rw[show exE.Demands.length=1 from rfl,h3]
 rfl
theorem Qpg:ZN (Z9 exD pD)=1000:=by
 unfold ZN Z9 pD YF Qan
 simp[QjX]
theorem QqI (p:Pr):ZN (Z9 p p0)=1000000000000:=by
 unfold ZN Z9 p0 YF Qan
 simp
theorem QqB {F:Nat} (hF:40000≤F):Qah F exD pD 1=[]:=by
 have hm:mvs F exD pD 0 0=none:=by
  obtain ⟨L,h1,h2⟩:=QmF hF;have hb:bsO F exD pD ((0:Nat):Int) ((0:Nat):Int)=L.head? :=by
   unfold bsO VR
   rw[show QO F exD (Qc.mk (tO pD ((0:Nat):Int) ((0:Nat):Int)) 0).tour ((0:Nat):Int)=QO F exD ⟨0,[-1]⟩ 0 from rfl,h1]
   cases L<;>rfl
  unfold mvs mvR
  rw[hb]
  cases L with
  | nil=>rfl
  | cons y M =>
   have c1:=h2 y List.mem_cons_self;have e1: ∀b:To,Qbb b=true→Qdz exD pD ((0:Nat):Int) ((0:Nat):Int) b=⟨[b],[]⟩:=fun b hb=>by
    unfold Qdz
    rw[show (List.range exD.Vehicles.length).map (stB pD ((0:Nat):Int) ((0:Nat):Int) b)=[b] from rfl]
    simp only[List.filter_cons,hb,if_true]
    rfl
   have e2:Qbb y.tour=true∧(Yx exD y.tour).1=1000:=by
    rcases c1 with c | c | c
    ·rw[c,QjX];exact ⟨rfl,rfl⟩
    ·rw[c,Qnu];exact ⟨rfl,rfl⟩
    ·rw[c,Qnv];exact ⟨rfl,rfl⟩
   simp only[List.head?_cons,Option.map_some,Option.bind_some]
   rw[if_neg]
   rw[Qpg,e1 _ e2.1]
   unfold ZN Z9 YF Qan
   simp[e2.2]
 show Qah F exD pD 0++QcA F exD pD 0 1=[]
 show []++([]++(mvs F exD pD 0 0).toList)=[]
 rw[hm];rfl
theorem QqS {p:Pr} (hp:OkP p) (hc:Ql p=some 0) (hd:p.Demands.length=1):Fe p p0 where
 ok:=hp
 chk:=hc
 drv:=fun t ht=>by cases ht
 dis:=List.Pairwise.nil
 lft:=fun e he=>by
  have:e=0:=by simpa [p0] using he
  omega
 one:=fun d hd2=>by
  obtain rfl:d=0:=by omega
  rfl
theorem QqF {F:Nat} (hF:40000≤F) {p:Pr} (hp:OkP p) (hc:Ql p=some 0) (hd:p.Demands.length=1) (hn:p.Road.Edges.length≤600) (hv:p.Vehicles.length≤30):Cx F p p0 :=
 ⟨hF,hn,hv,QqS hp hc hd,by decide,by decide⟩
theorem QqA {F:Nat} (hF:40000≤F):Qah F exD p0 1=[Z9 exD pD]:=by
 have hb:bsO F exD p0 ((0:Nat):Int) ((0:Nat):Int)=some ⟨⟨0,[0,-1]⟩,1000⟩:=by
  unfold bsO VR
  rw[show QO F exD (Qc.mk (tO p0 ((0:Nat):Int) ((0:Nat):Int)) 0).tour ((0:Nat):Int)=QO F exD ⟨0,[]⟩ 0 from rfl,Qhh hF]
 have hm:mvs F exD p0 0 0=some (Z9 exD pD):=by
  unfold mvs mvR
  rw[hb]
  simp only[Option.map_some,Option.bind_some]
  rw[show Qdz exD p0 ((0:Nat):Int) ((0:Nat):Int) ⟨0,[0,-1]⟩=pD from rfl,Qpg,QqI,if_pos (by decide)]
 show []++([]++(mvs F exD p0 0 0).toList)=_
 rw[hm];rfl
theorem QqC {F:Nat} (hF:40000≤F):Qah F exE p0 1=[]:=by
 have hb:bsO F exE p0 ((0:Nat):Int) ((0:Nat):Int)=none:=by
  unfold bsO VR
  rw[show QO F exE (Qc.mk (tO p0 ((0:Nat):Int) ((0:Nat):Int)) 0).tour ((0:Nat):Int)=QO F exE ⟨0,[]⟩ 0 from rfl,Qj4 hF]
 have hm:mvs F exE p0 0 0=none:=by
  unfold mvs mvR
  rw[hb];rfl
 show []++([]++(mvs F exE p0 0 0).toList)=_
 rw[hm];rfl
theorem Qlo {F:Nat} {p:Pr} {x:Pl} (h:Cx F p x) (ha:Qah F p x p.Demands.length=[]):iter (Vk F p) F (x.Tours,x.Left)=some (x,0):=by
 have hF:=h.hF;obtain ⟨L,h1,_,_,h4⟩:=h.both
 rw[ha] at h4
 have hL:L=[]:=h4.perm.symm.eq_nil;subst hL;have h1':Y0 F p (Qg.mk x.Tours x.Left)=some ([],0):=h1;obtain ⟨f,hf⟩: ∃f,F=f+1:=⟨F-1,by omega⟩
 have key: ∀n,iter (Vk F p) (n+1) (x.Tours,x.Left)=some (x,0):=fun n=>by
  simp only[iter,Vk,oun,h1',Option.bind_some,decide_true,Bool.not_true,cond_false,List.length_nil]
  rfl
 have:=key f
 rw[←hf] at this
 exact this
theorem Qn3 {F:Nat} (hF:40000≤F) {p:Pr} {x:Pl} (hn:p.Road.Edges.length≤600) (hv:p.Vehicles.length≤30) (hp:OkP p) (hc:Ql p=some 0) (hx:QbE F p=x) (ha:Qah F p x p.Demands.length=[]):Wy F p=some (x,0):=by
 obtain ⟨e,h1,h2⟩:=Qk0 hF p hn (by omega) (by have:=hp.dl;omega)
 rw[hc] at h1
 injection h1 with h1
 subst h1;rcases h2 with ⟨h2,_⟩ | ⟨_,_,h4,_⟩
 ·exact absurd rfl h2
 ·subst hx;unfold Wy
  rw[h4]
  simp only[Option.bind_some,oun,decide_true,Bool.not_true,cond_false]
  rw[Qlo (Qn4 hF hn hv hp hc) ha]
  rfl
theorem Qpk {F:Nat} (hF:40000≤F) {p:Pr} (hp:OkP p) (hc:Ql p=some 0) (hd:p.Demands.length=1) (hn:p.Road.Edges.length≤600) (hv:p.Vehicles.length=1) {c:Int} (hr:Yl F p p0 0 0=some c):Wr F p p0 0=some ([⟨0,c⟩],0):=by
 have hcx:=QqF hF hp hc hd hn (by omega);obtain ⟨R,e,h1,_,_,h4,h5⟩:=Qpb hF hn (by omega) p0 (by decide) (by decide) 0;have hf:WJ F p p0=some 0:=by
  unfold WJ
  rw[hcx.total.1];rfl
 have he:=h5 (by simp[p0]) hf;subst he;rcases h4 with ⟨h4,_⟩ | ⟨_,_,n,hn2,_,_,hR⟩
 ·exact absurd rfl h4
 ·obtain rfl:n=0:=by omega
  rw[h1,hR,hv]
  have:rsn F p p0 0 0=c:=by
   unfold rsn
   rw[show Yl F p p0 ((0:Nat):Int) ((0:Nat):Int)=Yl F p p0 0 0 from rfl,hr]
   rfl
  show some ([(⟨((0:Nat):Int),rsn F p p0 0 0⟩:Rn)],(0:Int))=_
  rw[this];rfl
theorem Qob {F:Nat} (hF:40000≤F):Yl F exD p0 0 0=some 0:=by
 have hw:Qb1 F exD ⟨0,[0,-1]⟩=some ((Qc5 exD ⟨0,[0,-1]⟩).1,0,(Qc5 exD ⟨0,[0,-1]⟩).2.2):=by
  rw[QlX hF Qll Qic (by decide)]
  have h1:=QjX;unfold Yx at h1;unfold Qc5;cases h:WI exD ⟨0,[0,-1]⟩ with
  | inl z=>rfl
  | inr q=>rw[h] at h1;injection h1 with _ h2;exact absurd h2 (V8 h)
 have ho:Jd F exD ⟨0,[]⟩ 0=some ([⟨0,[0,-1]⟩],0):=QkS (Qhh hF) (by decide);unfold Yl
 rw[show getI exD.Vehicles 0=some ⟨⟨#[118]⟩,0,⟨1000,2000⟩,1000,1⟩ from rfl,show getI exD.Demands 0=some ⟨0,1,0,300,⟨1100,1200⟩,30⟩ from rfl]
 simp only[Option.bind_some]
 rw[show ZP ⟨⟨#[118]⟩,0,⟨1000,2000⟩,1000,1⟩ 0=some true by decide +kernel,hw,(QgY (x:=p0) 0 (by decide)).1,show ofP p0 0=⟨0,[]⟩ from rfl]
 simp only[Option.bind_some,oun,ho]
 rfl
theorem Qoc {F:Nat} (hF:40000≤F):Yl F exE p0 0 0=some 20:=by
 unfold Yl
 rw[show getI exE.Vehicles 0=some ⟨⟨#[118]⟩,0,⟨1000,2000⟩,299,1⟩ from rfl,show getI exE.Demands 0=some ⟨0,1,0,300,⟨1100,1200⟩,30⟩ from rfl]
 simp only[Option.bind_some]
 rw[show ZP ⟨⟨#[118]⟩,0,⟨1000,2000⟩,299,1⟩ 0=some true by decide +kernel]
 rfl
theorem QoJ {F:Nat} (hF:40000≤F):Zm F=some true:=by
 have h1:Wy F exD=some (pD,0):=Qn3 hF (by decide) (by decide) Qll Qic (QoY hF) (QqB hF);have h2:Y0 F exD p0=some ([pD],0):=by
  obtain ⟨L,q1,_,_,q4⟩:=(QqF hF Qll Qic rfl (by decide) (by decide)).both
  rw[show exD.Demands.length=1 from rfl,QqA hF] at q4
  rw[q1,q4.perm.symm.eq_singleton]
  rfl
 have h3:Wr F exD p0 0=some ([⟨0,0⟩],0):=Qpk hF Qll Qic rfl (by decide) rfl (Qob hF);have h4:Wy F exE=some (p0,0):=Qn3 hF (by decide) (by decide) QpZ Qnr (QoZ hF) (QqC hF);have h5:Wr F exE p0 0=some ([⟨0,20⟩],0):=Qpk hF QpZ Qnr rfl (by decide) rfl (Qoc hF);have s1:Yt pD pD=some true:=QdF _ (by decide) (fun t ht=>by simp[pD] at ht;subst ht;decide) (by decide);have s2:Yt p0 p0=some true:=QdF _ (by decide) (fun t ht=>by cases ht) (by decide);have r1:Ye [⟨0,0⟩] [⟨0,0⟩]=some true:=by rw[(Qoj (by decide)).1];simp
 have r2:Ye [⟨0,20⟩] [⟨0,20⟩]=some true:=by rw[(Qoj (by decide)).1];simp
 unfold exD at h1 h2 h3;unfold exE at h4 h5;unfold pD at h1 h2 s1;unfold p0 at h2 h3 h4 h5 s2;unfold Zm
 rw[h1]
 simp only[Option.bind_some,oun]
 rw[h2]
 simp only[Option.bind_some,oun]
 rw[h3]
 simp only[Option.bind_some,oun]
 rw[show getI [(Qn.mk ⟨#[118]⟩ 0 (Qz.mk 1000 2000) 1000 1)] 0=some (Qn.mk ⟨#[118]⟩ 0 (Qz.mk 1000 2000) 1000 1) from rfl]
 simp only[Option.bind_some]
 rw[show Yg [(Qn.mk ⟨#[118]⟩ 0 (Qz.mk 1000 2000) 1000 1)] 0 (Qn.mk ⟨#[118]⟩ 0 (Qz.mk 1000 2000) 299 1)=[(Qn.mk ⟨#[118]⟩ 0 (Qz.mk 1000 2000) 299 1)] from rfl]
 rw[h4]
 simp only[Option.bind_some,oun]
 rw[h5]
 simp only[Option.bind_some,oun,s1,s2,r1,r2]
 rfl
end Go.Proofs.YthpgjbbjpfiniaaGreat
namespace Go.Proofs.YthpgjbbjpfiniaaGreat
open Go.RowKit
set_option linter.unusedSimpArgs false
set_option linter.unusedVariables false
theorem Cx.L_cx {F:Nat} {p:Pr} {x:Pl} (h:Cx F p x) {L:List Ra} (hs:Yz ZN (Qah F p x p.Demands.length) L) {z:Ra} (hz:z∈L):Cx F p z.plan∧z=Z9 p z.plan∧ZN z<ZN (Z9 p x):=h.next (hs.perm.symm.subset hz)
theorem Cx.L_len {F:Nat} {p:Pr} {x:Pl} (h:Cx F p x) {L:List Ra} (hs:Yz ZN (Qah F p x p.Demands.length) L):L.length≤960:=by
 have h1:=h.fe.ok.dl;have h2:=h.hv;have h3:=QdG F p x p.Demands.length;have:p.Demands.length*p.Vehicles.length≤32*30:=Nat.mul_le_mul (by omega) h2
 rw[←hs.perm.length_eq]
 omega
def QpN (L:List Ra) (k:Nat):Int×Int:=match (L.take k).getLast? with
 | none=>(0,0)
 | some z=>(((z.plan.Left.length:Nat):Int),z.cost)
theorem Qir {L:List Ra} {k:Nat} {z:Ra} (h:L[k]? =some z):QpN L (k+1)=(((z.plan.Left.length:Nat):Int),z.cost):=by
 unfold QpN
 rw[Yw h]
 simp
theorem QkZ {F:Nat} (hF:40000≤F) (p:Pr) (x:Pl):YN F p x=some true:=by
 have haw:=QoJ hF;unfold YN;rcases QoE p x with hb | ⟨hb,hl⟩
 ·rw[hb];simp only[Option.bind_some,cond_true,haw]
 ·rw[hb]
  simp only[Option.bind_some,cond_false]
  have hve:=hl.ve;have hto:=hl.to;obtain ⟨L,e,s,h1,_,h3,_,h5⟩:=Qli hF hl.ed (by omega) x (by omega) hl.le;have hT:JO F p x=some (s,e):=by unfold JO;rw[h3];rfl
  rw[h1,hT]
  simp only[Option.bind_some,oun]
  rcases h5 with ⟨he,h5⟩ | ⟨he,hs,hc,h6,h5⟩
  ·subst h5
   simp only[he,decide_false,Bool.not_false,cond_true,Option.bind_some,decide_true,List.map_nil,List.length_nil]
   simp only[show decide (((0:Nat):Int)=0)=true from rfl,cond_true,haw,Option.bind_some]
  ·subst he;subst hs
   simp only[decide_true,Bool.not_true,cond_false,Option.bind_some]
   have hlen:=hc.L_len h5;have:=YG (body:=Yj F p x (L.map rpl) (YF p x.Tours)) L (fun k=>QpN L k) (fun m k=>(m.1,m.2,k)) (fun _ _=>none) (Sum.inl ()) (by omega) (fun k z hk _=> ?_) (fun _=>by simp[Yj,oun]) ((((L.map rpl).length:Nat):Int).toNat+1) (by simp)
   ·rw[QP _ _ (fun _ _ _=>rfl)] at this
    have h0:iter (Yj F p x (L.map rpl) (YF p x.Tours)) ((((L.map rpl).length:Nat):Int).toNat+1) (0,0,0)=some (.inl ()):=this
    rw[h0]
    simp only[Option.bind_some,QD,haw]
   ·have hk0:=Qr hk;have hk1:((k:Int)<(((L.map rpl).length:Nat):Int)):=by simp;omega
    have hg:(L.map rpl)[k]? =some z.plan:=by rw[List.getElem?_map,hk];rfl
    have hzm:=List.mem_of_getElem? hk;obtain ⟨c1,c2,c3⟩:=hc.L_cx h5 hzm;have hzt:JO F p z.plan=some (z.cost,0):=by
     unfold JO
     rw[c1.total.1,show z.cost=YF p z.plan.Tours by rw[c2];rfl]
     rfl
    have hzo:QaM z:=by rw[c2];exact c1.xOk
    have b1:Q4 ((z.plan.Left.length:Nat):Int) z.cost ((x.Left.length:Nat):Int) (YF p x.Tours)=some (decide (ZN z<ZN (Z9 p x))):=Qc8 (b:=Z9 p x) hzo hc.xOk;have e1:w64 ((k:Int)+1)=((k+1:Nat):Int):=by rw[Yc (by omega) (by omega)];omega
    rw[Qir hk]
    simp only[Yj,oun,hk1,decide_true,cond_true,Qq,hg,Option.bind_some,hzt,Bool.not_true,cond_false,b1,c3,e1]
    by_cases hz:k=0
    ·subst hz
     rfl
    ·have hk2:(0:Int)<(k:Int):=by omega
     obtain ⟨j,rfl⟩: ∃j,k=j+1:=⟨k-1,by omega⟩
     obtain ⟨y,hy⟩: ∃y,L[j]? =some y:=⟨_,List.getElem?_eq_getElem (by omega)⟩
     obtain ⟨d1,d2,_⟩:=hc.L_cx h5 (List.mem_of_getElem? hy);have hyo:QaM y:=by rw[d2];exact d1.xOk
     have hle:ZN y≤ZN z:=by
      have:=List.pairwise_iff_getElem.1 h6 j (j+1) (by omega) hk0 (by omega)
      rw[List.getElem?_eq_getElem (by omega)] at hy hk
      rw[Option.some.inj hy,Option.some.inj hk] at this
      exact this
     have b2:Q4 ((z.plan.Left.length:Nat):Int) z.cost ((y.plan.Left.length:Nat):Int) y.cost=some (decide (ZN z<ZN y)):=Qc8 hzo hyo
     rw[Qir hy]
     simp only[hk2,decide_true,cond_true,b2,Option.bind_some]
     rw[decide_eq_false (by omega)]
     rfl
theorem Qat (p:Qd) (x:Qg) (hp:Qei p) (hx:Qgx x): ∃F,YN F p x=some true:=⟨40000,QkZ (Nat.le_refl _) p x⟩
end Go.Proofs.YthpgjbbjpfiniaaGreat
namespace Go.Proofs.YthpgjbbjpfiniaaGreat
open Go.RowKit Go.ChangeShapes Go.WideShapes
set_option linter.unusedSimpArgs false
set_option linter.unusedVariables false
def Qjj (W:World):Gh:=⟨fun b=>W.heap[b]?,W.os,W.output,W.tape⟩
theorem QnI (W:World):Inv W (Qjj W) []:=⟨rfl,rfl,rfl,fun _ _ h=>h,by simp,by simp,by simp⟩
theorem Qnq {W W':World} {μ:Gh} {L:List Seg} (hm:(Qjj W).le μ) (h:Inv W' μ L):Below W.heap.size W W':=by
 have hb: ∀k,k<W.heap.size→W'.heap[k]? =W.heap[k]? :=fun k hk=>by
  have h1:W.heap[k]? =some W.heap[k]:=by simp[hk]
  rw[h1]
  exact h.mem k _ (hm.mem k _ h1)
 refine ⟨h.os.trans hm.os,h.tape.trans hm.tape,h.out.trans hm.out,?_,hb⟩;rcases Nat.eq_zero_or_pos W.heap.size with h0 | h0
 ·omega
 ·have h1:=hb (W.heap.size-1) (by omega);have h2:W.heap[W.heap.size-1]? =some (W.heap[W.heap.size-1]'(by omega)):=by simp
  rw[h2] at h1
  have:=Je h1
  omega
theorem QjV {P:Program} {f:FuncId} {fn:Func} (hf:P.funcs[f]? =some fn) (hb:fn.body.isNone=false) {args:List Value} {W:World} {v:Value} (h:Fn P f args (Qjj W) [] fun u _ _=>u=v) :
  Calls P f args.toArray W fun e W'=>e= .returned v∧Below W.heap.size W W':=by
 rcases h with ⟨_,h⟩ | ⟨fn',_,hf',_,hb',_⟩
 ·refine (h W (QnI W)).mono ?_;rintro e W' ⟨u,μ',L',rfl,hm,hi,rfl⟩;exact ⟨rfl,Qnq hm hi⟩
 ·rw[hf] at hf'
  injection hf' with hf'
  subst hf'
  rw[hb] at hb';cases hb'
section
variable {H:Type} {enc:TypeId×Value→H} {P:Program}
theorem QeI (hl:laidOutB P=true) {W W':World} (hb:Below W.heap.size W W') {sp:Nat→Bool}: ∀{ts:List TypeId} {vs:List Value} {ds:List (DataW H)} {ps:List MemPlace},
  (∀t∈ts,P.readableRec t=true∧t<P.types.size)→(∀p∈ps,p.block<W.heap.size)→(∀p∈ps,sp p.block=true) →
  DataW.TrodAll enc P W 0 (fun _=>true) true ts vs ds ps→DataW.TrodAll enc P W' 0 sp true ts vs ds ps
 | [],vs,ds,ps,_,_,_,h=>by
  obtain ⟨rfl,rfl,rfl⟩:=trodAll_nil h
  rfl
 | t::ts,vs,ds,ps,hr,hlt,hs,h=>by
  obtain ⟨v,vs',d,ds',p,q,rfl,rfl,rfl,hd,hrest⟩:=trodAll_cons h;refine ⟨p,q,WideElems.Trod_stays hl (hr t (by simp)).1 (hr t (by simp)).2 hd (fun x hx=>hb.same (hlt x (by simp[hx]))) (fun x hx=>hs x (by simp[hx])),?_,rfl⟩;exact QeI hl hb (fun u hu=>hr u (by simp[hu])) (fun x hx=>hlt x (by simp[hx])) (fun x hx=>hs x (by simp[hx])) hrest
theorem QmX {f:Func} {s:ChangeSpec} {apart fresh handsOn again:Bool} {W W':World} {args:Array Value} {ds:List (DataW H)} {before:List MemPlace} {tb:TypeId}
  (hW:DataW.Whole enc P f.params.toList s.vars apart W args.toList ds [] before) (hv:s.vars=[]) (hres:f.resultTypes= #[tb]) (htb:P.underlying tb=some .bool)
  (hfr:(s.fn H ds).results=[.lit (.bool true)]) (hfa:(s.fn H ds).args=ds) (hfv:(s.fn H ds).vars=[]) (hl:laidOutB P=true) (hr: ∀t∈f.params.toList,P.readableRec t=true∧t<P.types.size) (hb:Below W.heap.size W W') :
  s.post enc P f apart fresh handsOn again W args (.bool true) W':=by
 have hlt: ∀p∈before,p.block<W.heap.size:=fun p hp=>hW.lt p hp;have hW':=hW;obtain ⟨p,q,hA,hV,hpq,hz,hn⟩:=hW'
 rw[hv] at hV
 obtain ⟨_,rfl⟩:=trodVars_none hV
 rw[List.append_nil] at hpq
 subst hpq;have hresl:((Value.bool true).resultList f.resultTypes.size)=[.bool true]:=by rw[hres];rfl
 have hargs: ∀sp:Nat→Bool,(∀x∈before,sp x.block=true)→DataW.TrodAll enc P W' 0 sp true f.params.toList args.toList ds before:=fun sp hs=>QeI hl hb hr hlt hs hA;have hres2: ∀(b:Nat) (sp:Nat→Bool) (hd:Bool),DataW.TrodAll enc P W' b sp hd f.resultTypes.toList [.bool true] [.lit (.bool true)] []:=fun b sp hd=>by
  rw[hres];exact trodAll_mk1 (shut_bool htb true)
 have hold: ∀p∈before,(fun b=>decide (b<W.heap.size)) p.block=true:=fun p hp=>by simpa using hlt p hp
 have hvars: ∀sp:Nat→Bool,DataW.TrodVars enc P W' sp s.vars [] []:=fun sp=>by rw[hv];rfl
 refine ⟨ds,[],before,[],before,[],hW,?_,?_,?_,World.keptBut_mono (fun p hp=>⟨hp,by simpa using hp⟩) (hb.frame (· ∈before)),fun _=> ?_⟩
 ·rw[hresl,List.append_nil,hfr];exact hres2 _ _ _
 ·rw[List.append_nil,hfa];exact hargs _ hold
 ·rw[List.append_nil,hfv];exact hvars _
 ·have A1:=hargs (fun _=>true) (fun _ _=>rfl);have R1:=hres2 0 (fun _=>true) true;refine ⟨ok_one hres rfl (okWide_bool_mk htb true),?_⟩
  rw[hresl]
  refine ⟨_,_,([]++before)++[],⟨[]++before,[],trodAll_append A1 R1,hvars _,rfl,?_,?_⟩,?_⟩
  ·intro b off hp;have hin:MemPlace.cell b off∈before:=by simpa using hp
   rw[hb.frozen (hlt _ hin)]
   exact hz b off hin
  ·intro ha;have:=hn ha
   simpa using this
  ·intro p hp _
   simpa using hp
end
end Go.Proofs.YthpgjbbjpfiniaaGreat
namespace Go.Proofs.YthpgjbbjpfiniaaGreat
open Go.RowKit Go.ChangeShapes Go.WideShapes Go.Deep
set_option linter.unusedSimpArgs false
set_option linter.unusedVariables false
theorem Qib {W:World} {L:List Seg} {a:Addr} {v:Value} (h:W.cell? a=some v):W9 (Qjj W) L a v:=by
 unfold World.cell? at h
 split at h
 ·rename_i c e f hb
  split at h
  ·cases h
  ·rename_i hs
   refine ⟨by simpa using hs,c,e,f,.inl hb,by simpa using h⟩
 ·cases h
theorem Qme {α β:Type} (Q:Nat→α→β→Prop): ∀n,(∀i,i<n→ ∃x y,Q i x y)→ ∃(l:List α) (m:List β),l.length=n∧m.length=n∧ ∀(i:Nat) (x:α) (y:β),l[i]? =some x→m[i]? =some y→Q i x y
 | 0,_=>⟨[],[],rfl,rfl,by simp⟩
 | n+1,h=>by
  obtain ⟨l,m,hl,hm,hq⟩:=Qme Q n fun i hi=>h i (by omega);obtain ⟨x,y,hx⟩:=h n (by omega);refine ⟨l++[x],m++[y],by simp[hl],by simp[hm],fun i u v hu hv=> ?_⟩;rcases Nat.lt_or_ge i n with hi | hi
  ·rw[List.getElem?_append_left (by omega)] at hu hv
   exact hq i u v hu hv
  ·rw[List.getElem?_append_right (by omega)] at hu hv
   have:i-n=0:=by
    rcases Nat.eq_zero_or_pos (i-n) with h0 | h0
    ·exact h0
    ·rw[List.getElem?_eq_none (by simp;omega)] at hu;cases hu
   rw[hl,this] at hu
   rw[hm,this] at hv
   simp only[List.getElem?_cons_zero,Option.some.injEq] at hu hv
   have:i=n:=by omega
   subst this;subst hu;subst hv;exact hx
def Opn {α:Type} (P:Program) (W:World) (t:TypeId) (r:Rp α) (Q:α→Prop):Prop :=
 ∀(H:Type) (enc:TypeId×Value→H) (spare:Nat→Bool) (held:Bool) (fuel:Nat) (cs:List Value) (x:DataW H×List MemPlace),DataW.trod enc P W 0 spare held fuel t cs=some x→ ∃d,r.rep (Qjj W) d cs∧Q d
section
variable {P:Program} {W:World} {t:TypeId}
theorem J1 {k:IntKind} (ht:P.underlying t=some (.int k)):Opn P W t (rI k) (wfI k):=by
 intro H enc spare held fuel cs x h;obtain ⟨n,h1,_,h2⟩:=DataW.trod_int ht h;exact ⟨n,h1,h2⟩
theorem QoW (ht:P.underlying t=some .string):Opn P W t QqW fun s=>s.size≤maxLen:=by
 intro H enc spare held fuel cs x h;obtain ⟨n,h1,_,h2⟩:=DataW.trod_string ht h;exact ⟨n,h1,h2⟩
theorem QbX {α:Type} {e:TypeId} {r:Rp α} {Q:α→Prop} (ht:P.underlying t=some (.slice e)) (hC:P.cellsOf e=r.sz) (he:Opn P W e r Q):Opn P W t (QqN r) fun xs=> ∀x∈xs,Q x:=by
 intro H enc spare held fuel cs x h;rcases open_slice ht h with ⟨rfl,_⟩ | ⟨a,n,c,m,nn,D,Pl,rfl,hb,hl,hm,hmm,hx,hi⟩
 ·exact ⟨[],⟨none,0,rfl,Nat.le_refl _,Nat.zero_le _,Qv.nil⟩,by simp⟩
 ·have hrow: ∀i,i<n→ ∃(y:α) (cs:List Value),r.rep (Qjj W) y cs∧Q y∧ZR (Qjj W) [] (a.add (i*r.sz)) cs:=fun i hin=>by
   obtain ⟨cs',hc,htr⟩:=hi i (by split at hmm<;>omega)
   rw[hC] at hc
   obtain ⟨y,hy,hq⟩:=he H enc spare held nn cs' _ htr;obtain ⟨_,hcl,hat⟩:=World.cells?_some hc;refine ⟨y,cs',hy,hq,fun j u hu=> ?_⟩;have hjk:j<r.sz:=by
    rcases Nat.lt_or_ge j r.sz with h | h
    ·exact h
    ·rw[List.getElem?_eq_none (by omega)] at hu;cases hu
   exact Qib (by rw[hat j hjk];exact hu)
  obtain ⟨xs,css,hxl,hcl,hq⟩:=Qme (fun i y cs=>r.rep (Qjj W) y cs∧Q y∧ZR (Qjj W) [] (a.add (i*r.sz)) cs) n hrow;refine ⟨xs,⟨some a,c,by rw[hxl],by omega,hm,css,fun i cs hcs=> ?_,by rw[hxl,hcl],fun i y cs hy hcs=>(hq i y cs hy hcs).1⟩,fun y hy=> ?_⟩
  ·have hlt:i<css.length:=by
    rcases Nat.lt_or_ge i css.length with h | h
    ·exact h
    ·rw[List.getElem?_eq_none h] at hcs;cases hcs
   obtain ⟨h1,_,h3⟩:=hq i (xs[i]'(by omega)) cs (by simp) hcs;exact ⟨r.len h1,a,rfl,h3⟩
  ·obtain ⟨i,hi'⟩:=List.getElem?_of_mem hy;have hlt:i<xs.length:=by
    rcases Nat.lt_or_ge i xs.length with h | h
    ·exact h
    ·rw[List.getElem?_eq_none h] at hi';cases hi'
   exact (hq i y (css[i]'(by omega)) hi' (by simp)).2.1
end
theorem Jz {cs:List Value} {o a o2:Nat} (h:o+a=o2):cs.drop o=(cs.drop o).take a++cs.drop o2:=by rw[←h,←List.drop_drop,List.take_append_drop]
theorem Qi0 {cs:Array Value} {l:List Value} (h:cs.toList=l):cs=l.toArray:=by rw[←h]
end Go.Proofs.YthpgjbbjpfiniaaGreat
namespace Go.Proofs.YthpgjbbjpfiniaaGreat
open Go.ChangeShapes Go.WideShapes Go.ChangeAt Go.RowKit
set_option linter.unusedSimpArgs false
set_option linter.unusedVariables false
theorem QqV:ownKnob Tryz.prog.godebug=none:=by kernel_rfl
theorem QnK:laidOutB Tryz.prog=true:=by kernel_rfl
theorem Qjs {W:World}:Opn Tryz.prog W 106 QS Qgw:=by
 intro H enc spare held fuel cs x h;obtain ⟨xs,n,_,_,hlen,hxl,hf⟩:=DataW.trod_struct Tryz.underlying106 h
 rw[show Tryz.prog.cellsOf 106=4 by kernel_rfl] at hlen
 have g0:DataW.trod enc Tryz.prog W 0 spare held n 3 ((cs.drop 0).take (Tryz.prog.cellsOf 3))=xs[0]? :=hf 0 _ rfl
 rw[show Tryz.prog.cellsOf 3=1 by kernel_rfl,List.getElem?_eq_getElem (by rw[hxl];decide)] at g0
 obtain ⟨d0,h0,q0⟩:=(J1 Tryz.underlying3) H enc spare held n _ _ g0;have g1:DataW.trod enc Tryz.prog W 0 spare held n 3 ((cs.drop 1).take (Tryz.prog.cellsOf 3))=xs[1]? :=hf 1 _ rfl
 rw[show Tryz.prog.cellsOf 3=1 by kernel_rfl,List.getElem?_eq_getElem (by rw[hxl];decide)] at g1
 obtain ⟨d1,h1,q1⟩:=(J1 Tryz.underlying3) H enc spare held n _ _ g1;have g2:DataW.trod enc Tryz.prog W 0 spare held n 3 ((cs.drop 2).take (Tryz.prog.cellsOf 3))=xs[2]? :=hf 2 _ rfl
 rw[show Tryz.prog.cellsOf 3=1 by kernel_rfl,List.getElem?_eq_getElem (by rw[hxl];decide)] at g2
 obtain ⟨d2,h2,q2⟩:=(J1 Tryz.underlying3) H enc spare held n _ _ g2;have g3:DataW.trod enc Tryz.prog W 0 spare held n 3 ((cs.drop 3).take (Tryz.prog.cellsOf 3))=xs[3]? :=hf 3 _ rfl
 rw[show Tryz.prog.cellsOf 3=1 by kernel_rfl,List.getElem?_eq_getElem (by rw[hxl];decide)] at g3
 obtain ⟨d3,h3,q3⟩:=(J1 Tryz.underlying3) H enc spare held n _ _ g3;have e0:cs.drop 0=(cs.drop 0).take 1++cs.drop 1:=Jz rfl;have e1:cs.drop 1=(cs.drop 1).take 1++cs.drop 2:=Jz rfl;have e2:cs.drop 2=(cs.drop 2).take 1++cs.drop 3:=Jz rfl;have e3:cs.drop 3=(cs.drop 3).take 1++cs.drop 4:=Jz rfl;have en:cs.drop 4=[]:=List.drop_of_length_le (by omega);have hcs:cs.drop 0=_:=e0
 rw[e1,e2,e3,en,show (cs.drop 0).take 1=_ from h0,show (cs.drop 1).take 1=_ from h1,show (cs.drop 2).take 1=_ from h2,show (cs.drop 3).take 1=_ from h3] at hcs
 exact ⟨⟨d0,d1,d2,d3⟩,hcs,q0,q1,q2,q3⟩
theorem Qju {W:World}:Opn Tryz.prog W 24 Qlq Qgy:=by
 intro H enc spare held fuel cs x h;obtain ⟨xs,n,_,_,hlen,hxl,hf⟩:=DataW.trod_struct Tryz.underlying24 h
 rw[show Tryz.prog.cellsOf 24=2 by kernel_rfl] at hlen
 have g0:DataW.trod enc Tryz.prog W 0 spare held n 3 ((cs.drop 0).take (Tryz.prog.cellsOf 3))=xs[0]? :=hf 0 _ rfl
 rw[show Tryz.prog.cellsOf 3=1 by kernel_rfl,List.getElem?_eq_getElem (by rw[hxl];decide)] at g0
 obtain ⟨d0,h0,q0⟩:=(J1 Tryz.underlying3) H enc spare held n _ _ g0;have g1:DataW.trod enc Tryz.prog W 0 spare held n 22 ((cs.drop 1).take (Tryz.prog.cellsOf 22))=xs[1]? :=hf 1 _ rfl
 rw[show Tryz.prog.cellsOf 22=1 by kernel_rfl,List.getElem?_eq_getElem (by rw[hxl];decide)] at g1
 obtain ⟨d1,h1,q1⟩:=(QbX Tryz.underlying22 (by kernel_rfl) Qjs) H enc spare held n _ _ g1;have e0:cs.drop 0=(cs.drop 0).take 1++cs.drop 1:=Jz rfl;have e1:cs.drop 1=(cs.drop 1).take 1++cs.drop 2:=Jz rfl;have en:cs.drop 2=[]:=List.drop_of_length_le (by omega);obtain ⟨A0,c0,h1,hl0,hm0,ha0⟩:=h1;have hcs:cs.drop 0=_:=e0
 rw[e1,en,show (cs.drop 0).take 1=_ from h0,show (cs.drop 1).take 1=_ from h1] at hcs
 exact ⟨⟨d0,d1⟩,⟨A0,c0,hcs,⟨hl0,hm0⟩,ha0⟩,q0,q1⟩
theorem Qd3 {W:World}:Opn Tryz.prog W 59 Qjy QcF:=by
 intro H enc spare held fuel cs x h;obtain ⟨xs,n,_,_,hlen,hxl,hf⟩:=DataW.trod_struct Tryz.underlying59 h
 rw[show Tryz.prog.cellsOf 59=2 by kernel_rfl] at hlen
 have g0:DataW.trod enc Tryz.prog W 0 spare held n 3 ((cs.drop 0).take (Tryz.prog.cellsOf 3))=xs[0]? :=hf 0 _ rfl
 rw[show Tryz.prog.cellsOf 3=1 by kernel_rfl,List.getElem?_eq_getElem (by rw[hxl];decide)] at g0
 obtain ⟨d0,h0,q0⟩:=(J1 Tryz.underlying3) H enc spare held n _ _ g0;have g1:DataW.trod enc Tryz.prog W 0 spare held n 3 ((cs.drop 1).take (Tryz.prog.cellsOf 3))=xs[1]? :=hf 1 _ rfl
 rw[show Tryz.prog.cellsOf 3=1 by kernel_rfl,List.getElem?_eq_getElem (by rw[hxl];decide)] at g1
 obtain ⟨d1,h1,q1⟩:=(J1 Tryz.underlying3) H enc spare held n _ _ g1;have e0:cs.drop 0=(cs.drop 0).take 1++cs.drop 1:=Jz rfl;have e1:cs.drop 1=(cs.drop 1).take 1++cs.drop 2:=Jz rfl;have en:cs.drop 2=[]:=List.drop_of_length_le (by omega);have hcs:cs.drop 0=_:=e0
 rw[e1,en,show (cs.drop 0).take 1=_ from h0,show (cs.drop 1).take 1=_ from h1] at hcs
 exact ⟨⟨d0,d1⟩,hcs,q0,q1⟩
theorem QgK {W:World}:Opn Tryz.prog W 61 QE Qej:=by
 intro H enc spare held fuel cs x h;obtain ⟨xs,n,_,_,hlen,hxl,hf⟩:=DataW.trod_struct Tryz.underlying61 h
 rw[show Tryz.prog.cellsOf 61=6 by kernel_rfl] at hlen
 have g0:DataW.trod enc Tryz.prog W 0 spare held n 9 ((cs.drop 0).take (Tryz.prog.cellsOf 9))=xs[0]? :=hf 0 _ rfl
 rw[show Tryz.prog.cellsOf 9=1 by kernel_rfl,List.getElem?_eq_getElem (by rw[hxl];decide)] at g0
 obtain ⟨d0,h0,q0⟩:=(QoW Tryz.underlying9) H enc spare held n _ _ g0;have g1:DataW.trod enc Tryz.prog W 0 spare held n 3 ((cs.drop 1).take (Tryz.prog.cellsOf 3))=xs[1]? :=hf 1 _ rfl
 rw[show Tryz.prog.cellsOf 3=1 by kernel_rfl,List.getElem?_eq_getElem (by rw[hxl];decide)] at g1
 obtain ⟨d1,h1,q1⟩:=(J1 Tryz.underlying3) H enc spare held n _ _ g1;have g2:DataW.trod enc Tryz.prog W 0 spare held n 59 ((cs.drop 2).take (Tryz.prog.cellsOf 59))=xs[2]? :=hf 2 _ rfl
 rw[show Tryz.prog.cellsOf 59=2 by kernel_rfl,List.getElem?_eq_getElem (by rw[hxl];decide)] at g2
 obtain ⟨d2,h2,q2⟩:=Qd3 H enc spare held n _ _ g2;have g3:DataW.trod enc Tryz.prog W 0 spare held n 3 ((cs.drop 4).take (Tryz.prog.cellsOf 3))=xs[3]? :=hf 3 _ rfl
 rw[show Tryz.prog.cellsOf 3=1 by kernel_rfl,List.getElem?_eq_getElem (by rw[hxl];decide)] at g3
 obtain ⟨d3,h3,q3⟩:=(J1 Tryz.underlying3) H enc spare held n _ _ g3;have g4:DataW.trod enc Tryz.prog W 0 spare held n 3 ((cs.drop 5).take (Tryz.prog.cellsOf 3))=xs[4]? :=hf 4 _ rfl
 rw[show Tryz.prog.cellsOf 3=1 by kernel_rfl,List.getElem?_eq_getElem (by rw[hxl];decide)] at g4
 obtain ⟨d4,h4,q4⟩:=(J1 Tryz.underlying3) H enc spare held n _ _ g4;have e0:cs.drop 0=(cs.drop 0).take 1++cs.drop 1:=Jz rfl;have e1:cs.drop 1=(cs.drop 1).take 1++cs.drop 2:=Jz rfl;have e2:cs.drop 2=(cs.drop 2).take 2++cs.drop 4:=Jz rfl;have e3:cs.drop 4=(cs.drop 4).take 1++cs.drop 5:=Jz rfl;have e4:cs.drop 5=(cs.drop 5).take 1++cs.drop 6:=Jz rfl;have en:cs.drop 6=[]:=List.drop_of_length_le (by omega);have hcs:cs.drop 0=_:=e0
 rw[e1,e2,e3,e4,en,show (cs.drop 0).take 1=_ from h0,show (cs.drop 1).take 1=_ from h1,show (cs.drop 2).take 2=_ from h2,show (cs.drop 4).take 1=_ from h3,show (cs.drop 5).take 1=_ from h4] at hcs
 exact ⟨⟨d0,d1,d2,d3,d4⟩,hcs,q0,q1,q2,q3,q4⟩
theorem QhJ {W:World}:Opn Tryz.prog W 63 QJ QeJ:=by
 intro H enc spare held fuel cs x h;obtain ⟨xs,n,_,_,hlen,hxl,hf⟩:=DataW.trod_struct Tryz.underlying63 h
 rw[show Tryz.prog.cellsOf 63=7 by kernel_rfl] at hlen
 have g0:DataW.trod enc Tryz.prog W 0 spare held n 3 ((cs.drop 0).take (Tryz.prog.cellsOf 3))=xs[0]? :=hf 0 _ rfl
 rw[show Tryz.prog.cellsOf 3=1 by kernel_rfl,List.getElem?_eq_getElem (by rw[hxl];decide)] at g0
 obtain ⟨d0,h0,q0⟩:=(J1 Tryz.underlying3) H enc spare held n _ _ g0;have g1:DataW.trod enc Tryz.prog W 0 spare held n 3 ((cs.drop 1).take (Tryz.prog.cellsOf 3))=xs[1]? :=hf 1 _ rfl
 rw[show Tryz.prog.cellsOf 3=1 by kernel_rfl,List.getElem?_eq_getElem (by rw[hxl];decide)] at g1
 obtain ⟨d1,h1,q1⟩:=(J1 Tryz.underlying3) H enc spare held n _ _ g1;have g2:DataW.trod enc Tryz.prog W 0 spare held n 3 ((cs.drop 2).take (Tryz.prog.cellsOf 3))=xs[2]? :=hf 2 _ rfl
 rw[show Tryz.prog.cellsOf 3=1 by kernel_rfl,List.getElem?_eq_getElem (by rw[hxl];decide)] at g2
 obtain ⟨d2,h2,q2⟩:=(J1 Tryz.underlying3) H enc spare held n _ _ g2;have g3:DataW.trod enc Tryz.prog W 0 spare held n 3 ((cs.drop 3).take (Tryz.prog.cellsOf 3))=xs[3]? :=hf 3 _ rfl
 rw[show Tryz.prog.cellsOf 3=1 by kernel_rfl,List.getElem?_eq_getElem (by rw[hxl];decide)] at g3
 obtain ⟨d3,h3,q3⟩:=(J1 Tryz.underlying3) H enc spare held n _ _ g3;have g4:DataW.trod enc Tryz.prog W 0 spare held n 59 ((cs.drop 4).take (Tryz.prog.cellsOf 59))=xs[4]? :=hf 4 _ rfl
 rw[show Tryz.prog.cellsOf 59=2 by kernel_rfl,List.getElem?_eq_getElem (by rw[hxl];decide)] at g4
 obtain ⟨d4,h4,q4⟩:=Qd3 H enc spare held n _ _ g4;have g5:DataW.trod enc Tryz.prog W 0 spare held n 3 ((cs.drop 6).take (Tryz.prog.cellsOf 3))=xs[5]? :=hf 5 _ rfl
 rw[show Tryz.prog.cellsOf 3=1 by kernel_rfl,List.getElem?_eq_getElem (by rw[hxl];decide)] at g5
 obtain ⟨d5,h5,q5⟩:=(J1 Tryz.underlying3) H enc spare held n _ _ g5;have e0:cs.drop 0=(cs.drop 0).take 1++cs.drop 1:=Jz rfl;have e1:cs.drop 1=(cs.drop 1).take 1++cs.drop 2:=Jz rfl;have e2:cs.drop 2=(cs.drop 2).take 1++cs.drop 3:=Jz rfl;have e3:cs.drop 3=(cs.drop 3).take 1++cs.drop 4:=Jz rfl;have e4:cs.drop 4=(cs.drop 4).take 2++cs.drop 6:=Jz rfl;have e5:cs.drop 6=(cs.drop 6).take 1++cs.drop 7:=Jz rfl;have en:cs.drop 7=[]:=List.drop_of_length_le (by omega);have hcs:cs.drop 0=_:=e0
 rw[e1,e2,e3,e4,e5,en,show (cs.drop 0).take 1=_ from h0,show (cs.drop 1).take 1=_ from h1,show (cs.drop 2).take 1=_ from h2,show (cs.drop 3).take 1=_ from h3,show (cs.drop 4).take 2=_ from h4,show (cs.drop 6).take 1=_ from h5] at hcs
 exact ⟨⟨d0,d1,d2,d3,d4,d5⟩,hcs,q0,q1,q2,q3,q4,q5⟩
theorem QgJ {W:World}:Opn Tryz.prog W 28 Qij Qei:=by
 intro H enc spare held fuel cs x h;obtain ⟨xs,n,_,_,hlen,hxl,hf⟩:=DataW.trod_struct Tryz.underlying28 h
 rw[show Tryz.prog.cellsOf 28=6 by kernel_rfl] at hlen
 have g0:DataW.trod enc Tryz.prog W 0 spare held n 24 ((cs.drop 0).take (Tryz.prog.cellsOf 24))=xs[0]? :=hf 0 _ rfl
 rw[show Tryz.prog.cellsOf 24=2 by kernel_rfl,List.getElem?_eq_getElem (by rw[hxl];decide)] at g0
 obtain ⟨d0,h0,q0⟩:=Qju H enc spare held n _ _ g0;have g1:DataW.trod enc Tryz.prog W 0 spare held n 25 ((cs.drop 2).take (Tryz.prog.cellsOf 25))=xs[1]? :=hf 1 _ rfl
 rw[show Tryz.prog.cellsOf 25=1 by kernel_rfl,List.getElem?_eq_getElem (by rw[hxl];decide)] at g1
 obtain ⟨d1,h1,q1⟩:=(QbX Tryz.underlying25 (by kernel_rfl) QgK) H enc spare held n _ _ g1;have g2:DataW.trod enc Tryz.prog W 0 spare held n 26 ((cs.drop 3).take (Tryz.prog.cellsOf 26))=xs[2]? :=hf 2 _ rfl
 rw[show Tryz.prog.cellsOf 26=1 by kernel_rfl,List.getElem?_eq_getElem (by rw[hxl];decide)] at g2
 obtain ⟨d2,h2,q2⟩:=(QbX Tryz.underlying26 (by kernel_rfl) QhJ) H enc spare held n _ _ g2;have g3:DataW.trod enc Tryz.prog W 0 spare held n 3 ((cs.drop 4).take (Tryz.prog.cellsOf 3))=xs[3]? :=hf 3 _ rfl
 rw[show Tryz.prog.cellsOf 3=1 by kernel_rfl,List.getElem?_eq_getElem (by rw[hxl];decide)] at g3
 obtain ⟨d3,h3,q3⟩:=(J1 Tryz.underlying3) H enc spare held n _ _ g3;have g4:DataW.trod enc Tryz.prog W 0 spare held n 3 ((cs.drop 5).take (Tryz.prog.cellsOf 3))=xs[4]? :=hf 4 _ rfl
 rw[show Tryz.prog.cellsOf 3=1 by kernel_rfl,List.getElem?_eq_getElem (by rw[hxl];decide)] at g4
 obtain ⟨d4,h4,q4⟩:=(J1 Tryz.underlying3) H enc spare held n _ _ g4;have e0:cs.drop 0=(cs.drop 0).take 2++cs.drop 2:=Jz rfl;have e1:cs.drop 2=(cs.drop 2).take 1++cs.drop 3:=Jz rfl;have e2:cs.drop 3=(cs.drop 3).take 1++cs.drop 4:=Jz rfl;have e3:cs.drop 4=(cs.drop 4).take 1++cs.drop 5:=Jz rfl;have e4:cs.drop 5=(cs.drop 5).take 1++cs.drop 6:=Jz rfl;have en:cs.drop 6=[]:=List.drop_of_length_le (by omega);obtain ⟨A0,c0,h0,hl0,ha0⟩:=h0;obtain ⟨A1,c1,h1,hl1,hm1,ha1⟩:=h1;obtain ⟨A2,c2,h2,hl2,hm2,ha2⟩:=h2;have hcs:cs.drop 0=_:=e0
 rw[e1,e2,e3,e4,en,show (cs.drop 0).take 2=_ from h0,show (cs.drop 2).take 1=_ from h1,show (cs.drop 3).take 1=_ from h2,show (cs.drop 4).take 1=_ from h3,show (cs.drop 5).take 1=_ from h4] at hcs
 exact ⟨⟨d0,d1,d2,d3,d4⟩,⟨A0,c0,A1,c1,A2,c2,hcs,hl0,ha0,⟨hl1,hm1⟩,ha1,⟨hl2,hm2⟩,ha2⟩,q0,q1,q2,q3,q4⟩
theorem Qjv {W:World}:Opn Tryz.prog W 51 Qy Qgz:=by
 intro H enc spare held fuel cs x h;obtain ⟨xs,n,_,_,hlen,hxl,hf⟩:=DataW.trod_struct Tryz.underlying51 h
 rw[show Tryz.prog.cellsOf 51=2 by kernel_rfl] at hlen
 have g0:DataW.trod enc Tryz.prog W 0 spare held n 3 ((cs.drop 0).take (Tryz.prog.cellsOf 3))=xs[0]? :=hf 0 _ rfl
 rw[show Tryz.prog.cellsOf 3=1 by kernel_rfl,List.getElem?_eq_getElem (by rw[hxl];decide)] at g0
 obtain ⟨d0,h0,q0⟩:=(J1 Tryz.underlying3) H enc spare held n _ _ g0;have g1:DataW.trod enc Tryz.prog W 0 spare held n 31 ((cs.drop 1).take (Tryz.prog.cellsOf 31))=xs[1]? :=hf 1 _ rfl
 rw[show Tryz.prog.cellsOf 31=1 by kernel_rfl,List.getElem?_eq_getElem (by rw[hxl];decide)] at g1
 obtain ⟨d1,h1,q1⟩:=(QbX Tryz.underlying31 (by kernel_rfl) (J1 Tryz.underlying3)) H enc spare held n _ _ g1;have e0:cs.drop 0=(cs.drop 0).take 1++cs.drop 1:=Jz rfl;have e1:cs.drop 1=(cs.drop 1).take 1++cs.drop 2:=Jz rfl;have en:cs.drop 2=[]:=List.drop_of_length_le (by omega);obtain ⟨A0,c0,h1,hl0,hm0,ha0⟩:=h1;have hcs:cs.drop 0=_:=e0
 rw[e1,en,show (cs.drop 0).take 1=_ from h0,show (cs.drop 1).take 1=_ from h1] at hcs
 exact ⟨⟨d0,d1⟩,⟨A0,c0,hcs,⟨hl0,hm0⟩,ha0⟩,q0,q1⟩
theorem Qjt {W:World}:Opn Tryz.prog W 33 Qbe Qgx:=by
 intro H enc spare held fuel cs x h;obtain ⟨xs,n,_,_,hlen,hxl,hf⟩:=DataW.trod_struct Tryz.underlying33 h
 rw[show Tryz.prog.cellsOf 33=2 by kernel_rfl] at hlen
 have g0:DataW.trod enc Tryz.prog W 0 spare held n 30 ((cs.drop 0).take (Tryz.prog.cellsOf 30))=xs[0]? :=hf 0 _ rfl
 rw[show Tryz.prog.cellsOf 30=1 by kernel_rfl,List.getElem?_eq_getElem (by rw[hxl];decide)] at g0
 obtain ⟨d0,h0,q0⟩:=(QbX Tryz.underlying30 (by kernel_rfl) Qjv) H enc spare held n _ _ g0;have g1:DataW.trod enc Tryz.prog W 0 spare held n 31 ((cs.drop 1).take (Tryz.prog.cellsOf 31))=xs[1]? :=hf 1 _ rfl
 rw[show Tryz.prog.cellsOf 31=1 by kernel_rfl,List.getElem?_eq_getElem (by rw[hxl];decide)] at g1
 obtain ⟨d1,h1,q1⟩:=(QbX Tryz.underlying31 (by kernel_rfl) (J1 Tryz.underlying3)) H enc spare held n _ _ g1;have e0:cs.drop 0=(cs.drop 0).take 1++cs.drop 1:=Jz rfl;have e1:cs.drop 1=(cs.drop 1).take 1++cs.drop 2:=Jz rfl;have en:cs.drop 2=[]:=List.drop_of_length_le (by omega);obtain ⟨A0,c0,h0,hl0,hm0,ha0⟩:=h0;obtain ⟨A1,c1,h1,hl1,hm1,ha1⟩:=h1;have hcs:cs.drop 0=_:=e0
 rw[e1,en,show (cs.drop 0).take 1=_ from h0,show (cs.drop 1).take 1=_ from h1] at hcs
 exact ⟨⟨d0,d1⟩,⟨A0,c0,A1,c1,hcs,⟨hl0,hm0⟩,ha0,⟨hl1,hm1⟩,ha1⟩,q0,q1⟩
set_option maxRecDepth 100000 in
theorem QdD (os:Os) (started:os.Started) (H:Type) (enc:TypeId×Value→H) :
  ReturnsInHanded {} Tryz.checked os 8 .any (Rows.dispatchBetterSpec.pre6 enc Tryz.prog Tryz.f8 Rows.dispatchBetterRow.domain false) (Rows.dispatchBetterSpec.post enc Tryz.prog Tryz.f8 false true false false):=by
 refine returnsInHanded_of_change (C:=Tryz.checked) QqV started (by kernel_rfl) Tryz.func8
  (ChangeSpec.witness6 (enc:=enc) (C:=Tryz.checked) false ⟨#[], #[((Go.Value.agg #[(Go.Value.int Go.IntKind.i64 0),(Go.Value.slice none 0 0),(Go.Value.slice none 0 0),(Go.Value.slice none 0 0),(Go.Value.int Go.IntKind.i64 0),(Go.Value.int Go.IntKind.i64 0)])),((Go.Value.agg #[(Go.Value.slice none 0 0),(Go.Value.slice none 0 0)]))],[]⟩ 8 (by kernel_rfl) (by kernel_rfl) (by kernel_rfl) (by kernel_rfl)) ?_
 intro W base args ds gs before hval0 hW hcnd _;have hval: ∀(j:Nat) t v,Tryz.f8.params[j]? =some t→args[j]? =some v→Value.okWide Tryz.prog W .any base t v:=hval0;have hW':=hW;obtain ⟨p,q,hA0,hV,rfl,hfz,hnd⟩:=hW;have hA:DataW.TrodAll enc Tryz.prog W 0 (fun _=>true) true Tryz.f8.params.toList args.toList ds p:=hA0
 rw[Tryz.params8] at hA hval
 obtain ⟨rfl,rfl⟩:=trodVars_none hV
 clear hA0 hval0
 obtain ⟨v0,v1,d0,d1,p0,p1,rfl,rfl,rfl,a0,a1⟩:=trodAll_two hA;obtain ⟨cs0,rfl,_⟩:=okWide_struct Tryz.underlying28 (hval 0 28 v0 rfl rfl);obtain ⟨fu0,ht0⟩:=a0;obtain ⟨x0,hr0,q0⟩:=QgJ (W:=W) H enc _ _ fu0 _ _ ht0;obtain ⟨A0_0,c0_0,A0_1,c0_1,A0_2,c0_2,hcs0,hl0_0,ha0_0,hl0_1,ha0_1,hl0_2,ha0_2⟩:=hr0;obtain rfl:=Qi0 hcs0;obtain ⟨cs1,rfl,_⟩:=okWide_struct Tryz.underlying33 (hval 1 33 v1 rfl rfl);obtain ⟨fu1,ht1⟩:=a1;obtain ⟨x1,hr1,q1⟩:=Qjt (W:=W) H enc _ _ fu1 _ _ ht1;obtain ⟨A1_0,c1_0,A1_1,c1_1,hcs1,hl1_0,ha1_0,hl1_1,ha1_1⟩:=hr1;obtain rfl:=Qi0 hcs1;obtain ⟨F,hF⟩:=Qat x0 x1 q0 q1;refine (QjV (v:= .bool true) Tryz.func8 rfl (args:=[_,_]) (QaW hl0_0 ha0_0 hl0_1 ha0_1 hl0_2 ha0_2 hl1_0 ha1_0 hl1_1 ha1_1 hF (fun _ _=>rfl))).mono fun e W' ⟨he,hw⟩=> ?_;exact ⟨_,he,QmX (tb:=4) hW' rfl rfl Tryz.underlying4 rfl rfl rfl QnK (by decide +kernel) hw⟩
theorem dispatchBetter_holds:Rows.DispatchBetterSaid :=
 OpenClaim.holds_of_wide 8 Tryz.f8 rfl rfl rfl rfl rfl rfl rfl ⟨rfl,rfl,rfl,rfl,rfl⟩ rfl rfl rfl rfl rfl (by kernel_rfl) Tryz.func8 (by kernel_rfl)
  (of_decide_eq_true (by kernel_rfl)) (by unfold Func.isWrapper;first | (rw[if_pos (by decide +kernel)];kernel_rfl) | (rw[if_neg (by decide +kernel)];exact ⟨rfl,rfl⟩))
  (fun os started H enc _=>QdD os started H enc)
end Go.Proofs.YthpgjbbjpfiniaaGreat
