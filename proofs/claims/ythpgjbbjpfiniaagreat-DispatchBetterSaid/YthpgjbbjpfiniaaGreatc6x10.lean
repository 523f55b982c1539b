/- DispatchBetter: for every input the given law returns true, and its arguments read as before. No condition. -/
import Derived.Test.YthpgjbbjpfiniaaGreatc6x9
import Derived.Test.YthpgjbbjpfiniaaGreatc6x8
namespace Go.Proofs.YthpgjbbjpfiniaaGreat
open Go.RowKit
set_option linter.unusedSimpArgs false
set_option linter.unusedVariables false
def x0 (v:Ve):Vi:=⟨0,v.Depot,0,0,v.Shift.From,0⟩
theorem QgA {p:Pr} {v:Ve} (hv:OkV p.Road.Nodes v):InV p v 0 (x0 v):=by
 have h1:=hv.s0;have h2:=hv.s1;have h3:=hv.s2;have h4:=hv.g0;exact ⟨hv.d0,hv.d1,h1,by simp only[x0];omega,Int.le_refl _,by simp only[x0];omega⟩
def WI (p:Pr) (t:Qa):(Vi×List Vi×Ve)⊕(Int×Int) :=
 if t.Vehicle<0∨((p.Vehicles.length:Nat):Int)≤t.Vehicle then .inr (7,0)
 else if 40<t.Stops.length then .inr (8,0)
 else match p.Vehicles[t.Vehicle.toNat]? with
  | none=> .inr (7,0)
  | some v=>match Vu p v [] t.Stops (x0 v) with
   | .inr q=> .inr (q.1,((q.2:Nat):Int))
   | .inl z=>match QaB p v z.1 with
    | .inr e=> .inr (e,((t.Stops.length:Nat):Int))
    | .inl y=> .inl (z.1,z.2++[y],v)
def Qc5 (p:Pr) (t:Qa):List Vi×Int×Int:=match WI p t with
 | .inl z=>(z.2.1,0,0)
 | .inr q=>([],q.1,q.2)
def Yx (p:Pr) (t:Qa):Int×Int:=match WI p t with
 | .inl z=>(QaF p z.2.2.Depot z.2.1,0)
 | .inr q=>(0,q.1)
theorem V8 {p:Pr} {t:Qa} {q:Int×Int} (h:WI p t= .inr q):q.1≠0:=by
 unfold WI at h
 split at h
 ·injection h with h;subst h;decide
 ·split at h
  ·injection h with h;subst h;decide
  ·split at h
   ·injection h with h;subst h;decide
   ·split at h
    ·rename_i q' hq
     injection h with h;subst h
     exact Qfq _ _ _ _ hq
    ·split at h
     ·rename_i e he
      injection h with h;subst h
      exact QfY he
     ·cases h
theorem Qf2 {p:Pr} {v:Ve} (y:Vi): ∀(rest pre:List Int) (x:Vi) (z:Vi×List Vi),Vu p v pre rest x= .inl z→QaF p x.Node (z.2++[y])=QaF p x.Node z.2+(Y9 p z.1.Node y.Node).Meters
 | [],pre,x,z,h=>by
  injection h with h;subst h
  simp[QaF]
 | s::rest,pre,x,z,h=>by
  unfold Vu at h
  split at h
  ·cases h
  ·split at h
   ·rename_i y' _ z' hz
    injection h with h;subst h
    have:=Qf2 y rest _ _ _ hz
    simp only[List.cons_append,QaF] at this ⊢
    omega
   ·cases h
theorem QhP {p:Pr} (hp:OkP p) (hc:Ql p=some 0) (t:Qa):Wf p t=some (Qc5 p t):=by
 unfold Wf Qc5 WI
 rw[hc]
 simp only[Option.bind_some,decide_true,Bool.not_true,cond_false,Y3]
 by_cases h1:t.Vehicle<0∨((p.Vehicles.length:Nat):Int)≤t.Vehicle
 ·rw[if_pos h1,show (decide (t.Vehicle<0)||decide (((p.Vehicles.length:Nat):Int)≤t.Vehicle))=true by simpa using h1]
  rfl
 ·rw[if_neg h1,show (decide (t.Vehicle<0)||decide (((p.Vehicles.length:Nat):Int)≤t.Vehicle))=false by simpa using h1]
  simp only[cond_false]
  by_cases h2:40<t.Stops.length
  ·rw[if_pos h2,show decide ((40:Int)<((t.Stops.length:Nat):Int))=true by simp;omega]
   rfl
  ·rw[if_neg h2,show decide ((40:Int)<((t.Stops.length:Nat):Int))=false by simp;omega]
   simp only[cond_false]
   obtain ⟨i,hi⟩: ∃i:Nat,t.Vehicle=i:=⟨t.Vehicle.toNat,by omega⟩
   have hd:p.Vehicles[i]? =some p.Vehicles[i]:=List.getElem?_eq_getElem (by omega)
   generalize p.Vehicles[i]=v at hd
   have hv:=hp.ve v (List.mem_of_getElem? hd)
   rw[hi]
   simp only[Qq,hd,Option.bind_some,Int.toNat_natCast]
   have hl:=Qof hp hv (t:=t) (by omega) t.Stops 0 (x0 v) [] (t.Stops.length+1) rfl (Nat.zero_le _) (by simp) (QgA hv) rfl
   rw[List.take_zero] at hl
   have hl2:iter (Zs p t v) (t.Stops.length+1) (0,v.Depot,0,0,v.Shift.From,0,[],0)=_:=hl
   rw[hl2]
   cases hf:Vu p v [] t.Stops (x0 v) with
   | inr q=>rfl
   | inl z =>
    have hz:=Qdd hp hv t.Stops [] _ _ (QgA hv) hf
    simp only[List.length_nil,Nat.zero_add] at hz
    simp only[Option.bind_some,QD,oun,List.nil_append]
    have hh:Vd p v ⟨z.1.Stop,z.1.Node,z.1.Arrive,z.1.Start,z.1.Leave,z.1.Load⟩=_:=Qod hp hv (k:=t.Stops.length) (by omega) hz.1
    rw[hh]
    cases hm:QaB p v z.1 with
    | inr e =>
     simp only[Option.bind_some,oun]
     rw[show decide (e=0)=false by simpa using QfY hm]
     rfl
    | inl y =>
     simp only[Option.bind_some,oun,decide_true,Bool.not_true,cond_false]
     rw[Yh (by simp;omega)]
     rfl
theorem Qe2 {F:Nat} (hF:40000≤F) {p:Pr} (hp:OkP p) (t:Qa):match WI p t with
  | .inl z=> ∃w,Vr F p t=some (some w,0,0)∧w.visits=z.2.1∧w.place.meters=QaF p z.2.2.Depot z.2.1
  | .inr q=>Vr F p t=some (none,q.1,q.2):=by
 unfold Vr WI
 simp only[Option.bind_some,Y3]
 by_cases h1:t.Vehicle<0∨((p.Vehicles.length:Nat):Int)≤t.Vehicle
 ·rw[if_pos h1,show (decide (t.Vehicle<0)||decide (((p.Vehicles.length:Nat):Int)≤t.Vehicle))=true by simpa using h1]
  rfl
 ·rw[if_neg h1,show (decide (t.Vehicle<0)||decide (((p.Vehicles.length:Nat):Int)≤t.Vehicle))=false by simpa using h1]
  simp only[cond_false]
  by_cases h2:40<t.Stops.length
  ·rw[if_pos h2,show decide ((40:Int)<((t.Stops.length:Nat):Int))=true by simp;omega]
   rfl
  ·rw[if_neg h2,show decide ((40:Int)<((t.Stops.length:Nat):Int))=false by simp;omega]
   simp only[cond_false]
   obtain ⟨i,hi⟩: ∃i:Nat,t.Vehicle=i:=⟨t.Vehicle.toNat,by omega⟩
   have hd:p.Vehicles[i]? =some p.Vehicles[i]:=List.getElem?_eq_getElem (by omega)
   generalize p.Vehicles[i]=v at hd
   have hv:=hp.ve v (List.mem_of_getElem? hd)
   rw[hi]
   simp only[Qq,hd,Option.bind_some,Int.toNat_natCast]
   have hl:=Qn7 hF hp hv (t:=t) (by omega) t.Stops 0 (x0 v) ⟨⟨v.Depot,v.Shift.From,0,0⟩,p,v,[],[]⟩ 0 [] (t.Stops.length+1) rfl (Nat.zero_le _) (by simp) (QgA hv) ⟨rfl,rfl,rfl,rfl,fun n L h=>by cases h⟩ rfl (Int.le_refl _) (by simp)
   rw[List.take_zero] at hl
   cases hf:Vu p v [] t.Stops (x0 v) with
   | inr q =>
    rw[hf] at hl
    obtain ⟨w',hw'⟩:=hl
    rw[show ((0:Nat):Int)=(0:Int) from rfl] at hw'
    simp only[hw',Option.bind_some,oun]
    rw[show decide (q.1=0)=false by simpa using Qfq _ _ _ _ hf]
    simp only[cond_false,Option.bind_some,oun]
    rw[show decide (q.1=0)=false by simpa using Qfq _ _ _ _ hf]
    rfl
   | inl z =>
    rw[hf] at hl
    obtain ⟨w',hw',hat⟩:=hl
    rw[show ((0:Nat):Int)=(0:Int) from rfl] at hw'
    have hz:=Qdd hp hv t.Stops [] _ _ (QgA hv) hf
    simp only[List.length_nil,Nat.zero_add] at hz
    simp only[hw',Option.bind_some,oun,decide_true,cond_true]
    have hb:=Qn6 hF hp hv (k:=t.Stops.length) (by omega) hz.1 hat (by simp;omega) (by omega) (by omega);cases hm:QaB p v z.1 with
    | inr e =>
     rw[hm] at hb
     obtain ⟨w2,hw2⟩:=hb
     simp only[hw2,Option.bind_some,oun]
     rw[show decide (e=0)=false by simpa using QfY hm]
     rfl
    | inl y =>
     rw[hm] at hb
     obtain ⟨w2,hw2,g1,g2⟩:=hb
     simp only[hw2,Option.bind_some,oun,decide_true,Bool.not_true,cond_false]
     refine ⟨w2,rfl,by simpa using g1,?_⟩
     rw[g2]
     have h5:=Qf2 y _ _ _ _ hf;have h6:y.Node=v.Depot:=by
      unfold QaB at hm
      repeat' split at hm
      all_goals first | (cases hm;done) | (injection hm with hm;subst hm;rfl)
     rw[h6] at h5
     show 0+QaF p (x0 v).Node z.2+_=QaF p (x0 v).Node (z.2++[y])
     omega
theorem Qcj (p:Pr) (hn:p.Road.Edges.length≤600):(Ql p=some 0∧OkP p)∨ ∃e,e≠0∧Ql p=some e:=by
 obtain ⟨e,he⟩:=Qlx p hn
 by_cases h:e=0
 ·subst h;exact .inl ⟨he,OkP.of hn he⟩
 ·exact .inr ⟨e,h,he⟩
theorem QlX {F:Nat} (hF:40000≤F) {p:Pr} (hp:OkP p) (hc:Ql p=some 0) (hn:p.Road.Edges.length≤600) (t:Qa):Qb1 F p t=some (Qc5 p t):=by
 unfold Qb1 Qc5
 rw[Zq (by omega) p hn,hc]
 simp only[Option.bind_some,decide_true,Bool.not_true,cond_false]
 have:=Qe2 hF hp t;cases h:WI p t with
 | inr q =>
  rw[h] at this
  simp only[this,Option.bind_some,oun]
  rw[show decide (q.1=0)=false by simpa using V8 h]
  rfl
 | inl z =>
  rw[h] at this
  obtain ⟨w,h1,h2,_⟩:=this
  simp only[h1,Option.bind_some,oun,decide_true,Bool.not_true,cond_false,h2]
theorem QoC {F:Nat} (hF:40000≤F) {p:Pr} (hp:OkP p) (hc:Ql p=some 0) (hn:p.Road.Edges.length≤600) (t:Qa):Qc0 F p t=some (Yx p t):=by
 unfold Qc0 Yx
 rw[Zq (by omega) p hn,hc]
 simp only[Option.bind_some,decide_true,Bool.not_true,cond_false]
 have:=Qe2 hF hp t;cases h:WI p t with
 | inr q =>
  rw[h] at this
  simp only[this,Option.bind_some,oun]
  rw[show decide (q.1=0)=false by simpa using V8 h]
  rfl
 | inl z =>
  rw[h] at this
  obtain ⟨w,h1,_,h3⟩:=this
  simp only[h1,Option.bind_some,oun,decide_true,Bool.not_true,cond_false,h3]
theorem Qho {p:Pr} {v:Ve} (hp:OkP p) (hv:OkV p.Road.Nodes v): ∀(rest pre:List Int) (x:Vi) (z:Vi×List Vi),InV p v pre.length x→Vu p v pre rest x= .inl z→ ∀y∈z.2,0≤y.Node∧y.Node<p.Road.Nodes
 | [],pre,x,z,hx,h=>by
  injection h with h;subst h
  intro y hy;cases hy
 | s::rest,pre,x,z,hx,h=>by
  unfold Vu at h
  split at h
  ·cases h
  ·rename_i y hy
   obtain ⟨h1,_,_⟩:=Qef hp hv hx hy
   split at h
   ·rename_i z' hz
    injection h with h;subst h
    have h3:=Qho hp hv rest (pre++[s]) y z' (by simpa using h1) hz;intro u hu;rcases List.mem_cons.1 hu with h4 | h4
    ·subst h4;exact ⟨h1.n0,h1.n1⟩
    ·exact h3 u h4
   ·cases h
theorem Qlt {p:Pr} (hp:OkP p) (L:List Vi) (hL:L.length≤100) (hnd: ∀y∈L,0≤y.Node∧y.Node<p.Road.Nodes): ∀(rest:List Vi) (k:Nat) (sum a:Int) (n:Nat),L.drop k=rest→k≤L.length→rest.length<n→0≤a∧a<p.Road.Nodes→0≤sum→sum≤k*6400000 →
  iter (Ji p L) n (sum,a,(k:Int))=some (sum+QaF p a rest):=by
 intro rest
 induction rest with
 | nil =>
  intro k sum a n hd hk hn ha hs0 hs1;obtain ⟨n,rfl⟩: ∃f,n=f+1:=⟨n-1,by omega⟩
  have hk2:k=L.length:=by
   have:=congrArg List.length hd
   simp at this;omega
  rw[iter]
  simp only[Ji,oun]
  rw[show decide ((k:Int)<((L.length:Nat):Int))=false by simp;omega]
  simp[QaF,QD]
 | cons y rest ih =>
  intro k sum a n hd hk hn ha hs0 hs1;obtain ⟨n,rfl⟩: ∃f,n=f+1:=⟨n-1,by omega⟩
  have h1:L[k]? =some y:=by
   have:(L.drop k)[0]? =some y:=by rw[hd];rfl
   rw[List.getElem?_drop] at this
   simpa using this
  have h3:L.drop (k+1)=rest:=by rw[←List.drop_drop,hd];rfl
  have hkl:=Qr h1;have hy:=hnd y (List.mem_of_getElem? h1);have hl:=JM hp ha hy
  rw[iter]
  simp only[Ji,oun]
  rw[show decide ((k:Int)<((L.length:Nat):Int))=true by simp;omega]
  simp only[cond_true,Qq,h1,Option.bind_some,QgU hp ha hy,QD]
  rw[J6 (by omega),Yc (by omega) (by omega)]
  rw[ih (k+1) _ _ n h3 (by omega) (by simp only[List.length_cons] at hn;omega) hy (by omega) (by omega)]
  simp only[QaF]
  congr 1
  omega
theorem Qea {p:Pr} (hp:OkP p) (hc:Ql p=some 0) (t:Qa):YE p t=some (Yx p t):=by
 unfold YE
 rw[QhP hp hc]
 unfold Qc5 Yx;cases h:WI p t with
 | inr q =>
  simp only[Option.bind_some,oun]
  rw[show decide (q.1=0)=false by simpa using V8 h]
  rfl
 | inl z =>
  simp only[Option.bind_some,oun,decide_true,Bool.not_true,cond_false]
  unfold WI at h
  split at h
  ·cases h
  ·rename_i h1
   split at h
   ·cases h
   ·rename_i h2
    obtain ⟨i,hi⟩: ∃i:Nat,t.Vehicle=i:=⟨t.Vehicle.toNat,by omega⟩
    have hd:p.Vehicles[i]? =some p.Vehicles[i]:=List.getElem?_eq_getElem (by omega)
    generalize p.Vehicles[i]=v at hd
    have hv:=hp.ve v (List.mem_of_getElem? hd)
    rw[hi] at h ⊢
    simp only[Qq,hd,Option.bind_some,Int.toNat_natCast] at h ⊢
    cases hf:Vu p v [] t.Stops (x0 v) with
    | inr q=>rw[hf] at h;cases h
    | inl w =>
     rw[hf] at h
     simp only[] at h
     cases hm:QaB p v w.1 with
     | inr e=>rw[hm] at h;cases h
     | inl y =>
      rw[hm] at h
      injection h with h;subst h
      have hz:=Qdd hp hv t.Stops [] _ _ (QgA hv) hf;have hnn:=Qho hp hv t.Stops [] _ _ (QgA hv) hf
      simp only[List.length_nil,Nat.zero_add] at hz
      have h6:y.Node=v.Depot:=by
       unfold QaB at hm
       repeat' split at hm
       all_goals first | (cases hm;done) | (injection hm with hm;subst hm;rfl)
      have:=Qlt hp (w.2++[y]) (by simp;omega) (fun u hu=>by
       rcases List.mem_append.1 hu with h7 | h7
       ·exact hnn u h7
       ·rw[List.mem_singleton.1 h7,h6];exact ⟨hv.d0,hv.d1⟩) (w.2++[y]) 0 0 v.Depot ((w.2++[y]).length+1) rfl (Nat.zero_le _) (by simp) ⟨hv.d0,hv.d1⟩ (Int.le_refl _) (by simp)
      rw[show ((0:Nat):Int)=(0:Int) from rfl,Int.zero_add] at this
      show Option.bind (iter (Ji p (w.2++[y])) ((w.2++[y]).length+1) (0,v.Depot,0)) _=_
      rw[this]
      rfl
end Go.Proofs.YthpgjbbjpfiniaaGreat
namespace Go.Proofs.YthpgjbbjpfiniaaGreat
open Go.RowKit
set_option linter.unusedSimpArgs false
set_option linter.unusedVariables false
structure Fol (p:Pr) (t:Qa) (v:Ve) (z:Vi×List Vi) (y:Vi):Prop where
 t0:0≤t.Vehicle
 t1:t.Vehicle<((p.Vehicles.length:Nat):Int)
 sl:t.Stops.length≤40
 hv:getI p.Vehicles t.Vehicle=some v
 fol:Vu p v [] t.Stops (x0 v)= .inl z
 hom:QaB p v z.1= .inl y
theorem QfH {p:Pr} {t:Qa} {u:Vi×List Vi×Ve} (h:WI p t= .inl u): ∃z y,Fol p t u.2.2 z y∧u.1=z.1∧u.2.1=z.2++[y]:=by
 unfold WI at h
 split at h
 ·cases h
 ·rename_i h1
  split at h
  ·cases h
  ·rename_i h2
   split at h
   ·cases h
   ·rename_i v hv
    split at h
    ·cases h
    ·rename_i z hf
     split at h
     ·cases h
     ·rename_i y hm
      injection h with h;subst h
      exact ⟨z,y,⟨by omega,by omega,by omega,by unfold getI;rw[if_pos (by omega)];exact hv,hf,hm⟩,rfl,rfl⟩
end Go.Proofs.YthpgjbbjpfiniaaGreat
namespace Go.Proofs.YthpgjbbjpfiniaaGreat
open Go.RowKit
set_option linter.unusedSimpArgs false
set_option linter.unusedVariables false
def vec (n:Nat) (f:Nat→Nat):List Int:=(List.range n).map fun d=>((f d:Nat):Int)
theorem VB (n:Nat) (f:Nat→Nat):(vec n f).length=n:=by simp[vec]
theorem QfK {n i:Nat} (f:Nat→Nat) (h:i<n):(vec n f)[i]? =some ((f i:Nat):Int):=by simp[vec,h]
theorem QbT {n:Nat} {f g:Nat→Nat} (h: ∀d,d<n→f d=g d):vec n f=vec n g:=by
 unfold vec;apply List.map_congr_left;intro d hd
 rw[h d (List.mem_range.1 hd)]
theorem Qpa {n i:Nat} (f:Nat→Nat) (h:i<n) (hb:f i<1000000):Yg (vec n f) (i:Int) (w64 (((f i:Nat):Int)+1))=vec n (fun d=>f d+if d=i then 1 else 0):=by
 rw[Yc (by omega) (by omega)]
 apply List.ext_getElem?;intro j;unfold Yg
 rw[Int.toNat_natCast,List.getElem?_set]
 rcases Nat.lt_or_ge j n with hj | hj
 ·rw[QfK _ hj,QfK _ hj,VB]
  by_cases hij:i=j
  ·subst hij;simp[h]
  ·have: ¬j=i:=fun e=>hij e.symm
   simp[hij,this]
 ·rw[List.getElem?_eq_none (by rw[VB];exact hj),List.getElem?_eq_none (by rw[VB];exact hj)]
  split
  ·omega
  ·rfl
theorem QdW (n:Nat) (h:n≤1000):QbD (0:Int) ((n:Nat):Int)=some (vec n fun _=>0):=by
 unfold QbD
 rw[if_pos (by omega)]
 congr 1
 apply List.ext_getElem?;intro j
 rw[Int.toNat_natCast]
 rcases Nat.lt_or_ge j n with hj | hj
 ·rw[QfK _ hj,List.getElem?_replicate,if_pos hj];rfl
 ·rw[List.getElem?_eq_none (by simp;exact hj),List.getElem?_eq_none (by rw[VB];exact hj)]
def cn (L:List Int) (d:Nat):Nat:=L.count (d:Int)
theorem Ql2 (L:List Int) (s:Int) (d:Nat):cn (L++[s]) d=cn L d+if s=(d:Int) then 1 else 0:=by
 unfold cn
 rw[List.count_append,List.count_singleton]
 simp
theorem Qiu (L:List Int) (d:Nat):cn L d≤L.length:=List.count_le_length
def okS (n:Nat) (s:Int):Prop:=s= -1∨(0≤s∧s<(n:Int))
theorem QfL {n:Nat} {L:List Int} {k:Nat} {s:Int} (f:Nat→Nat) (hs:L[k]? =some s) (h0:0≤s) (h1:s<(n:Int)) (hb:f s.toNat+L.length<1000000) :
  getI (vec n fun d=>f d+cn (L.take k) d) s=some ((f s.toNat+cn (L.take k) s.toNat:Nat):Int)∧Yg (vec n fun d=>f d+cn (L.take k) d) s (w64 (((f s.toNat+cn (L.take k) s.toNat:Nat):Int)+1))=vec n fun d=>f d+cn (L.take (k+1)) d:=by
 obtain ⟨i,rfl⟩: ∃i:Nat,s=i:=⟨s.toNat,by omega⟩
 have hc:=Qiu (L.take k) i;have hk:=Qr hs
 rw[Yi (Nat.le_of_lt hk)] at hc
 rw[Int.toNat_natCast] at *
 refine ⟨by rw[Qq,QfK _ (by omega)],?_⟩
 rw[Qpa (fun d=>f d+cn (L.take k) d) (by omega) (by show f i+cn (L.take k) i<1000000;omega)]
 refine QbT fun d _=> ?_
 rw[Yw hs,Ql2]
 by_cases h:d=i
 ·subst h;simp;omega
 ·have: ¬((i:Int)=(d:Int)):=by omega
  simp[h,this]
theorem Ql1 {L:List Int} {k:Nat} {s:Int} (hs:L[k]? =some s) (h0:s<0) (f:Nat→Nat) (n:Nat):(vec n fun d=>f d+cn (L.take (k+1)) d)=vec n fun d=>f d+cn (L.take k) d:=by
 refine QbT fun d _=> ?_
 rw[Yw hs,Ql2,if_neg (by omega)]
 rfl
theorem QlN {n:Nat} (t:Qa) (f:Nat→Nat) (hn:t.Stops.length≤1000) (hf: ∀d,f d≤900000) (ho: ∀s∈t.Stops,okS n s) :
  iter (Qab t) (((t.Stops.length:Nat):Int).toNat+1) (vec n f,0)=some (vec n fun d=>f d+cn t.Stops d) ∧
  iter (ZI t) (((t.Stops.length:Nat):Int).toNat+1) (vec n f,0)=some (vec n fun d=>f d+cn t.Stops d):=by
 have hz:(vec n fun d=>f d+cn (t.Stops.take 0) d)=vec n f:=QbT fun d _=>by simp[cn]
 have hx:(vec n fun d=>f d+cn (t.Stops.take t.Stops.length) d)=vec n fun d=>f d+cn t.Stops d:=by rw[List.take_length]
 constructor
 ·have:=YG (body:=Qab t) t.Stops (fun k=>vec n fun d=>f d+cn (t.Stops.take k) d) (fun m k=>(m,k)) (fun _ _=>none) (vec n fun d=>f d+cn t.Stops d) (by omega) (fun k s hs _=> ?_) (fun _=>by simp only[Qab,oun,hx];simp) (((t.Stops.length:Nat):Int).toNat+1) (by simp)
  ·rw[QP _ _ (fun _ _ _=>rfl),hz] at this
   exact this
  ·have hk:=Qr hs;have hk2:((k:Int)<(t.Stops.length:Nat)):=by omega
   simp only[Qab,oun,hk2,decide_true,cond_true,Qq,hs,Option.bind_some,ZU]
   rcases ho s (List.mem_of_getElem? hs) with h1 | ⟨h1,h2⟩
   ·simp only[h1,decide_true,Bool.not_true,cond_false,Option.bind_some]
    rw[Ql1 hs (by omega)]
   ·rw[show decide (s= -1)=false by simp;omega]
    obtain ⟨g1,g2⟩:=QfL f hs h1 h2 (by have:=hf s.toNat;omega)
    simp only[Bool.not_false,cond_true,g1,Option.bind_some,g2]
 ·have:=YG (body:=ZI t) t.Stops (fun k=>vec n fun d=>f d+cn (t.Stops.take k) d) (fun m k=>(m,k)) (fun _ _=>none) (vec n fun d=>f d+cn t.Stops d) (by omega) (fun k s hs _=> ?_) (fun _=>by simp only[ZI,oun,hx];simp) (((t.Stops.length:Nat):Int).toNat+1) (by simp)
  ·rw[QP _ _ (fun _ _ _=>rfl),hz] at this
   exact this
  ·have hk:=Qr hs;have hk2:((k:Int)<(t.Stops.length:Nat)):=by omega
   simp only[ZI,oun,hk2,decide_true,cond_true,Qq,hs,Option.bind_some,ZU]
   rcases ho s (List.mem_of_getElem? hs) with h1 | ⟨h1,h2⟩
   ·rw[show decide (0≤s)=false by simp;omega]
    simp only[cond_false,Option.bind_some]
    rw[Ql1 hs (by omega)]
   ·rw[show decide (0≤s)=true by simpa using h1]
    obtain ⟨g1,g2⟩:=QfL f hs h1 h2 (by have:=hf s.toNat;omega)
    simp only[cond_true,g1,Option.bind_some,g2]
end Go.Proofs.YthpgjbbjpfiniaaGreat
namespace Go.Proofs.YthpgjbbjpfiniaaGreat
open Go.RowKit
set_option linter.unusedSimpArgs false
set_option linter.unusedVariables false
abbrev To:=Qa
def tn (ts:List To) (d:Nat):Nat:=(ts.map fun t=>cn t.Stops d).sum
theorem Qo9 (ts:List To) (t:To) (d:Nat):tn (ts++[t]) d=tn ts d+cn t.Stops d:=by simp[tn]
theorem Qpj {ts:List To} (h: ∀t∈ts,t.Stops.length≤1000) (d:Nat):tn ts d≤ts.length*1000:=by
 induction ts with
 | nil=>simp[tn]
 | cons t ts ih =>
  have h1:=ih fun u hu=>h u (List.mem_cons_of_mem _ hu);have h2:=Qiu t.Stops d;have h3:=h t List.mem_cons_self
  simp only[tn,List.map_cons,List.sum_cons,List.length_cons] at h1 ⊢
  omega
theorem Qcd {n:Nat} (x:Qg) (f:Nat→Nat) (hn:x.Tours.length≤100) (hf: ∀d,f d≤1000) (hl: ∀t∈x.Tours,t.Stops.length≤1000) (ho: ∀t∈x.Tours,∀s∈t.Stops,okS n s) :
  iter (Qac x) (((x.Tours.length:Nat):Int).toNat+1) (vec n f,0)=some (vec n fun d=>f d+tn x.Tours d) ∧
  iter (ZJ x) (((x.Tours.length:Nat):Int).toNat+1) (vec n f,0)=some (vec n fun d=>f d+tn x.Tours d):=by
 have hz:(vec n fun d=>f d+tn (x.Tours.take 0) d)=vec n f:=QbT fun d _=>by simp[tn]
 have hx:(vec n fun d=>f d+tn (x.Tours.take x.Tours.length) d)=vec n fun d=>f d+tn x.Tours d:=by rw[List.take_length]
 have hstep: ∀(k:Nat) (t:To),x.Tours[k]? =some t→_:=fun k t ht=>QlN (n:=n) t (fun d=>f d+tn (x.Tours.take k) d) (hl t (List.mem_of_getElem? ht)) (fun d=>by
  have h1:=hf d;have h2:=Qpj (ts:=x.Tours.take k) (fun u hu=>hl u (List.mem_of_mem_take hu)) d;have h3:=Yi (Nat.le_of_lt (Qr ht));have h4:=Qr ht
  omega) (ho t (List.mem_of_getElem? ht))
 have hnext: ∀(k:Nat) (t:To),x.Tours[k]? =some t→(vec n fun d=>f d+tn (x.Tours.take k) d+cn t.Stops d)=vec n fun d=>f d+tn (x.Tours.take (k+1)) d:=fun k t ht=>QbT fun d _=>by
  rw[Yw ht,Qo9];omega
 constructor
 ·have:=YG (body:=Qac x) x.Tours (fun k=>vec n fun d=>f d+tn (x.Tours.take k) d) (fun m k=>(m,k)) (fun _ _=>none) (vec n fun d=>f d+tn x.Tours d) (by omega) (fun k t ht _=> ?_) (fun _=>by simp only[Qac,oun,hx];simp) (((x.Tours.length:Nat):Int).toNat+1) (by simp)
  ·rw[QP _ _ (fun _ _ _=>rfl),hz] at this
   exact this
  ·have hk:=Qr ht;have hk2:((k:Int)<(x.Tours.length:Nat)):=by omega
   simp only[Qac,oun,hk2,decide_true,cond_true,Qq,ht,Option.bind_some,ZU]
   rw[(hstep k t ht).1]
   simp only[Option.bind_some,hnext k t ht]
 ·have:=YG (body:=ZJ x) x.Tours (fun k=>vec n fun d=>f d+tn (x.Tours.take k) d) (fun m k=>(m,k)) (fun _ _=>none) (vec n fun d=>f d+tn x.Tours d) (by omega) (fun k t ht _=> ?_) (fun _=>by simp only[ZJ,oun,hx];simp) (((x.Tours.length:Nat):Int).toNat+1) (by simp)
  ·rw[QP _ _ (fun _ _ _=>rfl),hz] at this
   exact this
  ·have hk:=Qr ht;have hk2:((k:Int)<(x.Tours.length:Nat)):=by omega
   simp only[ZJ,oun,hk2,decide_true,cond_true,Qq,ht,Option.bind_some,ZU]
   rw[(hstep k t ht).2]
   simp only[Option.bind_some,hnext k t ht]
def QeN (n:Nat) (L:List Int):Bool:=L.any fun s=>decide (s<0)||decide ((n:Int)≤s)
theorem QcS {n:Nat} (x:Qg) (f:Nat→Nat) (hn:x.Left.length≤1000) (hf: ∀d,f d≤500000) :
  iter (Qaa x) (((x.Left.length:Nat):Int).toNat+1) (vec n f,0)=some (bif QeN n x.Left then .inr (0,7) else .inl (vec n fun d=>f d+cn x.Left d)) ∧
  iter (ZK x) (((x.Left.length:Nat):Int).toNat+1) (vec n f,0)=some (bif QeN n x.Left then .inr ([],7) else .inl (vec n fun d=>f d+cn x.Left d)):=by
 have hz:(vec n fun d=>f d+cn (x.Left.take 0) d)=vec n f:=QbT fun d _=>by simp[cn]
 have hx:(vec n fun d=>f d+cn (x.Left.take x.Left.length) d)=vec n fun d=>f d+cn x.Left d:=by rw[List.take_length]
 constructor
 ·have:=YG (body:=Qaa x) x.Left (fun k=>vec n fun d=>f d+cn (x.Left.take k) d) (fun m k=>(m,k)) (fun _ s=>bif decide (s<0)||decide ((n:Int)≤s) then some (.inr (0,7)) else none) (.inl (vec n fun d=>f d+cn x.Left d)) (by omega) (fun k s hs _=> ?_) (fun _=>by simp only[Qaa,oun,hx];simp) (((x.Left.length:Nat):Int).toNat+1) (by simp)
  ·rw[QjP,hz] at this
   exact this
  ·have hk:=Qr hs;have hk2:((k:Int)<(x.Left.length:Nat)):=by omega
   simp only[Qaa,oun,hk2,decide_true,cond_true,Qq,hs,Option.bind_some,Y3,VB]
   cases hb:(decide (s<0)||decide ((n:Int)≤s)) with
   | true=>rfl
   | false =>
    simp only[Bool.or_eq_false_iff,decide_eq_false_iff_not] at hb
    obtain ⟨g1,g2⟩:=QfL (n:=n) f hs (by omega) (by omega) (by have:=hf s.toNat;omega)
    simp only[cond_false,g1,Option.bind_some,g2,ZU]
 ·have:=YG (body:=ZK x) x.Left (fun k=>vec n fun d=>f d+cn (x.Left.take k) d) (fun m k=>(m,k)) (fun _ s=>bif decide (s<0)||decide ((n:Int)≤s) then some (.inr ([],7)) else none) (.inl (vec n fun d=>f d+cn x.Left d)) (by omega) (fun k s hs _=> ?_) (fun _=>by simp only[ZK,oun,hx];simp) (((x.Left.length:Nat):Int).toNat+1) (by simp)
  ·rw[QjP,hz] at this
   exact this
  ·have hk:=Qr hs;have hk2:((k:Int)<(x.Left.length:Nat)):=by omega
   simp only[ZK,oun,hk2,decide_true,cond_true,Qq,hs,Option.bind_some,Y3,VB]
   cases hb:(decide (s<0)||decide ((n:Int)≤s)) with
   | true=>rfl
   | false =>
    simp only[Bool.or_eq_false_iff,decide_eq_false_iff_not] at hb
    obtain ⟨g1,g2⟩:=QfL (n:=n) f hs (by omega) (by omega) (by have:=hf s.toNat;omega)
    simp only[cond_false,g1,Option.bind_some,g2,ZU]
def QgB (L:List Int):Int:=bif L.any (fun c=>decide (1<c)) then 6 else bif L.any (fun c=>decide (c=0)) then 38 else 0
theorem QgR (L:List Int) (hn:L.length≤1000):Zd L=some (L.any fun c=>decide (1<c)):=by
 unfold Zd JQ;have:=YD (body:=Ze L) L (fun k y=>bif decide (1<y) then some (.inr (k:Int)) else none) (.inl ():Unit⊕Int) (by omega) (fun k y hy=> ?_) (by simp[Ze]) (((L.length:Nat):Int).toNat+1) (by simp)
 ·rw[this]
  rcases QjQ (fun y:Int=>decide (1<y)) L 0 with ⟨h1,h2⟩ | ⟨j,h1,h2⟩
  ·rw[h1,h2];rfl
  ·rw[h1,h2]
   simp only[Option.bind_some,QD]
   simp
 ·have hk:=Qr hy;have hk2:((k:Int)<(L.length:Nat)):=by omega
  simp only[Ze,hk2,decide_true,cond_true,Qq,hy,Option.bind_some,Qcv]
  cases decide (1<y)<;>rfl
theorem QgV (L:List Int) (hn:L.length≤1000):Yu L 0=some (L.any fun c=>decide (c=0)):=by
 rw[Qcl L hn]
 congr 1
 rw[Bool.eq_iff_iff]
 simp only[List.any_eq_true,decide_eq_true_eq]
 exact ⟨fun h=>⟨0,h,rfl⟩,fun ⟨y,h1,h2⟩=>h2▸h1⟩
theorem QmS (L:List Int) (hn:L.length≤1000):iter (Zo L) (((L.length:Nat):Int).toNat+1) (false,0)=some (bif L.any (fun c=>decide (1<c)) then .inr 6 else .inl (L.any fun c=>decide (c=0))):=by
 have:=YG (body:=Zo L) L (fun k=>(L.take k).any fun c=>decide (c=0)) (fun m k=>(m,k)) (fun _ c=>bif decide (1<c) then some (.inr 6) else none) (.inl (L.any fun c=>decide (c=0))) (by omega) (fun k c hc _=> ?_) (fun _=>by simp only[Zo,oun,List.take_length];simp) (((L.length:Nat):Int).toNat+1) (by simp)
 ·rw[QjP] at this
  simpa using this
 ·have hk:=Qr hc;have hk2:((k:Int)<(L.length:Nat)):=by omega
  simp only[Zo,oun,hk2,decide_true,cond_true,Qq,hc,Option.bind_some]
  rw[Yw hc,List.any_append]
  cases h1:decide (1<c) with
  | true=>rfl
  | false =>
   simp only[cond_false]
   cases (L.take k).any fun c=>decide (c=0)
   ·simp[QD,ZU]
   ·simp[QD,ZU]
end Go.Proofs.YthpgjbbjpfiniaaGreat
namespace Go.Proofs.YthpgjbbjpfiniaaGreat
open Go.RowKit
set_option linter.unusedSimpArgs false
set_option linter.unusedVariables false
theorem QlM {p:Pr} {v:Ve} {pre:List Int} {x y:Vi} {s:Int} (hs:Qam p v pre x s= .inl y):okS p.Demands.length s:=by
 unfold Qam at hs;unfold okS
 split at hs
 ·exact .inl (by assumption)
 ·split at hs
  ·cases hs
  ·exact .inr (by omega)
theorem Qhp {p:Pr} {v:Ve}: ∀(rest pre:List Int) (x:Vi) (z:Vi×List Vi),Vu p v pre rest x= .inl z→ ∀s∈rest,okS p.Demands.length s
 | [],_,_,_,_,s,hs=>by cases hs
 | a::rest,pre,x,z,h,s,hs=>by
  unfold Vu at h
  split at h
  ·cases h
  ·rename_i y hy
   split at h
   ·rename_i z' hz
    rcases List.mem_cons.1 hs with h1 | h1
    ·subst h1;exact QlM hy
    ·exact Qhp rest _ _ _ hz s h1
   ·cases h
theorem Vt {p:Pr} (hp:OkP p) {t:Qa} {u:Vi×List Vi×Ve} (h:WI p t= .inl u):0≤QaF p u.2.2.Depot u.2.1∧QaF p u.2.2.Depot u.2.1≤262400000∧(∀s∈t.Stops,okS p.Demands.length s)∧t.Stops.length≤40:=by
 obtain ⟨z,y,hf,_,e2⟩:=QfH h;have hv:=hp.ve u.2.2 (by
  have:=hf.hv;unfold getI at this
  rw[if_pos hf.t0] at this
  exact List.mem_of_getElem? this)
 have hz:=Qdd hp hv t.Stops [] _ _ (QgA hv) hf.fol;have hm:=Qf2 y _ _ _ _ hf.fol;have hsl:=hf.sl;have h6:y.Node=u.2.2.Depot:=by
  have hom:=hf.hom;unfold QaB at hom
  repeat' split at hom
  all_goals first | (cases hom;done) | (injection hom with hom;subst hom;rfl)
 have hlb:=JM hp ⟨hz.1.n0,hz.1.n1⟩ ⟨hv.d0,hv.d1⟩
 rw[h6] at hm
 rw[e2]
 refine ⟨?_,?_,Qhp _ _ _ _ hf.fol,hf.sl⟩
 ·show 0≤QaF p (x0 u.2.2).Node (z.2++[y])
  omega
 ·show QaF p (x0 u.2.2).Node (z.2++[y])≤262400000
  omega
def QcH (p:Pr) (ts:List To) (k:Nat) (t:To):Option Int:=bif (ts.take k).any (fun u=>decide (u.Vehicle=t.Vehicle)) then some 6 else match WI p t with
 | .inl _=>none
 | .inr q=>some q.1
def YF (p:Pr) (ts:List To):Int:=Qan (fun t=>(Yx p t).1) ts
theorem Qin (L:List To) (hn:L.length≤1000) (x:To):Y1 L x=some (L.any fun y=>decide (y.Vehicle=x.Vehicle)):=by
 unfold Y1 JC;have:=YD (body:=Y2 L x) L (fun k y=>bif decide (y.Vehicle=x.Vehicle) then some (.inr (k:Int)) else none) (.inl ():Unit⊕Int) (by omega) (fun k y hy=> ?_) (by simp[Y2]) (((L.length:Nat):Int).toNat+1) (by simp)
 ·rw[this]
  rcases QjQ (fun y:To=>decide (y.Vehicle=x.Vehicle)) L 0 with ⟨h1,h2⟩ | ⟨j,h1,h2⟩
  ·rw[h1,h2];rfl
  ·rw[h1,h2]
   simp only[Option.bind_some,QD]
   simp
 ·have hk:=Qr hy;have hk2:((k:Int)<(L.length:Nat)):=by omega
  simp only[Y2,hk2,decide_true,cond_true,Qq,hy,Option.bind_some,Qcu]
  cases decide (y.Vehicle=x.Vehicle)<;>rfl
theorem QcI {p:Pr} {ts:List To} {k:Nat} {t:To} (h:QcH p ts k t=none): ∃u,WI p t= .inl u:=by
 unfold QcH at h;cases hb:(ts.take k).any (fun u=>decide (u.Vehicle=t.Vehicle)) with
 | true=>rw[hb] at h;cases h
 | false =>
  rw[hb] at h
  cases hr:WI p t with
  | inl u=>exact ⟨u,rfl⟩
  | inr q=>rw[hr] at h;cases h
theorem QeP {p:Pr} (hp:OkP p) {ts:List To}: ∀(k:Nat),k≤ts.length→(∀(j:Nat) (y:To),j<k→ts[j]? =some y→QcH p ts j y=none)→0≤YF p (ts.take k)∧YF p (ts.take k)≤k*262400000
 | 0,_,_=>by simp[YF,Qan]
 | k+1,hk,h=>by
  have h1:=QeP hp k (by omega) fun j y hj=>h j y (by omega);have hx:ts[k]? =some ts[k]:=List.getElem?_eq_getElem (by omega);obtain ⟨u,hu⟩:=QcI (h k _ (by omega) hx);have h2:=Vt hp hu;have h3:(Yx p ts[k]).1=QaF p u.2.2.Depot u.2.1:=by unfold Yx;rw[hu]
  rw[Yw hx]
  unfold YF at h1 ⊢
  rw[QbS]
  have h4:Qan (fun t=>(Yx p t).1) [ts[k]]=(Yx p ts[k]).1:=by simp[Qan]
  rw[h4]
  omega
theorem Qer {F:Nat} (hF:40000≤F) {p:Pr} (hp:OkP p) (x:Qg) (hn:x.Tours.length≤30) :
  iter (V9 F p x) (((x.Tours.length:Nat):Int).toNat+1) (0,0)=some (YA (fun k t=>(QcH p x.Tours k t).map fun c=> .inr (0,c)) (.inl (YF p x.Tours)) 0 x.Tours):=by
 have:=YG (body:=V9 F p x) x.Tours (fun k=>YF p (x.Tours.take k)) (fun m k=>(m,k)) (fun k t=>(QcH p x.Tours k t).map fun c=> .inr (0,c)) (.inl (YF p x.Tours)) (by omega) (fun k t ht hno=> ?_) (fun _=>by simp[V9,oun]) (((x.Tours.length:Nat):Int).toNat+1) (by simp)
 ·exact this
 ·have hk:=Qr ht;have hk2:((k:Int)<(x.Tours.length:Nat)):=by omega
  have hb:=QeP hp k (Nat.le_of_lt hk) (fun j y hj hy=>by
   have:=hno j y hj hy;cases h:QcH p x.Tours j y with
   | none=>rfl
   | some c=>rw[h] at this;cases this)
  simp only[V9,oun,hk2,decide_true,cond_true,Qq,ht,Option.bind_some,VJ (Nat.le_of_lt hk)]
  rw[Qin _ (by simp;omega)]
  simp only[Option.bind_some]
  unfold QcH;cases (x.Tours.take k).any (fun u=>decide (u.Vehicle=t.Vehicle)) with
  | true=>rfl
  | false =>
   simp only[cond_false]
   have hfo:=Qe2 hF hp t;cases hr:WI p t with
   | inr q =>
    rw[hr] at hfo
    simp only[hfo,Option.bind_some]
    rw[show decide (q.1=0)=false by simpa using V8 hr]
    rfl
   | inl u =>
    rw[hr] at hfo
    obtain ⟨w,h1,_,h3⟩:=hfo;have h2:=Vt hp hr;have h4:(Yx p t).1=QaF p u.2.2.Depot u.2.1:=by unfold Yx;rw[hr]
    simp only[h1,Option.bind_some,decide_true,Bool.not_true,cond_false,h3,Option.map_none,ZU]
    rw[Yc (n:=YF p (x.Tours.take k)+QaF p u.2.2.Depot u.2.1) (by omega) (by omega),Yw ht]
    unfold YF
    rw[QbS]
    have h5:Qan (fun t=>(Yx p t).1) [t]=(Yx p t).1:=by simp[Qan]
    rw[h5,h4]
theorem Ql5 {p:Pr} (hp:OkP p) (hc:Ql p=some 0) (x:Qg) (hn:x.Tours.length≤30) :
  iter (Zn p x) (((x.Tours.length:Nat):Int).toNat+1) 0=some (YA (fun k t=>(QcH p x.Tours k t).map fun c=> .inr c) (.inl ()) 0 x.Tours):=by
 refine YD (body:=Zn p x) x.Tours (fun k t=>(QcH p x.Tours k t).map fun c=> .inr c) (.inl ()) (by omega) (fun k t ht=> ?_) (by simp[Zn]) (((x.Tours.length:Nat):Int).toNat+1) (by simp);have hk:=Qr ht;have hk2:((k:Int)<(x.Tours.length:Nat)):=by omega
 have hin:=YD (body:=Jj x (k:Int) t) (x.Tours.take k) (fun _ u=>bif decide (u.Vehicle=t.Vehicle) then some (.inr 6) else none) (.inl ():Unit⊕Int) (by simp;omega) (fun j u hu=>by
  have hj:=Qr hu
  rw[Yi (Nat.le_of_lt hk)] at hj
  rw[List.getElem?_take,if_pos hj] at hu
  have hj2:((j:Int)<(k:Int)):=by omega
  simp only[Jj,hj2,decide_true,cond_true,Qq,hu,Option.bind_some]
  cases decide (u.Vehicle=t.Vehicle)<;>rfl) (by rw[Yi (Nat.le_of_lt hk)];simp[Jj]) ((k:Int).toNat+1) (by rw[Yi (Nat.le_of_lt hk)];omega)
 rw[QjP] at hin
 simp only[Zn,hk2,decide_true,cond_true,Qq,ht,Option.bind_some]
 rw[hin]
 unfold QcH;cases (x.Tours.take k).any (fun u=>decide (u.Vehicle=t.Vehicle)) with
 | true=>rfl
 | false =>
  simp only[cond_false,Option.bind_some,QD,QhP hp hc]
  unfold Qc5;cases hr:WI p t with
  | inr q =>
   simp only[oun]
   rw[show decide (q.1=0)=false by simpa using V8 hr]
   rfl
  | inl u=>rfl
end Go.Proofs.YthpgjbbjpfiniaaGreat
namespace Go.Proofs.YthpgjbbjpfiniaaGreat
open Go.RowKit
set_option linter.unusedSimpArgs false
set_option linter.unusedVariables false
theorem QeX {α γ:Type} (g:Nat→α→Option γ): ∀(l:List α) (k:Nat),(∀(i:Nat) (x:α),l[i]? =some x→g (k+i) x=none) ∨
  ∃(c:γ) (i:Nat) (x:α),g i x=some c∧ ∀{ρ:Type} (h:γ→ρ) (fin:ρ),YA (fun k t=>(g k t).map h) fin k l=h c
 | [],k=> .inl fun i x h=>by simp at h
 | y::l,k=>by
  cases hg:g k y with
  | some c=>exact .inr ⟨c,k,y,hg,fun h fin=>by simp only[YA,hg,Option.map_some]⟩
  | none =>
   rcases QeX g l (k+1) with h1 | ⟨c,i,x,h1,h2⟩
   ·refine .inl fun i x hx=> ?_;cases i with
    | zero=>simp at hx;subst hx;exact hg
    | succ i=>have:=h1 i x (by simpa using hx);rwa [show k+(i+1)=k+1+i by omega]
   ·exact .inr ⟨c,i,x,h1,fun h fin=>by simp only[YA,hg,Option.map_none];exact h2 h fin⟩
theorem QjT {p:Pr} {ts:List To} {k:Nat} {t:To} {c:Int} (h:QcH p ts k t=some c):c≠0:=by
 unfold QcH at h;cases hb:(ts.take k).any (fun u=>decide (u.Vehicle=t.Vehicle)) with
 | true=>rw[hb] at h;injection h with h;subst h;decide
 | false =>
  rw[hb] at h
  simp only[cond_false] at h
  cases hr:WI p t with
  | inl u=>rw[hr] at h;cases h
  | inr q=>rw[hr] at h;injection h with h;subst h;exact V8 hr
theorem QgX (x:Qg):(∃b,Y7 x=some b)∧(Y7 x=some false→x.Tours.length≤30∧x.Left.length≤100):=by
 unfold Y7
 simp only[Y3,Option.bind_some]
 by_cases h:(decide ((30:Int)<((x.Tours.length:Nat):Int))||decide ((100:Int)<((x.Left.length:Nat):Int)))=true
 ·rw[h]
  exact ⟨⟨true,rfl⟩,fun e=>by cases e⟩
 ·rw[Bool.not_eq_true] at h
  rw[h]
  simp only[Bool.or_eq_false_iff,decide_eq_false_iff_not] at h
  obtain ⟨o,ho⟩:=Qbd (body:=Zc x) (N:=x.Tours.length) (by omega) (fun k hk=>by
   obtain ⟨t,ht⟩: ∃t,x.Tours[k]? =some t:=⟨_,List.getElem?_eq_getElem hk⟩
   have hk2:((k:Int)<((x.Tours.length:Nat):Int)):=by omega
   simp only[Zc,hk2,decide_true,cond_true,Qq,ht,Option.bind_some,J6 (show k<9223372036854775807 by omega)]
   cases decide ((100:Int)<((t.Stops.length:Nat):Int)) with
   | true=>exact .inl ⟨_,rfl⟩
   | false=>exact .inr rfl) ⟨_,by simp[Zc];rfl⟩ x.Tours.length 0 (by omega)
  refine ⟨?_,fun _=>by omega⟩
  simp only[cond_false]
  rw[show (((x.Tours.length:Nat):Int).toNat+1)=x.Tours.length+1 by simp,show (0:Int)=((0:Nat):Int) from rfl,ho]
  cases o with
  | inl u=>exact ⟨false,rfl⟩
  | inr b=>exact ⟨b,rfl⟩
theorem QmW {F:Nat} (hF:40000≤F) {p:Pr} (hn:p.Road.Edges.length≤600) (x:Qg) (hx:x.Tours.length≤30) (hl:x.Left.length≤100) :
  ∃s e,YT F p x=some (s,e)∧QN p x=some e∧Yd p x=some (s,e):=by
 rcases Qcj p hn with ⟨g1,g2⟩ | ⟨e,g1,g2⟩
 ·have hdl:=g2.dl;have ht: ∀e,QN p x=some e→e≠0→Yd p x=some (0,e):=fun e he h0=>by
   unfold Yd
   rw[he]
   simp only[Option.bind_some]
   rw[show decide (e=0)=false by simpa using h0]
   rfl
  rcases QeX (QcH p x.Tours) x.Tours 0 with h1 | ⟨c,i,t,h1,h2⟩
  ·simp only[Nat.zero_add] at h1
   have hall: ∀t∈x.Tours,(∀s∈t.Stops,okS p.Demands.length s)∧t.Stops.length≤40:=fun t htm=>by
    obtain ⟨i,hi⟩:=List.getElem?_of_mem htm;obtain ⟨u,hu⟩:=QcI (h1 i t hi);exact (Vt g2 hu).2.2
   have q1:=Qer hF g2 x hx
   rw[QP _ _ (fun i t hi=>by rw[Nat.zero_add,h1 i t hi];rfl)] at q1
   have q2:=Ql5 g2 g1 x hx
   rw[QP _ _ (fun i t hi=>by rw[Nat.zero_add,h1 i t hi];rfl)] at q2
   have q3:=(QcS (n:=p.Demands.length) x (fun _=>0) (by omega) (fun _=>Nat.zero_le _)).1;have q4:=(Qcd (n:=p.Demands.length) x (fun d=>0+cn x.Left d) (by omega) (fun d=>by have:=Qiu x.Left d;omega) (fun t htm=>by have:=(hall t htm).2;omega) (fun t htm=>(hall t htm).1)).1;have q5:=(Qcd (n:=p.Demands.length) x (fun _=>0) (by omega) (fun d=>by omega) (fun t htm=>by have:=(hall t htm).2;omega) (fun t htm=>(hall t htm).1)).2;have q6:=(QcS (n:=p.Demands.length) x (fun d=>0+tn x.Tours d) (by omega) (fun d=>by have:=Qpj (ts:=x.Tours) (fun t htm=>by have:=(hall t htm).2;omega) d;omega)).2;have q7:(vec p.Demands.length fun d=>0+tn x.Tours d+cn x.Left d)=vec p.Demands.length fun d=>0+cn x.Left d+tn x.Tours d:=QbT fun d _=>by omega
   rw[q7] at q6
   have hfe:QN p x=some (bif QeN p.Demands.length x.Left then 7 else QgB (vec p.Demands.length fun d=>0+cn x.Left d+tn x.Tours d)):=by
    unfold QN Qa9
    rw[g1]
    simp only[Option.bind_some,decide_true,Bool.not_true,cond_false]
    rw[q2]
    simp only[Option.bind_some,QD]
    rw[QdW _ (by omega)]
    simp only[Option.bind_some]
    rw[q5]
    simp only[Option.bind_some]
    rw[q6]
    cases QeN p.Demands.length x.Left with
    | true=>rfl
    | false =>
     simp only[cond_false,Option.bind_some,QD,oun,decide_true,Bool.not_true]
     rw[QmS _ (by rw[VB];omega)]
     unfold QgB
     generalize (vec p.Demands.length fun d=>0+cn x.Left d+tn x.Tours d).any (fun c=>decide (1<c))=a
     generalize (vec p.Demands.length fun d=>0+cn x.Left d+tn x.Tours d).any (fun c=>decide (c=0))=b
     cases a<;>cases b<;>rfl
   have hpl:YT F p x=some (bif QeN p.Demands.length x.Left then (0,7) else (bif decide (QgB (vec p.Demands.length fun d=>0+cn x.Left d+tn x.Tours d)=0) then YF p x.Tours else 0,QgB (vec p.Demands.length fun d=>0+cn x.Left d+tn x.Tours d))):=by
    unfold YT
    rw[Zq (by omega) _ hn,g1]
    simp only[Option.bind_some,decide_true,Bool.not_true,cond_false]
    rw[q1]
    simp only[Option.bind_some,QD]
    rw[QdW _ (by omega)]
    simp only[Option.bind_some]
    rw[q3]
    cases QeN p.Demands.length x.Left with
    | true=>rfl
    | false =>
     simp only[cond_false,Option.bind_some,QD]
     rw[q4]
     simp only[Option.bind_some]
     rw[QgR _ (by rw[VB];omega),QgV _ (by rw[VB];omega)]
     unfold QgB
     simp only[Option.bind_some]
     generalize (vec p.Demands.length fun d=>0+cn x.Left d+tn x.Tours d).any (fun c=>decide (1<c))=a
     generalize (vec p.Demands.length fun d=>0+cn x.Left d+tn x.Tours d).any (fun c=>decide (c=0))=b
     cases a<;>cases b<;>rfl
   cases hbl:QeN p.Demands.length x.Left with
   | true =>
    rw[hbl] at hfe hpl
    exact ⟨0,7,hpl,hfe,ht 7 hfe (by decide)⟩
   | false =>
    rw[hbl] at hfe hpl
    simp only[cond_false] at hfe hpl
    by_cases h0:QgB (vec p.Demands.length fun d=>0+cn x.Left d+tn x.Tours d)=0
    ·rw[h0] at hfe hpl
     refine ⟨YF p x.Tours,0,by simpa using hpl,hfe,?_⟩;unfold Yd
     rw[hfe]
     simp only[Option.bind_some,decide_true,Bool.not_true,cond_false]
     have:=YG (body:=J4 p x) x.Tours (fun k=>YF p (x.Tours.take k)) (fun m k=>(m,k)) (fun _ _=>none) (YF p x.Tours) (by omega) (fun k t htk _=> ?_) (fun _=>by simp[J4,oun]) (((x.Tours.length:Nat):Int).toNat+1) (by simp)
     ·rw[QP _ _ (fun _ _ _=>rfl)] at this
      have e0:YF p (x.Tours.take 0)=0:=by simp[YF,Qan]
      rw[e0] at this
      rw[this]
      rfl
     ·have hk:=Qr htk;have hk2:((k:Int)<(x.Tours.length:Nat)):=by omega
      have hb:=QeP g2 k (Nat.le_of_lt hk) (fun j y _ hy=>h1 j y hy);obtain ⟨u,hu⟩:=QcI (h1 k t htk);have h3:=Vt g2 hu;have h4:(Yx p t).1=QaF p u.2.2.Depot u.2.1:=by unfold Yx;rw[hu]
      simp only[J4,oun,hk2,decide_true,cond_true,Qq,htk,Option.bind_some,Qea g2 g1,ZU]
      rw[Yc (n:=YF p (x.Tours.take k)+(Yx p t).1) (by omega) (by omega),Yw htk]
      unfold YF
      rw[QbS]
      have h5:Qan (fun t=>(Yx p t).1) [t]=(Yx p t).1:=by simp[Qan]
      rw[h5]
    ·rw[show decide (QgB (vec p.Demands.length fun d=>0+cn x.Left d+tn x.Tours d)=0)=false by simpa using h0] at hpl
     exact ⟨0,_,hpl,hfe,ht _ hfe h0⟩
  ·have hc0:=QjT h1;have q1:=Qer hF g2 x hx
   rw[h2] at q1
   have q2:=Ql5 g2 g1 x hx
   rw[h2] at q2
   have hfe:QN p x=some c:=by
    unfold QN
    rw[g1]
    simp only[Option.bind_some,decide_true,Bool.not_true,cond_false]
    rw[q2]
    rfl
   refine ⟨0,c,?_,hfe,ht c hfe hc0⟩;unfold YT
   rw[Zq (by omega) _ hn,g1]
   simp only[Option.bind_some,decide_true,Bool.not_true,cond_false]
   rw[q1]
   rfl
 ·refine ⟨0,e,?_,?_,?_⟩
  ·unfold YT
   rw[Zq (by omega) _ hn,g2]
   simp only[Option.bind_some]
   rw[show decide (e=0)=false by simpa using g1]
   rfl
  ·unfold QN
   rw[g2]
   simp only[Option.bind_some]
   rw[show decide (e=0)=false by simpa using g1]
   rfl
  ·unfold Yd QN
   rw[g2]
   simp only[Option.bind_some]
   rw[show decide (e=0)=false by simpa using g1]
   simp only[Bool.not_false,cond_true,Option.bind_some]
   rw[show decide (e=0)=false by simpa using g1]
   rfl
end Go.Proofs.YthpgjbbjpfiniaaGreat
namespace Go.Proofs.YthpgjbbjpfiniaaGreat
set_option linter.unusedSimpArgs false
set_option linter.unusedVariables false
section
variable {α:Type}
def Qhr (cmp:α→α→Option Int) (a1:Int) (j_:(List α)×Int):Option (((List α)×Int)⊕((List α))) :=
 oun j_ fun data3 j1 =>
 Option.bind (
  bif (decide (a1<j1)) then
   Option.bind (getI data3 j1) fun x1 =>
   Option.bind (getI data3 (w64 (j1-1))) fun x2 =>
   Option.bind (cmp x1 x2) fun r1 =>
   some (decide (r1<0))
  else
   some false) (fun v1 =>
  bif v1 then
   Option.bind (getI data3 (w64 (j1-1))) fun x3 =>
   Option.bind (getI data3 j1) fun x4 =>
   Option.bind (getI data3 j1) fun x5 =>
   Option.bind (getI (Yg data3 j1 x3) (w64 (j1-1))) fun x6 =>
   some (.inl ((Yg (Yg data3 j1 x3) (w64 (j1-1)) x4),w64 (j1-1)))
  else
   some (.inr data3))
def Qhs (cmp:α→α→Option Int) (F:Nat) (a1:Int) (b1:Int) (j_:(List α)×Int):Option (((List α)×Int)⊕((List α))) :=
 oun j_ fun data2 i1 =>
 bif (decide (i1<b1)) then
  Option.bind (
   Option.bind (
    iter (Qhr cmp a1) F (data2,i1)) (fun data5 =>
    some data5)) (fun data6 =>
   some (.inl (data6,w64 (i1+1))))
 else
  some (.inr data2)
def QnA (cmp:α→α→Option Int) (F:Nat) (data1:(List α)) (a1:Int) (b1:Int):Option ((List α)) :=
 Option.bind (
  iter (Qhs cmp F a1 b1) F (data1,w64 (a1+1))) (fun data7 =>
  some data7)
def Ql9 (a1:Int) (b1:Int) (n2:Int) (j_:(List α)×Int):Option (((List α)×Int)⊕((List α))) :=
 oun j_ fun data2 i1 =>
 bif (decide (i1<n2)) then
  Option.bind (getI data2 (w64 (b1+i1))) fun x1 =>
  Option.bind (getI data2 (w64 (a1+i1))) fun x2 =>
  Option.bind (getI data2 (w64 (a1+i1))) fun x3 =>
  Option.bind (getI (Yg data2 (w64 (a1+i1)) x1) (w64 (b1+i1))) fun x4 =>
  some (.inl ((Yg (Yg data2 (w64 (a1+i1)) x1) (w64 (b1+i1)) x2),w64 (i1+1)))
 else
  some (.inr data2)
def gSw (data1:(List α)) (a1:Int) (b1:Int) (n2:Int):Option ((List α)) :=
 Option.bind (
  iter (Ql9 a1 b1 n2) (n2.toNat+1) (data1,0)) (fun data4 =>
  some data4)
def Qhv (m1:Int) (j_:(List α)×Int×Int):Option (((List α)×Int×Int)⊕(((List α)×Int))) :=
 oun j_ fun data2 j_=>oun j_ fun i1 j1 =>
 bif (!(decide (i1=j1))) then
  bif (decide (j1<i1)) then
   Option.bind (gSw data2 (w64 (m1-i1)) m1 j1) fun r1 =>
   some (.inl (r1,w64 (i1-j1),j1))
  else
   Option.bind (gSw data2 (w64 (m1-i1)) (w64 ((w64 (m1+j1))-i1)) i1) fun r2 =>
   some (.inl (r2,i1,w64 (j1-i1)))
 else
  some (.inr (data2,i1))
def QoN (F:Nat) (data1:(List α)) (a1:Int) (m1:Int) (b1:Int):Option ((List α)) :=
 Option.bind (
  iter (Qhv m1) F (data1,w64 (m1-a1),w64 (b1-m1))) (fun j_=>oun j_ fun data3 i2 =>
  Option.bind (gSw data3 (w64 (m1-i2)) m1 i2) fun r3 =>
  some r3)
def Qhw (cmp:α→α→Option Int) (data1:(List α)) (a1:Int) (j_:Int×Int):Option ((Int×Int)⊕(Int)) :=
 oun j_ fun i1 j1 =>
 bif (decide (i1<j1)) then
  Option.bind (Ws (0≤1∧1≤64)) fun _ =>
  Option.bind (getI data1 (w64 ((IntKind.u64.wrap (w64 (i1+j1)))/2^(1:Int).toNat))) fun x1 =>
  Option.bind (getI data1 a1) fun x2 =>
  Option.bind (cmp x1 x2) fun r1 =>
  bif (decide (r1<0)) then
   some (.inl (w64 ((w64 ((IntKind.u64.wrap (w64 (i1+j1)))/2^(1:Int).toNat))+1),j1))
  else
   some (.inl (i1,w64 ((IntKind.u64.wrap (w64 (i1+j1)))/2^(1:Int).toNat)))
 else
  some (.inr i1)
def Qjf (cmp:α→α→Option Int) (i2:Int) (j_:(List α)×Int):Option (((List α)×Int)⊕((List α))) :=
 oun j_ fun data2 k1 =>
 bif (decide (k1<(w64 (i2-1)))) then
  Option.bind (getI data2 (w64 (k1+1))) fun x3 =>
  Option.bind (getI data2 k1) fun x4 =>
  Option.bind (getI data2 k1) fun x5 =>
  Option.bind (getI (Yg data2 k1 x3) (w64 (k1+1))) fun x6 =>
  some (.inl ((Yg (Yg data2 k1 x3) (w64 (k1+1)) x4),w64 (k1+1)))
 else
  some (.inr data2)
def Qhx (cmp:α→α→Option Int) (data1:(List α)) (m1:Int) (j_:Int×Int):Option ((Int×Int)⊕(Int)) :=
 oun j_ fun i3 j2 =>
 bif (decide (i3<j2)) then
  Option.bind (Ws (0≤1∧1≤64)) fun _ =>
  Option.bind (getI data1 m1) fun x7 =>
  Option.bind (getI data1 (w64 ((IntKind.u64.wrap (w64 (i3+j2)))/2^(1:Int).toNat))) fun x8 =>
  Option.bind (cmp x7 x8) fun r2 =>
  bif (!(decide (r2<0))) then
   some (.inl (w64 ((w64 ((IntKind.u64.wrap (w64 (i3+j2)))/2^(1:Int).toNat))+1),j2))
  else
   some (.inl (i3,w64 ((IntKind.u64.wrap (w64 (i3+j2)))/2^(1:Int).toNat)))
 else
  some (.inr i3)
def Qjg (cmp:α→α→Option Int) (i4:Int) (j_:(List α)×Int):Option (((List α)×Int)⊕((List α))) :=
 oun j_ fun data5 k2 =>
 bif (decide (i4<k2)) then
  Option.bind (getI data5 (w64 (k2-1))) fun x9 =>
  Option.bind (getI data5 k2) fun x10 =>
  Option.bind (getI data5 k2) fun x11 =>
  Option.bind (getI (Yg data5 k2 x9) (w64 (k2-1))) fun x12 =>
  some (.inl ((Yg (Yg data5 k2 x9) (w64 (k2-1)) x10),w64 (k2-1)))
 else
  some (.inr data5)
def QfX (cmp:α→α→Option Int) (data1:(List α)) (j_:Int×Int×Int):Option ((Int×Int×Int)⊕(Int)) :=
 oun j_ fun start2 j_=>oun j_ fun r4 p1 =>
 bif (decide (start2<r4)) then
  Option.bind (Ws (0≤1∧1≤64)) fun _ =>
  Option.bind (getI data1 (w64 (p1-(w64 ((IntKind.u64.wrap (w64 (start2+r4)))/2^(1:Int).toNat))))) fun x13 =>
  Option.bind (getI data1 (w64 ((IntKind.u64.wrap (w64 (start2+r4)))/2^(1:Int).toNat))) fun x14 =>
  Option.bind (cmp x13 x14) fun r5 =>
  bif (!(decide (r5<0))) then
   some (.inl (w64 ((w64 ((IntKind.u64.wrap (w64 (start2+r4)))/2^(1:Int).toNat))+1),r4,p1))
  else
   some (.inl (start2,w64 ((IntKind.u64.wrap (w64 (start2+r4)))/2^(1:Int).toNat),p1))
 else
  some (.inr start2)
def QdQ (cmp:α→α→Option Int) (rec_:(List α)→Int→Int→Int→Option ((List α))) (F:Nat) (data1:(List α)) (a1:Int) (m1:Int) (b1:Int):Option ((List α)) :=
 bif (decide ((w64 (m1-a1))=1)) then
  Option.bind (
   iter (Qhw cmp data1 a1) F (m1,b1)) (fun i2 =>
   Option.bind (
    iter (Qjf cmp i2) F (data1,a1)) (fun data4 =>
    some data4))
 else
  bif (decide ((w64 (b1-m1))=1)) then
   Option.bind (
    iter (Qhx cmp data1 m1) F (a1,m1)) (fun i4 =>
    Option.bind (
     iter (Qjg cmp i4) F (data1,m1)) (fun data7 =>
     some data7))
  else
   Option.bind (Ws (0≤1∧1≤64)) fun _ =>
   Option.bind (
    bif (decide ((w64 ((IntKind.u64.wrap (w64 (a1+b1)))/2^(1:Int).toNat))<m1)) then
     some (w64 ((IntKind.u64.wrap (w64 (a1+b1)))/2^(1:Int).toNat),w64 ((w64 ((IntKind.u64.wrap (w64 (a1+b1)))/2^(1:Int).toNat))+m1),w64 ((w64 ((w64 ((IntKind.u64.wrap (w64 (a1+b1)))/2^(1:Int).toNat))+m1))-b1),w64 ((IntKind.u64.wrap (w64 (a1+b1)))/2^(1:Int).toNat))
    else
     some (w64 ((IntKind.u64.wrap (w64 (a1+b1)))/2^(1:Int).toNat),w64 ((w64 ((IntKind.u64.wrap (w64 (a1+b1)))/2^(1:Int).toNat))+m1),a1,m1)) (fun j_=>oun j_ fun mid1 j_=>oun j_ fun n2 j_=>oun j_ fun start1 r3 =>
    Option.bind (
     iter (QfX cmp data1) F (start1,r3,w64 (n2-1))) (fun start3 =>
     Option.bind (
      bif (decide (start3<m1)) then
       some (w64 (n2-start3),(decide (m1<(w64 (n2-start3)))))
      else
       some (w64 (n2-start3),false)) (fun j_=>oun j_ fun f_end1 v1 =>
      Option.bind (
       bif v1 then
        Option.bind (QoN F data1 start3 m1 f_end1) fun r6 =>
        some r6
       else
        some data1) (fun data8 =>
       Option.bind (
        bif (decide (a1<start3)) then
         some (decide (start3<mid1))
        else
         some false) (fun v2 =>
        Option.bind (
         bif v2 then
          Option.bind (rec_ data8 a1 start3 mid1) fun r7 =>
          some r7
         else
          some data8) (fun data9 =>
         Option.bind (
          bif (decide (mid1<f_end1)) then
           some (decide (f_end1<b1))
          else
           some false) (fun v3 =>
          Option.bind (
           bif v3 then
            Option.bind (rec_ data9 mid1 f_end1 b1) fun r8 =>
            some r8
           else
            some data9) (fun data10 =>
           some data10))))))))
def Qje (cmp:α→α→Option Int):Nat→(List α)→Int→Int→Int→Option ((List α))
 | 0,_,_,_,_=>none
 | F+1,data1,a1,m1,b1=>QdQ cmp (Qje cmp F) F data1 a1 m1 b1
def Ql8 (cmp:α→α→Option Int) (F:Nat) (n2:Int) (j_:(List α)×Int×Int):Option (((List α)×Int×Int)⊕(((List α)×Int))) :=
 oun j_ fun data2 j_=>oun j_ fun a1 b1 =>
 bif (decide (b1≤n2)) then
  Option.bind (QnA cmp F data2 a1 b1) fun r1 =>
  some (.inl (r1,b1,w64 (b1+20)))
 else
  some (.inr (data2,a1))
def Qgl (cmp:α→α→Option Int) (F:Nat) (n2:Int) (blockSize1:Int) (j_:(List α)×Int×Int):Option (((List α)×Int×Int)⊕(((List α)×Int))) :=
 oun j_ fun data5 j_=>oun j_ fun a3 b2 =>
 bif (decide (b2≤n2)) then
  Option.bind (Qje cmp F data5 a3 (w64 (a3+blockSize1)) b2) fun r3 =>
  some (.inl (r3,b2,w64 (b2+(w64 (2*blockSize1)))))
 else
  some (.inr (data5,a3))
def Qgm (cmp:α→α→Option Int) (F:Nat) (n2:Int) (j_:(List α)×Int):Option (((List α)×Int)⊕((List α))) :=
 oun j_ fun data4 blockSize1 =>
 bif (decide (blockSize1<n2)) then
  Option.bind (
   iter (Qgl cmp F n2 blockSize1) F (data4,0,w64 (2*blockSize1))) (fun j_=>oun j_ fun data6 a4 =>
   Option.bind (
    bif (decide ((w64 (a4+blockSize1))<n2)) then
     Option.bind (Qje cmp F data6 a4 (w64 (a4+blockSize1)) n2) fun r4 =>
     some r4
    else
     some data6) (fun data7 =>
    some (.inl (data7,w64 (blockSize1*2)))))
 else
  some (.inr data4)
def gSt (cmp:α→α→Option Int) (F:Nat) (data1:(List α)) (n2:Int):Option ((List α)) :=
 Option.bind (
  iter (Ql8 cmp F n2) F (data1,0,20)) (fun j_=>oun j_ fun data3 a2 =>
  Option.bind (QnA cmp F data3 a2 n2) fun r2 =>
  Option.bind (
   iter (Qgm cmp F n2) F (r2,20)) (fun data8 =>
   some data8))
def QiD (cmp:α→α→Option Int) (F:Nat) (x1:(List α)):Option ((List α)) :=
 Option.bind (gSt cmp F x1 ((x1.length:Nat):Int)) fun r1 =>
 some r1
theorem Qio {a b:Nat} (h:a+b≤1000000000000000):w64 ((a:Int)+(b:Int))=((a+b:Nat):Int):=by rw[Yc (by omega) (by omega)];omega
theorem Qek {a b:Nat} (h:b≤a) (h2:a≤1000000000000000):w64 ((a:Int)-(b:Int))=((a-b:Nat):Int):=by rw[Yc (by omega) (by omega)];omega
theorem QkN {a:Nat} (h:1≤a) (h2:a≤1000000000000000):w64 ((a:Int)-1)=((a-1:Nat):Int):=Qek (b:=1) h h2
theorem Qgu {a:Nat} (h2:a≤1000000000000):w64 ((a:Int)+1)=((a+1:Nat):Int):=Qio (b:=1) (by omega)
theorem Qmu {i j:Nat} (h:i+j≤1000000000000000):w64 ((IntKind.u64.wrap (w64 ((i:Int)+(j:Int))))/2^(1:Int).toNat)=(((i+j)/2:Nat):Int):=by
 rw[Qio h]
 have h1:IntKind.u64.wrap ((i+j:Nat):Int)=((i+j:Nat):Int):=by simp[IntKind.wrap,IntKind.bits,IntKind.signed];omega
 rw[h1]
 have h2:(2:Int)^(1:Int).toNat=2:=rfl
 rw[h2,Yc (by omega) (by omega)]
 omega
theorem QbV {L:List α} {i:Nat} (h:i<L.length): ∃x,L[i]? =some x:=⟨L[i],by simp[h]⟩
theorem QfF (L:List α) (i:Nat) (x:α):Yg L (i:Int) x=L.set i x:=by simp[Yg]
theorem Qox {L:List α} {i j:Nat} {x y:α} (hx:L[i]? =some x) (hy:L[j]? =some y) (t:Nat):((L.set i y).set j x)[t]? =if t=j then L[i]? else if t=i then L[j]? else L[t]? :=by
 have hi:=Qr hx;have hj:=Qr hy
 by_cases h1:t=j
 ·subst h1;rw[if_pos rfl];simp[hj,hx]
 ·by_cases h2:t=i
  ·subst h2;rw[if_neg h1,if_pos rfl,List.getElem?_set_ne (fun h=>h1 h.symm),hy];simp[hi]
  ·rw[if_neg h1,if_neg h2,List.getElem?_set_ne (fun h=>h1 h.symm),List.getElem?_set_ne (fun h=>h2 h.symm)]
def swF (L:List α) (a b n t:Nat):Option α:=if a≤t∧t<a+n then L[t-a+b]? else if b≤t∧t<b+n then L[t-b+a]? else L[t]?
theorem Qkb {L:List α} {a b n:Nat} (h1:a+n≤b) (h2:b+n≤L.length) (hs:L.length≤1000000000000): ∀(r i:Nat) (M:List α) (f:Nat),i+r=n→r<f→M.length=L.length→(∀t,M[t]? =swF L a b i t) →
  ∃L',iter (Ql9 (α:=α) a b n) f (M,(i:Int))=some L'∧L'.length=L.length∧ ∀t,L'[t]? =swF L a b n t
 | _,_,_,0,_,h,_,_=>by omega
 | 0,i,M,f+1,hi,_,hl,hM=>by
  have:i=n:=by omega
  subst this;refine ⟨M,?_,hl,hM⟩
  simp only[iter,Ql9,oun,Int.lt_irrefl,decide_false,cond_false,Option.bind_some,QD]
 | r+1,i,M,f+1,hi,hf,hl,hM=>by
  obtain ⟨x,hx⟩:=QbV (L:=M) (i:=b+i) (by omega);obtain ⟨y,hy⟩:=QbV (L:=M) (i:=a+i) (by omega);have hlt:((i:Nat):Int)<(n:Nat):=by omega
  have e1:w64 ((b:Int)+(i:Int))=((b+i:Nat):Int):=Qio (by omega);have e2:w64 ((a:Int)+(i:Int))=((a+i:Nat):Int):=Qio (by omega);have e3:w64 ((i:Int)+1)=((i+1:Nat):Int):=Qgu (by omega);have e4:(M.set (a+i) x)[b+i]? =some x:=by rw[List.getElem?_set,if_neg (by omega)];exact hx
  have key:=Qkb h1 h2 hs r (i+1) ((M.set (a+i) x).set (b+i) y) f (by omega) (by omega) (by simpa using hl) (fun t=>by
   rw[Qox hy hx t,hM t,hM (a+i),hM (b+i)]
   unfold swF
   repeat' split
   all_goals first | omega | rfl | (congr 1;omega))
  obtain ⟨L',k1,k2,k3⟩:=key;refine ⟨L',?_,k2,k3⟩
  rw[←k1]
  simp only[iter,Ql9,oun,hlt,decide_true,cond_true,e1,e2,e3,Qq,QfF,hx,hy,e4,Option.bind_some,QD]
theorem Qle {L:List α} {a b n:Nat} (h1:a+n≤b) (h2:b+n≤L.length) (hs:L.length≤1000000000000): ∃L',gSw L a b n=some L'∧L'.length=L.length∧ ∀t,L'[t]? =swF L a b n t:=by
 obtain ⟨L',k1,k2,k3⟩:=Qkb h1 h2 hs n 0 L ((n:Int).toNat+1) (by omega) (by omega) rfl (fun t=>by unfold swF;rw[if_neg (by omega),if_neg (by omega)]);refine ⟨L',?_,k2,k3⟩;unfold gSw
 rw[show ((0:Nat):Int)=0 from rfl] at k1
 rw[k1];rfl
def QlA (L:List α) (m i j t:Nat):Option α:=if m-i≤t∧t<m+j then (if t<m-i+j then L[t+i]? else L[t-j]?) else L[t]?
theorem QfW {m:Nat}: ∀(s i j:Nat) (L:List α) (f:Nat),i+j≤s→s<f→1≤i→1≤j→i≤m→m+j≤L.length→L.length≤1000000000000 →
  ∃(M:List α) (d:Nat),iter (Qhv (α:=α) m) f (L,(i:Int),(j:Int))=some (M,(d:Int))∧M.length=L.length∧1≤d∧d≤i∧d≤j∧ ∀(L':List α),L'.length=L.length→(∀t,L'[t]? =swF M (m-d) m d t)→ ∀t,L'[t]? =QlA L m i j t
 | _,_,_,_,0,_,h,_,_,_,_,_=>by omega
 | 0,i,j,_,_,h,_,_,_,_,_,_=>by omega
 | s+1,i,j,L,f+1,hs,hf,hi,hj,him,hjl,hl=>by
  by_cases hij:i=j
  ·subst hij;refine ⟨L,i,?_,rfl,hi,Nat.le_refl _,Nat.le_refl _,fun L' _ h t=> ?_⟩
   ·simp only[iter,Qhv,oun,decide_true,Bool.not_true,cond_false,Option.bind_some,QD]
   ·rw[h t]
    unfold swF QlA
    repeat' split
    all_goals first | omega | rfl | (congr 1;omega)
  ·have hne: ¬((i:Int)=(j:Int)):=by omega
   by_cases hlt:j<i
   ·have hlt':((j:Nat):Int)<(i:Nat):=by omega
    obtain ⟨L1,k1,k2,k3⟩:=Qle (L:=L) (a:=m-i) (b:=m) (n:=j) (by omega) (by omega) hl;obtain ⟨M,d,q1,q2,q3,q4,q5,q6⟩:=QfW (m:=m) s (i-j) j L1 f (by omega) (by omega) (by omega) hj (by omega) (by omega) (by omega);refine ⟨M,d,?_,by omega,q3,by omega,q5,fun L' hL' h t=> ?_⟩
    ·rw[←q1]
     simp only[iter,Qhv,oun,hne,hlt',decide_false,decide_true,Bool.not_false,cond_true,Qek him (by omega:m≤1000000000000000),k1,Qek (Nat.le_of_lt hlt) (by omega:i≤1000000000000000),Option.bind_some,QD]
    ·rw[q6 L' (by omega) h t]
     unfold QlA
     simp only[k3]
     unfold swF
     repeat' split
     all_goals first | omega | rfl | (congr 1;omega)
   ·have hlt': ¬(((j:Nat):Int)<(i:Nat)):=by omega
    obtain ⟨L1,k1,k2,k3⟩:=Qle (L:=L) (a:=m-i) (b:=m+j-i) (n:=i) (by omega) (by omega) hl;obtain ⟨M,d,q1,q2,q3,q4,q5,q6⟩:=QfW (m:=m) s i (j-i) L1 f (by omega) (by omega) hi (by omega) him (by omega) (by omega);refine ⟨M,d,?_,by omega,q3,q4,by omega,fun L' hL' h t=> ?_⟩
    ·rw[←q1]
     simp only[iter,Qhv,oun,hne,hlt',decide_false,decide_true,Bool.not_false,cond_true,cond_false,Qek him (by omega:m≤1000000000000000),Qio (by omega:m+j≤1000000000000000),Qek (by omega:i≤m+j) (by omega:m+j≤1000000000000000),k1,Qek (by omega:i≤j) (by omega:j≤1000000000000000),Option.bind_some,QD]
    ·rw[q6 L' (by omega) h t]
     unfold QlA
     simp only[k3]
     unfold swF
     repeat' split
     all_goals first | omega | rfl | (congr 1;omega)
theorem QoO {L:List α} {a m b F:Nat} (h1:a<m) (h2:m<b) (h3:b≤L.length) (hs:L.length≤1000000000000) (hF:b-a<F): ∃L',QoN F L a m b=some L'∧L'.length=L.length∧ ∀t,L'[t]? =QlA L m (m-a) (b-m) t:=by
 obtain ⟨M,d,q1,q2,q3,q4,q5,q6⟩:=QfW (m:=m) (b-a) (m-a) (b-m) L F (by omega) hF (by omega) (by omega) (by omega) (by omega) hs;obtain ⟨L',k1,k2,k3⟩:=Qle (L:=M) (a:=m-d) (b:=m) (n:=d) (by omega) (by omega) (by omega);refine ⟨L',?_,by omega,q6 L' (by omega) k3⟩;unfold QoN
 simp only[Qek (Nat.le_of_lt h1) (by omega:m≤1000000000000000),Qek (Nat.le_of_lt h2) (by omega:b≤1000000000000000),q1,Option.bind_some,oun,Qek (by omega:d≤m) (by omega:m≤1000000000000000),k1]
variable {k:α→Int}
def Srt (k:α→Int) (l:List α):Prop:=l.Pairwise fun x y=>k x≤k y
structure Yz (k:α→Int) (l l':List α):Prop where
 perm:l.Perm l'
 fil: ∀c,l.filter (fun x=>decide (k x=c))=l'.filter (fun x=>decide (k x=c))
theorem Yz.refl (l:List α):Yz k l l:=⟨List.Perm.refl _,fun _=>rfl⟩
theorem Yz.trans {a b c:List α} (h:Yz k a b) (h2:Yz k b c):Yz k a c:=⟨h.perm.trans h2.perm,fun q=>(h.fil q).trans (h2.fil q)⟩
theorem Yz.symm {a b:List α} (h:Yz k a b):Yz k b a:=⟨h.perm.symm,fun q=>(h.fil q).symm⟩
theorem Yz.append {a b c d:List α} (h:Yz k a b) (h2:Yz k c d):Yz k (a++c) (b++d):=⟨h.perm.append h2.perm,fun q=>by rw[List.filter_append,List.filter_append,h.fil q,h2.fil q]⟩
theorem Yz.swap {u v:List α} (h: ∀x∈u,∀y∈v,k y<k x):Yz k (u++v) (v++u):=by
 refine ⟨List.perm_append_comm,fun c=> ?_⟩
 rw[List.filter_append,List.filter_append]
 by_cases hu:u.filter (fun x=>decide (k x=c))=[]
 ·rw[hu];simp
 ·have hv:v.filter (fun x=>decide (k x=c))=[]:=by
   rw[List.filter_eq_nil_iff]
   intro y hy hyc;obtain ⟨x,hx⟩:=List.exists_mem_of_ne_nil _ hu;have hx':=List.mem_filter.1 hx;have:=h x hx'.1 y hy;have e1:=of_decide_eq_true hx'.2;have e2:=of_decide_eq_true hyc
   omega
  rw[hv];simp
theorem Srt.unique: ∀{l l':List α},Srt k l→Srt k l'→Yz k l l'→l=l'
 | [],l',_,_,h=>(h.perm.symm.eq_nil).symm
 | x::r,[],_,_,h=>by have:=h.perm.eq_nil;cases this
 | x::r,y::r',h1,h2,h=>by
  have hx: ∀z∈x::r,k x≤k z:=fun z hz=>by
   rcases List.mem_cons.1 hz with rfl | hz
   ·exact Int.le_refl _
   ·exact (List.pairwise_cons.1 h1).1 z hz
  have hy: ∀z∈y::r',k y≤k z:=fun z hz=>by
   rcases List.mem_cons.1 hz with rfl | hz
   ·exact Int.le_refl _
   ·exact (List.pairwise_cons.1 h2).1 z hz
  have e1:=hx y (h.perm.mem_iff.2 List.mem_cons_self);have e2:=hy x (h.perm.mem_iff.1 List.mem_cons_self);have e3:k x=k y:=by omega
  have f1:=h.fil (k x)
  rw[List.filter_cons_of_pos (by simp),List.filter_cons_of_pos (by simp[e3])] at f1
  injection f1 with f1 f2
  subst f1;have:Yz k r r':=⟨(List.perm_cons x).1 h.perm,fun c=>by
   by_cases hc:k x=c
   ·subst hc;exact f2
   ·have f3:=h.fil c
    rw[List.filter_cons_of_neg (by simp[hc]),List.filter_cons_of_neg (by simp[hc])] at f3
    exact f3⟩
  rw[Srt.unique (List.pairwise_cons.1 h1).2 (List.pairwise_cons.1 h2).2 this]
theorem Qo2 {A U V B L':List α} {m:Nat} (hm:A.length+U.length=m) (h: ∀t,L'[t]? =QlA (A++(U++(V++B))) m U.length V.length t):L'=A++(V++(U++B)):=by
 refine List.ext_getElem? fun t=> ?_
 rw[h t]
 unfold QlA
 simp only[List.getElem?_append]
 repeat' split
 all_goals first | omega | rfl | (congr 1;omega)
variable {cmp:α→α→Option Int} {Pv:α→Prop}
theorem Qcm {A B:List α} {x:α} {i:Nat} (h:A.length=i):(A++x::B)[i]? =some x:=by subst h;simp
theorem QkG {A B:List α} {x z:α} {i:Nat} (h:A.length=i):((A++z::x::B).set (i+1) z).set i x=A++x::z::B:=by
 subst h
 rw[List.set_append_right _ _ (by omega),List.set_append_right _ _ (by omega)]
 simp
theorem Qht (hc: ∀x y,Pv x→Pv y→ ∃z,cmp x y=some z∧(z<0↔k x<k y)) {a:Nat} {A:List α} (hA:A.length=a) {x:α} (hx:Pv x): ∀(n:Nat) (Z B:List α) (f:Nat),Z.length=n→n<f→Srt k Z→(∀z∈Z,Pv z)→a+n≤1000000000000 →
  ∃Z1 Z2,Z=Z1++Z2∧iter (Qhr cmp a) f (A++Z++x::B,((a+n:Nat):Int))=some (A++Z1++x::(Z2++B))∧(∀z∈Z2,k x<k z)∧ ∀z∈Z1,k z≤k x
 | _,_,_,0,_,h,_,_,_=>by omega
 | 0,Z,B,f+1,hZ,_,_,_,_=>by
  have:Z=[]:=List.eq_nil_of_length_eq_zero hZ;subst this;refine ⟨[],[],rfl,?_,by simp,by simp⟩;have: ¬((a:Int)<((a+0:Nat):Int)):=by omega
  simp only[iter,Qhr,oun,this,decide_false,cond_false,Option.bind_some,QD,List.append_nil,List.nil_append]
 | n+1,Z,B,f+1,hZ,hf,hs,hp,hb=>by
  obtain ⟨Z',z,rfl⟩: ∃Z' z,Z=Z'++[z]:=by
   have:Z≠[]:=by intro e;rw[e] at hZ;simp at hZ
   exact ⟨Z.dropLast,Z.getLast this,(List.dropLast_concat_getLast this).symm⟩
  have hl:Z'.length=n:=by simpa using hZ
  have hz:Pv z:=hp z (by simp);have hlt:(a:Int)<((a+(n+1):Nat):Int):=by omega
  have e0:A++(Z'++[z])++x::B=(A++Z')++z::x::B:=by simp
  have g1:(A++(Z'++[z])++x::B)[a+(n+1)]? =some x:=Qcm (by simp[hA,hl]);have g2:(A++(Z'++[z])++x::B)[a+(n+1)-1]? =some z:=by rw[e0];exact Qcm (by simp[hA,hl])
  have e1:w64 (((a+(n+1):Nat):Int)-1)=((a+(n+1)-1:Nat):Int):=QkN (by omega) (by omega);obtain ⟨q,hq,hqk⟩:=hc x z hx hz
  by_cases hk:k x<k z
  ·have hq0:=hqk.2 hk;obtain ⟨Z1,Z2,k1,k2,k3,k4⟩:=Qht hc hA hx n Z' (z::B) f hl (by omega) (List.pairwise_append.1 hs).1 (fun y hy=>hp y (by simp[hy])) (by omega);refine ⟨Z1,Z2++[z],by rw[k1];simp,?_,?_,k4⟩
   ·have e2:((A++(Z'++[z])++x::B).set (a+(n+1)) z).set (a+(n+1)-1) x=A++Z'++x::(z::B):=by
     rw[e0]
     have:a+(n+1)-1=a+n:=by omega
     rw[this]
     have e3:a+(n+1)=(a+n)+1:=by omega
     rw[e3]
     exact QkG (by simp[hA,hl])
    have g3:((A++(Z'++[z])++x::B).set (a+(n+1)) z)[a+(n+1)-1]? =some z:=by
     rw[List.getElem?_set_ne (by omega)];exact g2
    have e4:((a+(n+1)-1:Nat):Int)=((a+n:Nat):Int):=by omega
    simp only[iter,Qhr,oun,hlt,decide_true,cond_true,Qq,QfF,e1,g1,g2,g3,hq,hq0,Option.bind_some,QD,e2]
    rw[e4,k2]
    simp
   ·intro y hy;rcases List.mem_append.1 hy with hy | hy
    ·exact k3 y hy
    ·simp only[List.mem_singleton] at hy;subst hy;exact hk
  ·have hq0: ¬q<0:=fun h=>hk (hqk.1 h);refine ⟨Z'++[z],[],by simp,?_,by simp,?_⟩
   ·simp only[iter,Qhr,oun,hlt,decide_true,cond_true,Qq,e1,g1,g2,hq,hq0,decide_false,cond_false,Option.bind_some,QD,List.nil_append]
   ·intro y hy;rcases List.mem_append.1 hy with hy | hy
    ·have:=(List.pairwise_append.1 hs).2.2 y hy z (by simp)
     omega
    ·simp only[List.mem_singleton] at hy;subst hy;omega
theorem Qfs {Z1 Z2:List α} {x:α} (hs:Srt k (Z1++Z2)) (h2: ∀z∈Z2,k x<k z) (h1: ∀z∈Z1,k z≤k x):Srt k (Z1++x::Z2)∧Yz k (Z1++Z2++[x]) (Z1++x::Z2):=by
 have hp:=List.pairwise_append.1 hs;refine ⟨List.pairwise_append.2 ⟨hp.1,List.pairwise_cons.2 ⟨fun z hz=>by have:=h2 z hz;omega,hp.2.1⟩,fun y hy z hz=> ?_⟩,?_⟩
 ·rcases List.mem_cons.1 hz with rfl | hz
  ·exact h1 y hy
  ·exact hp.2.2 y hy z hz
 ·rw[List.append_assoc]
  refine (Yz.refl Z1).append (?_:Yz k (Z2++[x]) ([x]++Z2));exact Yz.swap fun z hz y hy=>by simp only[List.mem_singleton] at hy;subst hy;exact h2 z hz
theorem Qhu (hc: ∀x y,Pv x→Pv y→ ∃z,cmp x y=some z∧(z<0↔k x<k y)) {a b F:Nat} {A B:List α} (hA:A.length=a) (hb:b≤1000000000) (hF:b<F): ∀(r:Nat) (Z R:List α) (f:Nat),R.length=r→r<f→a+Z.length+r=b→Srt k Z→(∀z∈Z,Pv z)→(∀z∈R,Pv z) →
  ∃M,iter (Qhs cmp F a b) f (A++Z++(R++B),((a+Z.length:Nat):Int))=some (A++M++B)∧Srt k M∧Yz k (Z++R) M
 | _,_,_,0,_,h,_,_,_,_=>by omega
 | 0,Z,R,f+1,hR,_,hab,hs,_,_=>by
  have:R=[]:=List.eq_nil_of_length_eq_zero hR;subst this;refine ⟨Z,?_,hs,by rw[List.append_nil];exact Yz.refl _⟩;have: ¬(((a+Z.length:Nat):Int)<(b:Int)):=by omega
  simp only[iter,Qhs,oun,this,decide_false,cond_false,Option.bind_some,QD,List.nil_append]
 | r+1,Z,[],f+1,hR,_,_,_,_,_=>by simp at hR
 | r+1,Z,x::R,f+1,hR,hf,hab,hs,hp,hq=>by
  have hlt:((a+Z.length:Nat):Int)<(b:Int):=by omega
  obtain ⟨Z1,Z2,k1,k2,k3,k4⟩:=Qht hc hA (hq x (by simp)) Z.length Z (R++B) F rfl (by omega) hs hp (by omega);subst k1;obtain ⟨j1,j2⟩:=Qfs hs k3 k4;have hl:(Z1++x::Z2).length=(Z1++Z2).length+1:=by simp;omega
  obtain ⟨M,m1,m2,m3⟩:=Qhu (B:=B) hc hA hb hF r (Z1++x::Z2) R f (by simpa using hR) (by omega) (by rw[hl];omega) j1 (fun z hz=>by
   rcases List.mem_append.1 hz with hz | hz
   ·exact hp z (by simp[hz])
   ·rcases List.mem_cons.1 hz with rfl | hz
    ·exact hq z (by simp)
    ·exact hp z (by simp[hz])) (fun z hz=>hq z (by simp[hz]))
  refine ⟨M,?_,m2,?_⟩
  ·have e1:w64 (((a+(Z1++Z2).length:Nat):Int)+1)=((a+(Z1++x::Z2).length:Nat):Int):=by rw[Qgu (by omega),hl];rfl
   have e2:A++Z1++x::(Z2++(R++B))=A++(Z1++x::Z2)++(R++B):=by simp
   simp only[iter,Qhs,oun,hlt,decide_true,cond_true,List.cons_append,k2,Option.bind_some,QD,e1,e2,m1]
  ·refine Yz.trans (b:=(Z1++x::Z2)++R) ?_ m3;have:Z1++Z2++x::R=(Z1++Z2++[x])++R:=by simp
   rw[this]
   exact j2.append (Yz.refl R)
theorem Ql7 (hc: ∀x y,Pv x→Pv y→ ∃z,cmp x y=some z∧(z<0↔k x<k y)) {a b F:Nat} {A M B:List α} (hA:A.length=a) (hM:a+M.length=b) (hb:b≤1000000000) (hF:b+1<F) (hp: ∀z∈M,Pv z) :
  ∃M',QnA cmp F (A++M++B) a b=some (A++M'++B)∧Srt k M'∧Yz k M M':=by
 cases M with
 | nil =>
  refine ⟨[],?_,List.Pairwise.nil,Yz.refl _⟩;cases F with
  | zero=>omega
  | succ F =>
   have e1:w64 ((a:Int)+1)=((a+1:Nat):Int):=Qgu (by simp at hM;omega);have: ¬(((a+1:Nat):Int)<(b:Int)):=by simp at hM;omega
   unfold QnA
   simp only[e1,iter,Qhs,oun,this,decide_false,cond_false,Option.bind_some,QD]
 | cons x R =>
  obtain ⟨M',m1,m2,m3⟩:=Qhu (B:=B) hc hA hb (by omega:b<F) R.length [x] R F rfl (by simp at hM;omega) (by simp at hM ⊢;omega) (List.pairwise_singleton _ _) (fun z hz=>hp z (by simp at hz;simp[hz])) (fun z hz=>hp z (by simp[hz]));refine ⟨M',?_,m2,m3⟩;have e1:w64 ((a:Int)+1)=((a+[x].length:Nat):Int):=by rw[Qgu (by simp at hM;omega)];rfl
  have e2:A++x::R++B=A++[x]++(R++B):=by simp
  unfold QnA
  rw[e1,e2,m1];rfl
theorem Qg2 {τ:Type} {body:τ→Option (τ⊕Int)} {mk:Nat→Nat→τ} {test:Nat→Bool} {i0 j0:Nat} (hb: ∀i j,i0≤i→i<j→j≤j0→body (mk i j)=some (.inl (bif test ((i+j)/2) then mk ((i+j)/2+1) j else mk i ((i+j)/2)))) (he: ∀i,i0≤i→i≤j0→body (mk i i)=some (.inr (i:Int)))
  (hm: ∀s t,i0≤s→s≤t→t<j0→test t=true→test s=true): ∀(n i j f:Nat),j-i≤n→n<f→i0≤i→i≤j→j≤j0→(∀t,i0≤t→t<i→test t=true)→(∀t,j≤t→t<j0→test t=false) →
  ∃r:Nat,iter body f (mk i j)=some (r:Int)∧i≤r∧r≤j∧(∀t,i0≤t→t<r→test t=true)∧ ∀t,r≤t→t<j0→test t=false
 | _,_,_,0,_,h,_,_,_,_,_=>by omega
 | n,i,j,f+1,hn,hf,h0,hij,hj,ht,hfa=>by
  by_cases hlt:i<j
  ·cases n with
   | zero=>omega
   | succ n =>
    have h1:=hb i j h0 hlt hj;cases hq:test ((i+j)/2) with
    | true =>
     rw[hq] at h1
     obtain ⟨r,k1,k2,k3,k4,k5⟩:=Qg2 hb he hm n ((i+j)/2+1) j f (by omega) (by omega) (by omega) (by omega) hj (fun t h2 h3=>hm t ((i+j)/2) h2 (by omega) (by omega) hq) hfa;refine ⟨r,?_,by omega,k3,k4,k5⟩
     rw[iter,h1]
     exact k1
    | false =>
     rw[hq] at h1
     obtain ⟨r,k1,k2,k3,k4,k5⟩:=Qg2 hb he hm n i ((i+j)/2) f (by omega) (by omega) h0 (by omega) (by omega) ht (fun t h2 h3=>by
      cases hq2:test t with
      | false=>rfl
      | true=>have:=hm ((i+j)/2) t (by omega) h2 h3 hq2;rw[hq] at this;cases this)
     refine ⟨r,?_,k2,by omega,k4,k5⟩
     rw[iter,h1]
     exact k1
  ·have:i=j:=by omega
   subst this;exact ⟨i,by rw[iter,he i h0 hj];rfl,Nat.le_refl _,Nat.le_refl _,ht,hfa⟩
theorem Qhy {a e:Nat} {A B:List α} {x:α}: ∀(n:Nat) (W V:List α) (f:Nat),V.length=n→n<f→A.length+W.length+n+1=e→e≤1000000000 →
  iter (Qjf (α:=α) cmp (e:Int)) f (A++W++x::(V++B),((A.length+W.length:Nat):Int))=some (A++W++V++x::B)
 | _,_,_,0,_,h,_,_=>by omega
 | 0,W,V,f+1,hV,_,he,hb=>by
  have:V=[]:=List.eq_nil_of_length_eq_zero hV;subst this;have e1:w64 ((e:Int)-1)=((e-1:Nat):Int):=QkN (by omega) (by omega);have: ¬(((A.length+W.length:Nat):Int)<((e-1:Nat):Int)):=by omega
  simp only[iter,Qjf,oun,e1,this,decide_false,cond_false,Option.bind_some,QD,List.append_nil,List.nil_append]
 | n+1,W,[],f+1,hV,_,_,_=>by simp at hV
 | n+1,W,v::V,f+1,hV,hf,he,hb=>by
  have e1:w64 ((e:Int)-1)=((e-1:Nat):Int):=QkN (by omega) (by omega);have hlt:((A.length+W.length:Nat):Int)<((e-1:Nat):Int):=by omega
  have e2:w64 (((A.length+W.length:Nat):Int)+1)=((A.length+W.length+1:Nat):Int):=Qgu (by omega);have g1:(A++W++x::(v::V++B))[A.length+W.length]? =some x:=Qcm (by simp);have g2:(A++W++x::(v::V++B))[A.length+W.length+1]? =some v:=by
   have:A++W++x::(v::V++B)=(A++W++[x])++v::(V++B):=by simp
   rw[this];exact Qcm (by simp;omega)
  have e3:((A++W++x::(v::V++B)).set (A.length+W.length) v).set (A.length+W.length+1) x=A++(W++[v])++x::(V++B):=by
   rw[List.set_append_right _ _ (by simp),List.set_append_right _ _ (by simp)]
   simp
  have g3:((A++W++x::(v::V++B)).set (A.length+W.length) v)[A.length+W.length+1]? =some v:=by
   rw[List.getElem?_set_ne (by omega)];exact g2
  have ih:=Qhy (a:=a) (e:=e) (A:=A) (B:=B) (x:=x) n (W++[v]) V f (by simpa using hV) (by omega) (by simp;omega) hb;have e4:((A.length+W.length+1:Nat):Int)=((A.length+(W++[v]).length:Nat):Int):=by simp;omega
  simp only[iter,Qjf,oun,e1,hlt,decide_true,cond_true,e2,Qq,QfF,g1,g2,g3,e3,Option.bind_some,QD]
  rw[e4,ih]
  simp
theorem QiE {e:Nat} {A B:List α} {x:α} (hA:A.length=e): ∀(n:Nat) (U W:List α) (f:Nat),U.length=n→n<f→e+n≤1000000000 →
  iter (Qjg (α:=α) cmp (e:Int)) f (A++U++x::(W++B),((e+n:Nat):Int))=some (A++x::(U++W++B))
 | _,_,_,0,_,h,_=>by omega
 | 0,U,W,f+1,hU,_,hb=>by
  have:U=[]:=List.eq_nil_of_length_eq_zero hU;subst this;have: ¬((e:Int)<((e+0:Nat):Int)):=by omega
  simp only[iter,Qjg,oun,this,decide_false,cond_false,Option.bind_some,QD,List.append_nil,List.nil_append]
 | n+1,U,W,f+1,hU,hf,hb=>by
  obtain ⟨U',u,rfl⟩: ∃U' u,U=U'++[u]:=by
   have:U≠[]:=by intro e;rw[e] at hU;simp at hU
   exact ⟨U.dropLast,U.getLast this,(List.dropLast_concat_getLast this).symm⟩
  have hl:U'.length=n:=by simpa using hU
  have e1:w64 (((e+(n+1):Nat):Int)-1)=((e+n:Nat):Int):=QkN (by omega) (by omega);have hlt:(e:Int)<((e+(n+1):Nat):Int):=by omega
  have e0:A++(U'++[u])++x::(W++B)=(A++U')++u::x::(W++B):=by simp
  have g1:(A++(U'++[u])++x::(W++B))[e+(n+1)]? =some x:=Qcm (by simp[hA,hl]);have g2:(A++(U'++[u])++x::(W++B))[e+n]? =some u:=by rw[e0];exact Qcm (by simp[hA,hl])
  have e2:((A++(U'++[u])++x::(W++B)).set (e+(n+1)) u).set (e+n) x=A++U'++x::((u::W)++B):=by
   rw[e0]
   exact QkG (by simp[hA,hl])
  have g3:((A++(U'++[u])++x::(W++B)).set (e+(n+1)) u)[e+n]? =some u:=by
   rw[List.getElem?_set_ne (by omega)];exact g2
  have ih:=QiE (B:=B) (x:=x) hA n U' (u::W) f hl (by omega) (by omega)
  simp only[iter,Qjg,oun,hlt,decide_true,cond_true,e1,Qq,QfF,g1,g2,g3,e2,Option.bind_some,QD]
  rw[ih]
  simp
theorem QgP {A U B:List α} {a t:Nat} (hA:A.length=a) (h1:a≤t) (h2:t<a+U.length):(A++(U++B))[t]? =U[t-a]? :=by
 rw[List.getElem?_append_right (by omega),hA,List.getElem?_append_left (by omega)]
theorem QbR {l:List α} (h:Srt k l) {i j:Nat} {x y:α} (hij:i≤j) (hx:l[i]? =some x) (hy:l[j]? =some y):k x≤k y:=by
 rcases Nat.lt_or_ge i j with h1 | h1
 ·have hj:=Qr hy;have:=List.pairwise_iff_getElem.1 h i j (by omega) hj h1
  rw[List.getElem?_eq_getElem (by omega)] at hx hy
  injection hx with hx;injection hy with hy
  rw[←hx,←hy];exact this
 ·have:i=j:=by omega
  subst this
  rw[hx] at hy;injection hy with hy
  subst hy;exact Int.le_refl _
theorem QdZ {l:List α} {n:Nat} {x:α} (h:x∈l.take n): ∃i,i<n∧l[i]? =some x:=by
 obtain ⟨i,hi⟩:=List.getElem?_of_mem h
 rw[List.getElem?_take] at hi
 split at hi
 ·exact ⟨i,by assumption,hi⟩
 ·cases hi
theorem QdY {l:List α} {n:Nat} {x:α} (h:x∈l.drop n): ∃i,n≤i∧l[i]? =some x:=by
 obtain ⟨i,hi⟩:=List.getElem?_of_mem h
 rw[List.getElem?_drop] at hi
 exact ⟨n+i,by omega,hi⟩
theorem QnE (hc: ∀x y,Pv x→Pv y→ ∃z,cmp x y=some z∧(z<0↔k x<k y)) {a b F:Nat} {A V B:List α} {x:α} (hA:A.length=a) (hV:a+1+V.length=b) (hb:b≤1000000000) (hF:b-a<F) (hs:Srt k V) (hx:Pv x) (hp: ∀z∈V,Pv z) (rec_:List α→Int→Int→Int→Option (List α)) :
  ∃M,QdQ cmp rec_ F (A++([x]++(V++B))) a ((a+1:Nat):Int) b=some (A++(M++B))∧Srt k M∧Yz k ([x]++V) M:=by
 have hd:w64 (((a+1:Nat):Int)-(a:Int))=1:=by rw[Qek (by omega) (by omega)];omega
 have gx:(A++([x]++(V++B)))[a]? =some x:=Qcm hA;have gv: ∀t,a+1≤t→t<b→ ∃v,(A++([x]++(V++B)))[t]? =some v∧V[t-(a+1)]? =some v:=by
  intro t h1 h2;have e:A++([x]++(V++B))=(A++[x])++(V++B):=by simp
  obtain ⟨v,hv⟩:=QbV (L:=V) (i:=t-(a+1)) (by omega);exact ⟨v,by rw[e,QgP (a:=a+1) (by simp[hA]) h1 (by omega)];exact hv,hv⟩
 obtain ⟨r,k1,k2,k3,k4,k5⟩:=Qg2 (body:=Qhw cmp (A++([x]++(V++B))) (a:Int)) (mk:=fun i j=>((i:Int),(j:Int))) (test:=fun h=>match (A++([x]++(V++B)))[h]? with | some v=>decide (k v<k x) | none=>false) (i0:=a+1) (j0:=b) (fun i j h0 hij hj=>by
   obtain ⟨v,g1,g2⟩:=gv ((i+j)/2) (by omega) (by omega);obtain ⟨z,hz,hz2⟩:=hc v x (hp v (List.mem_of_getElem? g2)) hx;have hlt:(i:Int)<(j:Int):=by omega
   have hw:=Qmu (i:=i) (j:=j) (by omega);have hw1:w64 (((((i+j)/2:Nat):Int))+1)=(((i+j)/2+1:Nat):Int):=Qgu (by omega);have hg:Ws (0≤1∧1≤64)=some ():=QaA (by decide)
   by_cases hk:k v<k x
   ·have hz0:=hz2.2 hk
    simp only[Qhw,oun,hlt,decide_true,cond_true,hg,Option.bind_some,hw,Qq,g1,gx,hz,hz0,hk,hw1]
   ·have hz0: ¬z<0:=fun h=>hk (hz2.1 h)
    simp only[Qhw,oun,hlt,decide_true,cond_true,hg,Option.bind_some,hw,Qq,g1,gx,hz,hz0,hk,decide_false,cond_false])
  (fun i h0 hj=>by simp only[Qhw,oun,Int.lt_irrefl,decide_false,cond_false])
  (fun s t h1 h2 h3 ht=>by
   obtain ⟨v,g1,g2⟩:=gv s h1 (by omega);obtain ⟨w,q1,q2⟩:=gv t (by omega) h3
   simp only[q1,g1,decide_eq_true_eq] at ht ⊢
   have:=QbR hs (by omega:s-(a+1)≤t-(a+1)) g2 q2
   omega) (b-(a+1)) (a+1) b F (Nat.le_refl _) (by omega) (Nat.le_refl _) (by omega) (Nat.le_refl _) (fun t h1 h2=>by omega) (fun t h1 h2=>by omega)
 have hl:(V.take (r-(a+1))).length=r-(a+1):=by simp;omega
 have h1: ∀z∈V.take (r-(a+1)),k z<k x:=by
  intro z hz;obtain ⟨i,hi,hz⟩:=QdZ hz;have h2:=k4 (a+1+i) (by omega) (by omega);obtain ⟨v,g1,g2⟩:=gv (a+1+i) (by omega) (by omega)
  simp only[g1,decide_eq_true_eq] at h2
  rw[show a+1+i-(a+1)=i by omega,hz] at g2
  injection g2 with g2;subst g2;exact h2
 have h2: ∀z∈V.drop (r-(a+1)),k x≤k z:=by
  intro z hz;obtain ⟨i,hi,hz⟩:=QdY hz;have hlt:=Qr hz;have h2:=k5 (a+1+i) (by omega) (by omega);obtain ⟨v,g1,g2⟩:=gv (a+1+i) (by omega) (by omega)
  simp only[g1,decide_eq_false_iff_not] at h2
  rw[show a+1+i-(a+1)=i by omega,hz] at g2
  injection g2 with g2;subst g2;omega
 have hvs:V=V.take (r-(a+1))++V.drop (r-(a+1)):=(List.take_append_drop _ _).symm;refine ⟨V.take (r-(a+1))++x::V.drop (r-(a+1)),?_,?_,?_⟩
 ·have key:=Qhy (cmp:=cmp) (a:=a) (e:=r) (A:=A) (B:=V.drop (r-(a+1))++B) (x:=x) (r-(a+1)) [] (V.take (r-(a+1))) F hl (by omega) (by simp;omega) (by omega);have e1:A++([x]++(V++B))=A++[]++x::(V.take (r-(a+1))++(V.drop (r-(a+1))++B)):=by
   rw[←List.append_assoc (V.take _),←hvs];simp
  have e2:((a:Nat):Int)=((A.length+([]:List α).length:Nat):Int):=by simp[hA]
  unfold QdQ
  simp only[hd,decide_true,cond_true,k1,Option.bind_some]
  rw[e1]
  conv=>lhs;rw[e2]
  rw[key]
  simp
 ·have:=hs
  rw[hvs] at this
  have hp2:=List.pairwise_append.1 this;refine List.pairwise_append.2 ⟨hp2.1,List.pairwise_cons.2 ⟨h2,hp2.2.1⟩,fun y hy z hz=> ?_⟩;have:=h1 y hy;rcases List.mem_cons.1 hz with rfl | hz
  ·omega
  ·have:=h2 z hz;omega
 ·conv=>lhs;rw[hvs,←List.append_assoc]
  have:V.take (r-(a+1))++x::V.drop (r-(a+1))=(V.take (r-(a+1))++[x])++V.drop (r-(a+1)):=by simp
  rw[this]
  refine Yz.append (Yz.swap fun u hu v hv=> ?_) (Yz.refl _)
  simp only[List.mem_singleton] at hu;subst hu;exact h1 v hv
end
end Go.Proofs.YthpgjbbjpfiniaaGreat
namespace Go.Proofs.YthpgjbbjpfiniaaGreat
set_option linter.unusedSimpArgs false
set_option linter.unusedVariables false
set_option maxHeartbeats 1000000
section
variable {α:Type} {k:α→Int} {cmp:α→α→Option Int} {Pv:α→Prop}
theorem QmJ (hc: ∀x y,Pv x→Pv y→ ∃z,cmp x y=some z∧(z<0↔k x<k y)) {a m F:Nat} {A U B:List α} {y:α} (hA:A.length=a) (hU:a+U.length=m) (h2:2≤U.length) (hb:m+1≤1000000000) (hF:m+1-a<F) (hs:Srt k U) (hy:Pv y) (hp: ∀z∈U,Pv z) (rec_:List α→Int→Int→Int→Option (List α)) :
  ∃M,QdQ cmp rec_ F (A++(U++([y]++B))) a m ((m+1:Nat):Int)=some (A++(M++B))∧Srt k M∧Yz k (U++[y]) M:=by
 have hd1: ¬w64 ((m:Int)-(a:Int))=1:=by rw[Qek (by omega) (by omega)];omega
 have hd:w64 (((m+1:Nat):Int)-(m:Int))=1:=by rw[Qek (by omega) (by omega)];omega
 have gy:(A++(U++([y]++B)))[m]? =some y:=by
  have:A++(U++([y]++B))=(A++U)++y::B:=by simp
  rw[this];exact Qcm (by simp[hA,hU])
 have gu: ∀t,a≤t→t<m→ ∃v,(A++(U++([y]++B)))[t]? =some v∧U[t-a]? =some v:=by
  intro t h1 h2;obtain ⟨v,hv⟩:=QbV (L:=U) (i:=t-a) (by omega);exact ⟨v,by rw[QgP hA h1 (by omega)];exact hv,hv⟩
 obtain ⟨r,k1,k2,k3,k4,k5⟩:=Qg2 (body:=Qhx cmp (A++(U++([y]++B))) (m:Int)) (mk:=fun i j=>((i:Int),(j:Int))) (test:=fun h=>match (A++(U++([y]++B)))[h]? with | some v=>decide (¬k y<k v) | none=>false) (i0:=a) (j0:=m) (fun i j h0 hij hj=>by
   obtain ⟨v,g1,g2⟩:=gu ((i+j)/2) (by omega) (by omega);obtain ⟨z,hz,hz2⟩:=hc y v hy (hp v (List.mem_of_getElem? g2));have hlt:(i:Int)<(j:Int):=by omega
   have hw:=Qmu (i:=i) (j:=j) (by omega);have hw1:w64 (((((i+j)/2:Nat):Int))+1)=(((i+j)/2+1:Nat):Int):=Qgu (by omega);have hg:Ws (0≤1∧1≤64)=some ():=QaA (by decide)
   by_cases hk:k y<k v
   ·have hz0:=hz2.2 hk
    simp only[Qhx,oun,hlt,decide_true,cond_true,hg,Option.bind_some,hw,Qq,g1,gy,hz,hz0,hk,hw1,Bool.not_true,cond_false,not_true_eq_false,decide_false]
   ·have hz0: ¬z<0:=fun h=>hk (hz2.1 h)
    simp only[Qhx,oun,hlt,decide_true,cond_true,hg,Option.bind_some,hw,Qq,g1,gy,hz,hz0,hk,decide_false,cond_false,Bool.not_false,not_false_eq_true,hw1])
  (fun i h0 hj=>by simp only[Qhx,oun,Int.lt_irrefl,decide_false,cond_false])
  (fun s t h1 h2 h3 ht=>by
   obtain ⟨v,g1,g2⟩:=gu s h1 (by omega);obtain ⟨w,q1,q2⟩:=gu t (by omega) h3
   simp only[q1,g1,decide_eq_true_eq] at ht ⊢
   have:=QbR hs (by omega:s-a≤t-a) g2 q2
   omega) (m-a) a m F (Nat.le_refl _) (by omega) (Nat.le_refl _) (by omega) (Nat.le_refl _) (fun t h1 h2=>by omega) (fun t h1 h2=>by omega)
 have hl:(U.take (r-a)).length=r-a:=by simp;omega
 have h1: ∀z∈U.take (r-a),k z≤k y:=by
  intro z hz;obtain ⟨i,hi,hz⟩:=QdZ hz;have h2:=k4 (a+i) (by omega) (by omega);obtain ⟨v,g1,g2⟩:=gu (a+i) (by omega) (by omega)
  simp only[g1,decide_eq_true_eq] at h2
  rw[show a+i-a=i by omega,hz] at g2
  injection g2 with g2;subst g2;omega
 have h2: ∀z∈U.drop (r-a),k y<k z:=by
  intro z hz;obtain ⟨i,hi,hz⟩:=QdY hz;have hlt:=Qr hz;have h2:=k5 (a+i) (by omega) (by omega);obtain ⟨v,g1,g2⟩:=gu (a+i) (by omega) (by omega)
  simp only[g1,decide_eq_false_iff_not,Classical.not_not] at h2
  rw[show a+i-a=i by omega,hz] at g2
  injection g2 with g2;subst g2;exact h2
 have hus:U=U.take (r-a)++U.drop (r-a):=(List.take_append_drop _ _).symm;obtain ⟨j1,j2⟩:=Qfs (x:=y) (by rw[←hus];exact hs) h2 h1;refine ⟨U.take (r-a)++y::U.drop (r-a),?_,j1,by rw[←hus] at j2;exact j2⟩;have key:=QiE (cmp:=cmp) (e:=r) (A:=A++U.take (r-a)) (B:=B) (x:=y) (by simp[hA];omega) (U.drop (r-a)).length (U.drop (r-a)) [] F rfl (by simp;omega) (by simp;omega);have e1:A++(U++([y]++B))=A++U.take (r-a)++U.drop (r-a)++y::([]++B):=by
  rw[List.append_assoc A,←hus];simp
 have e2:((m:Nat):Int)=((r+(U.drop (r-a)).length:Nat):Int):=by simp;omega
 unfold QdQ
 simp only[hd1,hd,decide_false,cond_false,decide_true,cond_true,k1,Option.bind_some]
 rw[e1]
 conv=>lhs;rw[e2]
 rw[key]
 simp
theorem QkH {s a m b:Nat} {rec_:List α→Int→Int→Int→Option (List α)} (hr: ∀(A U V B:List α) (a m b:Nat),A.length=a→a+U.length=m→m+V.length=b→1≤U.length→1≤V.length→b≤1000000000→(A++(U++(V++B))).length≤1000000000000→b-a≤s→Srt k U→Srt k V→(∀z∈U,Pv z)→(∀z∈V,Pv z)→ ∃M,rec_ (A++(U++(V++B))) a m b=some (A++(M++B))∧Srt k M∧Yz k (U++V) M) {A U V B:List α} (hA:A.length=a) (hU:a+U.length=m) (hV:m+V.length=b) (hb:b≤1000000000) (hl:(A++(U++(V++B))).length≤1000000000000) (hs:b-a≤s) (su:Srt k U) (sv:Srt k V) (pu: ∀z∈U,Pv z) (pv: ∀z∈V,Pv z) :
  ∃v M,(bif (decide ((a:Int)<(m:Int))) then some (decide ((m:Int)<(b:Int))) else some false)=some v∧(bif v then Option.bind (rec_ (A++(U++(V++B))) a m b) fun r=>some r else some (A++(U++(V++B))))=some (A++(M++B))∧Srt k M∧Yz k (U++V) M:=by
 by_cases h1:a<m
 ·have h1':(a:Int)<(m:Int):=by omega
  by_cases h2:m<b
  ·have h2':(m:Int)<(b:Int):=by omega
   obtain ⟨M,k1,k2,k3⟩:=hr A U V B a m b hA hU hV (by omega) (by omega) hb hl hs su sv pu pv;refine ⟨true,M,?_,?_,k2,k3⟩
   ·simp only[h1',h2',decide_true,cond_true]
   ·simp only[cond_true,k1,Option.bind_some]
  ·have h2': ¬(m:Int)<(b:Int):=by omega
   have:V=[]:=List.eq_nil_of_length_eq_zero (by omega);subst this;refine ⟨false,U,?_,?_,su,by rw[List.append_nil];exact Yz.refl U⟩
   ·simp only[h1',h2',decide_true,cond_true,decide_false]
   ·simp only[cond_false,List.nil_append]
 ·have h1': ¬(a:Int)<(m:Int):=by omega
  have:U=[]:=List.eq_nil_of_length_eq_zero (by omega);subst this;refine ⟨false,V,?_,?_,sv,Yz.refl V⟩
  ·simp only[h1',decide_false,cond_false]
  ·simp only[cond_false,List.nil_append]
theorem QhY {l:List α} (h:Srt k l) (n:Nat):Srt k (l.take n):=List.Pairwise.sublist (List.take_sublist n l) h
theorem QhX {l:List α} (h:Srt k l) (n:Nat):Srt k (l.drop n):=List.Pairwise.sublist (List.drop_sublist n l) h
theorem Qov {l:List α} (h:Srt k l) {n:Nat} {x y:α} (hx:x∈l.take n) (hy:y∈l.drop n):k x≤k y:=by
 obtain ⟨i,hi,hx⟩:=QdZ hx;obtain ⟨j,hj,hy⟩:=QdY hy;exact QbR h (by omega) hx hy
theorem Qo8 (hc: ∀x y,Pv x→Pv y→ ∃z,cmp x y=some z∧(z<0↔k x<k y)) {F a m b:Nat}
  {A U V B:List α} (hA:A.length=a) (hU:a+U.length=m) (hV:m+V.length=b) (hu:2≤U.length) (hv:2≤V.length) (hb:b≤1000000000) (hF:b-a<F) (su:Srt k U) (sv:Srt k V) (pu: ∀z∈U,Pv z) (pv: ∀z∈V,Pv z) :
  ∃st r0 r e:Nat,(bif (decide ((((a+b)/2:Nat):Int)<(m:Int))) then some ((((a+b)/2:Nat):Int),(((a+b)/2+m:Nat):Int),w64 ((((a+b)/2+m:Nat):Int)-(b:Int)),(((a+b)/2:Nat):Int)) else some ((((a+b)/2:Nat):Int),(((a+b)/2+m:Nat):Int),(a:Int),(m:Int)))=some ((((a+b)/2:Nat):Int),(((a+b)/2+m:Nat):Int),(st:Int),(r0:Int)) ∧
   iter (QfX cmp (A++(U++(V++B)))) F ((st:Int),(r0:Int),(((a+b)/2+m-1:Nat):Int))=some (r:Int)∧a≤r∧r≤m∧e+r=(a+b)/2+m∧m≤e∧e≤b∧a<(a+b)/2∧(a+b)/2<b∧(∀x∈U.take (r-a),∀y∈V.drop (e-m),k x≤k y)∧(∀x∈U.drop (r-a),∀y∈V.take (e-m),k y<k x):=by
 have hg:Ws (0≤1∧1≤64)=some ():=QaA (by decide)
 generalize hm:(a+b)/2=mid
 obtain ⟨st,r0,hst,hst1,hst2,hst3⟩: ∃st r0:Nat,(bif (decide ((mid:Int)<(m:Int))) then some ((mid:Int),((mid+m:Nat):Int),w64 (((mid+m:Nat):Int)-(b:Int)),(mid:Int)) else some ((mid:Int),((mid+m:Nat):Int),(a:Int),(m:Int)))=some ((mid:Int),((mid+m:Nat):Int),(st:Int),(r0:Int))∧a≤st∧st≤r0∧((mid<m∧st+b=mid+m∧r0=mid)∨(m≤mid∧st=a∧r0=m)):=by
  by_cases h:mid<m
  ·have h':(mid:Int)<(m:Int):=by omega
   refine ⟨mid+m-b,mid,?_,by omega,by omega,.inl ⟨h,by omega,rfl⟩⟩
   simp only[h',decide_true,cond_true,Qek (by omega:b≤mid+m) (by omega)]
  ·have h': ¬(mid:Int)<(m:Int):=by omega
   refine ⟨a,m,?_,Nat.le_refl _,by omega,.inr ⟨by omega,rfl,rfl⟩⟩
   simp only[h',decide_false,cond_false]
 have gu: ∀t,a≤t→t<m→ ∃v,(A++(U++(V++B)))[t]? =some v∧U[t-a]? =some v:=by
  intro t h1 h2;obtain ⟨v,hv⟩:=QbV (L:=U) (i:=t-a) (by omega);exact ⟨v,by rw[QgP hA h1 (by omega)];exact hv,hv⟩
 have gv: ∀t,m≤t→t<b→ ∃v,(A++(U++(V++B)))[t]? =some v∧V[t-m]? =some v:=by
  intro t h1 h2;obtain ⟨v,hv⟩:=QbV (L:=V) (i:=t-m) (by omega);have e:A++(U++(V++B))=(A++U)++(V++B):=by simp
  exact ⟨v,by rw[e,QgP (a:=m) (by simp[hA,hU]) h1 (by omega)];exact hv,hv⟩
 obtain ⟨r,k1,k2,k3,k4,k5⟩:=Qg2 (body:=QfX cmp (A++(U++(V++B)))) (mk:=fun i j=>((i:Int),(j:Int),((mid+m-1:Nat):Int))) (test:=fun h=>match (A++(U++(V++B)))[mid+m-1-h]?,(A++(U++(V++B)))[h]? with | some v,some u=>decide (¬k v<k u) | _,_=>false) (i0:=st) (j0:=r0) (fun i j h0 hij hj=>by
   obtain ⟨u,u1,u2⟩:=gu ((i+j)/2) (by omega) (by omega);obtain ⟨v,v1,v2⟩:=gv (mid+m-1-(i+j)/2) (by omega) (by omega);obtain ⟨z,hz,hz2⟩:=hc v u (pv v (List.mem_of_getElem? v2)) (pu u (List.mem_of_getElem? u2));have hlt:(i:Int)<(j:Int):=by omega
   have hw:=Qmu (i:=i) (j:=j) (by omega);have hw1:w64 (((((i+j)/2:Nat):Int))+1)=(((i+j)/2+1:Nat):Int):=Qgu (by omega);have hw2:w64 (((mid+m-1:Nat):Int)-(((i+j)/2:Nat):Int))=((mid+m-1-(i+j)/2:Nat):Int):=Qek (by omega) (by omega)
   by_cases hk:k v<k u
   ·have hz0:=hz2.2 hk
    simp only[QfX,oun,hlt,decide_true,cond_true,hg,Option.bind_some,hw,hw2,Qq,u1,v1,hz,hz0,hk,hw1,Bool.not_true,cond_false,not_true_eq_false,decide_false]
   ·have hz0: ¬z<0:=fun h=>hk (hz2.1 h)
    simp only[QfX,oun,hlt,decide_true,cond_true,hg,Option.bind_some,hw,hw2,Qq,u1,v1,hz,hz0,hk,decide_false,cond_false,Bool.not_false,not_false_eq_true,hw1])
  (fun i h0 hj=>by simp only[QfX,oun,Int.lt_irrefl,decide_false,cond_false])
  (fun s t h1 h2 h3 ht=>by
   obtain ⟨u,u1,u2⟩:=gu s (by omega) (by omega);obtain ⟨v,v1,v2⟩:=gv (mid+m-1-s) (by omega) (by omega);obtain ⟨u',u1',u2'⟩:=gu t (by omega) (by omega);obtain ⟨v',v1',v2'⟩:=gv (mid+m-1-t) (by omega) (by omega)
   simp only[u1,v1,u1',v1',decide_eq_true_eq] at ht ⊢
   have h4:=QbR su (by omega:s-a≤t-a) u2 u2';have h5:=QbR sv (by omega:mid+m-1-t-m≤mid+m-1-s-m) v2' v2
   omega) (r0-st) st r0 F (Nat.le_refl _) (by omega) (Nat.le_refl _) (by omega) (Nat.le_refl _) (fun t h1 h2=>by omega) (fun t h1 h2=>by omega)
 generalize he:mid+m-r=e
 have hme:m≤e:=by omega
 have heb:e≤b:=by omega
 have hi: ∀x∈U.take (r-a),∀y∈V.drop (e-m),k x≤k y:=by
  intro x hx y hy;obtain ⟨i,hi,hx⟩:=QdZ hx;obtain ⟨j,hj,hy⟩:=QdY hy;have hj2:=Qr hy
  by_cases hrs:r=st
  ·omega
  ·have ht:=k4 (r-1) (by omega) (by omega);obtain ⟨u,u1,u2⟩:=gu (r-1) (by omega) (by omega);obtain ⟨v,v1,v2⟩:=gv (mid+m-1-(r-1)) (by omega) (by omega)
   simp only[u1,v1,decide_eq_true_eq] at ht
   have h4:=QbR su (by omega:i≤r-1-a) hx u2;have h5:=QbR sv (by omega:mid+m-1-(r-1)-m≤j) v2 hy
   omega
 have hii: ∀x∈U.drop (r-a),∀y∈V.take (e-m),k y<k x:=by
  intro x hx y hy;obtain ⟨i,hi,hx⟩:=QdY hx;obtain ⟨j,hj,hy⟩:=QdZ hy;have hi2:=Qr hx
  by_cases hrs:r=r0
  ·omega
  ·have ht:=k5 r (by omega) (by omega);obtain ⟨u,u1,u2⟩:=gu r (by omega) (by omega);obtain ⟨v,v1,v2⟩:=gv (mid+m-1-r) (by omega) (by omega)
   simp only[u1,v1,decide_eq_false_iff_not,Classical.not_not] at ht
   have h4:=QbR su (by omega:r-a≤i) u2 hx;have h5:=QbR sv (by omega:j≤mid+m-1-r-m) hy v2
   omega
 exact ⟨st,r0,r,e,hst,k1,by omega,by omega,by omega,hme,heb,by omega,by omega,hi,hii⟩
theorem QmK (hc: ∀x y,Pv x→Pv y→ ∃z,cmp x y=some z∧(z<0↔k x<k y)) {s F a m b:Nat} {rec_:List α→Int→Int→Int→Option (List α)} (hr: ∀(A U V B:List α) (a m b:Nat),A.length=a→a+U.length=m→m+V.length=b→1≤U.length→1≤V.length→b≤1000000000→(A++(U++(V++B))).length≤1000000000000→b-a≤s→Srt k U→Srt k V→(∀z∈U,Pv z)→(∀z∈V,Pv z)→ ∃M,rec_ (A++(U++(V++B))) a m b=some (A++(M++B))∧Srt k M∧Yz k (U++V) M)
  {A U V B:List α} (hA:A.length=a) (hU:a+U.length=m) (hV:m+V.length=b) (hu:2≤U.length) (hv:2≤V.length) (hb:b≤1000000000) (hl:(A++(U++(V++B))).length≤1000000000000) (hs:b-a≤s+1) (hF:b-a<F) (su:Srt k U) (sv:Srt k V) (pu: ∀z∈U,Pv z) (pv: ∀z∈V,Pv z) :
  ∃M,QdQ cmp rec_ F (A++(U++(V++B))) a m b=some (A++(M++B))∧Srt k M∧Yz k (U++V) M:=by
 have hd1: ¬w64 ((m:Int)-(a:Int))=1:=by rw[Qek (by omega) (by omega)];omega
 have hd2: ¬w64 ((b:Int)-(m:Int))=1:=by rw[Qek (by omega) (by omega)];omega
 have hg:Ws (0≤1∧1≤64)=some ():=QaA (by decide);obtain ⟨st,r0,r,e,hst,k1,r1,r2,he,hme,heb,hm1,hm2,hi,hii⟩:=Qo8 (B:=B) hc hA hU hV hu hv hb hF su sv pu pv
 generalize hm:(a+b)/2=mid at *
 have hw:w64 ((IntKind.u64.wrap (w64 ((a:Int)+(b:Int))))/2^(1:Int).toNat)=(mid:Int):=by rw[Qmu (by omega),hm]
 have hn:w64 ((mid:Int)+(m:Int))=((mid+m:Nat):Int):=Qio (by omega);have hp:w64 (((mid+m:Nat):Int)-1)=((mid+m-1:Nat):Int):=QkN (by omega) (by omega);have hend:w64 (((mid+m:Nat):Int)-(r:Int))=(e:Int):=by rw[Qek (by omega) (by omega)];omega
 have l1:(U.take (r-a)).length=r-a:=by simp;omega
 have l2:(U.drop (r-a)).length=m-r:=by simp;omega
 have l3:(V.take (e-m)).length=e-m:=by simp;omega
 have l4:(V.drop (e-m)).length=b-e:=by simp;omega
 have hus:U.take (r-a)++U.drop (r-a)=U:=List.take_append_drop _ _;have hvs:V.take (e-m)++V.drop (e-m)=V:=List.take_append_drop _ _
 generalize hU1:U.take (r-a)=U1 at *
 generalize hU2:U.drop (r-a)=U2 at *
 generalize hV1:V.take (e-m)=V1 at *
 generalize hV2:V.drop (e-m)=V2 at *
 have s1:Srt k U1:=by rw[←hU1];exact QhY su _
 have s2:Srt k U2:=by rw[←hU2];exact QhX su _
 have s3:Srt k V1:=by rw[←hV1];exact QhY sv _
 have s4:Srt k V2:=by rw[←hV2];exact QhX sv _
 have c1: ∀x∈U1,∀y∈U2,k x≤k y:=fun x hx y hy=>by rw[←hU1] at hx;rw[←hU2] at hy;exact Qov su hx hy
 have c2: ∀x∈V1,∀y∈V2,k x≤k y:=fun x hx y hy=>by rw[←hV1] at hx;rw[←hV2] at hy;exact Qov sv hx hy
 have p1: ∀z∈U1,Pv z:=fun z hz=>pu z (by rw[←hus];simp[hz]);have p2: ∀z∈U2,Pv z:=fun z hz=>pu z (by rw[←hus];simp[hz]);have p3: ∀z∈V1,Pv z:=fun z hz=>pv z (by rw[←hvs];simp[hz]);have p4: ∀z∈V2,Pv z:=fun z hz=>pv z (by rw[←hvs];simp[hz]);have hmid:a+U1.length+V1.length=mid:=by omega
 obtain ⟨w0,hr1,hr2⟩: ∃v,(bif (decide ((r:Int)<(m:Int))) then some ((e:Int),(decide ((m:Int)<(e:Int)))) else some ((e:Int),false))=some ((e:Int),v) ∧
   (bif v then Option.bind (QoN F (A++(U++(V++B))) r m e) fun r6=>some r6 else some (A++(U++(V++B))))=some (A++(U1++(V1++(U2++(V2++B))))):=by
  by_cases h1:r<m
  ·have h1':(r:Int)<(m:Int):=by omega
   by_cases h2:m<e
   ·have h2':(m:Int)<(e:Int):=by omega
    obtain ⟨L',q1,q2,q3⟩:=QoO (L:=A++(U++(V++B))) (a:=r) (m:=m) (b:=e) (F:=F) h1 h2 (by simp;omega) hl (by omega);have e0:A++(U++(V++B))=(A++U1)++(U2++(V1++(V2++B))):=by rw[←hus,←hvs];simp
    have:=Qo2 (A:=A++U1) (U:=U2) (V:=V1) (B:=V2++B) (L':=L') (m:=m) (by simp;omega) (fun t=>by rw[q3 t,e0,l2,l3]);refine ⟨true,by simp only[h1',h2',decide_true,cond_true],?_⟩
    simp only[cond_true,Option.bind_some,q1,this]
    simp
   ·have h2': ¬(m:Int)<(e:Int):=by omega
    have:V1=[]:=List.eq_nil_of_length_eq_zero (by omega);refine ⟨false,by simp only[h1',h2',decide_true,cond_true,decide_false],?_⟩
    rw[cond_false,←hus,←hvs,this];simp
  ·have h1': ¬(r:Int)<(m:Int):=by omega
   have:U2=[]:=List.eq_nil_of_length_eq_zero (by omega);refine ⟨false,by simp only[h1',decide_false,cond_false],?_⟩
   rw[cond_false,←hus,←hvs,this];simp
 obtain ⟨w1,M1,a1,a2,a3,a4⟩:=QkH hr (A:=A) (U:=U1) (V:=V1) (B:=U2++(V2++B)) (a:=a) (m:=r) (b:=mid) hA (by omega) (by omega) (by omega) (by rw[←hus,←hvs] at hl;simp at hl ⊢;omega) (by omega) s1 s3 p1 p3;have lM:M1.length=U1.length+V1.length:=by rw[←a4.perm.length_eq];simp
 obtain ⟨w2,M2,b1,b2,b3,b4⟩:=QkH hr (A:=A++M1) (U:=U2) (V:=V2) (B:=B) (a:=mid) (m:=e) (b:=b) (by simp;omega) (by omega) (by omega) (by omega) (by rw[←hus,←hvs] at hl;simp at hl ⊢;omega) (by omega) s2 s4 p2 p4;refine ⟨M1++M2,?_,?_,?_⟩
 ·have e1:A++(M1++(U2++(V2++B)))=(A++M1)++(U2++(V2++B)):=by simp
  unfold QdQ
  simp only[hd1,hd2,decide_false,cond_false,hg,Option.bind_some,hw,hn,hst,oun,hp,k1,hend,hr1,hr2,a1,a2,b1]
  rw[e1]
  simp only[b2,Option.bind_some]
  simp
 ·refine List.pairwise_append.2 ⟨a3,b3,fun x hx y hy=> ?_⟩;have hx:=a4.perm.symm.subset hx;have hy:=b4.perm.symm.subset hy;rcases List.mem_append.1 hx with hx | hx<;>rcases List.mem_append.1 hy with hy | hy
  ·exact c1 x hx y hy
  ·exact hi x hx y hy
  ·have:=hii y hy x hx;omega
  ·exact c2 x hx y hy
 ·rw[←hus,←hvs]
  have e1:U1++U2++(V1++V2)=U1++(U2++V1)++V2:=by simp
  have e2:U1++(V1++U2)++V2=(U1++V1)++(U2++V2):=by simp
  rw[e1]
  refine Yz.trans (b:=(U1++V1)++(U2++V2)) ?_ (a4.append b4)
  rw[←e2]
  exact ((Yz.refl U1).append (Yz.swap hii)).append (Yz.refl V2)
theorem Qjh (hc: ∀x y,Pv x→Pv y→ ∃z,cmp x y=some z∧(z<0↔k x<k y)): ∀(F:Nat) (A U V B:List α) (a m b:Nat),A.length=a→a+U.length=m→m+V.length=b→1≤U.length→1≤V.length→b≤1000000000→(A++(U++(V++B))).length≤1000000000000→2*(b-a)+4≤F→Srt k U→Srt k V→(∀z∈U,Pv z)→(∀z∈V,Pv z) →
  ∃M,Qje cmp F (A++(U++(V++B))) a m b=some (A++(M++B))∧Srt k M∧Yz k (U++V) M
 | 0,_,_,_,_,_,_,_,_,_,_,_,_,_,_,h,_,_,_,_=>by omega
 | F+1,A,U,V,B,a,m,b,hA,hU,hV,hu,hv,hb,hl,hF,su,sv,pu,pv=>by
  by_cases h1:U.length=1
  ·obtain ⟨x,rfl⟩:=List.length_eq_one_iff.1 h1;have:m=a+1:=by simp at hU;omega
   subst this;exact QnE hc hA (by omega) hb (by omega) sv (pu x (by simp)) pv _
  ·by_cases h2:V.length=1
   ·obtain ⟨y,rfl⟩:=List.length_eq_one_iff.1 h2;have:b=m+1:=by simp at hV;omega
    subst this;exact QmJ hc hA hU (by omega) hb (by omega) su (pv y (by simp)) pu _
   ·exact QmK (s:=b-a-1) hc (fun A U V B a m b hA hU hV hu hv hb hl hs su sv pu pv=>Qjh hc F A U V B a m b hA hU hV hu hv hb hl (by omega) su sv pu pv) hA hU hV (by omega) (by omega) hb hl (by omega) (by omega) su sv pu pv
end
end Go.Proofs.YthpgjbbjpfiniaaGreat
