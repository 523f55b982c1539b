/- ExactFeasible: for every input the given law returns true, and its arguments read as before. No condition. -/
import Derived.Test.Ytilbengnjgglhaac2x7
import Derived.Test.Ytilbengnjgglhaac2x2
import Derived.Test.Ytilbengnjgglhaac2x1
import Derived.ProofKit
import Derived.Below
import Derived.ChangeSame
import Derived.Carry
import Derived.WideKeyArgs
import Derived.Deep.Slices
import Derived.Deep.Fields
import Derived.OpenShut
import Derived.Test.YtilbengnjgglhaaRows
import Derived.Test.Ytilbengnjgglhaac2x6
namespace Go.Proofs.Ytilbengnjgglhaa
open Go.RowKit
set_option linter.unusedSimpArgs false
set_option linter.unusedVariables false
abbrev Wa:=Ql
structure At (p:Pr) (v:Ve) (w:Wa) (x:Vi) (m:Int) (l:List Vi):Prop where
 pl:w.place=⟨x.Node,x.Leave,x.Load,m⟩
 ep:w.p=p
 ev:w.v=v
 vs:w.visits=l
 ok:okC p w.legs
theorem QeF {w:Wa} {s a b:Int} (h:w.visits.length≤1000):Zv w s a b=some ⟨w.place,w.p,w.v,w.legs,w.visits++[⟨s,w.place.node,a,b,w.place.time,w.place.load⟩]⟩:=by
 unfold Zv
 rw[WF (by simp;omega)]
 rfl
theorem Qgk {F:Nat} (hF:40000≤F) {p:Pr} {v:Ve} (hp:OkP p) (hv:OkV p.Road.Nodes v) {t:Qf} (hn:t.Stops.length≤40) {k:Nat} {s:Int} (hk:t.Stops[k]? =some s) {x:Vi} (hx:InV p v k x) {w:Wa} {m:Int} {l:List Vi}
  (hw:At p v w x m l) (hl:l.length≤900) (hm0:0≤m) (hm1:m≤k*6400000) :
  match QaB p v (t.Stops.take k) x s with
   | .inl y=> ∃w',ZB F w t (k:Int)=some (0,w')∧At p v w' y (m+(Yv p x.Node y.Node).Meters) (l++[y])
   | .inr e=> ∃w',ZB F w t (k:Int)=some (e,w'):=by
 obtain ⟨pl,wp,wv,wl,wvs⟩:=w;obtain ⟨e1,e2,e3,e4,e5⟩:=hw
 simp only at e1 e2 e3 e4 e5
 subst e1 e2 e3 e4;have hkl:=QD hk;have h1:=hx.t0;have h2:=hx.t1;have h3:=hx.l0;have h4:=hx.l1;have hg:=hv.g1;have hsub:J2 t.Stops 0 (k:Int)=some (t.Stops.take k):=WR (Nat.le_of_lt hkl);have hcon:Ys (t.Stops.take k) s=some (decide (s∈t.Stops.take k)):=Qce _ (by simp;omega) s;unfold ZB QaB
 simp only[Qr,hk,Option.bind_some]
 by_cases hs:s= -1
 ·subst hs;have hu:=Zs hp ⟨hx.n0,hx.n1⟩ ⟨hp.u0,hp.u1⟩;have hus0:=hp.us0;have hus1:=hp.us1;obtain ⟨c,hc1,hc2⟩:=Qf1 hF (w:=⟨⟨x.Node,x.Leave,x.Load,m⟩,wp,wv,wl,wvs⟩) hp e5 ⟨hx.n0,hx.n1⟩ ⟨hp.u0,hp.u1⟩
  simp only[decide_true,Bool.not_true,cond_false,cond_true,if_true,Option.bind_some,QR,hc1,oun]
  by_cases hl2:(Yv wp x.Node wp.Unload).Secs<0
  ·rw[if_pos hl2,show decide (0≤(Yv wp x.Node wp.Unload).Secs)=false by simp;omega]
   exact ⟨_,rfl⟩
  ·rw[if_neg hl2,show decide (0≤(Yv wp x.Node wp.Unload).Secs)=true by simp;omega]
   simp only[Bool.not_true,cond_false]
   rw[Q9 (n:=x.Leave+(Yv wp x.Node wp.Unload).Secs) (by omega) (by omega),Q9 (n:=x.Leave+(Yv wp x.Node wp.Unload).Secs+wp.UnloadSecs) (by omega) (by omega),Q9 (n:=m+(Yv wp x.Node wp.Unload).Meters) (by omega) (by omega)]
   rw[QeF (by simp only[];omega)]
   exact ⟨_,rfl,⟨rfl,rfl,rfl,rfl,hc2⟩⟩
 ·simp only[show decide (s= -1)=false by simpa using hs,cond_false,cond_true,Bool.not_false,if_neg hs,Yt,Option.bind_some]
  by_cases h7:s<0∨((wp.Demands.length:Nat):Int)≤s
  ·rw[if_pos h7,show (decide (s<0)||decide (((wp.Demands.length:Nat):Int)≤s))=true by simpa using h7]
   exact ⟨_,rfl⟩
  ·rw[if_neg h7,show (decide (s<0)||decide (((wp.Demands.length:Nat):Int)≤s))=false by simpa using h7]
   simp only[cond_false,hsub,hcon,Option.bind_some]
   by_cases h6:s∈t.Stops.take k
   ·rw[if_pos h6]
    simp only[h6,decide_true,cond_true,Option.bind_some,QR]
    exact ⟨_,rfl⟩
   ·rw[if_neg h6]
    obtain ⟨i,rfl⟩: ∃i:Nat,s=i:=⟨s.toNat,by omega⟩
    have hd:wp.Demands[i]? =some wp.Demands[i]:=List.getElem?_eq_getElem (by omega)
    generalize wp.Demands[i]=d at hd
    have hd2:=hp.de d (List.mem_of_getElem? hd);have hl3:=Zs hp ⟨hx.n0,hx.n1⟩ ⟨hd2.n0,hd2.n1⟩;have a1:=hd2.g0;have a2:=hd2.w0;have a3:=hd2.w1;have a4:=hd2.w2;have a5:=hd2.s0;have a6:=hd2.s1;have a7:=hd2.g1;obtain ⟨c,hc1,hc2⟩:=Qf1 hF (w:=⟨⟨x.Node,x.Leave,x.Load,m⟩,wp,wv,wl,wvs⟩) hp e5 ⟨hx.n0,hx.n1⟩ ⟨hd2.n0,hd2.n1⟩
    simp only[h6,decide_false,cond_false,Option.bind_some,QR,Qr,hd,Int.toNat_natCast,(QcR hv hd2.k0 hd2.k1).1]
    cases hc:QfS wv d.Kind with
    | false=>simp only[Bool.not_false,cond_true,Option.bind_some,QR,if_true];exact ⟨_,rfl⟩
    | true =>
     simp only[Bool.not_true,cond_false,Option.bind_some,Bool.true_eq_false,if_false,QR,hc1,oun]
     by_cases hl2:(Yv wp x.Node d.Node).Secs<0
     ·rw[if_pos hl2,show decide (0≤(Yv wp x.Node d.Node).Secs)=false by simp;omega]
      exact ⟨_,rfl⟩
     ·rw[if_neg hl2,show decide (0≤(Yv wp x.Node d.Node).Secs)=true by simp;omega]
      simp only[Bool.not_true,cond_false,Qr,hd,Option.bind_some]
      rw[Q9 (n:=x.Leave+(Yv wp x.Node d.Node).Secs) (by omega) (by omega),Q9 (n:=x.Load+d.Grams) (by omega) (by omega),Q9 (n:=m+(Yv wp x.Node d.Node).Meters) (by omega) (by omega)]
      by_cases hw:d.When.To≤max (x.Leave+(Yv wp x.Node d.Node).Secs) d.When.From
      ·rw[if_pos hw]
       simp only[hw,decide_true,cond_true]
       exact ⟨_,rfl⟩
      ·rw[if_neg hw]
       by_cases hgr:wv.Grams<x.Load+d.Grams
       ·rw[if_pos hgr]
        simp only[hw,hgr,decide_true,decide_false,cond_true,cond_false]
        exact ⟨_,rfl⟩
       ·rw[if_neg hgr]
        rw[Q9 (n:=max (x.Leave+(Yv wp x.Node d.Node).Secs) d.When.From+d.Service) (by omega) (by omega)]
        simp only[hw,hgr,decide_false,cond_false]
        rw[QeF (by simp only[];omega)]
        exact ⟨_,rfl,⟨rfl,rfl,rfl,rfl,hc2⟩⟩
def Vg (p:Pr) (v:Ve):List Int→List Int→Vi→(Vi×List Vi)⊕(Int×Nat)
 | _,[],x=> .inl (x,[])
 | pre,s::rest,x=>match QaB p v pre x s with
  | .inr e=> .inr (e,pre.length)
  | .inl y=>match Vg p v (pre++[s]) rest y with
   | .inl z=> .inl (z.1,y::z.2)
   | .inr q=> .inr q
def Vj (p:Pr):Int→List Vi→Int
 | _,[]=>0
 | a,y::l=>(Yv p a y.Node).Meters+Vj p y.Node l
theorem Qbz {p:Pr} {v:Ve}: ∀(rest pre:List Int) (x:Vi) (q:Int×Nat),Vg p v pre rest x= .inr q→q.1≠0
 | [],pre,x,q,h=>by cases h
 | s::rest,pre,x,q,h=>by
  unfold Vg at h
  split at h
  ·rename_i e he
   injection h with h;subst h
   exact Qef he
  ·rename_i y hy
   split at h
   ·cases h
   ·rename_i q' hq
    injection h with h;subst h
    exact Qbz rest _ _ _ hq
theorem QcK {p:Pr} {v:Ve} (hp:OkP p) (hv:OkV p.Road.Nodes v): ∀(rest pre:List Int) (x:Vi) (z:Vi×List Vi),InV p v pre.length x→Vg p v pre rest x= .inl z→InV p v (pre.length+rest.length) z.1∧z.2.length=rest.length∧0≤Vj p x.Node z.2∧Vj p x.Node z.2≤rest.length*6400000
 | [],pre,x,z,hx,h=>by
  injection h with h;subst h
  exact ⟨hx,rfl,Int.le_refl _,by simp[Vj]⟩
 | s::rest,pre,x,z,hx,h=>by
  unfold Vg at h
  split at h
  ·cases h
  ·rename_i y hy
   obtain ⟨h1,h2,_⟩:=QbM hp hv hx hy
   split at h
   ·rename_i z' hz
    injection h with h;subst h
    have h3:=QcK hp hv rest (pre++[s]) y z' (by simpa using h1) hz;have h4:=Zs hp ⟨hx.n0,hx.n1⟩ ⟨h1.n0,h1.n1⟩
    simp only[List.length_append,List.length_singleton,List.length_cons,Vj] at h3 ⊢
    refine ⟨by rw[show pre.length+(rest.length+1)=pre.length+1+rest.length by omega];exact h3.1,by omega,by omega,by omega⟩
   ·cases h
theorem Qeg {t:List Int} {k:Nat} {s:Int} {rest:List Int} (h:t.drop k=s::rest):t[k]? =some s∧t.take (k+1)=t.take k++[s]∧t.drop (k+1)=rest:=by
 have h1:t[k]? =some s:=by
  have:(t.drop k)[0]? =some s:=by rw[h];rfl
  rw[List.getElem?_drop] at this
  simpa using this
 refine ⟨h1,V1 h1,?_⟩
 rw[←List.drop_drop,h]
 rfl
theorem Qh7 {p:Pr} {v:Ve} (hp:OkP p) (hv:OkV p.Road.Nodes v) {t:Qf} (hn:t.Stops.length≤40): ∀(rest:List Int) (k:Nat) (x:Vi) (out:List Vi) (n:Nat),t.Stops.drop k=rest→k≤t.Stops.length→rest.length<n→InV p v k x→out.length=k →
  iter (Yp p t v) n (x.Stop,x.Node,x.Arrive,x.Start,x.Leave,x.Load,out,(k:Int))=some (match Vg p v (t.Stops.take k) rest x with
   | .inl z=> .inl (z.1.Stop,z.1.Node,z.1.Arrive,z.1.Start,z.1.Leave,z.1.Load,out++z.2)
   | .inr q=> .inr ([],q.1,((q.2:Nat):Int))):=by
 intro rest
 induction rest with
 | nil =>
  intro k x out n hd hk hn2 hx ho;obtain ⟨n,rfl⟩: ∃f,n=f+1:=⟨n-1,by omega⟩
  have hk2:k=t.Stops.length:=by
   have:=congrArg List.length hd
   simp at this;omega
  rw[iter]
  simp only[Yp,oun]
  rw[show decide ((k:Int)<((t.Stops.length:Nat):Int))=false by simp;omega]
  simp only[cond_false,Option.bind_some,QR,Vg,List.append_nil]
 | cons s rest ih =>
  intro k x out n hd hk hn2 hx ho;obtain ⟨n,rfl⟩: ∃f,n=f+1:=⟨n-1,by omega⟩
  obtain ⟨h1,h2,h3⟩:=Qeg hd;have hkl:=QD h1
  rw[iter,Qh8 hp hv hn h1 hx out (by omega)]
  unfold Vg;cases hs:QaB p v (t.Stops.take k) x s with
  | inr e =>
   simp only[Option.bind_some,QR]
   rw[ZF (Nat.le_of_lt hkl)]
  | inl y =>
   simp only[Option.bind_some,QR]
   have:=ih (k+1) y (out++[y]) n h3 (by omega) (by simp only[List.length_cons] at hn2;omega) (QbM hp hv hx hs).1 (by simp;omega)
   rw[this,h2]
   cases Vg p v (t.Stops.take k++[s]) rest y with
   | inl z=>simp
   | inr q=>rfl
theorem Qh1 {F:Nat} (hF:40000≤F) {p:Pr} {v:Ve} (hp:OkP p) (hv:OkV p.Road.Nodes v) {t:Qf} (hn:t.Stops.length≤40): ∀(rest:List Int) (k:Nat) (x:Vi) (w:Wa) (m:Int) (l:List Vi) (n:Nat),t.Stops.drop k=rest→k≤t.Stops.length→rest.length<n→InV p v k x→At p v w x m l→l.length=k→0≤m→m≤k*6400000 →
  match Vg p v (t.Stops.take k) rest x with
   | .inl z=> ∃w',iter (YX F t) n (w,0,(k:Int))=some (w',0,((t.Stops.length:Nat):Int))∧At p v w' z.1 (m+Vj p x.Node z.2) (l++z.2)
   | .inr q=> ∃w',iter (YX F t) n (w,0,(k:Int))=some (w',q.1,((q.2:Nat):Int)):=by
 intro rest
 induction rest with
 | nil =>
  intro k x w m l n hd hk hn2 hx hw ho hm0 hm1;obtain ⟨n,rfl⟩: ∃f,n=f+1:=⟨n-1,by omega⟩
  have hk2:k=t.Stops.length:=by
   have:=congrArg List.length hd
   simp at this;omega
  refine ⟨w,?_,by simpa [Vj] using hw⟩
  rw[iter]
  simp only[YX,oun]
  rw[show decide ((k:Int)<((t.Stops.length:Nat):Int))=false by simp;omega]
  simp only[cond_false,Option.bind_some,QR,hk2]
 | cons s rest ih =>
  intro k x w m l n hd hk hn2 hx hw ho hm0 hm1;obtain ⟨n,rfl⟩: ∃f,n=f+1:=⟨n-1,by omega⟩
  obtain ⟨h1,h2,h3⟩:=Qeg hd;have hkl:=QD h1;have hst:=Qgk hF hp hv hn h1 hx hw (by omega) hm0 hm1;have hk2:decide ((k:Int)<((t.Stops.length:Nat):Int))=true:=by simp;omega
  unfold Vg;cases hs:QaB p v (t.Stops.take k) x s with
  | inr e =>
   rw[hs] at hst
   obtain ⟨w',hw'⟩:=hst;refine ⟨w',?_⟩
   rw[iter]
   simp only[YX,oun,hk2,cond_true,hw',Option.bind_some]
   rw[show decide (e=0)=false by simpa using Qef hs]
   simp only[Bool.not_false,cond_true,Option.bind_some,QR]
   rw[ZF (Nat.le_of_lt hkl)]
  | inl y =>
   rw[hs] at hst
   obtain ⟨w',hw',hat⟩:=hst;have hin:=QbM hp hv hx hs;have hlb:=Zs hp ⟨hx.n0,hx.n1⟩ ⟨hin.1.n0,hin.1.n1⟩;have:=ih (k+1) y w' (m+(Yv p x.Node y.Node).Meters) (l++[y]) n h3 (by omega) (by simp only[List.length_cons] at hn2;omega) hin.1 hat (by simp;omega) (by omega) (by omega)
   rw[h2] at this
   have hb:iter (YX F t) (n+1) (w,0,(k:Int))=iter (YX F t) n (w',0,((k+1:Nat):Int)):=by
    rw[iter]
    simp only[YX,oun,hk2,cond_true,hw',Option.bind_some,decide_true,Bool.not_true,cond_false,QR]
    rw[Je (by omega)]
   rw[hb]
   simp only[]
   cases hf:Vg p v (t.Stops.take k++[s]) rest y with
   | inl z =>
    rw[hf] at this
    obtain ⟨w2,g1,g2⟩:=this;refine ⟨w2,g1,?_⟩
    simp only[Vj]
    rw[show m+((Yv p x.Node y.Node).Meters+Vj p y.Node z.2)=m+(Yv p x.Node y.Node).Meters+Vj p y.Node z.2 by omega,show l++y::z.2=l++[y]++z.2 by simp]
    exact g2
   | inr q =>
    rw[hf] at this
    exact this
def Vx (p:Pr) (v:Ve) (x:Vi):Vi⊕Int :=
 if (Yv p x.Node v.Depot).Secs<0 then .inr 22
 else if x.Load≠0 then .inr 20
 else if v.Shift.To≤x.Leave+(Yv p x.Node v.Depot).Secs then .inr 19
 else .inl ⟨-2,v.Depot,x.Leave+(Yv p x.Node v.Depot).Secs,x.Leave+(Yv p x.Node v.Depot).Secs,x.Leave+(Yv p x.Node v.Depot).Secs,0⟩
theorem QbZ {p:Pr} {v:Ve} {x:Vi} {e:Int} (hs:Vx p v x= .inr e):e≠0:=by
 unfold Vx at hs
 repeat' split at hs
 all_goals first | (cases hs;done) | (injection hs with hs;subst hs;decide)
theorem Qh5 {p:Pr} {v:Ve} (hp:OkP p) (hv:OkV p.Road.Nodes v) {k:Nat} (hk:k≤1000) {x:Vi} (hx:InV p v k x):ZM p v x=match Vx p v x with
  | .inl y=>some (y,0)
  | .inr e=>some (⟨0,0,0,0,0,0⟩,e):=by
 have h1:=hx.t0;have h2:=hx.t1;have h3:=hx.l0;have hl:=Zs hp ⟨hx.n0,hx.n1⟩ ⟨hv.d0,hv.d1⟩;unfold ZM Vx
 rw[QcN hp ⟨hx.n0,hx.n1⟩ ⟨hv.d0,hv.d1⟩]
 simp only[Option.bind_some]
 by_cases c1:(Yv p x.Node v.Depot).Secs<0
 ·rw[if_pos c1];simp only[c1,decide_true,cond_true]
 ·rw[if_neg c1,Q9 (n:=x.Leave+(Yv p x.Node v.Depot).Secs) (by omega) (by omega)]
  simp only[c1,decide_false,cond_false]
  by_cases c2:x.Load≠0
  ·rw[if_pos c2,show decide (0<x.Load)=true by simp;omega];rfl
  ·rw[if_neg c2,show decide (0<x.Load)=false by simp;omega]
   simp only[cond_false]
   by_cases c3:v.Shift.To≤x.Leave+(Yv p x.Node v.Depot).Secs
   ·rw[if_pos c3];simp only[c3,decide_true,cond_true]
   ·rw[if_neg c3];simp only[c3,decide_false,cond_false]
theorem Qh0 {F:Nat} (hF:40000≤F) {p:Pr} {v:Ve} (hp:OkP p) (hv:OkV p.Road.Nodes v) {k:Nat} (hk:k≤1000) {x:Vi} (hx:InV p v k x) {w:Wa} {m:Int} {l:List Vi} (hw:At p v w x m l) (hl:l.length≤900) (hm0:0≤m) (hm1:m≤k*6400000):match Vx p v x with
  | .inl y=> ∃w',ZT F w=some (0,w')∧w'.visits=l++[y]∧w'.place.meters=m+(Yv p x.Node v.Depot).Meters
  | .inr e=> ∃w',ZT F w=some (e,w'):=by
 obtain ⟨pl,wp,wv,wl,wvs⟩:=w;obtain ⟨e1,e2,e3,e4,e5⟩:=hw
 simp only at e1 e2 e3 e4 e5
 subst e1 e2 e3 e4;have h1:=hx.t0;have h2:=hx.t1;have h3:=hx.l0;have hlb:=Zs hp ⟨hx.n0,hx.n1⟩ ⟨hv.d0,hv.d1⟩;obtain ⟨c,hc1,hc2⟩:=Qf1 hF (w:=⟨⟨x.Node,x.Leave,x.Load,m⟩,wp,wv,wl,wvs⟩) hp e5 ⟨hx.n0,hx.n1⟩ ⟨hv.d0,hv.d1⟩;unfold ZT Vx
 simp only[hc1,Option.bind_some,oun]
 by_cases c1:(Yv wp x.Node wv.Depot).Secs<0
 ·rw[if_pos c1,show decide (0≤(Yv wp x.Node wv.Depot).Secs)=false by simp;omega]
  exact ⟨_,rfl⟩
 ·rw[if_neg c1,show decide (0≤(Yv wp x.Node wv.Depot).Secs)=true by simp;omega]
  simp only[Bool.not_true,cond_false]
  rw[Q9 (n:=x.Leave+(Yv wp x.Node wv.Depot).Secs) (by omega) (by omega),Q9 (n:=m+(Yv wp x.Node wv.Depot).Meters) (by omega) (by omega)]
  by_cases c2:x.Load≠0
  ·rw[if_pos c2,show decide (x.Load=0)=false by simpa using c2]
   exact ⟨_,rfl⟩
  ·rw[if_neg c2]
   simp only[ne_eq,Decidable.not_not] at c2
   simp only[c2,decide_true,Bool.not_true,cond_false]
   by_cases c3:wv.Shift.To≤x.Leave+(Yv wp x.Node wv.Depot).Secs
   ·rw[if_pos c3];simp only[c3,decide_true,cond_true];exact ⟨_,rfl⟩
   ·rw[if_neg c3];simp only[c3,decide_false,cond_false]
    rw[QeF (by simp only[];omega)]
    exact ⟨_,rfl,rfl,rfl⟩
end Go.Proofs.Ytilbengnjgglhaa
namespace Go.Proofs.Ytilbengnjgglhaa
open Go.RowKit
set_option linter.unusedSimpArgs false
set_option linter.unusedVariables false
def x0 (v:Ve):Vi:=⟨0,v.Depot,0,0,v.Shift.From,0⟩
theorem Qei {p:Pr} {v:Ve} (hv:OkV p.Road.Nodes v):InV p v 0 (x0 v):=by
 have h1:=hv.s0;have h2:=hv.s1;have h3:=hv.s2;have h4:=hv.g0;exact ⟨hv.d0,hv.d1,h1,by simp only[x0];omega,Int.le_refl _,by simp only[x0];omega⟩
def QaZ (p:Pr) (t:Qf):(Vi×List Vi×Ve)⊕(Int×Int) :=
 if t.Vehicle<0∨((p.Vehicles.length:Nat):Int)≤t.Vehicle then .inr (7,0)
 else if 40<t.Stops.length then .inr (8,0)
 else match p.Vehicles[t.Vehicle.toNat]? with
  | none=> .inr (7,0)
  | some v=>match Vg p v [] t.Stops (x0 v) with
   | .inr q=> .inr (q.1,((q.2:Nat):Int))
   | .inl z=>match Vx p v z.1 with
    | .inr e=> .inr (e,((t.Stops.length:Nat):Int))
    | .inl y=> .inl (z.1,z.2++[y],v)
def Qip (p:Pr) (t:Qf):List Vi×Int×Int:=match QaZ p t with
 | .inl z=>(z.2.1,0,0)
 | .inr q=>([],q.1,q.2)
def J9 (p:Pr) (t:Qf):Int×Int:=match QaZ p t with
 | .inl z=>(Vj p z.2.2.Depot z.2.1,0)
 | .inr q=>(0,q.1)
theorem Qeh {p:Pr} {t:Qf} {q:Int×Int} (h:QaZ p t= .inr q):q.1≠0:=by
 unfold QaZ at h
 split at h
 ·injection h with h;subst h;decide
 ·split at h
  ·injection h with h;subst h;decide
  ·split at h
   ·injection h with h;subst h;decide
   ·split at h
    ·rename_i q' hq
     injection h with h;subst h
     exact Qbz _ _ _ _ hq
    ·split at h
     ·rename_i e he
      injection h with h;subst h
      exact QbZ he
     ·cases h
theorem Qd1 {p:Pr} {v:Ve} (y:Vi): ∀(rest pre:List Int) (x:Vi) (z:Vi×List Vi),Vg p v pre rest x= .inl z→Vj p x.Node (z.2++[y])=Vj p x.Node z.2+(Yv p z.1.Node y.Node).Meters
 | [],pre,x,z,h=>by
  injection h with h;subst h
  simp[Vj]
 | s::rest,pre,x,z,h=>by
  unfold Vg at h
  split at h
  ·cases h
  ·split at h
   ·rename_i y' _ z' hz
    injection h with h;subst h
    have:=Qd1 y rest _ _ _ hz
    simp only[List.cons_append,Vj] at this ⊢
    omega
   ·cases h
theorem Qh4 {p:Pr} (hp:OkP p) (hc:Qg p=some 0) (t:Qf):Jx p t=some (Qip p t):=by
 unfold Jx Qip QaZ
 rw[hc]
 simp only[Option.bind_some,decide_true,Bool.not_true,cond_false,Yt]
 by_cases h1:t.Vehicle<0∨((p.Vehicles.length:Nat):Int)≤t.Vehicle
 ·rw[if_pos h1,show (decide (t.Vehicle<0)||decide (((p.Vehicles.length:Nat):Int)≤t.Vehicle))=true by simpa using h1]
  rfl
 ·rw[if_neg h1,show (decide (t.Vehicle<0)||decide (((p.Vehicles.length:Nat):Int)≤t.Vehicle))=false by simpa using h1]
  simp only[cond_false]
  by_cases h2:40<t.Stops.length
  ·rw[if_pos h2,show decide ((40:Int)<((t.Stops.length:Nat):Int))=true by simp;omega]
   rfl
  ·rw[if_neg h2,show decide ((40:Int)<((t.Stops.length:Nat):Int))=false by simp;omega]
   simp only[cond_false]
   obtain ⟨i,hi⟩: ∃i:Nat,t.Vehicle=i:=⟨t.Vehicle.toNat,by omega⟩
   have hd:p.Vehicles[i]? =some p.Vehicles[i]:=List.getElem?_eq_getElem (by omega)
   generalize p.Vehicles[i]=v at hd
   have hv:=hp.ve v (List.mem_of_getElem? hd)
   rw[hi]
   simp only[Qr,hd,Option.bind_some,Int.toNat_natCast]
   have hl:=Qh7 hp hv (t:=t) (by omega) t.Stops 0 (x0 v) [] (t.Stops.length+1) rfl (Nat.zero_le _) (by simp) (Qei hv) rfl
   rw[List.take_zero] at hl
   have hl2:iter (Yp p t v) (t.Stops.length+1) (0,v.Depot,0,0,v.Shift.From,0,[],0)=_:=hl
   rw[hl2]
   cases hf:Vg p v [] t.Stops (x0 v) with
   | inr q=>rfl
   | inl z =>
    have hz:=QcK hp hv t.Stops [] _ _ (Qei hv) hf
    simp only[List.length_nil,Nat.zero_add] at hz
    simp only[Option.bind_some,QR,oun,List.nil_append]
    have hh:ZM p v ⟨z.1.Stop,z.1.Node,z.1.Arrive,z.1.Start,z.1.Leave,z.1.Load⟩=_:=Qh5 hp hv (k:=t.Stops.length) (by omega) hz.1
    rw[hh]
    cases hm:Vx p v z.1 with
    | inr e =>
     simp only[Option.bind_some,oun]
     rw[show decide (e=0)=false by simpa using QbZ hm]
     rfl
    | inl y =>
     simp only[Option.bind_some,oun,decide_true,Bool.not_true,cond_false]
     rw[WF (by simp;omega)]
     rfl
theorem Qf4 {F:Nat} (hF:40000≤F) {p:Pr} (hp:OkP p) (t:Qf):match QaZ p t with
  | .inl z=> ∃w,JM F p t=some (some w,0,0)∧w.visits=z.2.1∧w.place.meters=Vj p z.2.2.Depot z.2.1
  | .inr q=>JM F p t=some (none,q.1,q.2):=by
 unfold JM QaZ
 simp only[Option.bind_some,Yt]
 by_cases h1:t.Vehicle<0∨((p.Vehicles.length:Nat):Int)≤t.Vehicle
 ·rw[if_pos h1,show (decide (t.Vehicle<0)||decide (((p.Vehicles.length:Nat):Int)≤t.Vehicle))=true by simpa using h1]
  rfl
 ·rw[if_neg h1,show (decide (t.Vehicle<0)||decide (((p.Vehicles.length:Nat):Int)≤t.Vehicle))=false by simpa using h1]
  simp only[cond_false]
  by_cases h2:40<t.Stops.length
  ·rw[if_pos h2,show decide ((40:Int)<((t.Stops.length:Nat):Int))=true by simp;omega]
   rfl
  ·rw[if_neg h2,show decide ((40:Int)<((t.Stops.length:Nat):Int))=false by simp;omega]
   simp only[cond_false]
   obtain ⟨i,hi⟩: ∃i:Nat,t.Vehicle=i:=⟨t.Vehicle.toNat,by omega⟩
   have hd:p.Vehicles[i]? =some p.Vehicles[i]:=List.getElem?_eq_getElem (by omega)
   generalize p.Vehicles[i]=v at hd
   have hv:=hp.ve v (List.mem_of_getElem? hd)
   rw[hi]
   simp only[Qr,hd,Option.bind_some,Int.toNat_natCast]
   have hl:=Qh1 hF hp hv (t:=t) (by omega) t.Stops 0 (x0 v) ⟨⟨v.Depot,v.Shift.From,0,0⟩,p,v,[],[]⟩ 0 [] (t.Stops.length+1) rfl (Nat.zero_le _) (by simp) (Qei hv) ⟨rfl,rfl,rfl,rfl,fun n L h=>by cases h⟩ rfl (Int.le_refl _) (by simp)
   rw[List.take_zero] at hl
   cases hf:Vg p v [] t.Stops (x0 v) with
   | inr q =>
    rw[hf] at hl
    obtain ⟨w',hw'⟩:=hl
    rw[show ((0:Nat):Int)=(0:Int) from rfl] at hw'
    simp only[hw',Option.bind_some,oun]
    rw[show decide (q.1=0)=false by simpa using Qbz _ _ _ _ hf]
    simp only[cond_false,Option.bind_some,oun]
    rw[show decide (q.1=0)=false by simpa using Qbz _ _ _ _ hf]
    rfl
   | inl z =>
    rw[hf] at hl
    obtain ⟨w',hw',hat⟩:=hl
    rw[show ((0:Nat):Int)=(0:Int) from rfl] at hw'
    have hz:=QcK hp hv t.Stops [] _ _ (Qei hv) hf
    simp only[List.length_nil,Nat.zero_add] at hz
    simp only[hw',Option.bind_some,oun,decide_true,cond_true]
    have hb:=Qh0 hF hp hv (k:=t.Stops.length) (by omega) hz.1 hat (by simp;omega) (by omega) (by omega);cases hm:Vx p v z.1 with
    | inr e =>
     rw[hm] at hb
     obtain ⟨w2,hw2⟩:=hb
     simp only[hw2,Option.bind_some,oun]
     rw[show decide (e=0)=false by simpa using QbZ hm]
     rfl
    | inl y =>
     rw[hm] at hb
     obtain ⟨w2,hw2,g1,g2⟩:=hb
     simp only[hw2,Option.bind_some,oun,decide_true,Bool.not_true,cond_false]
     refine ⟨w2,rfl,by simpa using g1,?_⟩
     rw[g2]
     have h5:=Qd1 y _ _ _ _ hf;have h6:y.Node=v.Depot:=by
      unfold Vx at hm
      repeat' split at hm
      all_goals first | (cases hm;done) | (injection hm with hm;subst hm;rfl)
     rw[h6] at h5
     show 0+Vj p (x0 v).Node z.2+_=Vj p (x0 v).Node (z.2++[y])
     omega
theorem Qgp {F:Nat} (hF:40000≤F) {p:Pr} (hp:OkP p) (hc:Qg p=some 0) (hn:p.Road.Edges.length≤600) (t:Qf):WS F p t=some (J9 p t):=by
 unfold WS J9
 rw[Qa0 (by omega) p hn,hc]
 simp only[Option.bind_some,decide_true,Bool.not_true,cond_false]
 have:=Qf4 hF hp t;cases h:QaZ p t with
 | inr q =>
  rw[h] at this
  simp only[this,Option.bind_some,oun]
  rw[show decide (q.1=0)=false by simpa using Qeh h]
  rfl
 | inl z =>
  rw[h] at this
  obtain ⟨w,h1,_,h3⟩:=this
  simp only[h1,Option.bind_some,oun,decide_true,Bool.not_true,cond_false,h3]
theorem Qda {p:Pr} {v:Ve} (hp:OkP p) (hv:OkV p.Road.Nodes v): ∀(rest pre:List Int) (x:Vi) (z:Vi×List Vi),InV p v pre.length x→Vg p v pre rest x= .inl z→ ∀y∈z.2,0≤y.Node∧y.Node<p.Road.Nodes
 | [],pre,x,z,hx,h=>by
  injection h with h;subst h
  intro y hy;cases hy
 | s::rest,pre,x,z,hx,h=>by
  unfold Vg at h
  split at h
  ·cases h
  ·rename_i y hy
   obtain ⟨h1,_,_⟩:=QbM hp hv hx hy
   split at h
   ·rename_i z' hz
    injection h with h;subst h
    have h3:=Qda hp hv rest (pre++[s]) y z' (by simpa using h1) hz;intro u hu;rcases List.mem_cons.1 hu with h4 | h4
    ·subst h4;exact ⟨h1.n0,h1.n1⟩
    ·exact h3 u h4
   ·cases h
theorem Qf7 {p:Pr} (hp:OkP p) (L:List Vi) (hL:L.length≤100) (hnd: ∀y∈L,0≤y.Node∧y.Node<p.Road.Nodes): ∀(rest:List Vi) (k:Nat) (sum a:Int) (n:Nat),L.drop k=rest→k≤L.length→rest.length<n→0≤a∧a<p.Road.Nodes→0≤sum→sum≤k*6400000 →
  iter (YV p L) n (sum,a,(k:Int))=some (sum+Vj p a rest):=by
 intro rest
 induction rest with
 | nil =>
  intro k sum a n hd hk hn ha hs0 hs1;obtain ⟨n,rfl⟩: ∃f,n=f+1:=⟨n-1,by omega⟩
  have hk2:k=L.length:=by
   have:=congrArg List.length hd
   simp at this;omega
  rw[iter]
  simp only[YV,oun]
  rw[show decide ((k:Int)<((L.length:Nat):Int))=false by simp;omega]
  simp[Vj,QR]
 | cons y rest ih =>
  intro k sum a n hd hk hn ha hs0 hs1;obtain ⟨n,rfl⟩: ∃f,n=f+1:=⟨n-1,by omega⟩
  have h1:L[k]? =some y:=by
   have:(L.drop k)[0]? =some y:=by rw[hd];rfl
   rw[List.getElem?_drop] at this
   simpa using this
  have h3:L.drop (k+1)=rest:=by rw[←List.drop_drop,hd];rfl
  have hkl:=QD h1;have hy:=hnd y (List.mem_of_getElem? h1);have hl:=Zs hp ha hy
  rw[iter]
  simp only[YV,oun]
  rw[show decide ((k:Int)<((L.length:Nat):Int))=true by simp;omega]
  simp only[cond_true,Qr,h1,Option.bind_some,QcN hp ha hy,QR]
  rw[Je (by omega),Q9 (by omega) (by omega)]
  rw[ih (k+1) _ _ n h3 (by omega) (by simp only[List.length_cons] at hn;omega) hy (by omega) (by omega)]
  simp only[Vj]
  congr 1
  omega
theorem Qh3 {p:Pr} (hp:OkP p) (hc:Qg p=some 0) (t:Qf):Jw p t=some (J9 p t):=by
 unfold Jw
 rw[Qh4 hp hc]
 unfold Qip J9;cases h:QaZ p t with
 | inr q =>
  simp only[Option.bind_some,oun]
  rw[show decide (q.1=0)=false by simpa using Qeh h]
  rfl
 | inl z =>
  simp only[Option.bind_some,oun,decide_true,Bool.not_true,cond_false]
  unfold QaZ at h
  split at h
  ·cases h
  ·rename_i h1
   split at h
   ·cases h
   ·rename_i h2
    obtain ⟨i,hi⟩: ∃i:Nat,t.Vehicle=i:=⟨t.Vehicle.toNat,by omega⟩
    have hd:p.Vehicles[i]? =some p.Vehicles[i]:=List.getElem?_eq_getElem (by omega)
    generalize p.Vehicles[i]=v at hd
    have hv:=hp.ve v (List.mem_of_getElem? hd)
    rw[hi] at h ⊢
    simp only[Qr,hd,Option.bind_some,Int.toNat_natCast] at h ⊢
    cases hf:Vg p v [] t.Stops (x0 v) with
    | inr q=>rw[hf] at h;cases h
    | inl w =>
     rw[hf] at h
     simp only[] at h
     cases hm:Vx p v w.1 with
     | inr e=>rw[hm] at h;cases h
     | inl y =>
      rw[hm] at h
      injection h with h;subst h
      have hz:=QcK hp hv t.Stops [] _ _ (Qei hv) hf;have hnn:=Qda hp hv t.Stops [] _ _ (Qei hv) hf
      simp only[List.length_nil,Nat.zero_add] at hz
      have h6:y.Node=v.Depot:=by
       unfold Vx at hm
       repeat' split at hm
       all_goals first | (cases hm;done) | (injection hm with hm;subst hm;rfl)
      have:=Qf7 hp (w.2++[y]) (by simp;omega) (fun u hu=>by
       rcases List.mem_append.1 hu with h7 | h7
       ·exact hnn u h7
       ·rw[List.mem_singleton.1 h7,h6];exact ⟨hv.d0,hv.d1⟩) (w.2++[y]) 0 0 v.Depot ((w.2++[y]).length+1) rfl (Nat.zero_le _) (by simp) ⟨hv.d0,hv.d1⟩ (Int.le_refl _) (by simp)
      rw[show ((0:Nat):Int)=(0:Int) from rfl,Int.zero_add] at this
      show Option.bind (iter (YV p (w.2++[y])) ((w.2++[y]).length+1) (0,v.Depot,0)) _=_
      rw[this]
      rfl
end Go.Proofs.Ytilbengnjgglhaa
namespace Go.Proofs.Ytilbengnjgglhaa
open Go.RowKit
set_option linter.unusedSimpArgs false
set_option linter.unusedVariables false
structure Fol (p:Pr) (t:Qf) (v:Ve) (z:Vi×List Vi) (y:Vi):Prop where
 t0:0≤t.Vehicle
 t1:t.Vehicle<((p.Vehicles.length:Nat):Int)
 sl:t.Stops.length≤40
 hv:QQ p.Vehicles t.Vehicle=some v
 fol:Vg p v [] t.Stops (x0 v)= .inl z
 hom:Vx p v z.1= .inl y
end Go.Proofs.Ytilbengnjgglhaa
namespace Go.Proofs.Ytilbengnjgglhaa
open Go.RowKit
set_option linter.unusedSimpArgs false
set_option linter.unusedVariables false
structure Lax (p:Pr) (x' x:Vi):Prop where
 leg: ∀b,0≤b→b<p.Road.Nodes→0≤(Yv p x.Node b).Secs→0≤(Yv p x'.Node b).Secs∧x'.Leave+(Yv p x'.Node b).Secs≤x.Leave+(Yv p x.Node b).Secs
 load:x'.Load≤x.Load
theorem Lax.same {p:Pr} {x' x:Vi} (h1:x'.Node=x.Node) (h2:x'.Leave≤x.Leave) (h3:x'.Load≤x.Load):Lax p x' x :=
 ⟨fun b _ _ h=>⟨by rw[h1];exact h,by rw[h1];omega⟩,h3⟩
end Go.Proofs.Ytilbengnjgglhaa
namespace Go.Proofs.Ytilbengnjgglhaa
open Go.RowKit
set_option linter.unusedSimpArgs false
set_option linter.unusedVariables false
def VT:List Int→List Int→Bool
 | [],[]=>false
 | [],_::_=>true
 | _::_,[]=>false
 | a::x,b::y=>decide (a<b)||(decide (a=b)&&VT x y)
theorem Qfl: ∀a:List Int,VT a a=false
 | []=>rfl
 | a::x=>by simp[VT,Qfl x]
theorem Qdh: ∀{a b c:List Int},VT a b=true→VT b c=true→VT a c=true
 | [],[],_,h,_=>by cases h
 | [],_::_,[],_,h=>by cases h
 | [],_::_,_::_,_,_=>rfl
 | _::_,[],_,h,_=>by cases h
 | _::_,_::_,[],_,h=>by cases h
 | a::x,b::y,c::z,h1,h2=>by
  simp only[VT,Bool.or_eq_true,Bool.and_eq_true,decide_eq_true_eq] at h1 h2 ⊢
  rcases h1 with h1 | ⟨h1,h3⟩
  ·rcases h2 with h2 | ⟨h2,_⟩
   ·left;omega
   ·left;omega
  ·rcases h2 with h2 | ⟨h2,h4⟩
   ·left;omega
   ·right;exact ⟨by omega,Qdh h3 h4⟩
def VK:List Int→List Int→Int
 | [],[]=>0
 | [],_::_=> -1
 | _::_,[]=>1
 | a::x,b::y=>if a<b then -1 else if b<a then 1 else VK x y
theorem Qe5: ∀a b:List Int,(VK a b<0↔VT a b=true)∧(VK a b=0↔a=b)
 | [],[]=>by simp[VK,VT]
 | [],_::_=>by simp[VK,VT]
 | _::_,[]=>by simp[VK,VT]
 | a::x,b::y=>by
  have ih:=Qe5 x y
  simp only[VK,VT,Bool.or_eq_true,Bool.and_eq_true,decide_eq_true_eq,List.cons.injEq]
  by_cases h1:a<b
  ·rw[if_pos h1]
   exact ⟨⟨fun _=> .inl h1,fun _=>by decide⟩,⟨fun h=>by omega,fun h=>by omega⟩⟩
  ·rw[if_neg h1]
   by_cases h2:b<a
   ·rw[if_pos h2]
    exact ⟨⟨fun h=>by omega,fun h=>by omega⟩,⟨fun h=>by omega,fun h=>by omega⟩⟩
   ·rw[if_neg h2]
    have e:a=b:=by omega
    rw[ih.1,ih.2]
    exact ⟨⟨fun h=> .inr ⟨e,h⟩,fun h=>by rcases h with h | h;omega;exact h.2⟩,⟨fun h=>⟨e,h⟩,fun h=>h.2⟩⟩
theorem Qep (a b:Int):Z2 a b=some (if a<b then -1 else if b<a then 1 else 0):=by
 unfold Z2 JB
 simp only[Option.bind_some,decide_true,Bool.not_true,cond_false]
 by_cases h:a<b
 ·simp[h]
 ·by_cases h2:b<a<;>simp[h,h2]
theorem Qe6 {a b:List Int} (hn:a.length≤1000000): ∀(x y:List Int) (k f:Nat),a.drop k=x→b.drop k=y→k≤a.length→k≤b.length→x.length<f →
  ∃o,iter (QT a b) f (k:Int)=some o∧QR o (fun _=>bif decide (((a.length:Nat):Int)<((b.length:Nat):Int)) then some (-1) else some 0) (fun z=>some z)=some (VK x y)
 | _,_,_,0,_,_,_,_,h=>by omega
 | [],y,k,f+1,hx,hy,ha,hb,_=>by
  have h0:a.length=k:=by
   have:=congrArg List.length hx
   simp at this;omega
  have h1: ¬((k:Int)<((a.length:Nat):Int)):=by omega
  refine ⟨.inl (),by simp only[iter,QT,h1,decide_false,cond_false,Option.bind_some,QR],?_⟩;have hl:=congrArg List.length hy
  simp only[List.length_drop] at hl
  cases y with
  | nil =>
   have: ¬(((a.length:Nat):Int)<((b.length:Nat):Int)):=by simp at hl;omega
   simp[QR,this,VK]
  | cons d y =>
   have:((a.length:Nat):Int)<((b.length:Nat):Int):=by simp at hl;omega
   simp[QR,this,VK]
 | c::x,y,k,f+1,hx,hy,ha,hb,hf=>by
  have hka:k<a.length:=by
   have:=congrArg List.length hx
   simp at this;omega
  have h1:((k:Int)<((a.length:Nat):Int)):=by omega
  have ga:a[k]? =some c:=by
   have:(a.drop k)[0]? =some c:=by rw[hx];rfl
   simpa using this
  have gx:a.drop (k+1)=x:=by
   rw[←List.drop_drop,hx];rfl
  cases y with
  | nil =>
   have h2:((b.length:Nat):Int)≤(k:Int):=by
    have:=congrArg List.length hy
    simp at this;omega
   refine ⟨.inr 1,by simp only[iter,QT,h1,decide_true,cond_true,Qr,ga,Option.bind_some,h2,QR],?_⟩
   simp[QR,VK]
  | cons d y =>
   have hkb:k<b.length:=by
    have:=congrArg List.length hy
    simp at this;omega
   have h2: ¬(((b.length:Nat):Int)≤(k:Int)):=by omega
   have gb:b[k]? =some d:=by
    have:(b.drop k)[0]? =some d:=by rw[hy];rfl
    simpa using this
   have gy:b.drop (k+1)=y:=by
    rw[←List.drop_drop,hy];rfl
   have e1:w64 ((k:Int)+1)=((k+1:Nat):Int):=by rw[Q9 (by omega) (by omega)];omega
   by_cases h3:c<d
   ·refine ⟨.inr (-1),?_,by simp[QR,VK,h3]⟩
    simp only[iter,QT,h1,decide_true,cond_true,Qr,ga,gb,Option.bind_some,h2,decide_false,cond_false,Qep,h3,if_true]
    rfl
   ·by_cases h4:d<c
    ·refine ⟨.inr 1,?_,by simp[QR,VK,h3,h4]⟩
     simp only[iter,QT,h1,decide_true,cond_true,Qr,ga,gb,Option.bind_some,h2,decide_false,cond_false,Qep,h3,h4,if_true,if_false]
     rfl
    ·obtain ⟨o,o1,o2⟩:=Qe6 hn x y (k+1) f gx gy (by omega) (by omega) (by simp at hf;omega);refine ⟨o,?_,by simp only[VK,h3,h4,if_false];exact o2⟩
     rw[←o1]
     simp only[iter,QT,h1,decide_true,cond_true,Qr,ga,gb,Option.bind_some,h2,decide_false,cond_false,Qep,h3,h4,if_false,decide_true,Bool.not_true,cond_false,e1,QR]
theorem QcS {a b:List Int} (hn:a.length≤1000000):Y7 a b=some (VK a b):=by
 unfold Y7;obtain ⟨o,o1,o2⟩:=Qe6 (a:=a) (b:=b) hn a b 0 (((a.length:Nat):Int).toNat+1) rfl rfl (by omega) (by omega) (by simp);have o1':iter (QT a b) (((a.length:Nat):Int).toNat+1) 0=some o:=o1
 rw[o1']
 exact o2
def Zx:List (Int×Bool)→List Int
 | []=>[]
 | (d,f)::r=>d::((if f then [-1] else [])++Zx r)
def QfJ (rem:List Int) (c:List Int):Prop:= ∃P:List (Int×Bool),(P.map Prod.fst).Perm rem∧c=Zx P
theorem QfJ.perm {a b c:List Int} (h:a.Perm b):QfJ a c↔QfJ b c :=
 ⟨fun ⟨P,h1,h2⟩=>⟨P,h1.trans h,h2⟩,fun ⟨P,h1,h2⟩=>⟨P,h1.trans h.symm,h2⟩⟩
theorem Qcq: ∀P:List (Int×Bool),(Zx P).length≤2*P.length
 | []=>by simp[Zx]
 | (d,f)::r=>by
  have:=Qcq r;cases f<;>simp[Zx]<;>omega
theorem QfJ.len {ds c:List Int} (h:QfJ ds c):c.length≤2*ds.length:=by
 obtain ⟨P,h1,rfl⟩:=h;have h2:=Qcq P;have h3:=h1.length_eq
 simp at h3
 omega
def Jq:List Int→List Bool→List Int
 | d::ds,u::us=>if u=true then Jq ds us else d::Jq ds us
 | _,_=>[]
theorem QcP: ∀{ds:List Int} {us:List Bool} {i:Nat} {d:Int},ds[i]? =some d→us[i]? =some false→(Jq ds us).Perm (d::Jq ds (us.set i true))
 | [],_,_,_,h,_=>by simp at h
 | _::_,[],_,_,_,h=>by simp at h
 | a::ds,u::us,0,d,h1,h2=>by
  simp at h1 h2
  subst h1 h2
  simp[Jq]
 | a::ds,u::us,i+1,d,h1,h2=>by
  have ih:=QcP (ds:=ds) (us:=us) (i:=i) (d:=d) (by simpa using h1) (by simpa using h2);cases u with
  | true=>simpa [Jq] using ih
  | false =>
   simp only[Jq,List.set_cons_succ,Bool.false_eq_true,if_false]
   exact (List.Perm.cons a ih).trans (List.Perm.swap d a _)
theorem QeK: ∀{ds:List Int} {us:List Bool} {d:Int},d∈Jq ds us→ ∃i:Nat,ds[i]? =some d∧us[i]? =some false
 | [],_,_,h=>by simp[Jq] at h
 | _::_,[],_,h=>by simp[Jq] at h
 | a::ds,u::us,d,h=>by
  cases u with
  | true =>
   obtain ⟨i,h1,h2⟩:=QeK (ds:=ds) (us:=us) (d:=d) (by simpa [Jq] using h);exact ⟨i+1,by simpa using h1,by simpa using h2⟩
  | false =>
   simp only[Jq,Bool.false_eq_true,if_false,List.mem_cons] at h
   rcases h with rfl | h
   ·exact ⟨0,rfl,rfl⟩
   ·obtain ⟨i,h1,h2⟩:=QeK h;exact ⟨i+1,by simpa using h1,by simpa using h2⟩
theorem QcO: ∀(ds:List Int),Jq ds (List.replicate ds.length false)=ds
 | []=>rfl
 | a::ds=>by simp[Jq,List.replicate_succ,QcO ds]
def VJ (ds:List Int):Nat→List Int→List Bool→List (List Int)
 | 0,pre,_=>[pre]
 | n+1,pre,us=>(List.range ds.length).flatMap fun i=>match ds[i]?,us[i]? with
  | some d,some false=>VJ ds n (pre++[d]) (us.set i true)++VJ ds n (pre++[d,-1]) (us.set i true)
  | _,_=>[]
theorem Qaf {ds:List Int} {c:List Int}: ∀(n:Nat) (pre:List Int) (us:List Bool),(Jq ds us).length=n→(c∈VJ ds n pre us↔ ∃P:List (Int×Bool),(P.map Prod.fst).Perm (Jq ds us)∧c=pre++Zx P)
 | 0,pre,us,hn=>by
  have h0:Jq ds us=[]:=List.eq_nil_of_length_eq_zero hn
  simp only[VJ,List.mem_singleton,h0]
  constructor
  ·rintro rfl;exact ⟨[],List.Perm.refl _,by simp[Zx]⟩
  ·rintro ⟨P,h1,rfl⟩;have:P=[]:=by simpa using h1.eq_nil
   subst this
   simp[Zx]
 | n+1,pre,us,hn=>by
  simp only[VJ,List.mem_flatMap,List.mem_range]
  constructor
  ·rintro ⟨
       i,hi,hc⟩
   cases hd:ds[i]? with
   | none=>rw[hd] at hc;simp at hc
   | some d =>
    cases hu:us[i]? with
    | none=>rw[hd,hu] at hc;simp at hc
    | some u =>
     cases u with
     | true=>rw[hd,hu] at hc;simp at hc
     | false =>
      rw[hd,hu] at hc
      simp only at hc
      have hp:=QcP hd hu;have hl:(Jq ds (us.set i true)).length=n:=by
       have:=hp.length_eq
       simp at this;omega
      rcases List.mem_append.1 hc with hc | hc
      ·obtain ⟨P,h1,h2⟩:=(Qaf n _ _ hl).1 hc;exact ⟨(d,false)::P,(List.Perm.cons d h1).trans hp.symm,by rw[h2];simp[Zx]⟩
      ·obtain ⟨P,h1,h2⟩:=(Qaf n _ _ hl).1 hc;exact ⟨(d,true)::P,(List.Perm.cons d h1).trans hp.symm,by rw[h2];simp[Zx]⟩
  ·rintro ⟨P,h1,h2⟩;cases P with
   | nil =>
    have:=h1.length_eq
    simp at this;omega
   | cons q P =>
    obtain ⟨d,f⟩:=q;obtain ⟨i,hd,hu⟩:=QeK (h1.subset (show d∈((d,f)::P).map Prod.fst by simp));have hp:=QcP hd hu;have h3:(P.map Prod.fst).Perm (Jq ds (us.set i true)):=(List.perm_cons d).1 (show (d::P.map Prod.fst).Perm _ from h1.trans hp);have hl:(Jq ds (us.set i true)).length=n:=by
     have:=hp.length_eq
     simp at this;omega
    refine ⟨i,QD hd,?_⟩
    rw[hd,hu]
    simp only[List.mem_append]
    cases f with
    | false=>exact .inl ((Qaf n _ _ hl).2 ⟨P,h3,by rw[h2];simp[Zx]⟩)
    | true=>exact .inr ((Qaf n _ _ hl).2 ⟨P,h3,by rw[h2];simp[Zx]⟩)
end Go.Proofs.Ytilbengnjgglhaa
namespace Go.Proofs.Ytilbengnjgglhaa
open Go.RowKit
set_option linter.unusedSimpArgs false
set_option linter.unusedVariables false
abbrev Bst:=Bool×Int×List Int
def Qhj (p:Pr) (v:Int) (s:Bst) (c:List Int):Bool:=decide ((J9 p ⟨v,c⟩).2=0)&&(!s.1||(decide ((J9 p ⟨v,c⟩).1<s.2.1)||(decide ((J9 p ⟨v,c⟩).1=s.2.1)&&VT c s.2.2)))
def QaQ (p:Pr) (v:Int) (s:Bst) (c:List Int):Bst:=bif Qhj p v s c then (true,(J9 p ⟨v,c⟩).1,c) else s
theorem Qjt {l:List Int} (hl:l.length≤1000000):Qc1 l=some l:=by
 unfold Qc1
 rw[if_pos hl]
theorem QhF {F:Nat} (hF:40000≤F) {p:Pr} (hp:OkP p) (hc:Qg p=some 0) (hn:p.Road.Edges.length≤600) {v v0:Int} {c:List Int} (hl:c.length≤1000) (s:Bst) :
  JX F c p v s.1 s.2.1 ⟨v0,s.2.2⟩=some ((QaQ p v s c).1,(QaQ p v s c).2.1,⟨v0,(QaQ p v s c).2.2⟩):=by
 unfold JX
 rw[Qgp hF hp hc hn,Option.bind_some]
 simp only[oun,QaQ,Qhj,QcS (show c.length≤1000000 by omega),Qjt (show c.length≤1000000 by omega),Option.bind_some]
 have hz:=Qe5 c s.2.2;have e:decide (VK c s.2.2<0)=VT c s.2.2:=by
  cases h:VT c s.2.2 with
  | true=>exact decide_eq_true (hz.1.2 h)
  | false =>
   refine decide_eq_false fun h2=> ?_
   rw[hz.1.1 h2] at h
   cases h
 rw[e]
 obtain ⟨s1,s2,s3⟩:=s
 by_cases h0:(J9 p ⟨v,c⟩).2=0
 ·simp only[h0,decide_true,Bool.not_true,cond_false,Bool.true_and]
  cases s1 with
  | false=>simp
  | true =>
   by_cases h1:(J9 p ⟨v,c⟩).1<s2
   ·simp[h1]
   ·by_cases h2:(J9 p ⟨v,c⟩).1=s2
    ·cases h3:VT c s3<;>simp[h1,h2,h3]
    ·simp[h1,h2]
 ·simp[h0]
def Qcp (ds:List Int) (n:Nat) (pre:List Int) (us:List Bool) (i:Nat):List (List Int):=match ds[i]?,us[i]? with
 | some d,some false=>VJ ds n (pre++[d]) (us.set i true)++VJ ds n (pre++[d,-1]) (us.set i true)
 | _,_=>[]
theorem QgX (ds:List Int) (n:Nat) (pre:List Int) (us:List Bool):VJ ds (n+1) pre us=(List.range ds.length).flatMap (Qcp ds n pre us):=by
 rfl
theorem Qij (L:List Bool) (i:Nat) (x:Bool):Zu L (i:Int) x=L.set i x:=by simp[Zu]
theorem Qin (pre x:List Int):J2 (pre++x) 0 ((pre.length:Nat):Int)=some pre:=by
 rw[WR (by simp)]
 simp
theorem Qim (pre:List Int):J2 pre 0 ((pre.length:Nat):Int)=some pre:=by
 rw[WR (Nat.le_refl _)]
 simp
def QiU (p:Pr) (v v0:Int) (ds:List Int) (n:Nat) (rec_:Int→Unit→Qc→Int→Bool→Int→Qf→(List Int)→(List Int)→(List Bool)→Unit→Option (Bool×Int×Qf×(List Int)×(List Bool))):Prop :=
 ∀(s:Bst) (pre:List Int) (us:List Bool),pre.length+2*n≤1000→us.length=ds.length→(Jq ds us).length=n →
  rec_ (n:Int) () p v s.1 s.2.1 ⟨v0,s.2.2⟩ pre ds us ()=some (((VJ ds n pre us).foldl (QaQ p v) s).1,((VJ ds n pre us).foldl (QaQ p v) s).2.1,⟨v0,((VJ ds n pre us).foldl (QaQ p v) s).2.2⟩,pre,us)
theorem QbV {p:Pr} {v v0:Int} {ds pre:List Int} {us:List Bool} {n:Nat} {rec_:Int→Unit→Qc→Int→Bool→Int→Qf→(List Int)→(List Int)→(List Bool)→Unit→Option (Bool×Int×Qf×(List Int)×(List Bool))}
  (hr:QiU p v v0 ds n rec_) (hd:ds.length≤1000) (hpre:pre.length+2*(n+1)≤1000) (hus:us.length=ds.length) (hn:(Jq ds us).length=n+1): ∀(rest:List Nat) (i f:Nat) (s:Bst),(List.range ds.length).drop i=rest→i≤ds.length→rest.length<f →
  iter (Yh ((n+1:Nat):Int) p v pre ds rec_) f (pre,us,s.1,s.2.1,v0,s.2.2,(i:Int))=some (((rest.flatMap (Qcp ds n pre us)).foldl (QaQ p v) s).1,((rest.flatMap (Qcp ds n pre us)).foldl (QaQ p v) s).2.1,v0,((rest.flatMap (Qcp ds n pre us)).foldl (QaQ p v) s).2.2,pre,us)
 | _,_,0,_,_,_,h=>by omega
 | [],i,f+1,s,h,hi,_=>by
  have h0:ds.length=i:=by
   have:=congrArg List.length h
   simp at this;omega
  have h1: ¬((i:Int)<((ds.length:Nat):Int)):=by omega
  simp only[iter,Yh,oun,QR,h1,decide_false,cond_false,Option.bind_some,List.flatMap_nil,List.foldl_nil]
 | k::rest,i,f+1,s,h,hi,hf=>by
  have hi':i<ds.length:=by
   have:=congrArg List.length h
   simp at this;omega
  have hk:k=i:=by
   have:((List.range ds.length).drop i)[0]? =some k:=by rw[h];rfl
   simp[hi'] at this
   exact this.symm
  subst hk;have hrest:(List.range ds.length).drop (k+1)=rest:=by rw[←List.drop_drop,h];rfl
  have h1:((k:Int)<((ds.length:Nat):Int)):=by omega
  have e1:w64 ((k:Int)+1)=((k+1:Nat):Int):=by rw[Q9 (by omega) (by omega)];omega
  have en:w64 (((n+1:Nat):Int)-1)=(n:Int):=by rw[Q9 (by omega) (by omega)];omega
  obtain ⟨d,gd⟩: ∃d,ds[k]? =some d:=⟨_,List.getElem?_eq_getElem hi'⟩
  obtain ⟨u,gu⟩: ∃u,us[k]? =some u:=⟨_,List.getElem?_eq_getElem (hus▸hi')⟩
  rw[List.flatMap_cons,List.foldl_append]
  cases u with
  | true =>
   have hs:Qcp ds n pre us k=[]:=by simp only[Qcp,gd,gu]
   rw[hs,List.foldl_nil]
   have ih:=QbV hr hd hpre hus hn rest (k+1) f s hrest (by omega) (by simp at hf;omega)
   rw[←ih]
   simp only[iter,Yh,oun,QR,h1,decide_true,cond_true,Qr,gd,gu,Option.bind_some,e1]
  | false =>
   have hp:=QcP gd gu;have hl2:(Jq ds (us.set k true)).length=n:=by
    have:=hp.length_eq
    simp at this;omega
   have hs:Qcp ds n pre us k=VJ ds n (pre++[d]) (us.set k true)++VJ ds n (pre++[d,-1]) (us.set k true):=by simp only[Qcp,gd,gu]
   rw[hs,List.foldl_append]
   have r1:=hr s (pre++[d]) (us.set k true) (by simp;omega) (by simp[hus]) hl2
   generalize (VJ ds n (pre++[d]) (us.set k true)).foldl (QaQ p v) s=s1 at r1 ⊢
   have r2:=hr s1 (pre++[d,-1]) (us.set k true) (by simp;omega) (by simp[hus]) hl2
   generalize (VJ ds n (pre++[d,-1]) (us.set k true)).foldl (QaQ p v) s1=s2 at r2 ⊢
   have ih:=QbV hr hd hpre hus hn rest (k+1) f s2 hrest (by omega) (by simp at hf;omega)
   rw[←ih]
   have gx:(us.set k true)[k]? =some true:=by simp[hus,hi']
   have gz:(us.set k true).set k false=us:=by
    rw[List.set_set]
    apply List.ext_getElem? fun j=> ?_
    by_cases hj:j=k
    ·subst hj
     rw[gu]
     simp[hus,hi']
    ·rw[List.getElem?_set_ne (by omega)]
   simp only[iter,Yh,oun,QR,h1,decide_true,cond_true,Qr,gd,gu,Option.bind_some,e1,en,cond_false,Qim,Qin,Qij,WF (show pre.length+[d].length≤1000000 by simp;omega),WF (show pre.length+[d,-1].length≤1000000 by simp;omega),r1,r2,gx,gz]
theorem Qgx {p:Pr} (hp:OkP p) (hc:Qg p=some 0) (hne:p.Road.Edges.length≤600) {v v0:Int} {ds:List Int} (hd:ds.length≤1000): ∀(n F:Nat),40000+n+1≤F→QiU p v v0 ds n (Ym F)
 | 0,0,h=>by omega
 | n+1,0,h=>by omega
 | 0,F+1,h=>by
  intro s pre us hpre hus hn;have b:=QhF (v0:=v0) (v:=v) (show 40000≤F by omega) hp hc hne (c:=pre) (by omega) s
  simp only[Ym,ZD,Int.ofNat_zero,Int.natCast_zero,decide_true,cond_true,b,Option.bind_some,oun,VJ,List.foldl_cons,List.foldl_nil]
 | n+1,F+1,h=>by
  intro s pre us hpre hus hn;have ih:=Qgx hp hc hne (v:=v) (v0:=v0) hd n F (by omega);have l:=QbV ih hd hpre hus hn _ 0 (((ds.length:Nat):Int).toNat+1) s rfl (by omega) (by simp);have h0: ¬(((n+1:Nat):Int)=0):=by omega
  simp only[Ym,ZD,h0,decide_false,cond_false]
  have l':iter (Yh ((n+1:Nat):Int) p v pre ds (Ym F)) (((ds.length:Nat):Int).toNat+1) (pre,us,s.1,s.2.1,v0,s.2.2,0)=_:=l
  rw[l',QgX]
  simp only[Option.bind_some,oun,List.drop_zero]
end Go.Proofs.Ytilbengnjgglhaa
namespace Go.Proofs.Ytilbengnjgglhaa
open Go.RowKit
set_option linter.unusedSimpArgs false
set_option linter.unusedVariables false
theorem QdQ {L:List Int}: ∀(l pre:List Int),L=pre++l→pre.Nodup→Yr (fun k (y:Int)=>bif decide (y∈L.take k) then some (.inr 6) else none) (.inl ():Unit⊕Int) pre.length l=bif decide L.Nodup then .inl () else .inr 6
 | [],pre,h,hp=>by
  have:L.Nodup:=by rw[h];simpa using hp
  simp[Yr,this]
 | y::l,pre,h,hp=>by
  have ht:L.take pre.length=pre:=by rw[h];simp
  unfold Yr
  rw[ht]
  by_cases hy:y∈pre
  ·have hnd: ¬L.Nodup:=by
    rw[h,List.nodup_append]
    exact fun hh=>hh.2.2 y hy y List.mem_cons_self rfl
   simp[hy,hnd]
  ·have ih:=QdQ (L:=L) l (pre++[y]) (by rw[h];simp) (by
    rw[List.nodup_append]
    exact ⟨hp,by simp,fun a ha b hb=>by rw[List.mem_singleton] at hb;subst hb;exact fun hh=>hy (hh▸ha)⟩)
   rw[List.length_append] at ih
   simpa [hy] using ih
theorem QhJ {L:List Int} (hn:L.length≤1000):iter (ZQ L) (((L.length:Nat):Int).toNat+1) 0=some (bif decide L.Nodup then .inl () else .inr 6):=by
 have:=Y1 (body:=ZQ L) L (fun k (y:Int)=>bif decide (y∈L.take k) then some (.inr 6) else none) (.inl ():Unit⊕Int) (by omega) (fun k y hy=> ?_) (by simp[ZQ]) (((L.length:Nat):Int).toNat+1) (by simp)
 ·rw[this]
  exact congrArg some (QdQ L [] rfl List.nodup_nil)
 ·have hk:=QD hy;have hk2:((k:Int)<(L.length:Nat)):=by omega
  simp only[ZQ,hk2,decide_true,cond_true,Qr,hy,Option.bind_some,WR (Nat.le_of_lt hk),Qce (L.take k) (by simp;omega)]
  cases decide (y∈L.take k)<;>rfl
def QdG (p:Pr) (d:Int):Bool:=decide (d<0)||decide (((p.Demands.length:Nat):Int)≤d)
theorem QjB (p:Pr) (L:List Int) (hn:L.length≤1000):Yk L p=some (L.any (QdG p)):=by
 unfold Yk Za;have:=Y1 (body:=Yl L p) L (fun k y=>bif QdG p y then some (.inr (k:Int)) else none) (.inl ():Unit⊕Int) (by omega) (fun k y hy=> ?_) (by simp[Yl]) (((L.length:Nat):Int).toNat+1) (by simp)
 ·rw[this]
  rcases Qgu (QdG p) L 0 with ⟨h1,h2⟩ | ⟨j,h1,h2⟩
  ·rw[h1,h2];rfl
  ·rw[h1,h2]
   simp only[Option.bind_some,QR]
   simp
 ·have hk:=QD hy;have hk2:((k:Int)<(L.length:Nat)):=by omega
  simp only[Yl,hk2,decide_true,cond_true,Qr,hy,Option.bind_some,Wo,QdG]
  cases decide (y<0)<;>cases decide (((p.Demands.length:Nat):Int)≤y)<;>rfl
def JU (p:Pr) (v:Int) (ds:List Int):Int :=
 bif decide (v<0)||decide (((p.Vehicles.length:Nat):Int)≤v) then 7
 else bif decide (5<ds.length) then 8
 else bif ds.any (QdG p) then 7
 else bif decide ds.Nodup then 0 else 6
theorem Qc0 {F:Nat} (hF:33≤F) {p:Pr} (hn:p.Road.Edges.length≤600) {e:Int} (hc:Qg p=some e) (v:Int) (ds:List Int) (hd:ds.length≤1000) :
  Jj F p v ds=some (if e=0 then JU p v ds else e):=by
 unfold Jj
 rw[Qa0 hF p hn,hc]
 simp only[Option.bind_some]
 by_cases h:e=0
 ·subst h
  simp only[decide_true,Bool.not_true,cond_false,if_true,JU,QjB p ds hd,QhJ hd,Option.bind_some]
  have h5:decide ((5:Int)<((ds.length:Nat):Int))=decide (5<ds.length):=by
   by_cases h:5<ds.length<;>simp[h]<;>omega
  rw[h5]
  cases decide (v<0)<;>cases decide (((p.Vehicles.length:Nat):Int)≤v)<;>cases decide (5<ds.length)<;>cases ds.any (QdG p)<;>cases decide ds.Nodup<;>rfl
 ·simp[h]
theorem QhH {p:Pr} {v:Int} {ds:List Int}:JU p v ds=0↔(0≤v∧v<((p.Vehicles.length:Nat):Int))∧ds.length≤5∧(∀d∈ds,0≤d∧d<((p.Demands.length:Nat):Int))∧ds.Nodup:=by
 have ho:ds.any (QdG p)=false↔ ∀d∈ds,0≤d∧d<((p.Demands.length:Nat):Int):=by
  simp only[List.any_eq_false,QdG,Bool.or_eq_true,decide_eq_true_eq,not_or,Int.not_lt,Int.not_le]
 rw[←ho]
 unfold JU
 by_cases h1:v<0∨((p.Vehicles.length:Nat):Int)≤v
 ·have e:(decide (v<0)||decide (((p.Vehicles.length:Nat):Int)≤v))=true:=by simpa using h1
  rw[e]
  simp only[cond_true]
  constructor
  ·intro h;cases h
  ·rintro ⟨h,_⟩;omega
 ·have e:(decide (v<0)||decide (((p.Vehicles.length:Nat):Int)≤v))=false:=by
   simp only[Bool.or_eq_false_iff,decide_eq_false_iff_not];omega
  rw[e]
  simp only[cond_false]
  by_cases h5:5<ds.length
  ·simp only[h5,decide_true,cond_true]
   exact ⟨fun h=>(by cases h),fun h=>by omega⟩
  ·simp only[h5,decide_false,cond_false]
   cases ds.any (QdG p) with
   | true =>
    simp only[cond_true]
    exact ⟨fun h=>(by cases h),fun h=>(by cases h.2.2.1)⟩
   | false =>
    by_cases hnd:ds.Nodup
    ·simp only[hnd,decide_true,cond_true,cond_false]
     exact ⟨fun _=>⟨by omega,by omega,trivial,trivial⟩,fun _=>trivial⟩
    ·simp only[hnd,decide_false,cond_false]
     exact ⟨fun h=>(by cases h),fun h=>absurd h.2.2.2 id⟩
theorem QhG (p:Pr) (v:Int) (ds:List Int):JU p v ds≠40:=by
 unfold JU;cases (decide (v<0)||decide (((p.Vehicles.length:Nat):Int)≤v))<;>cases decide (5<ds.length)<;>cases ds.any (QdG p)<;>cases decide ds.Nodup<;>decide
def V3 (p:Pr) (v:Int) (C:List Int→Prop) (s:Bst):Prop :=
 (s=(false,0,[])∧ ∀c,C c→(J9 p ⟨v,c⟩).2≠0) ∨
 (s.1=true∧C s.2.2∧J9 p ⟨v,s.2.2⟩=(s.2.1,0)∧ ∀c,C c→(J9 p ⟨v,c⟩).2=0→s.2.1<(J9 p ⟨v,c⟩).1∨(s.2.1=(J9 p ⟨v,c⟩).1∧VT c s.2.2=false))
theorem V3.congr {p:Pr} {v:Int} {C D:List Int→Prop} {s:Bst} (h: ∀c,C c↔D c) (hs:V3 p v C s):V3 p v D s:=by
 have:C=D:=funext fun c=>propext (h c);exact this▸hs
theorem V3.step {p:Pr} {v:Int} {C:List Int→Prop} {s:Bst} (h:V3 p v C s) (c:List Int):V3 p v (fun x=>C x∨x=c) (QaQ p v s c):=by
 unfold QaQ;cases hu:Qhj p v s c with
 | true =>
  simp only[cond_true]
  simp only[Qhj,Bool.and_eq_true,Bool.or_eq_true,decide_eq_true_eq,Bool.not_eq_true'] at hu
  obtain ⟨h0,hu⟩:=hu;refine .inr ⟨rfl,.inr rfl,Prod.ext rfl h0,?_⟩;rintro x (hx | rfl) hx0
  ·rcases h with ⟨h1,h2⟩ | ⟨h1,h2,h3,h4⟩
   ·exact absurd hx0 (h2 _ hx)
   ·rcases hu with hu | hu | ⟨hu1,hu2⟩
    ·rw[h1] at hu;cases hu
    ·have:=h4 _ hx hx0
     simp only
     omega
    ·rcases h4 _ hx hx0 with h5 | ⟨h5,h6⟩
     ·simp only;omega
     ·refine .inr ⟨by simp only;omega,?_⟩
      simp only
      cases h7:VT x c with
      | false=>rfl
      | true=>rw[Qdh h7 hu2] at h6;cases h6
  ·exact .inr ⟨rfl,Qfl _⟩
 | false =>
  simp only[cond_false]
  rcases h with ⟨h1,h2⟩ | ⟨h1,h2,h3,h4⟩
  ·refine .inl ⟨h1,?_⟩;rintro x (hx | rfl)
   ·exact h2 _ hx
   ·intro h0
    rw[h1] at hu
    simp[Qhj,h0] at hu
  ·refine .inr ⟨h1,.inl h2,h3,?_⟩;rintro x (hx | rfl) hx0
   ·exact h4 _ hx hx0
   ·simp only[Qhj,hx0,decide_true,Bool.true_and,h1,Bool.not_true,Bool.false_or,Bool.or_eq_false_iff,decide_eq_false_iff_not,Bool.and_eq_false_iff] at hu
    obtain ⟨hu1,hu2⟩:=hu;rcases hu2 with hu2 | hu2
    ·exact .inl (by omega)
    ·by_cases he:s.2.1=(J9 p ⟨v,x⟩).1
     ·exact .inr ⟨he,hu2⟩
     ·exact .inl (by omega)
theorem V3.fold {p:Pr} {v:Int}: ∀(L:List (List Int)) {C:List Int→Prop} {s:Bst},V3 p v C s→V3 p v (fun x=>C x∨x∈L) (L.foldl (QaQ p v) s)
 | [],C,s,h=>h.congr (by simp)
 | c::L,C,s,h=>by
  rw[List.foldl_cons]
  refine (V3.fold L (h.step c)).congr fun x=> ?_
  simp only[List.mem_cons,or_assoc]
def Ju (p:Pr) (v:Int) (ds:List Int):Bst:=(VJ ds ds.length [] (List.replicate ds.length false)).foldl (QaQ p v) (false,0,[])
theorem Qe2 (p:Pr) (v:Int) (ds:List Int):V3 p v (QfJ ds) (Ju p v ds):=by
 refine (V3.fold (VJ ds ds.length [] (List.replicate ds.length false)) (C:=fun _=>False) (s:=(false,0,[])) (.inl ⟨rfl,fun c h=>h.elim⟩)).congr fun x=> ?_
 rw[Qaf ds.length [] (List.replicate ds.length false) (by rw[QcO]),QcO]
 simp only[List.nil_append,false_or]
 exact Iff.rfl
theorem Qen {F:Nat} (hF:41100≤F) {p:Pr} (hp:OkP p) (hc:Qg p=some 0) (hne:p.Road.Edges.length≤600) (v:Int) {ds:List Int} (hd:ds.length≤100) :
  JF F p v ds=some (⟨v,(Ju p v ds).2.2⟩,(Ju p v ds).2.1,(Ju p v ds).1):=by
 unfold JF ZE;have hm:WD false ((ds.length:Nat):Int)=some (List.replicate ds.length false):=by
  unfold WD
  rw[if_pos ⟨by omega,by omega⟩]
  simp
 obtain ⟨l2,hm2⟩: ∃l2,WD (0:Int) (w64 (2*((ds.length:Nat):Int)))=some l2:=by
  rw[Q9 (by omega) (by omega)]
  unfold WD
  rw[if_pos ⟨by omega,by omega⟩]
  exact ⟨_,rfl⟩
 have:=Qgx hp hc hne (v:=v) (v0:=v) (ds:=ds) (by omega) ds.length F (by omega) (false,0,[]) [] (List.replicate ds.length false) (by simp;omega) (by simp) (by rw[QcO])
 rw[hm,hm2]
 simp only[Option.bind_some]
 simp only at this
 rw[this]
 rfl
def V2 (p:Pr) (e v:Int) (ds:List Int):Qf×Int×Int :=
 bif decide ((if e=0 then JU p v ds else e)=0) then
  bif (Ju p v ds).1 then (⟨v,(Ju p v ds).2.2⟩,(Ju p v ds).2.1,0) else (⟨0,[]⟩,0,40)
 else (⟨0,[]⟩,0,if e=0 then JU p v ds else e)
def Wm (p:Pr) (e v:Int) (ds:List Int):Bool×Int :=
 bif decide ((if e=0 then JU p v ds else e)=0) then ((Ju p v ds).1,0) else (false,if e=0 then JU p v ds else e)
theorem Qes {e x:Int} (h:(if e=0 then x else e)=0):e=0∧x=0:=by
 by_cases h0:e=0
 ·rw[if_pos h0] at h;exact ⟨h0,h⟩
 ·rw[if_neg h0] at h;exact absurd h h0
theorem QcJ {F:Nat} (hF:41100≤F) {p:Pr} (hne:p.Road.Edges.length≤600) {e:Int} (hc:Qg p=some e) (v:Int) {ds:List Int} (hd:ds.length≤100):Ji F p v ds=some (V2 p e v ds):=by
 unfold Ji V2
 rw[Qc0 (by omega) hne hc v ds (by omega),Option.bind_some]
 by_cases h:(if e=0 then JU p v ds else e)=0
 ·obtain ⟨rfl,h2⟩:=Qes h
  simp only[if_true,h2,decide_true,Bool.not_true,cond_false,cond_true,Qen hF (OkP.of hne hc) hc hne v hd,Option.bind_some,oun]
  cases (Ju p v ds).1<;>rfl
 ·simp only[h,decide_false,Bool.not_false,cond_true,cond_false]
theorem QbR {F:Nat} (hF:41100≤F) {p:Pr} (hne:p.Road.Edges.length≤600) {e:Int} (hc:Qg p=some e) (v:Int) {ds:List Int} (hd:ds.length≤100):ZV F p v ds=some (Wm p e v ds):=by
 unfold ZV Wm
 rw[Qc0 (by omega) hne hc v ds (by omega),Option.bind_some]
 by_cases h:(if e=0 then JU p v ds else e)=0
 ·obtain ⟨rfl,h2⟩:=Qes h
  simp only[if_true,h2,decide_true,Bool.not_true,cond_false,cond_true,Qen hF (OkP.of hne hc) hc hne v hd,Option.bind_some,oun]
 ·simp only[h,decide_false,Bool.not_false,cond_true,cond_false]
end Go.Proofs.Ytilbengnjgglhaa
namespace Go.Proofs.Ytilbengnjgglhaa
open Go.RowKit
set_option linter.unusedSimpArgs false
set_option linter.unusedVariables false
theorem QgP (L:List Int) (hn:L.length≤1000): ∀(rest:List Int) (k f:Nat) (out:List Int),L.drop k=rest→k≤L.length→out.length=k→rest.length<f →
  iter (Q8 L) f ((k:Int),out)=some (out++rest)
 | _,_,0,_,_,_,_,h=>by omega
 | [],k,f+1,out,h,hk,ho,_=>by
  have h0:L.length=k:=by
   have:=congrArg List.length h
   simp at this;omega
  have h1: ¬((k:Int)<((L.length:Nat):Int)):=by omega
  simp only[iter,Q8,oun,QR,h1,decide_false,cond_false,Option.bind_some,List.append_nil]
 | d::rest,k,f+1,out,h,hk,ho,hf=>by
  have hk':k<L.length:=by
   have:=congrArg List.length h
   simp at this;omega
  have h1:((k:Int)<((L.length:Nat):Int)):=by omega
  have gd:L[k]? =some d:=by
   have:(L.drop k)[0]? =some d:=by rw[h];rfl
   simpa using this
  have hr:L.drop (k+1)=rest:=by rw[←List.drop_drop,h];rfl
  have e1:w64 ((k:Int)+1)=((k+1:Nat):Int):=by rw[Q9 (by omega) (by omega)];omega
  have ih:=QgP L hn rest (k+1) f (out++[d]) hr (by omega) (by simp[ho]) (by simp at hf;omega)
  simp only[iter,Q8,Zl,oun,QR,h1,decide_true,cond_true,Qr,gd,Option.bind_some,e1,WF (show out.length+[d].length≤1000000 by simp;omega)]
  have ih':=ih
  rw[List.append_assoc] at ih'
  exact ih'
theorem QgV {L:List Int} (hn:L.length≤1000):Y3 L=some (ZR L):=by
 unfold Y3 Zm YB Zd;have:=QgP L hn L 0 (((L.length:Nat):Int).toNat+1) [] rfl (by omega) rfl (by simp)
 rw[List.nil_append] at this
 have h2:iter (Q8 L) (((L.length:Nat):Int).toNat+1) (0,[])=some L:=this
 rw[h2]
 simp only[Option.bind_some,Qed]
 rw[if_pos (by omega)]
 rfl
def ZG:Nat→List Int→List Int
 | _,[]=>[]
 | m,d::r=>if m%2=1 then d::ZG (m/2) r else ZG (m/2) r
theorem Qb3: ∀(m:Nat) (r:List Int),(ZG m r).Sublist r
 | _,[]=>List.Sublist.refl _
 | m,d::r=>by
  unfold ZG
  split
  ·exact (Qb3 (m/2) r).cons_cons d
  ·exact (Qb3 (m/2) r).cons d
theorem Qb4 {r:List Int} (hn:r.length≤15) {m:Nat} (hm:m<65536): ∀(rest:List Int) (k f:Nat) (out:List Int),r.drop k=rest→k≤r.length→out.length≤k→rest.length<f →
  iter (ZI r (m:Int)) f (out,(k:Int))=some (out++ZG (m/2^k) rest)
 | _,_,0,_,_,_,_,h=>by omega
 | [],k,f+1,out,h,hk,ho,_=>by
  have h0:r.length=k:=by
   have:=congrArg List.length h
   simp at this;omega
  have h1: ¬((k:Int)<((r.length:Nat):Int)):=by omega
  simp only[iter,ZI,oun,QR,h1,decide_false,cond_false,Option.bind_some,ZG,List.append_nil]
 | d::rest,k,f+1,out,h,hk,ho,hf=>by
  have hk':k<r.length:=by
   have:=congrArg List.length h
   simp at this;omega
  have h1:((k:Int)<((r.length:Nat):Int)):=by omega
  have gd:r[k]? =some d:=by
   have:(r.drop k)[0]? =some d:=by rw[h];rfl
   simpa using this
  have hr:r.drop (k+1)=rest:=by rw[←List.drop_drop,h];rfl
  have e1:w64 ((k:Int)+1)=((k+1:Nat):Int):=by rw[Q9 (by omega) (by omega)];omega
  have e2:((m:Int)/2^((k:Int)).toNat)=((m/2^k:Nat):Int):=by
   rw[Int.toNat_natCast]
   simp
  have hq:m/2^k≤m:=Nat.div_le_self _ _;have e3:QgY .i64 ((m:Int)/2^((k:Int)).toNat) 1=((m/2^k%2:Nat):Int):=by
   rw[e2]
   generalize m/2^k=q at hq ⊢
   rw[Qj7 (by omega) (by omega)]
   omega
  have e4:m/2^k/2=m/2^(k+1):=by rw[Nat.div_div_eq_div_mul,Nat.pow_succ]
  unfold ZG
  rw[e4]
  by_cases hb:m/2^k%2=1
  ·have ih:=Qb4 hn hm rest (k+1) f (out++[d]) hr (by omega) (by simp;omega) (by simp at hf;omega)
   rw[if_pos hb]
   simp only[iter,ZI,oun,QR,h1,decide_true,cond_true,Qr,gd,Option.bind_some,e1,We (show 0≤(k:Int)∧(k:Int)≤64 by omega),e3,hb,Int.natCast_one,WF (show out.length+[d].length≤1000000 by simp;omega)]
   have ih':=ih
   rw[List.append_assoc] at ih'
   exact ih'
  ·have ih:=Qb4 hn hm rest (k+1) f out hr (by omega) (by omega) (by simp at hf;omega);have h0:m/2^k%2=0:=by omega
   rw[if_neg hb]
   simp only[iter,ZI,oun,QR,h1,decide_true,cond_true,Qr,gd,Option.bind_some,e1,We (show 0≤(k:Int)∧(k:Int)≤64 by omega),e3,h0,Int.natCast_zero,show decide ((0:Int)=1)=false by decide,cond_false]
   exact ih
def Qhk (ok:List Int→Bool) (out l:List Int):List Int :=
 bif decide (l.length<out.length)||(decide (l.length=out.length)&&decide (0≤VK l out)) then out else bif ok l then l else out
def QiX (ok:List Int→Bool) (r:List Int):List Int:=((List.range (2^r.length)).map fun m=>ZG m r).foldl (Qhk ok) []
theorem Qd4 {F:Nat} (hF:41100≤F) {p:Pr} (hp:OkP p) (hc:Qg p=some 0) (hne:p.Road.Edges.length≤600) (v:Int) {r:List Int} (hn:r.length≤15): ∀(rest:List Nat) (k f:Nat) (out:List Int),(List.range (2^r.length)).drop k=rest→k≤2^r.length→rest.length<f →
  out.length≤1000→iter (ZJ F p v r) f (out,((2^r.length:Nat):Int),(k:Int))=some ((rest.map fun m=>ZG m r).foldl (Qhk fun l=>(Ju p v l).1) out)
 | _,_,0,_,_,_,h,_=>by omega
 | [],k,f+1,out,h,hk,_,_=>by
  have h0:2^r.length=k:=by
   have:=congrArg List.length h
   simp at this;omega
  have h1: ¬((k:Int)<((2^r.length:Nat):Int)):=by omega
  simp only[iter,ZJ,oun,QR,h1,decide_false,cond_false,Option.bind_some,List.map_nil,List.foldl_nil]
 | m::rest,k,f+1,out,h,hk,hf,ho=>by
  have hk':k<2^r.length:=by
   have:=congrArg List.length h
   simp at this;omega
  have hm:m=k:=by
   have:((List.range (2^r.length)).drop k)[0]? =some m:=by rw[h];rfl
   simp[hk'] at this
   exact this.symm
  subst hm;have hr:(List.range (2^r.length)).drop (m+1)=rest:=by rw[←List.drop_drop,h];rfl
  have h1:((m:Int)<((2^r.length:Nat):Int)):=by omega
  have hp2:2^r.length≤2^15:=Nat.pow_le_pow_right (by decide) hn;have e1:w64 ((m:Int)+1)=((m+1:Nat):Int):=by rw[Q9 (by omega) (by omega)];omega
  have hml:=Qb4 hn (m:=m) (by omega) r 0 (((r.length:Nat):Int).toNat+1) [] rfl (by omega) (by simp) (by simp)
  rw[show m/2^0=m by simp,List.nil_append] at hml
  have hml':iter (ZI r (m:Int)) (((r.length:Nat):Int).toNat+1) ([],0)=some (ZG m r):=hml;have hlen:(ZG m r).length≤15:=Nat.le_trans (Qb3 m r).length_le hn;have ih:=Qd4 hF hp hc hne v hn rest (m+1) f (Qhk (fun l=>(Ju p v l).1) out (ZG m r)) hr (by omega) (by simp at hf;omega) (by
   simp only[Qhk]
   cases (decide ((ZG m r).length<out.length)||(decide ((ZG m r).length=out.length)&&decide (0≤VK (ZG m r) out))) with
   | true=>exact ho
   | false =>
    cases (Ju p v (ZG m r)).1 with
    | true=>simp only[cond_false,cond_true];omega
    | false=>exact ho)
  have c1:decide ((((ZG m r).length:Nat):Int)<((out.length:Nat):Int))=decide ((ZG m r).length<out.length):=by
   by_cases h:(ZG m r).length<out.length<;>simp[h]<;>omega
  have c2:decide ((((ZG m r).length:Nat):Int)=((out.length:Nat):Int))=decide ((ZG m r).length=out.length):=by
   by_cases h:(ZG m r).length=out.length<;>simp[h]<;>omega
  have hb:ZJ F p v r (out,((2^r.length:Nat):Int),(m:Int))=some (.inl (Qhk (fun l=>(Ju p v l).1) out (ZG m r),((2^r.length:Nat):Int),((m+1:Nat):Int))):=by
   simp only[ZJ,oun,h1,decide_true,cond_true,hml',Option.bind_some,e1,QcS (show (ZG m r).length≤1000000 by omega),Qen hF hp hc hne v (show (ZG m r).length≤100 by omega),Qhk]
   rw[c1,c2]
   cases decide ((ZG m r).length<out.length)<;>cases decide ((ZG m r).length=out.length)<;>cases decide (0≤VK (ZG m r) out)<;>cases (Ju p v (ZG m r)).1<;>rfl
  rw[List.map_cons,List.foldl_cons,←ih]
  simp only[iter,hb,Option.bind_some,QR]
def Qgq (p:Pr) (e v:Int) (ds:List Int):List Int×Int :=
 bif decide ((if e=0 then JU p v ds else e)=0) then (QiX (fun l=>(Ju p v l).1) (ZR ds),0) else ([],if e=0 then JU p v ds else e)
theorem Qiq {F:Nat} (hF:41100≤F) {p:Pr} (hne:p.Road.Edges.length≤600) {e:Int} (hc:Qg p=some e) (v:Int) {ds:List Int} (hd:ds.length≤15):WV F p v ds=some (Qgq p e v ds):=by
 unfold WV Qgq
 rw[Qc0 (by omega) hne hc v ds (by omega),Option.bind_some]
 by_cases h:(if e=0 then JU p v ds else e)=0
 ·obtain ⟨rfl,h2⟩:=Qes h;have hl:(ZR ds).length=ds.length:=(VQ ds).length_eq;have hp2:2^ds.length≤2^15:=Nat.pow_le_pow_right (by decide) hd;have hw:w64 (1*2^(((ZR ds).length:Nat):Int).toNat)=((2^(ZR ds).length:Nat):Int):=by
   rw[Int.toNat_natCast,hl,Int.one_mul]
   have:((2:Int)^ds.length)=((2^ds.length:Nat):Int):=by simp
   rw[this]
   generalize 2^ds.length=q at hp2 ⊢
   exact Q9 (by omega) (by omega)
  have hr2:(List.range (2^(ZR ds).length)).length<F:=by
   rw[List.length_range,hl]
   omega
  have:=Qd4 hF (OkP.of hne hc) hc hne v (r:=ZR ds) (by omega) _ 0 F [] rfl (Nat.zero_le _) (by simpa using hr2) (by simp);have h':iter (ZJ F p v (ZR ds)) F ([],((2^(ZR ds).length:Nat):Int),0)=_:=this
  simp only[if_true,h2,decide_true,Bool.not_true,cond_false,cond_true,QgV (show ds.length≤1000 by omega),Option.bind_some,We (show 0≤(((ZR ds).length:Nat):Int)∧(((ZR ds).length:Nat):Int)≤64 by omega),hw,h',List.drop_zero]
  rfl
 ·simp only[h,decide_false,Bool.not_false,cond_true,cond_false]
end Go.Proofs.Ytilbengnjgglhaa
namespace Go.Proofs.Ytilbengnjgglhaa
open Go.RowKit
set_option linter.unusedSimpArgs false
set_option linter.unusedVariables false
def Qkr (k:List Int→Int×Int) (s:Bst) (c:List Int):Bst :=
 bif decide ((k c).2=0)&&(!s.1||(decide ((k c).1<s.2.1)||(decide ((k c).1=s.2.1)&&VT c s.2.2))) then (true,(k c).1,c) else s
def Qcc (k:List Int→Int×Int) (ds:List Int):Bst:=(VJ ds ds.length [] (List.replicate ds.length false)).foldl (Qkr k) (false,0,[])
def QaR (p:Pr) (v:Int) (c:List Int):Int×Int:=(Jw p ⟨v,c⟩).getD (0,1)
theorem Wc {p:Pr} (hp:OkP p) (hc:Qg p=some 0) (v:Int) (ds:List Int):Ju p v ds=Qcc (QaR p v) ds:=by
 have e:(fun c=>J9 p ⟨v,c⟩)=QaR p v:=funext fun c=>by unfold QaR;rw[Qh3 hp hc];rfl
 rw[←e]
 rfl
def exZ (g:Int):Pr:=Qc.mk (Qq.mk 3 [(QG.mk 0 1 100 60),(QG.mk 1 0 100 60),(QG.mk 1 2 100 60),(QG.mk 2 1 100 60)]) [(Qi.mk ⟨#[118]⟩ 0 (QX.mk 0 86400) g 1)] [(Qh.mk 0 1 0 10 (QX.mk 0 86400) 0),(Qh.mk 1 2 0 10 (QX.mk 0 86400) 0)] 0 0
theorem Qj9 (g:Int):QN g=some (exZ g):=rfl
theorem exN (g:Int):(exZ g).Road.Edges.length≤600:=by show 4≤600;decide
theorem c20:Qg (exZ 20)=some 0:=by decide +kernel
theorem c10:Qg (exZ 10)=some 0:=by decide +kernel
theorem c9:Qg (exZ 9)=some 0:=by decide +kernel
theorem z1:V2 (exZ 20) 0 0 [1,0]=(⟨0,[0,1,-1]⟩,400,0):=by
 unfold V2
 rw[Wc (OkP.of (exN 20) c20) c20,show Qcc (QaR (exZ 20) 0) [1,0]=(true,400,[0,1,-1]) by decide +kernel,show JU (exZ 20) 0 [1,0]=0 by decide +kernel]
 rfl
theorem z2:V2 (exZ 10) 0 0 [0,1]=(⟨0,[0,-1,1,-1]⟩,600,0):=by
 unfold V2
 rw[Wc (OkP.of (exN 10) c10) c10,show Qcc (QaR (exZ 10) 0) [0,1]=(true,600,[0,-1,1,-1]) by decide +kernel,show JU (exZ 10) 0 [0,1]=0 by decide +kernel]
 rfl
theorem z3:V2 (exZ 9) 0 0 [0,1]=(⟨0,[]⟩,0,40):=by
 unfold V2
 rw[Wc (OkP.of (exN 9) c9) c9,show Qcc (QaR (exZ 9) 0) [0,1]=(false,0,[]) by decide +kernel,show JU (exZ 9) 0 [0,1]=0 by decide +kernel]
 rfl
theorem z4:Wm (exZ 9) 0 0 [0]=(false,0):=by
 unfold Wm
 rw[Wc (OkP.of (exN 9) c9) c9,show Qcc (QaR (exZ 9) 0) [0]=(false,0,[]) by decide +kernel,show JU (exZ 9) 0 [0]=0 by decide +kernel]
 rfl
theorem z5:Wm (exZ 20) 0 0 [0,1]=(true,0):=by
 unfold Wm
 rw[Wc (OkP.of (exN 20) c20) c20,show (Qcc (QaR (exZ 20) 0) [0,1]).1=true by decide +kernel,show JU (exZ 20) 0 [0,1]=0 by decide +kernel]
 rfl
theorem z6:Qgq (exZ 10) 0 0 [1,0]=([0,1],0):=by
 unfold Qgq;have e:(fun l=>(Ju (exZ 10) 0 l).1)=fun l=>(Qcc (QaR (exZ 10) 0) l).1:=funext fun l=>by rw[Wc (OkP.of (exN 10) c10) c10]
 rw[e,show QiX (fun l=>(Qcc (QaR (exZ 10) 0) l).1) (ZR [1,0])=[0,1] by decide +kernel,show JU (exZ 10) 0 [1,0]=0 by decide +kernel]
 rfl
theorem Qiy {F:Nat} (hF:41100≤F):QY F=some true:=by
 unfold QY
 simp only[Qj9,Option.bind_some,QcJ hF (exN 20) c20 0 (ds:=[1,0]) (by decide),QcJ hF (exN 10) c10 0 (ds:=[0,1]) (by decide),QcJ hF (exN 9) c9 0 (ds:=[0,1]) (by decide),QbR hF (exN 9) c9 0 (ds:=[0]) (by decide),QbR hF (exN 20) c20 0 (ds:=[0,1]) (by decide),Qiq hF (exN 10) c10 0 (ds:=[1,0]) (by decide),z1,z2,z3,z4,z5,z6,oun]
 decide +kernel
end Go.Proofs.Ytilbengnjgglhaa
namespace Go.Proofs.Ytilbengnjgglhaa
open Go.RowKit
set_option linter.unusedSimpArgs false
set_option linter.unusedVariables false
def Po {α:Type} (Q:α→Prop) (o:Option α):Prop:= ∀x,o=some x→Q x
theorem Po.some {α:Type} {Q:α→Prop} {x:α} (h:Q x):Po Q (some x):=fun y hy=>by
 injection hy with hy
 exact hy▸h
theorem Po.bind {α β:Type} {Q:β→Prop} {o:Option α} {f:α→Option β} (h: ∀x,Po Q (f x)):Po Q (Option.bind o f):=fun y hy=>by
 cases o with
 | none=>cases hy
 | some x=>exact h x y hy
theorem Po.bindI {α β:Type} {R:α→Prop} {Q:β→Prop} {o:Option α} {f:α→Option β} (ho:Po R o) (h: ∀x,R x→Po Q (f x)):Po Q (Option.bind o f):=fun y hy=>by
 cases o with
 | none=>cases hy
 | some x=>exact h x (ho x rfl) y hy
theorem Po.cond {α:Type} {Q:α→Prop} {b:Bool} {x y:Option α} (h1:Po Q x) (h2:Po Q y):Po Q (bif b then x else y):=by
 cases b
 ·exact h2
 ·exact h1
def N2 {α:Type}:α⊕Int→Prop
 | .inl _=>True
 | .inr e=>e≠40
def N3 {σ α:Type}:σ⊕(α⊕Int)→Prop
 | .inl _=>True
 | .inr x=>N2 x
theorem Po.osum {α β:Type} {Q:β→Prop} {o:α⊕Int} {f:α→Option β} {g:Int→Option β} (h:N2 o) (hf: ∀a,Po Q (f a)) (hg: ∀e,e≠40→Po Q (g e)):Po Q (QR o f g):=by
 cases o with
 | inl a=>exact hf a
 | inr e=>exact hg e h
theorem Po.iter {σ α:Type} {body:σ→Option (σ⊕(α⊕Int))} (h: ∀s,Po N3 (body s)): ∀(n:Nat) (s:σ),Po N2 (iter body n s)
 | 0,s=>fun y hy=>by cases hy
 | n+1,s=>by
  unfold Go.Proofs.Ytilbengnjgglhaa.iter;refine Po.bindI (h s) fun x hx=> ?_;cases x with
  | inl s'=>exact Po.iter h n s'
  | inr r=>exact Po.some hx
theorem p19 (r:Qq):Po (· ≠(40:Int)) (YH r):=by
 unfold YH;refine Po.bind fun v1=>Po.cond (Po.some (by decide)) (Po.cond (Po.some (by decide)) (Po.bindI (Po.iter (fun s=> ?_) _ _) fun o ho=>Po.osum ho (fun _=>Po.some (by decide)) fun e he=>Po.some he));unfold Q5;refine Po.cond (Po.bind fun x1=>Po.bind fun v3=>Po.cond (Po.some (show (7:Int)≠40 by decide)) (Po.bind fun v=>Po.cond (Po.some (show (1:Int)≠40 by decide)) (Po.some trivial))) (Po.some trivial)
theorem Qkp (v:Qi) (n m:Int):Po (· ≠(40:Int)) (QJ v n m):=by
 unfold QJ;refine Po.bind fun r1=>Po.cond (Po.some (by decide)) (Po.bind fun v2=>Po.cond (Po.some (by decide)) (Po.bind fun v3=>Po.cond (Po.some (by decide)) (Po.bind fun v4=>Po.cond (Po.some (by decide)) (Po.bind fun v5=>Po.cond (Po.some (by decide)) (Po.some (by decide))))))
theorem p20 (l:List Qi) (n m:Int):Po (· ≠(40:Int)) (QO l n m):=by
 unfold QO;refine Po.bind fun v1=>Po.cond (Po.some (by decide)) (Po.cond (Po.some (by decide)) (Po.cond (Po.some (by decide)) (Po.bindI (Po.iter (fun s=> ?_) _ _) fun o ho=>Po.osum ho (fun _=>Po.bindI (Po.iter (fun s=> ?_) _ _) fun o ho=>Po.osum ho (fun _=>Po.some (by decide)) fun e he=>Po.some he) fun e he=>Po.some he)))
 ·unfold Qz;exact Po.cond (Po.bind fun x1=>Po.bindI (Qkp _ _ _) fun r hr=>Po.cond (Po.some hr) (Po.some trivial)) (Po.some trivial)
 ·unfold YJ;refine Po.cond (Po.bindI (R:=N2) (Po.bindI (Po.iter (fun s=> ?_) _ _) fun o ho=>Po.osum ho (fun _=>Po.some trivial) fun e he=>Po.some he) fun o ho=>Po.osum ho (fun _=>Po.some trivial) fun e he=>Po.some he) (Po.some trivial);unfold YI;exact Po.cond (Po.bind fun x=>Po.bind fun y=>Po.cond (Po.some (show (6:Int)≠40 by decide)) (Po.some trivial)) (Po.some trivial)
theorem p21 (l:List Qh) (n m:Int):Po (· ≠(40:Int)) (QP l n m):=by
 unfold QP;refine Po.cond (Po.some (by decide)) (Po.bindI (Po.iter (fun s=> ?_) _ _) fun o ho=>Po.osum ho (fun _=>Po.bindI (Po.iter (fun s=> ?_) _ _) fun o ho=>Po.osum ho (fun _=>Po.some (by decide)) fun e he=>Po.some he) fun e he=>Po.some he)
 ·unfold QF;refine Po.cond (Po.bind fun x1=>Po.bind fun v1=>Po.cond (Po.some (show (7:Int)≠40 by decide)) (Po.bind fun v2=>Po.cond (Po.some (show (1:Int)≠40 by decide)) (Po.some trivial))) (Po.some trivial)
 ·unfold QV;refine Po.cond (Po.bindI (R:=N2) (Po.bindI (Po.iter (fun s=> ?_) _ _) fun o ho=>Po.osum ho (fun _=>Po.some trivial) fun e he=>Po.some he) fun o ho=>Po.osum ho (fun _=>Po.some trivial) fun e he=>Po.some he) (Po.some trivial);unfold QU;exact Po.cond (Po.bind fun x=>Po.bind fun y=>Po.cond (Po.some (show (6:Int)≠40 by decide)) (Po.some trivial)) (Po.some trivial)
theorem p22 (p:Pr):Po (· ≠(40:Int)) (Qg p):=by
 unfold Qg;refine Po.bindI (p19 _) fun a ha=>Po.cond (Po.some ha) (Po.bindI (p20 _ _ _) fun b hb=>Po.cond (Po.some hb) (Po.bindI (p21 _ _ _) fun c hc=>Po.cond (Po.some hc) (Po.bind fun x=>Po.cond (Po.some (by decide)) (Po.bind fun y=>Po.cond (Po.some (by decide)) (Po.some (by decide))))))
end Go.Proofs.Ytilbengnjgglhaa
namespace Go.Proofs.Ytilbengnjgglhaa
open Go.RowKit
set_option linter.unusedSimpArgs false
set_option linter.unusedVariables false
theorem QfA (x:Qv):YG x=some false∨(YG x=some true∧x.Problem.Road.Edges.length≤600∧x.Demands.length≤4):=by
 unfold YG;obtain ⟨⟨b,hb⟩,hl⟩:=QfK x.Problem
 rw[hb]
 cases b with
 | true=>exact .inl rfl
 | false =>
  obtain ⟨h1,_,_⟩:=hl hb
  simp only[Option.bind_some,Bool.not_false,cond_true]
  by_cases h2:((x.Problem.Demands.length:Nat):Int)≤40
  ·by_cases h3:((x.Demands.length:Nat):Int)≤4
   ·exact .inr ⟨by simp only[h2,h3,decide_true,cond_true,Option.bind_some],h1,by omega⟩
   ·exact .inl (by simp only[h2,h3,decide_true,decide_false,cond_true,Option.bind_some])
  ·exact .inl (by simp only[h2,decide_false,cond_false,Option.bind_some])
theorem Qhm {p:Pr} {v:Int} {ds:List Int} (h:JU p v ds=0):V2 p 0 v ds=bif (Ju p v ds).1 then (⟨v,(Ju p v ds).2.2⟩,(Ju p v ds).2.1,0) else (⟨0,[]⟩,0,40):=by
 unfold V2
 rw[if_pos rfl,h]
 rfl
theorem QgQ {p:Pr} {e v:Int} {ds:List Int} (h:(if e=0 then JU p v ds else e)≠0):V2 p e v ds=(⟨0,[]⟩,0,if e=0 then JU p v ds else e):=by
 unfold V2
 rw[decide_eq_false h]
 rfl
theorem QfO {p:Pr} {v:Int} {ds:List Int} (h:JU p v ds=0):Wm p 0 v ds=((Ju p v ds).1,0):=by
 unfold Wm
 rw[if_pos rfl,h]
 rfl
theorem QeT {p:Pr} {e v:Int} {ds:List Int} (h:(if e=0 then JU p v ds else e)≠0):Wm p e v ds=(false,if e=0 then JU p v ds else e):=by
 unfold Wm
 rw[decide_eq_false h]
 rfl
theorem Qiz {p:Pr} {e v:Int} {ds:List Int} (hc:Qg p=some e):(if e=0 then JU p v ds else e)≠40:=by
 split
 ·exact QhG p v ds
 ·exact p22 p e hc
end Go.Proofs.Ytilbengnjgglhaa
namespace Go.Proofs.Ytilbengnjgglhaa
open Go.RowKit
set_option linter.unusedSimpArgs false
set_option linter.unusedVariables false
theorem QcW (x:Qv) (t:Qf) {i:Nat} {d:Int} (gi:t.Stops[i]? =some d) (c:Int) (hd:x.Demands.length≤1000): ∀(rest:List Int) (k f:Nat) (a:Bool),x.Demands.drop k=rest→k≤x.Demands.length→rest.length<f →
  iter (QM x t (i:Int)) f (c,a,(k:Int))=some (c,a||decide (d∈rest))
 | _,_,0,_,_,_,h=>by omega
 | [],k,f+1,a,h,hk,_=>by
  have h0:x.Demands.length=k:=by
   have:=congrArg List.length h
   simp at this;omega
  have h1: ¬((k:Int)<((x.Demands.length:Nat):Int)):=by omega
  simp[iter,QM,oun,QR,h1]
 | y::rest,k,f+1,a,h,hk,hf=>by
  have hk':k<x.Demands.length:=by
   have:=congrArg List.length h
   simp at this;omega
  have h1:((k:Int)<((x.Demands.length:Nat):Int)):=by omega
  have gd:x.Demands[k]? =some y:=by
   have:(x.Demands.drop k)[0]? =some y:=by rw[h];rfl
   simpa using this
  have hr:x.Demands.drop (k+1)=rest:=by rw[←List.drop_drop,h];rfl
  have e1:w64 ((k:Int)+1)=((k+1:Nat):Int):=by rw[Q9 (by omega) (by omega)];omega
  have ih:=QcW x t gi c hd rest (k+1) f (a||decide (y=d)) hr (by omega) (by simp at hf;omega);have e2:(a||decide (d∈y::rest))=(a||decide (y=d)||decide (d∈rest)):=by
   rw[Bool.or_assoc]
   congr 1
   rw[Bool.eq_iff_iff]
   simp only[Bool.or_eq_true,decide_eq_true_eq,List.mem_cons]
   exact ⟨fun h=>h.imp Eq.symm id,fun h=>h.imp Eq.symm id⟩
  rw[e2,←ih]
  simp only[iter,QM,oun,QR,h1,decide_true,cond_true,Qr,gd,gi,Option.bind_some,e1]
  cases a<;>rfl
theorem Qhh (x:Qv) (t:Qf) {i c:Nat} {d:Int} (gi:t.Stops[i]? =some d) (h0:0≤d) (hm:d∈x.Demands) (hd:x.Demands.length≤1000) (hi:t.Stops.length≤1000) (hc:c≤1000) :
  Qs x t ((c:Int),(i:Int))=some (.inl (((c+1:Nat):Int),((i+1:Nat):Int))):=by
 have hl:=QD gi;have h1:((i:Int)<((t.Stops.length:Nat):Int)):=by omega
 have e1:w64 ((i:Int)+1)=((i+1:Nat):Int):=by rw[Q9 (by omega) (by omega)];omega
 have e2:w64 ((c:Int)+1)=((c+1:Nat):Int):=by rw[Q9 (by omega) (by omega)];omega
 have h2: ¬(d= -1):=by omega
 have l:=QcW x t gi ((c+1:Nat):Int) hd x.Demands 0 (((x.Demands.length:Nat):Int).toNat+1) false rfl (by omega) (by simp);have l':iter (QM x t (i:Int)) (((x.Demands.length:Nat):Int).toNat+1) (((c+1:Nat):Int),false,0)=_:=l
 simp only[Qs,oun,QR,h1,h2,decide_true,decide_false,cond_true,cond_false,Qr,gi,Option.bind_some,e1,e2,l',hm,Bool.false_or,Bool.not_true]
theorem QfI (x:Qv) (t:Qf) {i c:Nat} {d:Int} (gp:t.Stops[i]? =some d) (gi:t.Stops[i+1]? =some (-1)) (h0:0≤d) (hi:t.Stops.length≤1000) :
  Qs x t ((c:Int),((i+1:Nat):Int))=some (.inl ((c:Int),((i+2:Nat):Int))):=by
 have hl:=QD gi;have h1:(((i+1:Nat):Int)<((t.Stops.length:Nat):Int)):=by omega
 have e1:w64 (((i+1:Nat):Int)+1)=((i+2:Nat):Int):=by rw[Q9 (by omega) (by omega)];omega
 have e2:w64 (((i+1:Nat):Int)-1)=((i:Nat):Int):=by rw[Q9 (by omega) (by omega)];omega
 have h2: ¬(d= -1):=by omega
 have h3: ¬(((i+1:Nat):Int)=0):=by omega
 simp only[Qs,oun,QR,h1,h2,h3,decide_true,decide_false,cond_true,cond_false,Qr,gi,gp,Option.bind_some,e1,e2]
theorem Qbj (x:Qv) (t:Qf) (hd:x.Demands.length≤1000) (hi:t.Stops.length≤900): ∀(P:List (Int×Bool)) (i f c:Nat),t.Stops.drop i=Zx P→i≤t.Stops.length→(∀q∈P,0≤q.1∧q.1∈x.Demands)→t.Stops.length<i+f→c≤i →
  iter (Qs x t) f ((c:Int),(i:Int))=some (.inl ((c+P.length:Nat):Int))
 | _,i,0,_,_,hk,_,h,_=>by omega
 | [],i,f+1,c,h,hk,_,_,_=>by
  have h0:t.Stops.length=i:=by
   have:=congrArg List.length h
   simp[Zx] at this;omega
  have h1: ¬((i:Int)<((t.Stops.length:Nat):Int)):=by omega
  simp only[iter,Qs,oun,QR,h1,decide_false,cond_false,Option.bind_some,List.length_nil,Nat.add_zero]
 | (d,fl)::P,i,f+1,c,h,hk,hq,hf,hc=>by
  have h':t.Stops.drop i=d::((if fl then [-1] else [])++Zx P):=h;have gd:t.Stops[i]? =some d:=by
   have:(t.Stops.drop i)[0]? =some d:=by rw[h'];rfl
   simpa using this
  have hr:t.Stops.drop (i+1)=(if fl then [-1] else [])++Zx P:=by rw[←List.drop_drop,h'];rfl
  have hl:=QD gd;obtain ⟨q1,q2⟩:=hq (d,fl) List.mem_cons_self;have s1:=Qhh x t gd q1 q2 hd (by omega) (show c≤1000 by omega);have hlen:c+((d,fl)::P).length=c+1+P.length:=by simp;omega
  cases fl with
  | false =>
   have ih:=Qbj x t hd hi P (i+1) f (c+1) hr (by omega) (fun q hqq=>hq q (List.mem_cons_of_mem _ hqq)) (by omega) (by omega)
   rw[hlen,←ih]
   simp only[iter,s1,Option.bind_some,QR]
  | true =>
   have hr1:t.Stops.drop (i+1)= -1::Zx P:=hr;have gu:t.Stops[i+1]? =some (-1):=by
    have:(t.Stops.drop (i+1))[0]? =some (-1):=by rw[hr1];rfl
    simpa using this
   have hl2:=QD gu;have hr2:t.Stops.drop (i+2)=Zx P:=by
    rw[show i+2=(i+1)+1 from rfl,←List.drop_drop,hr1];rfl
   cases f with
   | zero=>omega
   | succ f =>
    have s2:=QfI x t (c:=c+1) gd gu q1 (by omega);have ih:=Qbj x t hd hi P (i+2) f (c+1) hr2 (by omega) (fun q hqq=>hq q (List.mem_cons_of_mem _ hqq)) (by omega) (by omega)
    rw[hlen,←ih]
    simp only[iter,s1,s2,Option.bind_some,QR]
theorem JO (x:Qv) (hx:J4 x): ∃F,YA F x=some true:=by
 refine ⟨41100,?_⟩;have haw:=Qiy (Nat.le_refl 41100);unfold YA;rcases QfA x with h | ⟨h,hn,hd⟩
 ·rw[h];simp only[Option.bind_some,Bool.not_false,cond_true,haw]
 ·rw[h]
  obtain ⟨e,hc⟩:=Qgb x.Problem hn
  rw[QcJ (Nat.le_refl 41100) hn hc x.Vehicle (show x.Demands.length≤100 by omega),QbR (Nat.le_refl 41100) hn hc x.Vehicle (show x.Demands.length≤100 by omega)]
  simp only[Option.bind_some,Bool.not_true,cond_false,oun]
  by_cases hz:(if e=0 then JU x.Problem x.Vehicle x.Demands else e)=0
  ·obtain ⟨rfl,hchk⟩:=Qes hz;have hp:=OkP.of hn hc;have hB:=Qe2 x.Problem x.Vehicle x.Demands
   rw[Qhm hchk,QfO hchk]
   generalize Ju x.Problem x.Vehicle x.Demands=s at hB
   rcases hB with ⟨h1,h2⟩ | ⟨h1,⟨P,h2,h5⟩,h3,h4⟩
   ·subst h1
    simp[haw]
   ·obtain ⟨_,_,hdd,_⟩:=QhH.1 hchk;have hsl:s.2.2.length≤2*x.Demands.length:=QfJ.len ⟨P,h2,h5⟩;have l:=Qbj x ⟨x.Vehicle,s.2.2⟩ (by omega) (show s.2.2.length≤900 by omega) P 0 (((s.2.2.length:Nat):Int).toNat+1) 0 (by rw[List.drop_zero];exact h5) (Nat.zero_le _) (fun q hq=>by
     have:q.1∈x.Demands:=h2.subset (List.mem_map_of_mem hq);exact ⟨(hdd _ this).1,this⟩) (by show s.2.2.length<_;omega) (Nat.le_refl _)
    have l':iter (Qs x ⟨x.Vehicle,s.2.2⟩) (((s.2.2.length:Nat):Int).toNat+1) (0,0)=_:=l;have hpl:P.length=x.Demands.length:=by
     have:=h2.length_eq
     simpa using this
    rw[h1]
    simp only[cond_true,decide_true,Bool.not_true,cond_false,Option.bind_some,Qgp (F:=41100) (by decide) hp hc hn,h3,l',QR,hpl,Nat.zero_add,haw]
  ·have h40:=Qiz (v:=x.Vehicle) (ds:=x.Demands) hc
   rw[QgQ hz,QeT hz]
   simp only[hz,h40,decide_true,decide_false,cond_false,cond_true,Bool.not_false,Option.bind_some,haw]
end Go.Proofs.Ytilbengnjgglhaa
namespace Go.Proofs.Ytilbengnjgglhaa
open Go.RowKit Go.ChangeShapes Go.WideShapes
set_option linter.unusedSimpArgs false
set_option linter.unusedVariables false
def Qev (W:World):Gh:=⟨fun b=>W.heap[b]?,W.os,W.output,W.tape⟩
theorem QhN (W:World):Inv W (Qev W) []:=⟨rfl,rfl,rfl,fun _ _ h=>h,by simp,by simp,by simp⟩
theorem QhE {W W':World} {μ:Gh} {L:List Seg} (hm:(Qev W).le μ) (h:Inv W' μ L):Below W.heap.size W W':=by
 have hb: ∀k,k<W.heap.size→W'.heap[k]? =W.heap[k]? :=fun k hk=>by
  have h1:W.heap[k]? =some W.heap[k]:=by simp[hk]
  rw[h1]
  exact h.mem k _ (hm.mem k _ h1)
 refine ⟨h.os.trans hm.os,h.tape.trans hm.tape,h.out.trans hm.out,?_,hb⟩;rcases Nat.eq_zero_or_pos W.heap.size with h0 | h0
 ·omega
 ·have h1:=hb (W.heap.size-1) (by omega);have h2:W.heap[W.heap.size-1]? =some (W.heap[W.heap.size-1]'(by omega)):=by simp
  rw[h2] at h1
  have:=YR h1
  omega
theorem Qe4 {P:Program} {f:FuncId} {fn:Func} (hf:P.funcs[f]? =some fn) (hb:fn.body.isNone=false) {args:List Value} {W:World} {v:Value} (h:Fn P f args (Qev W) [] fun u _ _=>u=v) :
  Calls P f args.toArray W fun e W'=>e= .returned v∧Below W.heap.size W W':=by
 rcases h with ⟨_,h⟩ | ⟨fn',_,hf',_,hb',_⟩
 ·refine (h W (QhN W)).mono ?_;rintro e W' ⟨u,μ',L',rfl,hm,hi,rfl⟩;exact ⟨rfl,QhE hm hi⟩
 ·rw[hf] at hf'
  injection hf' with hf'
  subst hf'
  rw[hb] at hb';cases hb'
section
variable {H:Type} {enc:TypeId×Value→H} {P:Program}
theorem Qa2 (hl:laidOutB P=true) {W W':World} (hb:Below W.heap.size W W') {sp:Nat→Bool}: ∀{ts:List TypeId} {vs:List Value} {ds:List (DataW H)} {ps:List MemPlace},
  (∀t∈ts,P.readableRec t=true∧t<P.types.size)→(∀p∈ps,p.block<W.heap.size)→(∀p∈ps,sp p.block=true) →
  DataW.TrodAll enc P W 0 (fun _=>true) true ts vs ds ps→DataW.TrodAll enc P W' 0 sp true ts vs ds ps
 | [],vs,ds,ps,_,_,_,h=>by
  obtain ⟨rfl,rfl,rfl⟩:=trodAll_nil h
  rfl
 | t::ts,vs,ds,ps,hr,hlt,hs,h=>by
  obtain ⟨v,vs',d,ds',p,q,rfl,rfl,rfl,hd,hrest⟩:=trodAll_cons h;refine ⟨p,q,WideElems.Trod_stays hl (hr t (by simp)).1 (hr t (by simp)).2 hd (fun x hx=>hb.same (hlt x (by simp[hx]))) (fun x hx=>hs x (by simp[hx])),?_,rfl⟩;exact Qa2 hl hb (fun u hu=>hr u (by simp[hu])) (fun x hx=>hlt x (by simp[hx])) (fun x hx=>hs x (by simp[hx])) hrest
theorem Qg7 {f:Func} {s:ChangeSpec} {apart fresh handsOn again:Bool} {W W':World} {args:Array Value} {ds:List (DataW H)} {before:List MemPlace} {tb:TypeId}
  (hW:DataW.Whole enc P f.params.toList s.vars apart W args.toList ds [] before) (hv:s.vars=[]) (hres:f.resultTypes= #[tb]) (htb:P.underlying tb=some .bool)
  (hfr:(s.fn H ds).results=[.lit (.bool true)]) (hfa:(s.fn H ds).args=ds) (hfv:(s.fn H ds).vars=[]) (hl:laidOutB P=true) (hr: ∀t∈f.params.toList,P.readableRec t=true∧t<P.types.size) (hb:Below W.heap.size W W') :
  s.post enc P f apart fresh handsOn again W args (.bool true) W':=by
 have hlt: ∀p∈before,p.block<W.heap.size:=fun p hp=>hW.lt p hp;have hW':=hW;obtain ⟨p,q,hA,hV,hpq,hz,hn⟩:=hW'
 rw[hv] at hV
 obtain ⟨_,rfl⟩:=trodVars_none hV
 rw[List.append_nil] at hpq
 subst hpq;have hresl:((Value.bool true).resultList f.resultTypes.size)=[.bool true]:=by rw[hres];rfl
 have hargs: ∀sp:Nat→Bool,(∀x∈before,sp x.block=true)→DataW.TrodAll enc P W' 0 sp true f.params.toList args.toList ds before:=fun sp hs=>Qa2 hl hb hr hlt hs hA;have hres2: ∀(b:Nat) (sp:Nat→Bool) (hd:Bool),DataW.TrodAll enc P W' b sp hd f.resultTypes.toList [.bool true] [.lit (.bool true)] []:=fun b sp hd=>by
  rw[hres];exact trodAll_mk1 (shut_bool htb true)
 have hold: ∀p∈before,(fun b=>decide (b<W.heap.size)) p.block=true:=fun p hp=>by simpa using hlt p hp
 have hvars: ∀sp:Nat→Bool,DataW.TrodVars enc P W' sp s.vars [] []:=fun sp=>by rw[hv];rfl
 refine ⟨ds,[],before,[],before,[],hW,?_,?_,?_,World.keptBut_mono (fun p hp=>⟨hp,by simpa using hp⟩) (hb.frame (· ∈before)),fun _=> ?_⟩
 ·rw[hresl,List.append_nil,hfr];exact hres2 _ _ _
 ·rw[List.append_nil,hfa];exact hargs _ hold
 ·rw[List.append_nil,hfv];exact hvars _
 ·have A1:=hargs (fun _=>true) (fun _ _=>rfl);have R1:=hres2 0 (fun _=>true) true;refine ⟨ok_one hres rfl (okWide_bool_mk htb true),?_⟩
  rw[hresl]
  refine ⟨_,_,([]++before)++[],⟨[]++before,[],trodAll_append A1 R1,hvars _,rfl,?_,?_⟩,?_⟩
  ·intro b off hp;have hin:MemPlace.cell b off∈before:=by simpa using hp
   rw[hb.frozen (hlt _ hin)]
   exact hz b off hin
  ·intro ha;have:=hn ha
   simpa using this
  ·intro p hp _
   simpa using hp
end
end Go.Proofs.Ytilbengnjgglhaa
namespace Go.Proofs.Ytilbengnjgglhaa
open Go.RowKit Go.ChangeShapes Go.WideShapes Go.Deep
set_option linter.unusedSimpArgs false
set_option linter.unusedVariables false
theorem QdA {W:World} {L:List Seg} {a:Addr} {v:Value} (h:W.cell? a=some v):ZN (Qev W) L a v:=by
 unfold World.cell? at h
 split at h
 ·rename_i c e f hb
  split at h
  ·cases h
  ·rename_i hs
   refine ⟨by simpa using hs,c,e,f,.inl hb,by simpa using h⟩
 ·cases h
theorem QgE {α β:Type} (Q:Nat→α→β→Prop): ∀n,(∀i,i<n→ ∃x y,Q i x y)→ ∃(l:List α) (m:List β),l.length=n∧m.length=n∧ ∀(i:Nat) (x:α) (y:β),l[i]? =some x→m[i]? =some y→Q i x y
 | 0,_=>⟨[],[],rfl,rfl,by simp⟩
 | n+1,h=>by
  obtain ⟨l,m,hl,hm,hq⟩:=QgE Q n fun i hi=>h i (by omega);obtain ⟨x,y,hx⟩:=h n (by omega);refine ⟨l++[x],m++[y],by simp[hl],by simp[hm],fun i u v hu hv=> ?_⟩;rcases Nat.lt_or_ge i n with hi | hi
  ·rw[List.getElem?_append_left (by omega)] at hu hv
   exact hq i u v hu hv
  ·rw[List.getElem?_append_right (by omega)] at hu hv
   have:i-n=0:=by
    rcases Nat.eq_zero_or_pos (i-n) with h0 | h0
    ·exact h0
    ·rw[List.getElem?_eq_none (by simp;omega)] at hu;cases hu
   rw[hl,this] at hu
   rw[hm,this] at hv
   simp only[List.getElem?_cons_zero,Option.some.injEq] at hu hv
   have:i=n:=by omega
   subst this;subst hu;subst hv;exact hx
def Opn {α:Type} (P:Program) (W:World) (t:TypeId) (r:Rp α) (Q:α→Prop):Prop :=
 ∀(H:Type) (enc:TypeId×Value→H) (spare:Nat→Bool) (held:Bool) (fuel:Nat) (cs:List Value) (x:DataW H×List MemPlace),DataW.trod enc P W 0 spare held fuel t cs=some x→ ∃d,r.rep (Qev W) d cs∧Q d
section
variable {P:Program} {W:World} {t:TypeId}
theorem Zi {k:IntKind} (ht:P.underlying t=some (.int k)):Opn P W t (rI k) (wfI k):=by
 intro H enc spare held fuel cs x h;obtain ⟨n,h1,_,h2⟩:=DataW.trod_int ht h;exact ⟨n,h1,h2⟩
theorem QiI (ht:P.underlying t=some .string):Opn P W t Qkq fun s=>s.size≤maxLen:=by
 intro H enc spare held fuel cs x h;obtain ⟨n,h1,_,h2⟩:=DataW.trod_string ht h;exact ⟨n,h1,h2⟩
theorem QaL {α:Type} {e:TypeId} {r:Rp α} {Q:α→Prop} (ht:P.underlying t=some (.slice e)) (hC:P.cellsOf e=r.sz) (he:Opn P W e r Q):Opn P W t (Qkg r) fun xs=> ∀x∈xs,Q x:=by
 intro H enc spare held fuel cs x h;rcases open_slice ht h with ⟨rfl,_⟩ | ⟨a,n,c,m,nn,D,Pl,rfl,hb,hl,hm,hmm,hx,hi⟩
 ·exact ⟨[],⟨none,0,rfl,Nat.le_refl _,Nat.zero_le _,Qp.nil⟩,by simp⟩
 ·have hrow: ∀i,i<n→ ∃(y:α) (cs:List Value),r.rep (Qev W) y cs∧Q y∧YP (Qev W) [] (a.add (i*r.sz)) cs:=fun i hin=>by
   obtain ⟨cs',hc,htr⟩:=hi i (by split at hmm<;>omega)
   rw[hC] at hc
   obtain ⟨y,hy,hq⟩:=he H enc spare held nn cs' _ htr;obtain ⟨_,hcl,hat⟩:=World.cells?_some hc;refine ⟨y,cs',hy,hq,fun j u hu=> ?_⟩;have hjk:j<r.sz:=by
    rcases Nat.lt_or_ge j r.sz with h | h
    ·exact h
    ·rw[List.getElem?_eq_none (by omega)] at hu;cases hu
   exact QdA (by rw[hat j hjk];exact hu)
  obtain ⟨xs,css,hxl,hcl,hq⟩:=QgE (fun i y cs=>r.rep (Qev W) y cs∧Q y∧YP (Qev W) [] (a.add (i*r.sz)) cs) n hrow;refine ⟨xs,⟨some a,c,by rw[hxl],by omega,hm,css,fun i cs hcs=> ?_,by rw[hxl,hcl],fun i y cs hy hcs=>(hq i y cs hy hcs).1⟩,fun y hy=> ?_⟩
  ·have hlt:i<css.length:=by
    rcases Nat.lt_or_ge i css.length with h | h
    ·exact h
    ·rw[List.getElem?_eq_none h] at hcs;cases hcs
   obtain ⟨h1,_,h3⟩:=hq i (xs[i]'(by omega)) cs (by simp) hcs;exact ⟨r.len h1,a,rfl,h3⟩
  ·obtain ⟨i,hi'⟩:=List.getElem?_of_mem hy;have hlt:i<xs.length:=by
    rcases Nat.lt_or_ge i xs.length with h | h
    ·exact h
    ·rw[List.getElem?_eq_none h] at hi';cases hi'
   exact (hq i y (css[i]'(by omega)) hi' (by simp)).2.1
end
theorem Y8 {cs:List Value} {o a o2:Nat} (h:o+a=o2):cs.drop o=(cs.drop o).take a++cs.drop o2:=by rw[←h,←List.drop_drop,List.take_append_drop]
theorem Qhi {cs:Array Value} {l:List Value} (h:cs.toList=l):cs=l.toArray:=by rw[←h]
end Go.Proofs.Ytilbengnjgglhaa
namespace Go.Proofs.Ytilbengnjgglhaa
open Go.ChangeShapes Go.WideShapes Go.ChangeAt Go.RowKit
set_option linter.unusedSimpArgs false
set_option linter.unusedVariables false
theorem Qko:ownKnob Try.prog.godebug=none:=by kernel_rfl
theorem QhP:laidOutB Try.prog=true:=by kernel_rfl
theorem QeG {W:World}:Opn Try.prog W 77 QI Qct:=by
 intro H enc spare held fuel cs x h;obtain ⟨xs,n,_,_,hlen,hxl,hf⟩:=DataW.trod_struct Try.underlying77 h
 rw[show Try.prog.cellsOf 77=4 by kernel_rfl] at hlen
 have g0:DataW.trod enc Try.prog W 0 spare held n 3 ((cs.drop 0).take (Try.prog.cellsOf 3))=xs[0]? :=hf 0 _ rfl
 rw[show Try.prog.cellsOf 3=1 by kernel_rfl,List.getElem?_eq_getElem (by rw[hxl];decide)] at g0
 obtain ⟨d0,h0,q0⟩:=(Zi Try.underlying3) H enc spare held n _ _ g0;have g1:DataW.trod enc Try.prog W 0 spare held n 3 ((cs.drop 1).take (Try.prog.cellsOf 3))=xs[1]? :=hf 1 _ rfl
 rw[show Try.prog.cellsOf 3=1 by kernel_rfl,List.getElem?_eq_getElem (by rw[hxl];decide)] at g1
 obtain ⟨d1,h1,q1⟩:=(Zi Try.underlying3) H enc spare held n _ _ g1;have g2:DataW.trod enc Try.prog W 0 spare held n 3 ((cs.drop 2).take (Try.prog.cellsOf 3))=xs[2]? :=hf 2 _ rfl
 rw[show Try.prog.cellsOf 3=1 by kernel_rfl,List.getElem?_eq_getElem (by rw[hxl];decide)] at g2
 obtain ⟨d2,h2,q2⟩:=(Zi Try.underlying3) H enc spare held n _ _ g2;have g3:DataW.trod enc Try.prog W 0 spare held n 3 ((cs.drop 3).take (Try.prog.cellsOf 3))=xs[3]? :=hf 3 _ rfl
 rw[show Try.prog.cellsOf 3=1 by kernel_rfl,List.getElem?_eq_getElem (by rw[hxl];decide)] at g3
 obtain ⟨d3,h3,q3⟩:=(Zi Try.underlying3) H enc spare held n _ _ g3;have e0:cs.drop 0=(cs.drop 0).take 1++cs.drop 1:=Y8 rfl;have e1:cs.drop 1=(cs.drop 1).take 1++cs.drop 2:=Y8 rfl;have e2:cs.drop 2=(cs.drop 2).take 1++cs.drop 3:=Y8 rfl;have e3:cs.drop 3=(cs.drop 3).take 1++cs.drop 4:=Y8 rfl;have en:cs.drop 4=[]:=List.drop_of_length_le (by omega);have hcs:cs.drop 0=_:=e0
 rw[e1,e2,e3,en,show (cs.drop 0).take 1=_ from h0,show (cs.drop 1).take 1=_ from h1,show (cs.drop 2).take 1=_ from h2,show (cs.drop 3).take 1=_ from h3] at hcs
 exact ⟨⟨d0,d1,d2,d3⟩,hcs,q0,q1,q2,q3⟩
theorem QeH {W:World}:Opn Try.prog W 24 Qf5 Qcu:=by
 intro H enc spare held fuel cs x h;obtain ⟨xs,n,_,_,hlen,hxl,hf⟩:=DataW.trod_struct Try.underlying24 h
 rw[show Try.prog.cellsOf 24=2 by kernel_rfl] at hlen
 have g0:DataW.trod enc Try.prog W 0 spare held n 3 ((cs.drop 0).take (Try.prog.cellsOf 3))=xs[0]? :=hf 0 _ rfl
 rw[show Try.prog.cellsOf 3=1 by kernel_rfl,List.getElem?_eq_getElem (by rw[hxl];decide)] at g0
 obtain ⟨d0,h0,q0⟩:=(Zi Try.underlying3) H enc spare held n _ _ g0;have g1:DataW.trod enc Try.prog W 0 spare held n 22 ((cs.drop 1).take (Try.prog.cellsOf 22))=xs[1]? :=hf 1 _ rfl
 rw[show Try.prog.cellsOf 22=1 by kernel_rfl,List.getElem?_eq_getElem (by rw[hxl];decide)] at g1
 obtain ⟨d1,h1,q1⟩:=(QaL Try.underlying22 (by kernel_rfl) QeG) H enc spare held n _ _ g1;have e0:cs.drop 0=(cs.drop 0).take 1++cs.drop 1:=Y8 rfl;have e1:cs.drop 1=(cs.drop 1).take 1++cs.drop 2:=Y8 rfl;have en:cs.drop 2=[]:=List.drop_of_length_le (by omega);obtain ⟨A0,c0,h1,hl0,hm0,ha0⟩:=h1;have hcs:cs.drop 0=_:=e0
 rw[e1,en,show (cs.drop 0).take 1=_ from h0,show (cs.drop 1).take 1=_ from h1] at hcs
 exact ⟨⟨d0,d1⟩,⟨A0,c0,hcs,⟨hl0,hm0⟩,ha0⟩,q0,q1⟩
theorem Qat {W:World}:Opn Try.prog W 64 QeJ Vs:=by
 intro H enc spare held fuel cs x h;obtain ⟨xs,n,_,_,hlen,hxl,hf⟩:=DataW.trod_struct Try.underlying64 h
 rw[show Try.prog.cellsOf 64=2 by kernel_rfl] at hlen
 have g0:DataW.trod enc Try.prog W 0 spare held n 3 ((cs.drop 0).take (Try.prog.cellsOf 3))=xs[0]? :=hf 0 _ rfl
 rw[show Try.prog.cellsOf 3=1 by kernel_rfl,List.getElem?_eq_getElem (by rw[hxl];decide)] at g0
 obtain ⟨d0,h0,q0⟩:=(Zi Try.underlying3) H enc spare held n _ _ g0;have g1:DataW.trod enc Try.prog W 0 spare held n 3 ((cs.drop 1).take (Try.prog.cellsOf 3))=xs[1]? :=hf 1 _ rfl
 rw[show Try.prog.cellsOf 3=1 by kernel_rfl,List.getElem?_eq_getElem (by rw[hxl];decide)] at g1
 obtain ⟨d1,h1,q1⟩:=(Zi Try.underlying3) H enc spare held n _ _ g1;have e0:cs.drop 0=(cs.drop 0).take 1++cs.drop 1:=Y8 rfl;have e1:cs.drop 1=(cs.drop 1).take 1++cs.drop 2:=Y8 rfl;have en:cs.drop 2=[]:=List.drop_of_length_le (by omega);have hcs:cs.drop 0=_:=e0
 rw[e1,en,show (cs.drop 0).take 1=_ from h0,show (cs.drop 1).take 1=_ from h1] at hcs
 exact ⟨⟨d0,d1⟩,hcs,q0,q1⟩
theorem QcE {W:World}:Opn Try.prog W 66 Qy QaG:=by
 intro H enc spare held fuel cs x h;obtain ⟨xs,n,_,_,hlen,hxl,hf⟩:=DataW.trod_struct Try.underlying66 h
 rw[show Try.prog.cellsOf 66=6 by kernel_rfl] at hlen
 have g0:DataW.trod enc Try.prog W 0 spare held n 9 ((cs.drop 0).take (Try.prog.cellsOf 9))=xs[0]? :=hf 0 _ rfl
 rw[show Try.prog.cellsOf 9=1 by kernel_rfl,List.getElem?_eq_getElem (by rw[hxl];decide)] at g0
 obtain ⟨d0,h0,q0⟩:=(QiI Try.underlying9) H enc spare held n _ _ g0;have g1:DataW.trod enc Try.prog W 0 spare held n 3 ((cs.drop 1).take (Try.prog.cellsOf 3))=xs[1]? :=hf 1 _ rfl
 rw[show Try.prog.cellsOf 3=1 by kernel_rfl,List.getElem?_eq_getElem (by rw[hxl];decide)] at g1
 obtain ⟨d1,h1,q1⟩:=(Zi Try.underlying3) H enc spare held n _ _ g1;have g2:DataW.trod enc Try.prog W 0 spare held n 64 ((cs.drop 2).take (Try.prog.cellsOf 64))=xs[2]? :=hf 2 _ rfl
 rw[show Try.prog.cellsOf 64=2 by kernel_rfl,List.getElem?_eq_getElem (by rw[hxl];decide)] at g2
 obtain ⟨d2,h2,q2⟩:=Qat H enc spare held n _ _ g2;have g3:DataW.trod enc Try.prog W 0 spare held n 3 ((cs.drop 4).take (Try.prog.cellsOf 3))=xs[3]? :=hf 3 _ rfl
 rw[show Try.prog.cellsOf 3=1 by kernel_rfl,List.getElem?_eq_getElem (by rw[hxl];decide)] at g3
 obtain ⟨d3,h3,q3⟩:=(Zi Try.underlying3) H enc spare held n _ _ g3;have g4:DataW.trod enc Try.prog W 0 spare held n 3 ((cs.drop 5).take (Try.prog.cellsOf 3))=xs[4]? :=hf 4 _ rfl
 rw[show Try.prog.cellsOf 3=1 by kernel_rfl,List.getElem?_eq_getElem (by rw[hxl];decide)] at g4
 obtain ⟨d4,h4,q4⟩:=(Zi Try.underlying3) H enc spare held n _ _ g4;have e0:cs.drop 0=(cs.drop 0).take 1++cs.drop 1:=Y8 rfl;have e1:cs.drop 1=(cs.drop 1).take 1++cs.drop 2:=Y8 rfl;have e2:cs.drop 2=(cs.drop 2).take 2++cs.drop 4:=Y8 rfl;have e3:cs.drop 4=(cs.drop 4).take 1++cs.drop 5:=Y8 rfl;have e4:cs.drop 5=(cs.drop 5).take 1++cs.drop 6:=Y8 rfl;have en:cs.drop 6=[]:=List.drop_of_length_le (by omega);have hcs:cs.drop 0=_:=e0
 rw[e1,e2,e3,e4,en,show (cs.drop 0).take 1=_ from h0,show (cs.drop 1).take 1=_ from h1,show (cs.drop 2).take 2=_ from h2,show (cs.drop 4).take 1=_ from h3,show (cs.drop 5).take 1=_ from h4] at hcs
 exact ⟨⟨d0,d1,d2,d3,d4⟩,hcs,q0,q1,q2,q3,q4⟩
theorem Qdl {W:World}:Opn Try.prog W 79 QA Qa3:=by
 intro H enc spare held fuel cs x h;obtain ⟨xs,n,_,_,hlen,hxl,hf⟩:=DataW.trod_struct Try.underlying79 h
 rw[show Try.prog.cellsOf 79=7 by kernel_rfl] at hlen
 have g0:DataW.trod enc Try.prog W 0 spare held n 3 ((cs.drop 0).take (Try.prog.cellsOf 3))=xs[0]? :=hf 0 _ rfl
 rw[show Try.prog.cellsOf 3=1 by kernel_rfl,List.getElem?_eq_getElem (by rw[hxl];decide)] at g0
 obtain ⟨d0,h0,q0⟩:=(Zi Try.underlying3) H enc spare held n _ _ g0;have g1:DataW.trod enc Try.prog W 0 spare held n 3 ((cs.drop 1).take (Try.prog.cellsOf 3))=xs[1]? :=hf 1 _ rfl
 rw[show Try.prog.cellsOf 3=1 by kernel_rfl,List.getElem?_eq_getElem (by rw[hxl];decide)] at g1
 obtain ⟨d1,h1,q1⟩:=(Zi Try.underlying3) H enc spare held n _ _ g1;have g2:DataW.trod enc Try.prog W 0 spare held n 3 ((cs.drop 2).take (Try.prog.cellsOf 3))=xs[2]? :=hf 2 _ rfl
 rw[show Try.prog.cellsOf 3=1 by kernel_rfl,List.getElem?_eq_getElem (by rw[hxl];decide)] at g2
 obtain ⟨d2,h2,q2⟩:=(Zi Try.underlying3) H enc spare held n _ _ g2;have g3:DataW.trod enc Try.prog W 0 spare held n 3 ((cs.drop 3).take (Try.prog.cellsOf 3))=xs[3]? :=hf 3 _ rfl
 rw[show Try.prog.cellsOf 3=1 by kernel_rfl,List.getElem?_eq_getElem (by rw[hxl];decide)] at g3
 obtain ⟨d3,h3,q3⟩:=(Zi Try.underlying3) H enc spare held n _ _ g3;have g4:DataW.trod enc Try.prog W 0 spare held n 64 ((cs.drop 4).take (Try.prog.cellsOf 64))=xs[4]? :=hf 4 _ rfl
 rw[show Try.prog.cellsOf 64=2 by kernel_rfl,List.getElem?_eq_getElem (by rw[hxl];decide)] at g4
 obtain ⟨d4,h4,q4⟩:=Qat H enc spare held n _ _ g4;have g5:DataW.trod enc Try.prog W 0 spare held n 3 ((cs.drop 6).take (Try.prog.cellsOf 3))=xs[5]? :=hf 5 _ rfl
 rw[show Try.prog.cellsOf 3=1 by kernel_rfl,List.getElem?_eq_getElem (by rw[hxl];decide)] at g5
 obtain ⟨d5,h5,q5⟩:=(Zi Try.underlying3) H enc spare held n _ _ g5;have e0:cs.drop 0=(cs.drop 0).take 1++cs.drop 1:=Y8 rfl;have e1:cs.drop 1=(cs.drop 1).take 1++cs.drop 2:=Y8 rfl;have e2:cs.drop 2=(cs.drop 2).take 1++cs.drop 3:=Y8 rfl;have e3:cs.drop 3=(cs.drop 3).take 1++cs.drop 4:=Y8 rfl;have e4:cs.drop 4=(cs.drop 4).take 2++cs.drop 6:=Y8 rfl;have e5:cs.drop 6=(cs.drop 6).take 1++cs.drop 7:=Y8 rfl;have en:cs.drop 7=[]:=List.drop_of_length_le (by omega);have hcs:cs.drop 0=_:=e0
 rw[e1,e2,e3,e4,e5,en,show (cs.drop 0).take 1=_ from h0,show (cs.drop 1).take 1=_ from h1,show (cs.drop 2).take 1=_ from h2,show (cs.drop 3).take 1=_ from h3,show (cs.drop 4).take 2=_ from h4,show (cs.drop 6).take 1=_ from h5] at hcs
 exact ⟨⟨d0,d1,d2,d3,d4,d5⟩,hcs,q0,q1,q2,q3,q4,q5⟩
theorem QcD {W:World}:Opn Try.prog W 28 QdH QaF:=by
 intro H enc spare held fuel cs x h;obtain ⟨xs,n,_,_,hlen,hxl,hf⟩:=DataW.trod_struct Try.underlying28 h
 rw[show Try.prog.cellsOf 28=6 by kernel_rfl] at hlen
 have g0:DataW.trod enc Try.prog W 0 spare held n 24 ((cs.drop 0).take (Try.prog.cellsOf 24))=xs[0]? :=hf 0 _ rfl
 rw[show Try.prog.cellsOf 24=2 by kernel_rfl,List.getElem?_eq_getElem (by rw[hxl];decide)] at g0
 obtain ⟨d0,h0,q0⟩:=QeH H enc spare held n _ _ g0;have g1:DataW.trod enc Try.prog W 0 spare held n 25 ((cs.drop 2).take (Try.prog.cellsOf 25))=xs[1]? :=hf 1 _ rfl
 rw[show Try.prog.cellsOf 25=1 by kernel_rfl,List.getElem?_eq_getElem (by rw[hxl];decide)] at g1
 obtain ⟨d1,h1,q1⟩:=(QaL Try.underlying25 (by kernel_rfl) QcE) H enc spare held n _ _ g1;have g2:DataW.trod enc Try.prog W 0 spare held n 26 ((cs.drop 3).take (Try.prog.cellsOf 26))=xs[2]? :=hf 2 _ rfl
 rw[show Try.prog.cellsOf 26=1 by kernel_rfl,List.getElem?_eq_getElem (by rw[hxl];decide)] at g2
 obtain ⟨d2,h2,q2⟩:=(QaL Try.underlying26 (by kernel_rfl) Qdl) H enc spare held n _ _ g2;have g3:DataW.trod enc Try.prog W 0 spare held n 3 ((cs.drop 4).take (Try.prog.cellsOf 3))=xs[3]? :=hf 3 _ rfl
 rw[show Try.prog.cellsOf 3=1 by kernel_rfl,List.getElem?_eq_getElem (by rw[hxl];decide)] at g3
 obtain ⟨d3,h3,q3⟩:=(Zi Try.underlying3) H enc spare held n _ _ g3;have g4:DataW.trod enc Try.prog W 0 spare held n 3 ((cs.drop 5).take (Try.prog.cellsOf 3))=xs[4]? :=hf 4 _ rfl
 rw[show Try.prog.cellsOf 3=1 by kernel_rfl,List.getElem?_eq_getElem (by rw[hxl];decide)] at g4
 obtain ⟨d4,h4,q4⟩:=(Zi Try.underlying3) H enc spare held n _ _ g4;have e0:cs.drop 0=(cs.drop 0).take 2++cs.drop 2:=Y8 rfl;have e1:cs.drop 2=(cs.drop 2).take 1++cs.drop 3:=Y8 rfl;have e2:cs.drop 3=(cs.drop 3).take 1++cs.drop 4:=Y8 rfl;have e3:cs.drop 4=(cs.drop 4).take 1++cs.drop 5:=Y8 rfl;have e4:cs.drop 5=(cs.drop 5).take 1++cs.drop 6:=Y8 rfl;have en:cs.drop 6=[]:=List.drop_of_length_le (by omega);obtain ⟨A0,c0,h0,hl0,ha0⟩:=h0;obtain ⟨A1,c1,h1,hl1,hm1,ha1⟩:=h1;obtain ⟨A2,c2,h2,hl2,hm2,ha2⟩:=h2;have hcs:cs.drop 0=_:=e0
 rw[e1,e2,e3,e4,en,show (cs.drop 0).take 2=_ from h0,show (cs.drop 2).take 1=_ from h1,show (cs.drop 3).take 1=_ from h2,show (cs.drop 4).take 1=_ from h3,show (cs.drop 5).take 1=_ from h4] at hcs
 exact ⟨⟨d0,d1,d2,d3,d4⟩,⟨A0,c0,A1,c1,A2,c2,hcs,hl0,ha0,⟨hl1,hm1⟩,ha1,⟨hl2,hm2⟩,ha2⟩,q0,q1,q2,q3,q4⟩
theorem VA {W:World}:Opn Try.prog W 31 Qad J4:=by
 intro H enc spare held fuel cs x h;obtain ⟨xs,n,_,_,hlen,hxl,hf⟩:=DataW.trod_struct Try.underlying31 h
 rw[show Try.prog.cellsOf 31=8 by kernel_rfl] at hlen
 have g0:DataW.trod enc Try.prog W 0 spare held n 28 ((cs.drop 0).take (Try.prog.cellsOf 28))=xs[0]? :=hf 0 _ rfl
 rw[show Try.prog.cellsOf 28=6 by kernel_rfl,List.getElem?_eq_getElem (by rw[hxl];decide)] at g0
 obtain ⟨d0,h0,q0⟩:=QcD H enc spare held n _ _ g0;have g1:DataW.trod enc Try.prog W 0 spare held n 3 ((cs.drop 6).take (Try.prog.cellsOf 3))=xs[1]? :=hf 1 _ rfl
 rw[show Try.prog.cellsOf 3=1 by kernel_rfl,List.getElem?_eq_getElem (by rw[hxl];decide)] at g1
 obtain ⟨d1,h1,q1⟩:=(Zi Try.underlying3) H enc spare held n _ _ g1;have g2:DataW.trod enc Try.prog W 0 spare held n 29 ((cs.drop 7).take (Try.prog.cellsOf 29))=xs[2]? :=hf 2 _ rfl
 rw[show Try.prog.cellsOf 29=1 by kernel_rfl,List.getElem?_eq_getElem (by rw[hxl];decide)] at g2
 obtain ⟨d2,h2,q2⟩:=(QaL Try.underlying29 (by kernel_rfl) (Zi Try.underlying3)) H enc spare held n _ _ g2;have e0:cs.drop 0=(cs.drop 0).take 6++cs.drop 6:=Y8 rfl;have e1:cs.drop 6=(cs.drop 6).take 1++cs.drop 7:=Y8 rfl;have e2:cs.drop 7=(cs.drop 7).take 1++cs.drop 8:=Y8 rfl;have en:cs.drop 8=[]:=List.drop_of_length_le (by omega);obtain ⟨A0,c0,A1,c1,A2,c2,h0,hl0,ha0,hl1,ha1,hl2,ha2⟩:=h0;obtain ⟨A3,c3,h2,hl3,hm3,ha3⟩:=h2;have hcs:cs.drop 0=_:=e0
 rw[e1,e2,en,show (cs.drop 0).take 6=_ from h0,show (cs.drop 6).take 1=_ from h1,show (cs.drop 7).take 1=_ from h2] at hcs
 exact ⟨⟨d0,d1,d2⟩,⟨A0,c0,A1,c1,A2,c2,A3,c3,hcs,hl0,ha0,hl1,ha1,hl2,ha2,⟨hl3,hm3⟩,ha3⟩,q0,q1,q2⟩
set_option maxRecDepth 100000 in
theorem Qaj (os:Os) (started:os.Started) (H:Type) (enc:TypeId×Value→H) :
  ReturnsInHanded {} Try.checked os 4 .any (Rows.exactFeasibleSpec.pre6 enc Try.prog Try.f4 Rows.exactFeasibleRow.domain false) (Rows.exactFeasibleSpec.post enc Try.prog Try.f4 false true false false):=by
 refine returnsInHanded_of_change (C:=Try.checked) Qko started (by kernel_rfl) Try.func4
  (ChangeSpec.witness6 (enc:=enc) (C:=Try.checked) false ⟨#[], #[((Go.Value.agg #[(Go.Value.int Go.IntKind.i64 0),(Go.Value.slice none 0 0),(Go.Value.slice none 0 0),(Go.Value.slice none 0 0),(Go.Value.int Go.IntKind.i64 0),(Go.Value.int Go.IntKind.i64 0),(Go.Value.int Go.IntKind.i64 0),(Go.Value.slice none 0 0)]))],[]⟩ 8 (by kernel_rfl) (by kernel_rfl) (by kernel_rfl) (by kernel_rfl)) ?_
 intro W base args ds gs before hval0 hW hcnd _;have hval: ∀(j:Nat) t v,Try.f4.params[j]? =some t→args[j]? =some v→Value.okWide Try.prog W .any base t v:=hval0;have hW':=hW;obtain ⟨p,q,hA0,hV,rfl,hfz,hnd⟩:=hW;have hA:DataW.TrodAll enc Try.prog W 0 (fun _=>true) true Try.f4.params.toList args.toList ds p:=hA0
 rw[Try.params4] at hA hval
 obtain ⟨rfl,rfl⟩:=trodVars_none hV
 clear hA0 hval0
 obtain ⟨v0,d0,rfl,rfl,a0⟩:=trodAll_one hA;obtain ⟨cs0,rfl,_⟩:=okWide_struct Try.underlying31 (hval 0 31 v0 rfl rfl);obtain ⟨fu0,ht0⟩:=a0;obtain ⟨x0,hr0,q0⟩:=VA (W:=W) H enc _ _ fu0 _ _ ht0;obtain ⟨A0_0,c0_0,A0_1,c0_1,A0_2,c0_2,A0_3,c0_3,hcs0,hl0_0,ha0_0,hl0_1,ha0_1,hl0_2,ha0_2,hl0_3,ha0_3⟩:=hr0;obtain rfl:=Qhi hcs0;obtain ⟨F,hF⟩:=JO x0 q0;refine (Qe4 (v:= .bool true) Try.func4 rfl (args:=[_]) (J6 hl0_0 ha0_0 hl0_1 ha0_1 hl0_2 ha0_2 hl0_3 ha0_3 hF (fun _ _=>rfl))).mono fun e W' ⟨he,hw⟩=> ?_;exact ⟨_,he,Qg7 (tb:=4) hW' rfl rfl Try.underlying4 rfl rfl rfl QhP (by decide +kernel) hw⟩
theorem exactFeasible_holds:Rows.ExactFeasibleSaid :=
 OpenClaim.holds_of_wide 4 Try.f4 rfl rfl rfl rfl rfl rfl rfl ⟨rfl,rfl,rfl,rfl,rfl⟩ rfl rfl rfl rfl rfl (by kernel_rfl) Try.func4 (by kernel_rfl)
  (of_decide_eq_true (by kernel_rfl)) (by unfold Func.isWrapper;first | (rw[if_pos (by decide +kernel)];kernel_rfl) | (rw[if_neg (by decide +kernel)];exact ⟨rfl,rfl⟩))
  (fun os started H enc _=>Qaj os started H enc)
end Go.Proofs.Ytilbengnjgglhaa
