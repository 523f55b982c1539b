/- ExactOptimal: for every input the given law returns true, and its arguments read as before. No condition. -/
import Derived.Test.Ytilbengnjgglhaac1x7
import Derived.Test.Ytilbengnjgglhaac1x2
import Derived.Test.Ytilbengnjgglhaac1x1
import Derived.ProofKit
import Derived.Below
import Derived.ChangeSame
import Derived.Carry
import Derived.WideKeyArgs
import Derived.Deep.Slices
import Derived.Deep.Fields
import Derived.OpenShut
namespace Go.Proofs.Ytilbengnjgglhaa
open Go.RowKit
set_option linter.unusedSimpArgs false
set_option linter.unusedVariables false
abbrev Wa:=Ql
structure At (p:Pr) (v:Ve) (w:Wa) (x:Vi) (m:Int) (l:List Vi):Prop where
 pl:w.place=⟨x.Node,x.Leave,x.Load,m⟩
 ep:w.p=p
 ev:w.v=v
 vs:w.visits=l
 ok:okC p w.legs
theorem QeS {w:Wa} {s a b:Int} (h:w.visits.length≤1000):Zz w s a b=some ⟨w.place,w.p,w.v,w.legs,w.visits++[⟨s,w.place.node,a,b,w.place.time,w.place.load⟩]⟩:=by
 unfold Zz
 rw[Jy (by simp;omega)]
 rfl
theorem Qgw {F:Nat} (hF:40000≤F) {p:Pr} {v:Ve} (hp:OkP p) (hv:OkV p.Road.Nodes v) {t:Qf} (hn:t.Stops.length≤40) {k:Nat} {s:Int} (hk:t.Stops[k]? =some s) {x:Vi} (hx:InV p v k x) {w:Wa} {m:Int} {l:List Vi}
  (hw:At p v w x m l) (hl:l.length≤900) (hm0:0≤m) (hm1:m≤k*6400000) :
  match QaL p v (t.Stops.take k) x s with
   | .inl y=> ∃w',ZE F w t (k:Int)=some (0,w')∧At p v w' y (m+(Yz p x.Node y.Node).Meters) (l++[y])
   | .inr e=> ∃w',ZE F w t (k:Int)=some (e,w'):=by
 obtain ⟨pl,wp,wv,wl,wvs⟩:=w;obtain ⟨e1,e2,e3,e4,e5⟩:=hw
 simp only at e1 e2 e3 e4 e5
 subst e1 e2 e3 e4;have hkl:=QH hk;have h1:=hx.t0;have h2:=hx.t1;have h3:=hx.l0;have h4:=hx.l1;have hg:=hv.g1;have hsub:We t.Stops 0 (k:Int)=some (t.Stops.take k):=W1 (Nat.le_of_lt hkl);have hcon:Yv (t.Stops.take k) s=some (decide (s∈t.Stops.take k)):=Qcp _ (by simp;omega) s;unfold ZE QaL
 simp only[Qq,hk,Option.bind_some]
 by_cases hs:s= -1
 ·subst hs;have hu:=Zx hp ⟨hx.n0,hx.n1⟩ ⟨hp.u0,hp.u1⟩;have hus0:=hp.us0;have hus1:=hp.us1;obtain ⟨c,hc1,hc2⟩:=Qgc hF (w:=⟨⟨x.Node,x.Leave,x.Load,m⟩,wp,wv,wl,wvs⟩) hp e5 ⟨hx.n0,hx.n1⟩ ⟨hp.u0,hp.u1⟩
  simp only[decide_true,Bool.not_true,cond_false,cond_true,if_true,Option.bind_some,QK,hc1,oun]
  by_cases hl2:(Yz wp x.Node wp.Unload).Secs<0
  ·rw[if_pos hl2,show decide (0≤(Yz wp x.Node wp.Unload).Secs)=false by simp;omega]
   exact ⟨_,rfl⟩
  ·rw[if_neg hl2,show decide (0≤(Yz wp x.Node wp.Unload).Secs)=true by simp;omega]
   simp only[Bool.not_true,cond_false]
   rw[Q7 (n:=x.Leave+(Yz wp x.Node wp.Unload).Secs) (by omega) (by omega),Q7 (n:=x.Leave+(Yz wp x.Node wp.Unload).Secs+wp.UnloadSecs) (by omega) (by omega),Q7 (n:=m+(Yz wp x.Node wp.Unload).Meters) (by omega) (by omega)]
   rw[QeS (by simp only[];omega)]
   exact ⟨_,rfl,⟨rfl,rfl,rfl,rfl,hc2⟩⟩
 ·simp only[show decide (s= -1)=false by simpa using hs,cond_false,cond_true,Bool.not_false,if_neg hs,Yx,Option.bind_some]
  by_cases h7:s<0∨((wp.Demands.length:Nat):Int)≤s
  ·rw[if_pos h7,show (decide (s<0)||decide (((wp.Demands.length:Nat):Int)≤s))=true by simpa using h7]
   exact ⟨_,rfl⟩
  ·rw[if_neg h7,show (decide (s<0)||decide (((wp.Demands.length:Nat):Int)≤s))=false by simpa using h7]
   simp only[cond_false,hsub,hcon,Option.bind_some]
   by_cases h6:s∈t.Stops.take k
   ·rw[if_pos h6]
    simp only[h6,decide_true,cond_true,Option.bind_some,QK]
    exact ⟨_,rfl⟩
   ·rw[if_neg h6]
    obtain ⟨i,rfl⟩: ∃i:Nat,s=i:=⟨s.toNat,by omega⟩
    have hd:wp.Demands[i]? =some wp.Demands[i]:=List.getElem?_eq_getElem (by omega)
    generalize wp.Demands[i]=d at hd
    have hd2:=hp.de d (List.mem_of_getElem? hd);have hl3:=Zx hp ⟨hx.n0,hx.n1⟩ ⟨hd2.n0,hd2.n1⟩;have a1:=hd2.g0;have a2:=hd2.w0;have a3:=hd2.w1;have a4:=hd2.w2;have a5:=hd2.s0;have a6:=hd2.s1;have a7:=hd2.g1;obtain ⟨c,hc1,hc2⟩:=Qgc hF (w:=⟨⟨x.Node,x.Leave,x.Load,m⟩,wp,wv,wl,wvs⟩) hp e5 ⟨hx.n0,hx.n1⟩ ⟨hd2.n0,hd2.n1⟩
    simp only[h6,decide_false,cond_false,Option.bind_some,QK,Qq,hd,Int.toNat_natCast,(Qc1 hv hd2.k0 hd2.k1).1]
    cases hc:Qf3 wv d.Kind with
    | false=>simp only[Bool.not_false,cond_true,Option.bind_some,QK,if_true];exact ⟨_,rfl⟩
    | true =>
     simp only[Bool.not_true,cond_false,Option.bind_some,Bool.true_eq_false,if_false,QK,hc1,oun]
     by_cases hl2:(Yz wp x.Node d.Node).Secs<0
     ·rw[if_pos hl2,show decide (0≤(Yz wp x.Node d.Node).Secs)=false by simp;omega]
      exact ⟨_,rfl⟩
     ·rw[if_neg hl2,show decide (0≤(Yz wp x.Node d.Node).Secs)=true by simp;omega]
      simp only[Bool.not_true,cond_false,Qq,hd,Option.bind_some]
      rw[Q7 (n:=x.Leave+(Yz wp x.Node d.Node).Secs) (by omega) (by omega),Q7 (n:=x.Load+d.Grams) (by omega) (by omega),Q7 (n:=m+(Yz wp x.Node d.Node).Meters) (by omega) (by omega)]
      by_cases hw:d.When.To≤max (x.Leave+(Yz wp x.Node d.Node).Secs) d.When.From
      ·rw[if_pos hw]
       simp only[hw,decide_true,cond_true]
       exact ⟨_,rfl⟩
      ·rw[if_neg hw]
       by_cases hgr:wv.Grams<x.Load+d.Grams
       ·rw[if_pos hgr]
        simp only[hw,hgr,decide_true,decide_false,cond_true,cond_false]
        exact ⟨_,rfl⟩
       ·rw[if_neg hgr]
        rw[Q7 (n:=max (x.Leave+(Yz wp x.Node d.Node).Secs) d.When.From+d.Service) (by omega) (by omega)]
        simp only[hw,hgr,decide_false,cond_false]
        rw[QeS (by simp only[];omega)]
        exact ⟨_,rfl,⟨rfl,rfl,rfl,rfl,hc2⟩⟩
def Vp (p:Pr) (v:Ve):List Int→List Int→Vi→(Vi×List Vi)⊕(Int×Nat)
 | _,[],x=> .inl (x,[])
 | pre,s::rest,x=>match QaL p v pre x s with
  | .inr e=> .inr (e,pre.length)
  | .inl y=>match Vp p v (pre++[s]) rest y with
   | .inl z=> .inl (z.1,y::z.2)
   | .inr q=> .inr q
def Vq (p:Pr):Int→List Vi→Int
 | _,[]=>0
 | a,y::l=>(Yz p a y.Node).Meters+Vq p y.Node l
theorem QbJ {p:Pr} {v:Ve}: ∀(rest pre:List Int) (x:Vi) (q:Int×Nat),Vp p v pre rest x= .inr q→q.1≠0
 | [],pre,x,q,h=>by cases h
 | s::rest,pre,x,q,h=>by
  unfold Vp at h
  split at h
  ·rename_i e he
   injection h with h;subst h
   exact Qeq he
  ·rename_i y hy
   split at h
   ·cases h
   ·rename_i q' hq
    injection h with h;subst h
    exact QbJ rest _ _ _ hq
theorem QcU {p:Pr} {v:Ve} (hp:OkP p) (hv:OkV p.Road.Nodes v): ∀(rest pre:List Int) (x:Vi) (z:Vi×List Vi),InV p v pre.length x→Vp p v pre rest x= .inl z→InV p v (pre.length+rest.length) z.1∧z.2.length=rest.length∧0≤Vq p x.Node z.2∧Vq p x.Node z.2≤rest.length*6400000
 | [],pre,x,z,hx,h=>by
  injection h with h;subst h
  exact ⟨hx,rfl,Int.le_refl _,by simp[Vq]⟩
 | s::rest,pre,x,z,hx,h=>by
  unfold Vp at h
  split at h
  ·cases h
  ·rename_i y hy
   obtain ⟨h1,h2,_⟩:=QbX hp hv hx hy
   split at h
   ·rename_i z' hz
    injection h with h;subst h
    have h3:=QcU hp hv rest (pre++[s]) y z' (by simpa using h1) hz;have h4:=Zx hp ⟨hx.n0,hx.n1⟩ ⟨h1.n0,h1.n1⟩
    simp only[List.length_append,List.length_singleton,List.length_cons,Vq] at h3 ⊢
    refine ⟨by rw[show pre.length+(rest.length+1)=pre.length+1+rest.length by omega];exact h3.1,by omega,by omega,by omega⟩
   ·cases h
theorem Qes {t:List Int} {k:Nat} {s:Int} {rest:List Int} (h:t.drop k=s::rest):t[k]? =some s∧t.take (k+1)=t.take k++[s]∧t.drop (k+1)=rest:=by
 have h1:t[k]? =some s:=by
  have:(t.drop k)[0]? =some s:=by rw[h];rfl
  rw[List.getElem?_drop] at this
  simpa using this
 refine ⟨h1,Qaa h1,?_⟩
 rw[←List.drop_drop,h]
 rfl
theorem Qih {p:Pr} {v:Ve} (hp:OkP p) (hv:OkV p.Road.Nodes v) {t:Qf} (hn:t.Stops.length≤40): ∀(rest:List Int) (k:Nat) (x:Vi) (out:List Vi) (n:Nat),t.Stops.drop k=rest→k≤t.Stops.length→rest.length<n→InV p v k x→out.length=k →
  iter (Ys p t v) n (x.Stop,x.Node,x.Arrive,x.Start,x.Leave,x.Load,out,(k:Int))=some (match Vp p v (t.Stops.take k) rest x with
   | .inl z=> .inl (z.1.Stop,z.1.Node,z.1.Arrive,z.1.Start,z.1.Leave,z.1.Load,out++z.2)
   | .inr q=> .inr ([],q.1,((q.2:Nat):Int))):=by
 intro rest
 induction rest with
 | nil =>
  intro k x out n hd hk hn2 hx ho;obtain ⟨n,rfl⟩: ∃f,n=f+1:=⟨n-1,by omega⟩
  have hk2:k=t.Stops.length:=by
   have:=congrArg List.length hd
   simp at this;omega
  rw[iter]
  simp only[Ys,oun]
  rw[show decide ((k:Int)<((t.Stops.length:Nat):Int))=false by simp;omega]
  simp only[cond_false,Option.bind_some,QK,Vp,List.append_nil]
 | cons s rest ih =>
  intro k x out n hd hk hn2 hx ho;obtain ⟨n,rfl⟩: ∃f,n=f+1:=⟨n-1,by omega⟩
  obtain ⟨h1,h2,h3⟩:=Qes hd;have hkl:=QH h1
  rw[iter,Qii hp hv hn h1 hx out (by omega)]
  unfold Vp;cases hs:QaL p v (t.Stops.take k) x s with
  | inr e =>
   simp only[Option.bind_some,QK]
   rw[ZJ (Nat.le_of_lt hkl)]
  | inl y =>
   simp only[Option.bind_some,QK]
   have:=ih (k+1) y (out++[y]) n h3 (by omega) (by simp only[List.length_cons] at hn2;omega) (QbX hp hv hx hs).1 (by simp;omega)
   rw[this,h2]
   cases Vp p v (t.Stops.take k++[s]) rest y with
   | inl z=>simp
   | inr q=>rfl
theorem Qib {F:Nat} (hF:40000≤F) {p:Pr} {v:Ve} (hp:OkP p) (hv:OkV p.Road.Nodes v) {t:Qf} (hn:t.Stops.length≤40): ∀(rest:List Int) (k:Nat) (x:Vi) (w:Wa) (m:Int) (l:List Vi) (n:Nat),t.Stops.drop k=rest→k≤t.Stops.length→rest.length<n→InV p v k x→At p v w x m l→l.length=k→0≤m→m≤k*6400000 →
  match Vp p v (t.Stops.take k) rest x with
   | .inl z=> ∃w',iter (Y2 F t) n (w,0,(k:Int))=some (w',0,((t.Stops.length:Nat):Int))∧At p v w' z.1 (m+Vq p x.Node z.2) (l++z.2)
   | .inr q=> ∃w',iter (Y2 F t) n (w,0,(k:Int))=some (w',q.1,((q.2:Nat):Int)):=by
 intro rest
 induction rest with
 | nil =>
  intro k x w m l n hd hk hn2 hx hw ho hm0 hm1;obtain ⟨n,rfl⟩: ∃f,n=f+1:=⟨n-1,by omega⟩
  have hk2:k=t.Stops.length:=by
   have:=congrArg List.length hd
   simp at this;omega
  refine ⟨w,?_,by simpa [Vq] using hw⟩
  rw[iter]
  simp only[Y2,oun]
  rw[show decide ((k:Int)<((t.Stops.length:Nat):Int))=false by simp;omega]
  simp only[cond_false,Option.bind_some,QK,hk2]
 | cons s rest ih =>
  intro k x w m l n hd hk hn2 hx hw ho hm0 hm1;obtain ⟨n,rfl⟩: ∃f,n=f+1:=⟨n-1,by omega⟩
  obtain ⟨h1,h2,h3⟩:=Qes hd;have hkl:=QH h1;have hst:=Qgw hF hp hv hn h1 hx hw (by omega) hm0 hm1;have hk2:decide ((k:Int)<((t.Stops.length:Nat):Int))=true:=by simp;omega
  unfold Vp;cases hs:QaL p v (t.Stops.take k) x s with
  | inr e =>
   rw[hs] at hst
   obtain ⟨w',hw'⟩:=hst;refine ⟨w',?_⟩
   rw[iter]
   simp only[Y2,oun,hk2,cond_true,hw',Option.bind_some]
   rw[show decide (e=0)=false by simpa using Qeq hs]
   simp only[Bool.not_false,cond_true,Option.bind_some,QK]
   rw[ZJ (Nat.le_of_lt hkl)]
  | inl y =>
   rw[hs] at hst
   obtain ⟨w',hw',hat⟩:=hst;have hin:=QbX hp hv hx hs;have hlb:=Zx hp ⟨hx.n0,hx.n1⟩ ⟨hin.1.n0,hin.1.n1⟩;have:=ih (k+1) y w' (m+(Yz p x.Node y.Node).Meters) (l++[y]) n h3 (by omega) (by simp only[List.length_cons] at hn2;omega) hin.1 hat (by simp;omega) (by omega) (by omega)
   rw[h2] at this
   have hb:iter (Y2 F t) (n+1) (w,0,(k:Int))=iter (Y2 F t) n (w',0,((k+1:Nat):Int)):=by
    rw[iter]
    simp only[Y2,oun,hk2,cond_true,hw',Option.bind_some,decide_true,Bool.not_true,cond_false,QK]
    rw[Jm (by omega)]
   rw[hb]
   simp only[]
   cases hf:Vp p v (t.Stops.take k++[s]) rest y with
   | inl z =>
    rw[hf] at this
    obtain ⟨w2,g1,g2⟩:=this;refine ⟨w2,g1,?_⟩
    simp only[Vq]
    rw[show m+((Yz p x.Node y.Node).Meters+Vq p y.Node z.2)=m+(Yz p x.Node y.Node).Meters+Vq p y.Node z.2 by omega,show l++y::z.2=l++[y]++z.2 by simp]
    exact g2
   | inr q =>
    rw[hf] at this
    exact this
def VF (p:Pr) (v:Ve) (x:Vi):Vi⊕Int :=
 if (Yz p x.Node v.Depot).Secs<0 then .inr 22
 else if x.Load≠0 then .inr 20
 else if v.Shift.To≤x.Leave+(Yz p x.Node v.Depot).Secs then .inr 19
 else .inl ⟨-2,v.Depot,x.Leave+(Yz p x.Node v.Depot).Secs,x.Leave+(Yz p x.Node v.Depot).Secs,x.Leave+(Yz p x.Node v.Depot).Secs,0⟩
theorem Qca {p:Pr} {v:Ve} {x:Vi} {e:Int} (hs:VF p v x= .inr e):e≠0:=by
 unfold VF at hs
 repeat' split at hs
 all_goals first | (cases hs;done) | (injection hs with hs;subst hs;decide)
theorem Qif {p:Pr} {v:Ve} (hp:OkP p) (hv:OkV p.Road.Nodes v) {k:Nat} (hk:k≤1000) {x:Vi} (hx:InV p v k x):ZS p v x=match VF p v x with
  | .inl y=>some (y,0)
  | .inr e=>some (⟨0,0,0,0,0,0⟩,e):=by
 have h1:=hx.t0;have h2:=hx.t1;have h3:=hx.l0;have hl:=Zx hp ⟨hx.n0,hx.n1⟩ ⟨hv.d0,hv.d1⟩;unfold ZS VF
 rw[QcX hp ⟨hx.n0,hx.n1⟩ ⟨hv.d0,hv.d1⟩]
 simp only[Option.bind_some]
 by_cases c1:(Yz p x.Node v.Depot).Secs<0
 ·rw[if_pos c1];simp only[c1,decide_true,cond_true]
 ·rw[if_neg c1,Q7 (n:=x.Leave+(Yz p x.Node v.Depot).Secs) (by omega) (by omega)]
  simp only[c1,decide_false,cond_false]
  by_cases c2:x.Load≠0
  ·rw[if_pos c2,show decide (0<x.Load)=true by simp;omega];rfl
  ·rw[if_neg c2,show decide (0<x.Load)=false by simp;omega]
   simp only[cond_false]
   by_cases c3:v.Shift.To≤x.Leave+(Yz p x.Node v.Depot).Secs
   ·rw[if_pos c3];simp only[c3,decide_true,cond_true]
   ·rw[if_neg c3];simp only[c3,decide_false,cond_false]
theorem Qia {F:Nat} (hF:40000≤F) {p:Pr} {v:Ve} (hp:OkP p) (hv:OkV p.Road.Nodes v) {k:Nat} (hk:k≤1000) {x:Vi} (hx:InV p v k x) {w:Wa} {m:Int} {l:List Vi} (hw:At p v w x m l) (hl:l.length≤900) (hm0:0≤m) (hm1:m≤k*6400000):match VF p v x with
  | .inl y=> ∃w',ZZ F w=some (0,w')∧w'.visits=l++[y]∧w'.place.meters=m+(Yz p x.Node v.Depot).Meters
  | .inr e=> ∃w',ZZ F w=some (e,w'):=by
 obtain ⟨pl,wp,wv,wl,wvs⟩:=w;obtain ⟨e1,e2,e3,e4,e5⟩:=hw
 simp only at e1 e2 e3 e4 e5
 subst e1 e2 e3 e4;have h1:=hx.t0;have h2:=hx.t1;have h3:=hx.l0;have hlb:=Zx hp ⟨hx.n0,hx.n1⟩ ⟨hv.d0,hv.d1⟩;obtain ⟨c,hc1,hc2⟩:=Qgc hF (w:=⟨⟨x.Node,x.Leave,x.Load,m⟩,wp,wv,wl,wvs⟩) hp e5 ⟨hx.n0,hx.n1⟩ ⟨hv.d0,hv.d1⟩;unfold ZZ VF
 simp only[hc1,Option.bind_some,oun]
 by_cases c1:(Yz wp x.Node wv.Depot).Secs<0
 ·rw[if_pos c1,show decide (0≤(Yz wp x.Node wv.Depot).Secs)=false by simp;omega]
  exact ⟨_,rfl⟩
 ·rw[if_neg c1,show decide (0≤(Yz wp x.Node wv.Depot).Secs)=true by simp;omega]
  simp only[Bool.not_true,cond_false]
  rw[Q7 (n:=x.Leave+(Yz wp x.Node wv.Depot).Secs) (by omega) (by omega),Q7 (n:=m+(Yz wp x.Node wv.Depot).Meters) (by omega) (by omega)]
  by_cases c2:x.Load≠0
  ·rw[if_pos c2,show decide (x.Load=0)=false by simpa using c2]
   exact ⟨_,rfl⟩
  ·rw[if_neg c2]
   simp only[ne_eq,Decidable.not_not] at c2
   simp only[c2,decide_true,Bool.not_true,cond_false]
   by_cases c3:wv.Shift.To≤x.Leave+(Yz wp x.Node wv.Depot).Secs
   ·rw[if_pos c3];simp only[c3,decide_true,cond_true];exact ⟨_,rfl⟩
   ·rw[if_neg c3];simp only[c3,decide_false,cond_false]
    rw[QeS (by simp only[];omega)]
    exact ⟨_,rfl,rfl,rfl⟩
end Go.Proofs.Ytilbengnjgglhaa
namespace Go.Proofs.Ytilbengnjgglhaa
open Go.RowKit
set_option linter.unusedSimpArgs false
set_option linter.unusedVariables false
def x0 (v:Ve):Vi:=⟨0,v.Depot,0,0,v.Shift.From,0⟩
theorem Qev {p:Pr} {v:Ve} (hv:OkV p.Road.Nodes v):InV p v 0 (x0 v):=by
 have h1:=hv.s0;have h2:=hv.s1;have h3:=hv.s2;have h4:=hv.g0;exact ⟨hv.d0,hv.d1,h1,by simp only[x0];omega,Int.le_refl _,by simp only[x0];omega⟩
def Qbb (p:Pr) (t:Qf):(Vi×List Vi×Ve)⊕(Int×Int) :=
 if t.Vehicle<0∨((p.Vehicles.length:Nat):Int)≤t.Vehicle then .inr (7,0)
 else if 40<t.Stops.length then .inr (8,0)
 else match p.Vehicles[t.Vehicle.toNat]? with
  | none=> .inr (7,0)
  | some v=>match Vp p v [] t.Stops (x0 v) with
   | .inr q=> .inr (q.1,((q.2:Nat):Int))
   | .inl z=>match VF p v z.1 with
    | .inr e=> .inr (e,((t.Stops.length:Nat):Int))
    | .inl y=> .inl (z.1,z.2++[y],v)
def Qiz (p:Pr) (t:Qf):List Vi×Int×Int:=match Qbb p t with
 | .inl z=>(z.2.1,0,0)
 | .inr q=>([],q.1,q.2)
def JU (p:Pr) (t:Qf):Int×Int:=match Qbb p t with
 | .inl z=>(Vq p z.2.2.Depot z.2.1,0)
 | .inr q=>(0,q.1)
theorem Qeu {p:Pr} {t:Qf} {q:Int×Int} (h:Qbb p t= .inr q):q.1≠0:=by
 unfold Qbb at h
 split at h
 ·injection h with h;subst h;decide
 ·split at h
  ·injection h with h;subst h;decide
  ·split at h
   ·injection h with h;subst h;decide
   ·split at h
    ·rename_i q' hq
     injection h with h;subst h
     exact QbJ _ _ _ _ hq
    ·split at h
     ·rename_i e he
      injection h with h;subst h
      exact Qca he
     ·cases h
theorem Qec {p:Pr} {v:Ve} (y:Vi): ∀(rest pre:List Int) (x:Vi) (z:Vi×List Vi),Vp p v pre rest x= .inl z→Vq p x.Node (z.2++[y])=Vq p x.Node z.2+(Yz p z.1.Node y.Node).Meters
 | [],pre,x,z,h=>by
  injection h with h;subst h
  simp[Vq]
 | s::rest,pre,x,z,h=>by
  unfold Vp at h
  split at h
  ·cases h
  ·split at h
   ·rename_i y' _ z' hz
    injection h with h;subst h
    have:=Qec y rest _ _ _ hz
    simp only[List.cons_append,Vq] at this ⊢
    omega
   ·cases h
theorem Qie {p:Pr} (hp:OkP p) (hc:Qg p=some 0) (t:Qf):JF p t=some (Qiz p t):=by
 unfold JF Qiz Qbb
 rw[hc]
 simp only[Option.bind_some,decide_true,Bool.not_true,cond_false,Yx]
 by_cases h1:t.Vehicle<0∨((p.Vehicles.length:Nat):Int)≤t.Vehicle
 ·rw[if_pos h1,show (decide (t.Vehicle<0)||decide (((p.Vehicles.length:Nat):Int)≤t.Vehicle))=true by simpa using h1]
  rfl
 ·rw[if_neg h1,show (decide (t.Vehicle<0)||decide (((p.Vehicles.length:Nat):Int)≤t.Vehicle))=false by simpa using h1]
  simp only[cond_false]
  by_cases h2:40<t.Stops.length
  ·rw[if_pos h2,show decide ((40:Int)<((t.Stops.length:Nat):Int))=true by simp;omega]
   rfl
  ·rw[if_neg h2,show decide ((40:Int)<((t.Stops.length:Nat):Int))=false by simp;omega]
   simp only[cond_false]
   obtain ⟨i,hi⟩: ∃i:Nat,t.Vehicle=i:=⟨t.Vehicle.toNat,by omega⟩
   have hd:p.Vehicles[i]? =some p.Vehicles[i]:=List.getElem?_eq_getElem (by omega)
   generalize p.Vehicles[i]=v at hd
   have hv:=hp.ve v (List.mem_of_getElem? hd)
   rw[hi]
   simp only[Qq,hd,Option.bind_some,Int.toNat_natCast]
   have hl:=Qih hp hv (t:=t) (by omega) t.Stops 0 (x0 v) [] (t.Stops.length+1) rfl (Nat.zero_le _) (by simp) (Qev hv) rfl
   rw[List.take_zero] at hl
   have hl2:iter (Ys p t v) (t.Stops.length+1) (0,v.Depot,0,0,v.Shift.From,0,[],0)=_:=hl
   rw[hl2]
   cases hf:Vp p v [] t.Stops (x0 v) with
   | inr q=>rfl
   | inl z =>
    have hz:=QcU hp hv t.Stops [] _ _ (Qev hv) hf
    simp only[List.length_nil,Nat.zero_add] at hz
    simp only[Option.bind_some,QK,oun,List.nil_append]
    have hh:ZS p v ⟨z.1.Stop,z.1.Node,z.1.Arrive,z.1.Start,z.1.Leave,z.1.Load⟩=_:=Qif hp hv (k:=t.Stops.length) (by omega) hz.1
    rw[hh]
    cases hm:VF p v z.1 with
    | inr e =>
     simp only[Option.bind_some,oun]
     rw[show decide (e=0)=false by simpa using Qca hm]
     rfl
    | inl y =>
     simp only[Option.bind_some,oun,decide_true,Bool.not_true,cond_false]
     rw[Jy (by simp;omega)]
     rfl
theorem Qgg {F:Nat} (hF:40000≤F) {p:Pr} (hp:OkP p) (t:Qf):match Qbb p t with
  | .inl z=> ∃w,JY F p t=some (some w,0,0)∧w.visits=z.2.1∧w.place.meters=Vq p z.2.2.Depot z.2.1
  | .inr q=>JY F p t=some (none,q.1,q.2):=by
 unfold JY Qbb
 simp only[Option.bind_some,Yx]
 by_cases h1:t.Vehicle<0∨((p.Vehicles.length:Nat):Int)≤t.Vehicle
 ·rw[if_pos h1,show (decide (t.Vehicle<0)||decide (((p.Vehicles.length:Nat):Int)≤t.Vehicle))=true by simpa using h1]
  rfl
 ·rw[if_neg h1,show (decide (t.Vehicle<0)||decide (((p.Vehicles.length:Nat):Int)≤t.Vehicle))=false by simpa using h1]
  simp only[cond_false]
  by_cases h2:40<t.Stops.length
  ·rw[if_pos h2,show decide ((40:Int)<((t.Stops.length:Nat):Int))=true by simp;omega]
   rfl
  ·rw[if_neg h2,show decide ((40:Int)<((t.Stops.length:Nat):Int))=false by simp;omega]
   simp only[cond_false]
   obtain ⟨i,hi⟩: ∃i:Nat,t.Vehicle=i:=⟨t.Vehicle.toNat,by omega⟩
   have hd:p.Vehicles[i]? =some p.Vehicles[i]:=List.getElem?_eq_getElem (by omega)
   generalize p.Vehicles[i]=v at hd
   have hv:=hp.ve v (List.mem_of_getElem? hd)
   rw[hi]
   simp only[Qq,hd,Option.bind_some,Int.toNat_natCast]
   have hl:=Qib hF hp hv (t:=t) (by omega) t.Stops 0 (x0 v) ⟨⟨v.Depot,v.Shift.From,0,0⟩,p,v,[],[]⟩ 0 [] (t.Stops.length+1) rfl (Nat.zero_le _) (by simp) (Qev hv) ⟨rfl,rfl,rfl,rfl,fun n L h=>by cases h⟩ rfl (Int.le_refl _) (by simp)
   rw[List.take_zero] at hl
   cases hf:Vp p v [] t.Stops (x0 v) with
   | inr q =>
    rw[hf] at hl
    obtain ⟨w',hw'⟩:=hl
    rw[show ((0:Nat):Int)=(0:Int) from rfl] at hw'
    simp only[hw',Option.bind_some,oun]
    rw[show decide (q.1=0)=false by simpa using QbJ _ _ _ _ hf]
    simp only[cond_false,Option.bind_some,oun]
    rw[show decide (q.1=0)=false by simpa using QbJ _ _ _ _ hf]
    rfl
   | inl z =>
    rw[hf] at hl
    obtain ⟨w',hw',hat⟩:=hl
    rw[show ((0:Nat):Int)=(0:Int) from rfl] at hw'
    have hz:=QcU hp hv t.Stops [] _ _ (Qev hv) hf
    simp only[List.length_nil,Nat.zero_add] at hz
    simp only[hw',Option.bind_some,oun,decide_true,cond_true]
    have hb:=Qia hF hp hv (k:=t.Stops.length) (by omega) hz.1 hat (by simp;omega) (by omega) (by omega);cases hm:VF p v z.1 with
    | inr e =>
     rw[hm] at hb
     obtain ⟨w2,hw2⟩:=hb
     simp only[hw2,Option.bind_some,oun]
     rw[show decide (e=0)=false by simpa using Qca hm]
     rfl
    | inl y =>
     rw[hm] at hb
     obtain ⟨w2,hw2,g1,g2⟩:=hb
     simp only[hw2,Option.bind_some,oun,decide_true,Bool.not_true,cond_false]
     refine ⟨w2,rfl,by simpa using g1,?_⟩
     rw[g2]
     have h5:=Qec y _ _ _ _ hf;have h6:y.Node=v.Depot:=by
      unfold VF at hm
      repeat' split at hm
      all_goals first | (cases hm;done) | (injection hm with hm;subst hm;rfl)
     rw[h6] at h5
     show 0+Vq p (x0 v).Node z.2+_=Vq p (x0 v).Node (z.2++[y])
     omega
theorem QgB {F:Nat} (hF:40000≤F) {p:Pr} (hp:OkP p) (hc:Qg p=some 0) (hn:p.Road.Edges.length≤600) (t:Qf):W2 F p t=some (JU p t):=by
 unfold W2 JU
 rw[Qbc (by omega) p hn,hc]
 simp only[Option.bind_some,decide_true,Bool.not_true,cond_false]
 have:=Qgg hF hp t;cases h:Qbb p t with
 | inr q =>
  rw[h] at this
  simp only[this,Option.bind_some,oun]
  rw[show decide (q.1=0)=false by simpa using Qeu h]
  rfl
 | inl z =>
  rw[h] at this
  obtain ⟨w,h1,_,h3⟩:=this
  simp only[h1,Option.bind_some,oun,decide_true,Bool.not_true,cond_false,h3]
theorem Qdk {p:Pr} {v:Ve} (hp:OkP p) (hv:OkV p.Road.Nodes v): ∀(rest pre:List Int) (x:Vi) (z:Vi×List Vi),InV p v pre.length x→Vp p v pre rest x= .inl z→ ∀y∈z.2,0≤y.Node∧y.Node<p.Road.Nodes
 | [],pre,x,z,hx,h=>by
  injection h with h;subst h
  intro y hy;cases hy
 | s::rest,pre,x,z,hx,h=>by
  unfold Vp at h
  split at h
  ·cases h
  ·rename_i y hy
   obtain ⟨h1,_,_⟩:=QbX hp hv hx hy
   split at h
   ·rename_i z' hz
    injection h with h;subst h
    have h3:=Qdk hp hv rest (pre++[s]) y z' (by simpa using h1) hz;intro u hu;rcases List.mem_cons.1 hu with h4 | h4
    ·subst h4;exact ⟨h1.n0,h1.n1⟩
    ·exact h3 u h4
   ·cases h
theorem Qgj {p:Pr} (hp:OkP p) (L:List Vi) (hL:L.length≤100) (hnd: ∀y∈L,0≤y.Node∧y.Node<p.Road.Nodes): ∀(rest:List Vi) (k:Nat) (sum a:Int) (n:Nat),L.drop k=rest→k≤L.length→rest.length<n→0≤a∧a<p.Road.Nodes→0≤sum→sum≤k*6400000 →
  iter (YZ p L) n (sum,a,(k:Int))=some (sum+Vq p a rest):=by
 intro rest
 induction rest with
 | nil =>
  intro k sum a n hd hk hn ha hs0 hs1;obtain ⟨n,rfl⟩: ∃f,n=f+1:=⟨n-1,by omega⟩
  have hk2:k=L.length:=by
   have:=congrArg List.length hd
   simp at this;omega
  rw[iter]
  simp only[YZ,oun]
  rw[show decide ((k:Int)<((L.length:Nat):Int))=false by simp;omega]
  simp[Vq,QK]
 | cons y rest ih =>
  intro k sum a n hd hk hn ha hs0 hs1;obtain ⟨n,rfl⟩: ∃f,n=f+1:=⟨n-1,by omega⟩
  have h1:L[k]? =some y:=by
   have:(L.drop k)[0]? =some y:=by rw[hd];rfl
   rw[List.getElem?_drop] at this
   simpa using this
  have h3:L.drop (k+1)=rest:=by rw[←List.drop_drop,hd];rfl
  have hkl:=QH h1;have hy:=hnd y (List.mem_of_getElem? h1);have hl:=Zx hp ha hy
  rw[iter]
  simp only[YZ,oun]
  rw[show decide ((k:Int)<((L.length:Nat):Int))=true by simp;omega]
  simp only[cond_true,Qq,h1,Option.bind_some,QcX hp ha hy,QK]
  rw[Jm (by omega),Q7 (by omega) (by omega)]
  rw[ih (k+1) _ _ n h3 (by omega) (by simp only[List.length_cons] at hn;omega) hy (by omega) (by omega)]
  simp only[Vq]
  congr 1
  omega
theorem Qid {p:Pr} (hp:OkP p) (hc:Qg p=some 0) (t:Qf):JE p t=some (JU p t):=by
 unfold JE
 rw[Qie hp hc]
 unfold Qiz JU;cases h:Qbb p t with
 | inr q =>
  simp only[Option.bind_some,oun]
  rw[show decide (q.1=0)=false by simpa using Qeu h]
  rfl
 | inl z =>
  simp only[Option.bind_some,oun,decide_true,Bool.not_true,cond_false]
  unfold Qbb at h
  split at h
  ·cases h
  ·rename_i h1
   split at h
   ·cases h
   ·rename_i h2
    obtain ⟨i,hi⟩: ∃i:Nat,t.Vehicle=i:=⟨t.Vehicle.toNat,by omega⟩
    have hd:p.Vehicles[i]? =some p.Vehicles[i]:=List.getElem?_eq_getElem (by omega)
    generalize p.Vehicles[i]=v at hd
    have hv:=hp.ve v (List.mem_of_getElem? hd)
    rw[hi] at h ⊢
    simp only[Qq,hd,Option.bind_some,Int.toNat_natCast] at h ⊢
    cases hf:Vp p v [] t.Stops (x0 v) with
    | inr q=>rw[hf] at h;cases h
    | inl w =>
     rw[hf] at h
     simp only[] at h
     cases hm:VF p v w.1 with
     | inr e=>rw[hm] at h;cases h
     | inl y =>
      rw[hm] at h
      injection h with h;subst h
      have hz:=QcU hp hv t.Stops [] _ _ (Qev hv) hf;have hnn:=Qdk hp hv t.Stops [] _ _ (Qev hv) hf
      simp only[List.length_nil,Nat.zero_add] at hz
      have h6:y.Node=v.Depot:=by
       unfold VF at hm
       repeat' split at hm
       all_goals first | (cases hm;done) | (injection hm with hm;subst hm;rfl)
      have:=Qgj hp (w.2++[y]) (by simp;omega) (fun u hu=>by
       rcases List.mem_append.1 hu with h7 | h7
       ·exact hnn u h7
       ·rw[List.mem_singleton.1 h7,h6];exact ⟨hv.d0,hv.d1⟩) (w.2++[y]) 0 0 v.Depot ((w.2++[y]).length+1) rfl (Nat.zero_le _) (by simp) ⟨hv.d0,hv.d1⟩ (Int.le_refl _) (by simp)
      rw[show ((0:Nat):Int)=(0:Int) from rfl,Int.zero_add] at this
      show Option.bind (iter (YZ p (w.2++[y])) ((w.2++[y]).length+1) (0,v.Depot,0)) _=_
      rw[this]
      rfl
end Go.Proofs.Ytilbengnjgglhaa
namespace Go.Proofs.Ytilbengnjgglhaa
open Go.RowKit
set_option linter.unusedSimpArgs false
set_option linter.unusedVariables false
structure Fol (p:Pr) (t:Qf) (v:Ve) (z:Vi×List Vi) (y:Vi):Prop where
 t0:0≤t.Vehicle
 t1:t.Vehicle<((p.Vehicles.length:Nat):Int)
 sl:t.Stops.length≤40
 hv:QM p.Vehicles t.Vehicle=some v
 fol:Vp p v [] t.Stops (x0 v)= .inl z
 hom:VF p v z.1= .inl y
end Go.Proofs.Ytilbengnjgglhaa
namespace Go.Proofs.Ytilbengnjgglhaa
open Go.RowKit
set_option linter.unusedSimpArgs false
set_option linter.unusedVariables false
structure Lax (p:Pr) (x' x:Vi):Prop where
 leg: ∀b,0≤b→b<p.Road.Nodes→0≤(Yz p x.Node b).Secs→0≤(Yz p x'.Node b).Secs∧x'.Leave+(Yz p x'.Node b).Secs≤x.Leave+(Yz p x.Node b).Secs
 load:x'.Load≤x.Load
theorem Lax.same {p:Pr} {x' x:Vi} (h1:x'.Node=x.Node) (h2:x'.Leave≤x.Leave) (h3:x'.Load≤x.Load):Lax p x' x :=
 ⟨fun b _ _ h=>⟨by rw[h1];exact h,by rw[h1];omega⟩,h3⟩
end Go.Proofs.Ytilbengnjgglhaa
namespace Go.Proofs.Ytilbengnjgglhaa
open Go.RowKit
set_option linter.unusedSimpArgs false
set_option linter.unusedVariables false
def WE:List Int→List Int→Bool
 | [],[]=>false
 | [],_::_=>true
 | _::_,[]=>false
 | a::x,b::y=>decide (a<b)||(decide (a=b)&&WE x y)
theorem Qfx: ∀a:List Int,WE a a=false
 | []=>rfl
 | a::x=>by simp[WE,Qfx x]
theorem Qdr: ∀{a b c:List Int},WE a b=true→WE b c=true→WE a c=true
 | [],[],_,h,_=>by cases h
 | [],_::_,[],_,h=>by cases h
 | [],_::_,_::_,_,_=>rfl
 | _::_,[],_,h,_=>by cases h
 | _::_,_::_,[],_,h=>by cases h
 | a::x,b::y,c::z,h1,h2=>by
  simp only[WE,Bool.or_eq_true,Bool.and_eq_true,decide_eq_true_eq] at h1 h2 ⊢
  rcases h1 with h1 | ⟨h1,h3⟩
  ·rcases h2 with h2 | ⟨h2,_⟩
   ·left;omega
   ·left;omega
  ·rcases h2 with h2 | ⟨h2,h4⟩
   ·left;omega
   ·right;exact ⟨by omega,Qdr h3 h4⟩
def VS:List Int→List Int→Int
 | [],[]=>0
 | [],_::_=> -1
 | _::_,[]=>1
 | a::x,b::y=>if a<b then -1 else if b<a then 1 else VS x y
theorem Qfh: ∀a b:List Int,(VS a b<0↔WE a b=true)∧(VS a b=0↔a=b)
 | [],[]=>by simp[VS,WE]
 | [],_::_=>by simp[VS,WE]
 | _::_,[]=>by simp[VS,WE]
 | a::x,b::y=>by
  have ih:=Qfh x y
  simp only[VS,WE,Bool.or_eq_true,Bool.and_eq_true,decide_eq_true_eq,List.cons.injEq]
  by_cases h1:a<b
  ·rw[if_pos h1]
   exact ⟨⟨fun _=> .inl h1,fun _=>by decide⟩,⟨fun h=>by omega,fun h=>by omega⟩⟩
  ·rw[if_neg h1]
   by_cases h2:b<a
   ·rw[if_pos h2]
    exact ⟨⟨fun h=>by omega,fun h=>by omega⟩,⟨fun h=>by omega,fun h=>by omega⟩⟩
   ·rw[if_neg h2]
    have e:a=b:=by omega
    rw[ih.1,ih.2]
    exact ⟨⟨fun h=> .inr ⟨e,h⟩,fun h=>by rcases h with h | h;omega;exact h.2⟩,⟨fun h=>⟨e,h⟩,fun h=>h.2⟩⟩
theorem QeC (a b:Int):Z9 a b=some (if a<b then -1 else if b<a then 1 else 0):=by
 unfold Z9 JJ
 simp only[Option.bind_some,decide_true,Bool.not_true,cond_false]
 by_cases h:a<b
 ·simp[h]
 ·by_cases h2:b<a<;>simp[h,h2]
theorem Qfi {a b:List Int} (hn:a.length≤1000000): ∀(x y:List Int) (k f:Nat),a.drop k=x→b.drop k=y→k≤a.length→k≤b.length→x.length<f →
  ∃o,iter (QV a b) f (k:Int)=some o∧QK o (fun _=>bif decide (((a.length:Nat):Int)<((b.length:Nat):Int)) then some (-1) else some 0) (fun z=>some z)=some (VS x y)
 | _,_,_,0,_,_,_,_,h=>by omega
 | [],y,k,f+1,hx,hy,ha,hb,_=>by
  have h0:a.length=k:=by
   have:=congrArg List.length hx
   simp at this;omega
  have h1: ¬((k:Int)<((a.length:Nat):Int)):=by omega
  refine ⟨.inl (),by simp only[iter,QV,h1,decide_false,cond_false,Option.bind_some,QK],?_⟩;have hl:=congrArg List.length hy
  simp only[List.length_drop] at hl
  cases y with
  | nil =>
   have: ¬(((a.length:Nat):Int)<((b.length:Nat):Int)):=by simp at hl;omega
   simp[QK,this,VS]
  | cons d y =>
   have:((a.length:Nat):Int)<((b.length:Nat):Int):=by simp at hl;omega
   simp[QK,this,VS]
 | c::x,y,k,f+1,hx,hy,ha,hb,hf=>by
  have hka:k<a.length:=by
   have:=congrArg List.length hx
   simp at this;omega
  have h1:((k:Int)<((a.length:Nat):Int)):=by omega
  have ga:a[k]? =some c:=by
   have:(a.drop k)[0]? =some c:=by rw[hx];rfl
   simpa using this
  have gx:a.drop (k+1)=x:=by
   rw[←List.drop_drop,hx];rfl
  cases y with
  | nil =>
   have h2:((b.length:Nat):Int)≤(k:Int):=by
    have:=congrArg List.length hy
    simp at this;omega
   refine ⟨.inr 1,by simp only[iter,QV,h1,decide_true,cond_true,Qq,ga,Option.bind_some,h2,QK],?_⟩
   simp[QK,VS]
  | cons d y =>
   have hkb:k<b.length:=by
    have:=congrArg List.length hy
    simp at this;omega
   have h2: ¬(((b.length:Nat):Int)≤(k:Int)):=by omega
   have gb:b[k]? =some d:=by
    have:(b.drop k)[0]? =some d:=by rw[hy];rfl
    simpa using this
   have gy:b.drop (k+1)=y:=by
    rw[←List.drop_drop,hy];rfl
   have e1:w64 ((k:Int)+1)=((k+1:Nat):Int):=by rw[Q7 (by omega) (by omega)];omega
   by_cases h3:c<d
   ·refine ⟨.inr (-1),?_,by simp[QK,VS,h3]⟩
    simp only[iter,QV,h1,decide_true,cond_true,Qq,ga,gb,Option.bind_some,h2,decide_false,cond_false,QeC,h3,if_true]
    rfl
   ·by_cases h4:d<c
    ·refine ⟨.inr 1,?_,by simp[QK,VS,h3,h4]⟩
     simp only[iter,QV,h1,decide_true,cond_true,Qq,ga,gb,Option.bind_some,h2,decide_false,cond_false,QeC,h3,h4,if_true,if_false]
     rfl
    ·obtain ⟨o,o1,o2⟩:=Qfi hn x y (k+1) f gx gy (by omega) (by omega) (by simp at hf;omega);refine ⟨o,?_,by simp only[VS,h3,h4,if_false];exact o2⟩
     rw[←o1]
     simp only[iter,QV,h1,decide_true,cond_true,Qq,ga,gb,Option.bind_some,h2,decide_false,cond_false,QeC,h3,h4,if_false,decide_true,Bool.not_true,cond_false,e1,QK]
theorem Qc2 {a b:List Int} (hn:a.length≤1000000):Zc a b=some (VS a b):=by
 unfold Zc;obtain ⟨o,o1,o2⟩:=Qfi (a:=a) (b:=b) hn a b 0 (((a.length:Nat):Int).toNat+1) rfl rfl (by omega) (by omega) (by simp);have o1':iter (QV a b) (((a.length:Nat):Int).toNat+1) 0=some o:=o1
 rw[o1']
 exact o2
theorem Qd8 {a b:List Int} (hn:a.length≤1000000): ∀(x y:List Int) (k f:Nat),a.drop k=x→b.drop k=y→k≤a.length→k≤b.length→x.length<f →
  ∃o,iter (Q4 a b) f (k:Int)=some o∧QK o (fun _=>some (decide (((a.length:Nat):Int)<((b.length:Nat):Int)))) (fun z=>some z)=some (WE x y)
 | _,_,_,0,_,_,_,_,h=>by omega
 | [],y,k,f+1,hx,hy,ha,hb,_=>by
  have h0:a.length=k:=by
   have:=congrArg List.length hx
   simp at this;omega
  have h1: ¬((k:Int)<((a.length:Nat):Int)):=by omega
  refine ⟨.inl (),by simp only[iter,Q4,h1,decide_false,cond_false,Option.bind_some,QK],?_⟩;have hl:=congrArg List.length hy
  simp only[List.length_drop] at hl
  cases y with
  | nil =>
   have: ¬(((a.length:Nat):Int)<((b.length:Nat):Int)):=by simp at hl;omega
   simp[QK,this,WE]
  | cons d y =>
   have:((a.length:Nat):Int)<((b.length:Nat):Int):=by simp at hl;omega
   simp[QK,this,WE]
 | c::x,y,k,f+1,hx,hy,ha,hb,hf=>by
  have hka:k<a.length:=by
   have:=congrArg List.length hx
   simp at this;omega
  have h1:((k:Int)<((a.length:Nat):Int)):=by omega
  have ga:a[k]? =some c:=by
   have:(a.drop k)[0]? =some c:=by rw[hx];rfl
   simpa using this
  have gx:a.drop (k+1)=x:=by
   rw[←List.drop_drop,hx];rfl
  cases y with
  | nil =>
   have h2: ¬((k:Int)<((b.length:Nat):Int)):=by
    have:=congrArg List.length hy
    simp at this;omega
   refine ⟨.inl (),by simp only[iter,Q4,h1,decide_true,cond_true,Option.bind_some,h2,decide_false,cond_false,QK],?_⟩;have: ¬(((a.length:Nat):Int)<((b.length:Nat):Int)):=by omega
   simp[QK,WE,this]
  | cons d y =>
   have hkb:k<b.length:=by
    have:=congrArg List.length hy
    simp at this;omega
   have h2:((k:Int)<((b.length:Nat):Int)):=by omega
   have gb:b[k]? =some d:=by
    have:(b.drop k)[0]? =some d:=by rw[hy];rfl
    simpa using this
   have gy:b.drop (k+1)=y:=by
    rw[←List.drop_drop,hy];rfl
   have e1:w64 ((k:Int)+1)=((k+1:Nat):Int):=by rw[Q7 (by omega) (by omega)];omega
   by_cases h3:c=d
   ·obtain ⟨o,o1,o2⟩:=Qd8 hn x y (k+1) f gx gy (by omega) (by omega) (by simp at hf;omega);refine ⟨o,?_,by subst h3;simp only[WE,Int.lt_irrefl,decide_false,Bool.false_or,decide_true,Bool.true_and];exact o2⟩
    rw[←o1]
    simp only[iter,Q4,h1,h2,decide_true,cond_true,Qq,ga,gb,Option.bind_some,h3,Bool.not_true,cond_false,e1,QK]
   ·refine ⟨.inr (decide (c<d)),?_,by simp[QK,WE,h3]⟩
    simp only[iter,Q4,h1,h2,decide_true,cond_true,Qq,ga,gb,Option.bind_some,h3,decide_false,Bool.not_false,QK]
theorem QiA {F:Nat} (hF:40000≤F) {a b:List Int} (hn:a.length≤1000):Zm F a b=some (WE a b):=by
 unfold Zm;obtain ⟨o,o1,o2⟩:=Qd8 (a:=a) (b:=b) (by omega) a b 0 F rfl rfl (by omega) (by omega) (by omega);have o1':iter (Q4 a b) F 0=some o:=o1
 rw[o1']
 exact o2
def ZL:List (Int×Bool)→List Int
 | []=>[]
 | (d,f)::r=>d::((if f then [-1] else [])++ZL r)
def QfV (rem:List Int) (c:List Int):Prop:= ∃P:List (Int×Bool),(P.map Prod.fst).Perm rem∧c=ZL P
theorem QfV.perm {a b c:List Int} (h:a.Perm b):QfV a c↔QfV b c :=
 ⟨fun ⟨P,h1,h2⟩=>⟨P,h1.trans h,h2⟩,fun ⟨P,h1,h2⟩=>⟨P,h1.trans h.symm,h2⟩⟩
theorem QcA: ∀P:List (Int×Bool),(ZL P).length≤2*P.length
 | []=>by simp[ZL]
 | (d,f)::r=>by
  have:=QcA r;cases f<;>simp[ZL]<;>omega
theorem QfV.len {ds c:List Int} (h:QfV ds c):c.length≤2*ds.length:=by
 obtain ⟨P,h1,rfl⟩:=h;have h2:=QcA P;have h3:=h1.length_eq
 simp at h3
 omega
def Jx:List Int→List Bool→List Int
 | d::ds,u::us=>if u=true then Jx ds us else d::Jx ds us
 | _,_=>[]
theorem QcZ: ∀{ds:List Int} {us:List Bool} {i:Nat} {d:Int},ds[i]? =some d→us[i]? =some false→(Jx ds us).Perm (d::Jx ds (us.set i true))
 | [],_,_,_,h,_=>by simp at h
 | _::_,[],_,_,_,h=>by simp at h
 | a::ds,u::us,0,d,h1,h2=>by
  simp at h1 h2
  subst h1 h2
  simp[Jx]
 | a::ds,u::us,i+1,d,h1,h2=>by
  have ih:=QcZ (ds:=ds) (us:=us) (i:=i) (d:=d) (by simpa using h1) (by simpa using h2);cases u with
  | true=>simpa [Jx] using ih
  | false =>
   simp only[Jx,List.set_cons_succ,Bool.false_eq_true,if_false]
   exact (List.Perm.cons a ih).trans (List.Perm.swap d a _)
theorem QeX: ∀{ds:List Int} {us:List Bool} {d:Int},d∈Jx ds us→ ∃i:Nat,ds[i]? =some d∧us[i]? =some false
 | [],_,_,h=>by simp[Jx] at h
 | _::_,[],_,h=>by simp[Jx] at h
 | a::ds,u::us,d,h=>by
  cases u with
  | true =>
   obtain ⟨i,h1,h2⟩:=QeX (ds:=ds) (us:=us) (d:=d) (by simpa [Jx] using h);exact ⟨i+1,by simpa using h1,by simpa using h2⟩
  | false =>
   simp only[Jx,Bool.false_eq_true,if_false,List.mem_cons] at h
   rcases h with rfl | h
   ·exact ⟨0,rfl,rfl⟩
   ·obtain ⟨i,h1,h2⟩:=QeX h;exact ⟨i+1,by simpa using h1,by simpa using h2⟩
theorem QcY: ∀(ds:List Int),Jx ds (List.replicate ds.length false)=ds
 | []=>rfl
 | a::ds=>by simp[Jx,List.replicate_succ,QcY ds]
def VR (ds:List Int):Nat→List Int→List Bool→List (List Int)
 | 0,pre,_=>[pre]
 | n+1,pre,us=>(List.range ds.length).flatMap fun i=>match ds[i]?,us[i]? with
  | some d,some false=>VR ds n (pre++[d]) (us.set i true)++VR ds n (pre++[d,-1]) (us.set i true)
  | _,_=>[]
theorem Qaq {ds:List Int} {c:List Int}: ∀(n:Nat) (pre:List Int) (us:List Bool),(Jx ds us).length=n→(c∈VR ds n pre us↔ ∃P:List (Int×Bool),(P.map Prod.fst).Perm (Jx ds us)∧c=pre++ZL P)
 | 0,pre,us,hn=>by
  have h0:Jx ds us=[]:=List.eq_nil_of_length_eq_zero hn
  simp only[VR,List.mem_singleton,h0]
  constructor
  ·rintro rfl;exact ⟨[],List.Perm.refl _,by simp[ZL]⟩
  ·rintro ⟨P,h1,rfl⟩;have:P=[]:=by simpa using h1.eq_nil
   subst this
   simp[ZL]
 | n+1,pre,us,hn=>by
  simp only[VR,List.mem_flatMap,List.mem_range]
  constructor
  ·rintro ⟨
       i,hi,hc⟩
   cases hd:ds[i]? with
   | none=>rw[hd] at hc;simp at hc
   | some d =>
    cases hu:us[i]? with
    | none=>rw[hd,hu] at hc;simp at hc
    | some u =>
     cases u with
     | true=>rw[hd,hu] at hc;simp at hc
     | false =>
      rw[hd,hu] at hc
      simp only at hc
      have hp:=QcZ hd hu;have hl:(Jx ds (us.set i true)).length=n:=by
       have:=hp.length_eq
       simp at this;omega
      rcases List.mem_append.1 hc with hc | hc
      ·obtain ⟨P,h1,h2⟩:=(Qaq n _ _ hl).1 hc;exact ⟨(d,false)::P,(List.Perm.cons d h1).trans hp.symm,by rw[h2];simp[ZL]⟩
      ·obtain ⟨P,h1,h2⟩:=(Qaq n _ _ hl).1 hc;exact ⟨(d,true)::P,(List.Perm.cons d h1).trans hp.symm,by rw[h2];simp[ZL]⟩
  ·rintro ⟨P,h1,h2⟩;cases P with
   | nil =>
    have:=h1.length_eq
    simp at this;omega
   | cons q P =>
    obtain ⟨d,f⟩:=q;obtain ⟨i,hd,hu⟩:=QeX (h1.subset (show d∈((d,f)::P).map Prod.fst by simp));have hp:=QcZ hd hu;have h3:(P.map Prod.fst).Perm (Jx ds (us.set i true)):=(List.perm_cons d).1 (show (d::P.map Prod.fst).Perm _ from h1.trans hp);have hl:(Jx ds (us.set i true)).length=n:=by
     have:=hp.length_eq
     simp at this;omega
    refine ⟨i,QH hd,?_⟩
    rw[hd,hu]
    simp only[List.mem_append]
    cases f with
    | false=>exact .inl ((Qaq n _ _ hl).2 ⟨P,h3,by rw[h2];simp[ZL]⟩)
    | true=>exact .inr ((Qaq n _ _ hl).2 ⟨P,h3,by rw[h2];simp[ZL]⟩)
end Go.Proofs.Ytilbengnjgglhaa
namespace Go.Proofs.Ytilbengnjgglhaa
open Go.RowKit
set_option linter.unusedSimpArgs false
set_option linter.unusedVariables false
abbrev Bst:=Bool×Int×List Int
def Qht (p:Pr) (v:Int) (s:Bst) (c:List Int):Bool:=decide ((JU p ⟨v,c⟩).2=0)&&(!s.1||(decide ((JU p ⟨v,c⟩).1<s.2.1)||(decide ((JU p ⟨v,c⟩).1=s.2.1)&&WE c s.2.2)))
def Qa2 (p:Pr) (v:Int) (s:Bst) (c:List Int):Bst:=bif Qht p v s c then (true,(JU p ⟨v,c⟩).1,c) else s
theorem QjH {l:List Int} (hl:l.length≤1000000):Qdb l=some l:=by
 unfold Qdb
 rw[if_pos hl]
theorem QhQ {F:Nat} (hF:40000≤F) {p:Pr} (hp:OkP p) (hc:Qg p=some 0) (hn:p.Road.Edges.length≤600) {v v0:Int} {c:List Int} (hl:c.length≤1000) (s:Bst) :
  J7 F c p v s.1 s.2.1 ⟨v0,s.2.2⟩=some ((Qa2 p v s c).1,(Qa2 p v s c).2.1,⟨v0,(Qa2 p v s c).2.2⟩):=by
 unfold J7
 rw[QgB hF hp hc hn,Option.bind_some]
 simp only[oun,Qa2,Qht,Qc2 (show c.length≤1000000 by omega),QjH (show c.length≤1000000 by omega),Option.bind_some]
 have hz:=Qfh c s.2.2;have e:decide (VS c s.2.2<0)=WE c s.2.2:=by
  cases h:WE c s.2.2 with
  | true=>exact decide_eq_true (hz.1.2 h)
  | false =>
   refine decide_eq_false fun h2=> ?_
   rw[hz.1.1 h2] at h
   cases h
 rw[e]
 obtain ⟨s1,s2,s3⟩:=s
 by_cases h0:(JU p ⟨v,c⟩).2=0
 ·simp only[h0,decide_true,Bool.not_true,cond_false,Bool.true_and]
  cases s1 with
  | false=>simp
  | true =>
   by_cases h1:(JU p ⟨v,c⟩).1<s2
   ·simp[h1]
   ·by_cases h2:(JU p ⟨v,c⟩).1=s2
    ·cases h3:WE c s3<;>simp[h1,h2,h3]
    ·simp[h1,h2]
 ·simp[h0]
def Qcz (ds:List Int) (n:Nat) (pre:List Int) (us:List Bool) (i:Nat):List (List Int):=match ds[i]?,us[i]? with
 | some d,some false=>VR ds n (pre++[d]) (us.set i true)++VR ds n (pre++[d,-1]) (us.set i true)
 | _,_=>[]
theorem Qha (ds:List Int) (n:Nat) (pre:List Int) (us:List Bool):VR ds (n+1) pre us=(List.range ds.length).flatMap (Qcz ds n pre us):=by
 rfl
theorem Qit (L:List Bool) (i:Nat) (x:Bool):Zi L (i:Int) x=L.set i x:=by simp[Zi]
theorem Qix (pre x:List Int):We (pre++x) 0 ((pre.length:Nat):Int)=some pre:=by
 rw[W1 (by simp)]
 simp
theorem Qiw (pre:List Int):We pre 0 ((pre.length:Nat):Int)=some pre:=by
 rw[W1 (Nat.le_refl _)]
 simp
def Qi7 (p:Pr) (v v0:Int) (ds:List Int) (n:Nat) (rec_:Int→Unit→Qc→Int→Bool→Int→Qf→(List Int)→(List Int)→(List Bool)→Unit→Option (Bool×Int×Qf×(List Int)×(List Bool))):Prop :=
 ∀(s:Bst) (pre:List Int) (us:List Bool),pre.length+2*n≤1000→us.length=ds.length→(Jx ds us).length=n →
  rec_ (n:Int) () p v s.1 s.2.1 ⟨v0,s.2.2⟩ pre ds us ()=some (((VR ds n pre us).foldl (Qa2 p v) s).1,((VR ds n pre us).foldl (Qa2 p v) s).2.1,⟨v0,((VR ds n pre us).foldl (Qa2 p v) s).2.2⟩,pre,us)
theorem Qb5 {p:Pr} {v v0:Int} {ds pre:List Int} {us:List Bool} {n:Nat} {rec_:Int→Unit→Qc→Int→Bool→Int→Qf→(List Int)→(List Int)→(List Bool)→Unit→Option (Bool×Int×Qf×(List Int)×(List Bool))}
  (hr:Qi7 p v v0 ds n rec_) (hd:ds.length≤1000) (hpre:pre.length+2*(n+1)≤1000) (hus:us.length=ds.length) (hn:(Jx ds us).length=n+1): ∀(rest:List Nat) (i f:Nat) (s:Bst),(List.range ds.length).drop i=rest→i≤ds.length→rest.length<f →
  iter (Yl ((n+1:Nat):Int) p v pre ds rec_) f (pre,us,s.1,s.2.1,v0,s.2.2,(i:Int))=some (((rest.flatMap (Qcz ds n pre us)).foldl (Qa2 p v) s).1,((rest.flatMap (Qcz ds n pre us)).foldl (Qa2 p v) s).2.1,v0,((rest.flatMap (Qcz ds n pre us)).foldl (Qa2 p v) s).2.2,pre,us)
 | _,_,0,_,_,_,h=>by omega
 | [],i,f+1,s,h,hi,_=>by
  have h0:ds.length=i:=by
   have:=congrArg List.length h
   simp at this;omega
  have h1: ¬((i:Int)<((ds.length:Nat):Int)):=by omega
  simp only[iter,Yl,oun,QK,h1,decide_false,cond_false,Option.bind_some,List.flatMap_nil,List.foldl_nil]
 | k::rest,i,f+1,s,h,hi,hf=>by
  have hi':i<ds.length:=by
   have:=congrArg List.length h
   simp at this;omega
  have hk:k=i:=by
   have:((List.range ds.length).drop i)[0]? =some k:=by rw[h];rfl
   simp[hi'] at this
   exact this.symm
  subst hk;have hrest:(List.range ds.length).drop (k+1)=rest:=by rw[←List.drop_drop,h];rfl
  have h1:((k:Int)<((ds.length:Nat):Int)):=by omega
  have e1:w64 ((k:Int)+1)=((k+1:Nat):Int):=by rw[Q7 (by omega) (by omega)];omega
  have en:w64 (((n+1:Nat):Int)-1)=(n:Int):=by rw[Q7 (by omega) (by omega)];omega
  obtain ⟨d,gd⟩: ∃d,ds[k]? =some d:=⟨_,List.getElem?_eq_getElem hi'⟩
  obtain ⟨u,gu⟩: ∃u,us[k]? =some u:=⟨_,List.getElem?_eq_getElem (hus▸hi')⟩
  rw[List.flatMap_cons,List.foldl_append]
  cases u with
  | true =>
   have hs:Qcz ds n pre us k=[]:=by simp only[Qcz,gd,gu]
   rw[hs,List.foldl_nil]
   have ih:=Qb5 hr hd hpre hus hn rest (k+1) f s hrest (by omega) (by simp at hf;omega)
   rw[←ih]
   simp only[iter,Yl,oun,QK,h1,decide_true,cond_true,Qq,gd,gu,Option.bind_some,e1]
  | false =>
   have hp:=QcZ gd gu;have hl2:(Jx ds (us.set k true)).length=n:=by
    have:=hp.length_eq
    simp at this;omega
   have hs:Qcz ds n pre us k=VR ds n (pre++[d]) (us.set k true)++VR ds n (pre++[d,-1]) (us.set k true):=by simp only[Qcz,gd,gu]
   rw[hs,List.foldl_append]
   have r1:=hr s (pre++[d]) (us.set k true) (by simp;omega) (by simp[hus]) hl2
   generalize (VR ds n (pre++[d]) (us.set k true)).foldl (Qa2 p v) s=s1 at r1 ⊢
   have r2:=hr s1 (pre++[d,-1]) (us.set k true) (by simp;omega) (by simp[hus]) hl2
   generalize (VR ds n (pre++[d,-1]) (us.set k true)).foldl (Qa2 p v) s1=s2 at r2 ⊢
   have ih:=Qb5 hr hd hpre hus hn rest (k+1) f s2 hrest (by omega) (by simp at hf;omega)
   rw[←ih]
   have gx:(us.set k true)[k]? =some true:=by simp[hus,hi']
   have gz:(us.set k true).set k false=us:=by
    rw[List.set_set]
    apply List.ext_getElem? fun j=> ?_
    by_cases hj:j=k
    ·subst hj
     rw[gu]
     simp[hus,hi']
    ·rw[List.getElem?_set_ne (by omega)]
   simp only[iter,Yl,oun,QK,h1,decide_true,cond_true,Qq,gd,gu,Option.bind_some,e1,en,cond_false,Qiw,Qix,Qit,Jy (show pre.length+[d].length≤1000000 by simp;omega),Jy (show pre.length+[d,-1].length≤1000000 by simp;omega),r1,r2,gx,gz]
theorem QgJ {p:Pr} (hp:OkP p) (hc:Qg p=some 0) (hne:p.Road.Edges.length≤600) {v v0:Int} {ds:List Int} (hd:ds.length≤1000): ∀(n F:Nat),40000+n+1≤F→Qi7 p v v0 ds n (Yq F)
 | 0,0,h=>by omega
 | n+1,0,h=>by omega
 | 0,F+1,h=>by
  intro s pre us hpre hus hn;have b:=QhQ (v0:=v0) (v:=v) (show 40000≤F by omega) hp hc hne (c:=pre) (by omega) s
  simp only[Yq,ZG,Int.ofNat_zero,Int.natCast_zero,decide_true,cond_true,b,Option.bind_some,oun,VR,List.foldl_cons,List.foldl_nil]
 | n+1,F+1,h=>by
  intro s pre us hpre hus hn;have ih:=QgJ hp hc hne (v:=v) (v0:=v0) hd n F (by omega);have l:=Qb5 ih hd hpre hus hn _ 0 (((ds.length:Nat):Int).toNat+1) s rfl (by omega) (by simp);have h0: ¬(((n+1:Nat):Int)=0):=by omega
  simp only[Yq,ZG,h0,decide_false,cond_false]
  have l':iter (Yl ((n+1:Nat):Int) p v pre ds (Yq F)) (((ds.length:Nat):Int).toNat+1) (pre,us,s.1,s.2.1,v0,s.2.2,0)=_:=l
  rw[l',Qha]
  simp only[Option.bind_some,oun,List.drop_zero]
end Go.Proofs.Ytilbengnjgglhaa
namespace Go.Proofs.Ytilbengnjgglhaa
open Go.RowKit
set_option linter.unusedSimpArgs false
set_option linter.unusedVariables false
theorem Qd0 {L:List Int}: ∀(l pre:List Int),L=pre++l→pre.Nodup→Yu (fun k (y:Int)=>bif decide (y∈L.take k) then some (.inr 6) else none) (.inl ():Unit⊕Int) pre.length l=bif decide L.Nodup then .inl () else .inr 6
 | [],pre,h,hp=>by
  have:L.Nodup:=by rw[h];simpa using hp
  simp[Yu,this]
 | y::l,pre,h,hp=>by
  have ht:L.take pre.length=pre:=by rw[h];simp
  unfold Yu
  rw[ht]
  by_cases hy:y∈pre
  ·have hnd: ¬L.Nodup:=by
    rw[h,List.nodup_append]
    exact fun hh=>hh.2.2 y hy y List.mem_cons_self rfl
   simp[hy,hnd]
  ·have ih:=Qd0 (L:=L) l (pre++[y]) (by rw[h];simp) (by
    rw[List.nodup_append]
    exact ⟨hp,by simp,fun a ha b hb=>by rw[List.mem_singleton] at hb;subst hb;exact fun hh=>hy (hh▸ha)⟩)
   rw[List.length_append] at ih
   simpa [hy] using ih
theorem QhT {L:List Int} (hn:L.length≤1000):iter (ZW L) (((L.length:Nat):Int).toNat+1) 0=some (bif decide L.Nodup then .inl () else .inr 6):=by
 have:=Y6 (body:=ZW L) L (fun k (y:Int)=>bif decide (y∈L.take k) then some (.inr 6) else none) (.inl ():Unit⊕Int) (by omega) (fun k y hy=> ?_) (by simp[ZW]) (((L.length:Nat):Int).toNat+1) (by simp)
 ·rw[this]
  exact congrArg some (Qd0 L [] rfl List.nodup_nil)
 ·have hk:=QH hy;have hk2:((k:Int)<(L.length:Nat)):=by omega
  simp only[ZW,hk2,decide_true,cond_true,Qq,hy,Option.bind_some,W1 (Nat.le_of_lt hk),Qcp (L.take k) (by simp;omega)]
  cases decide (y∈L.take k)<;>rfl
def Qgf (p:Pr) (d:Int):Bool:=decide (d<0)||decide (((p.Demands.length:Nat):Int)≤d)
theorem QjP (p:Pr) (L:List Int) (hn:L.length≤1000):Yo L p=some (L.any (Qgf p)):=by
 unfold Yo Zf;have:=Y6 (body:=Yp L p) L (fun k y=>bif Qgf p y then some (.inr (k:Int)) else none) (.inl ():Unit⊕Int) (by omega) (fun k y hy=> ?_) (by simp[Yp]) (((L.length:Nat):Int).toNat+1) (by simp)
 ·rw[this]
  rcases QgG (Qgf p) L 0 with ⟨h1,h2⟩ | ⟨j,h1,h2⟩
  ·rw[h1,h2];rfl
  ·rw[h1,h2]
   simp only[Option.bind_some,QK]
   simp
 ·have hk:=QH hy;have hk2:((k:Int)<(L.length:Nat)):=by omega
  simp only[Yp,hk2,decide_true,cond_true,Qq,hy,Option.bind_some,Ww,Qgf]
  cases decide (y<0)<;>cases decide (((p.Demands.length:Nat):Int)≤y)<;>rfl
def WO (p:Pr) (v:Int) (ds:List Int):Int :=
 bif decide (v<0)||decide (((p.Vehicles.length:Nat):Int)≤v) then 7
 else bif decide (5<ds.length) then 8
 else bif ds.any (Qgf p) then 7
 else bif decide ds.Nodup then 0 else 6
theorem Qda {F:Nat} (hF:33≤F) {p:Pr} (hn:p.Road.Edges.length≤600) {e:Int} (hc:Qg p=some e) (v:Int) (ds:List Int) (hd:ds.length≤1000) :
  Jq F p v ds=some (if e=0 then WO p v ds else e):=by
 unfold Jq
 rw[Qbc hF p hn,hc]
 simp only[Option.bind_some]
 by_cases h:e=0
 ·subst h
  simp only[decide_true,Bool.not_true,cond_false,if_true,WO,QjP p ds hd,QhT hd,Option.bind_some]
  have h5:decide ((5:Int)<((ds.length:Nat):Int))=decide (5<ds.length):=by
   by_cases h:5<ds.length<;>simp[h]<;>omega
  rw[h5]
  cases decide (v<0)<;>cases decide (((p.Vehicles.length:Nat):Int)≤v)<;>cases decide (5<ds.length)<;>cases ds.any (Qgf p)<;>cases decide ds.Nodup<;>rfl
 ·simp[h]
theorem QhR (p:Pr) (v:Int) (ds:List Int):WO p v ds≠40:=by
 unfold WO;cases (decide (v<0)||decide (((p.Vehicles.length:Nat):Int)≤v))<;>cases decide (5<ds.length)<;>cases ds.any (Qgf p)<;>cases decide ds.Nodup<;>decide
def Qac (p:Pr) (v:Int) (C:List Int→Prop) (s:Bst):Prop :=
 (s=(false,0,[])∧ ∀c,C c→(JU p ⟨v,c⟩).2≠0) ∨
 (s.1=true∧C s.2.2∧JU p ⟨v,s.2.2⟩=(s.2.1,0)∧ ∀c,C c→(JU p ⟨v,c⟩).2=0→s.2.1<(JU p ⟨v,c⟩).1∨(s.2.1=(JU p ⟨v,c⟩).1∧WE c s.2.2=false))
theorem Qac.congr {p:Pr} {v:Int} {C D:List Int→Prop} {s:Bst} (h: ∀c,C c↔D c) (hs:Qac p v C s):Qac p v D s:=by
 have:C=D:=funext fun c=>propext (h c);exact this▸hs
theorem Qac.step {p:Pr} {v:Int} {C:List Int→Prop} {s:Bst} (h:Qac p v C s) (c:List Int):Qac p v (fun x=>C x∨x=c) (Qa2 p v s c):=by
 unfold Qa2;cases hu:Qht p v s c with
 | true =>
  simp only[cond_true]
  simp only[Qht,Bool.and_eq_true,Bool.or_eq_true,decide_eq_true_eq,Bool.not_eq_true'] at hu
  obtain ⟨h0,hu⟩:=hu;refine .inr ⟨rfl,.inr rfl,Prod.ext rfl h0,?_⟩;rintro x (hx | rfl) hx0
  ·rcases h with ⟨h1,h2⟩ | ⟨h1,h2,h3,h4⟩
   ·exact absurd hx0 (h2 _ hx)
   ·rcases hu with hu | hu | ⟨hu1,hu2⟩
    ·rw[h1] at hu;cases hu
    ·have:=h4 _ hx hx0
     simp only
     omega
    ·rcases h4 _ hx hx0 with h5 | ⟨h5,h6⟩
     ·simp only;omega
     ·refine .inr ⟨by simp only;omega,?_⟩
      simp only
      cases h7:WE x c with
      | false=>rfl
      | true=>rw[Qdr h7 hu2] at h6;cases h6
  ·exact .inr ⟨rfl,Qfx _⟩
 | false =>
  simp only[cond_false]
  rcases h with ⟨h1,h2⟩ | ⟨h1,h2,h3,h4⟩
  ·refine .inl ⟨h1,?_⟩;rintro x (hx | rfl)
   ·exact h2 _ hx
   ·intro h0
    rw[h1] at hu
    simp[Qht,h0] at hu
  ·refine .inr ⟨h1,.inl h2,h3,?_⟩;rintro x (hx | rfl) hx0
   ·exact h4 _ hx hx0
   ·simp only[Qht,hx0,decide_true,Bool.true_and,h1,Bool.not_true,Bool.false_or,Bool.or_eq_false_iff,decide_eq_false_iff_not,Bool.and_eq_false_iff] at hu
    obtain ⟨hu1,hu2⟩:=hu;rcases hu2 with hu2 | hu2
    ·exact .inl (by omega)
    ·by_cases he:s.2.1=(JU p ⟨v,x⟩).1
     ·exact .inr ⟨he,hu2⟩
     ·exact .inl (by omega)
theorem Qac.fold {p:Pr} {v:Int}: ∀(L:List (List Int)) {C:List Int→Prop} {s:Bst},Qac p v C s→Qac p v (fun x=>C x∨x∈L) (L.foldl (Qa2 p v) s)
 | [],C,s,h=>h.congr (by simp)
 | c::L,C,s,h=>by
  rw[List.foldl_cons]
  refine (Qac.fold L (h.step c)).congr fun x=> ?_
  simp only[List.mem_cons,or_assoc]
def JI (p:Pr) (v:Int) (ds:List Int):Bst:=(VR ds ds.length [] (List.replicate ds.length false)).foldl (Qa2 p v) (false,0,[])
theorem Qfe (p:Pr) (v:Int) (ds:List Int):Qac p v (QfV ds) (JI p v ds):=by
 refine (Qac.fold (VR ds ds.length [] (List.replicate ds.length false)) (C:=fun _=>False) (s:=(false,0,[])) (.inl ⟨rfl,fun c h=>h.elim⟩)).congr fun x=> ?_
 rw[Qaq ds.length [] (List.replicate ds.length false) (by rw[QcY]),QcY]
 simp only[List.nil_append,false_or]
 exact Iff.rfl
theorem Qez {F:Nat} (hF:41100≤F) {p:Pr} (hp:OkP p) (hc:Qg p=some 0) (hne:p.Road.Edges.length≤600) (v:Int) {ds:List Int} (hd:ds.length≤100) :
  JP F p v ds=some (⟨v,(JI p v ds).2.2⟩,(JI p v ds).2.1,(JI p v ds).1):=by
 unfold JP ZH;have hm:WM false ((ds.length:Nat):Int)=some (List.replicate ds.length false):=by
  unfold WM
  rw[if_pos ⟨by omega,by omega⟩]
  simp
 obtain ⟨l2,hm2⟩: ∃l2,WM (0:Int) (w64 (2*((ds.length:Nat):Int)))=some l2:=by
  rw[Q7 (by omega) (by omega)]
  unfold WM
  rw[if_pos ⟨by omega,by omega⟩]
  exact ⟨_,rfl⟩
 have:=QgJ hp hc hne (v:=v) (v0:=v) (ds:=ds) (by omega) ds.length F (by omega) (false,0,[]) [] (List.replicate ds.length false) (by simp;omega) (by simp) (by rw[QcY])
 rw[hm,hm2]
 simp only[Option.bind_some]
 simp only at this
 rw[this]
 rfl
def Qab (p:Pr) (e v:Int) (ds:List Int):Qf×Int×Int :=
 bif decide ((if e=0 then WO p v ds else e)=0) then
  bif (JI p v ds).1 then (⟨v,(JI p v ds).2.2⟩,(JI p v ds).2.1,0) else (⟨0,[]⟩,0,40)
 else (⟨0,[]⟩,0,if e=0 then WO p v ds else e)
def QaS (p:Pr) (e v:Int) (ds:List Int):Bool×Int :=
 bif decide ((if e=0 then WO p v ds else e)=0) then ((JI p v ds).1,0) else (false,if e=0 then WO p v ds else e)
theorem QeF {e x:Int} (h:(if e=0 then x else e)=0):e=0∧x=0:=by
 by_cases h0:e=0
 ·rw[if_pos h0] at h;exact ⟨h0,h⟩
 ·rw[if_neg h0] at h;exact absurd h h0
theorem QcT {F:Nat} (hF:41100≤F) {p:Pr} (hne:p.Road.Edges.length≤600) {e:Int} (hc:Qg p=some e) (v:Int) {ds:List Int} (hd:ds.length≤100):Jp F p v ds=some (Qab p e v ds):=by
 unfold Jp Qab
 rw[Qda (by omega) hne hc v ds (by omega),Option.bind_some]
 by_cases h:(if e=0 then WO p v ds else e)=0
 ·obtain ⟨rfl,h2⟩:=QeF h
  simp only[if_true,h2,decide_true,Bool.not_true,cond_false,cond_true,Qez hF (OkP.of hne hc) hc hne v hd,Option.bind_some,oun]
  cases (JI p v ds).1<;>rfl
 ·simp only[h,decide_false,Bool.not_false,cond_true,cond_false]
theorem QdV {F:Nat} (hF:41100≤F) {p:Pr} (hne:p.Road.Edges.length≤600) {e:Int} (hc:Qg p=some e) (v:Int) {ds:List Int} (hd:ds.length≤100):Jz F p v ds=some (QaS p e v ds):=by
 unfold Jz QaS
 rw[Qda (by omega) hne hc v ds (by omega),Option.bind_some]
 by_cases h:(if e=0 then WO p v ds else e)=0
 ·obtain ⟨rfl,h2⟩:=QeF h
  simp only[if_true,h2,decide_true,Bool.not_true,cond_false,cond_true,Qez hF (OkP.of hne hc) hc hne v hd,Option.bind_some,oun]
 ·simp only[h,decide_false,Bool.not_false,cond_true,cond_false]
end Go.Proofs.Ytilbengnjgglhaa
namespace Go.Proofs.Ytilbengnjgglhaa
open Go.RowKit
set_option linter.unusedSimpArgs false
set_option linter.unusedVariables false
theorem Qg2 (L:List Int) (hn:L.length≤1000): ∀(rest:List Int) (k f:Nat) (out:List Int),L.drop k=rest→k≤L.length→out.length=k→rest.length<f →
  iter (Yd L) f ((k:Int),out)=some (out++rest)
 | _,_,0,_,_,_,_,h=>by omega
 | [],k,f+1,out,h,hk,ho,_=>by
  have h0:L.length=k:=by
   have:=congrArg List.length h
   simp at this;omega
  have h1: ¬((k:Int)<((L.length:Nat):Int)):=by omega
  simp only[iter,Yd,oun,QK,h1,decide_false,cond_false,Option.bind_some,List.append_nil]
 | d::rest,k,f+1,out,h,hk,ho,hf=>by
  have hk':k<L.length:=by
   have:=congrArg List.length h
   simp at this;omega
  have h1:((k:Int)<((L.length:Nat):Int)):=by omega
  have gd:L[k]? =some d:=by
   have:(L.drop k)[0]? =some d:=by rw[h];rfl
   simpa using this
  have hr:L.drop (k+1)=rest:=by rw[←List.drop_drop,h];rfl
  have e1:w64 ((k:Int)+1)=((k+1:Nat):Int):=by rw[Q7 (by omega) (by omega)];omega
  have ih:=Qg2 L hn rest (k+1) f (out++[d]) hr (by omega) (by simp[ho]) (by simp at hf;omega)
  simp only[iter,Yd,Zq,oun,QK,h1,decide_true,cond_true,Qq,gd,Option.bind_some,e1,Jy (show out.length+[d].length≤1000000 by simp;omega)]
  have ih':=ih
  rw[List.append_assoc] at ih'
  exact ih'
theorem Qg8 {L:List Int} (hn:L.length≤1000):Y8 L=some (ZX L):=by
 unfold Y8 Zr YF Zj;have:=Qg2 L hn L 0 (((L.length:Nat):Int).toNat+1) [] rfl (by omega) rfl (by simp)
 rw[List.nil_append] at this
 have h2:iter (Yd L) (((L.length:Nat):Int).toNat+1) (0,[])=some L:=this
 rw[h2]
 simp only[Option.bind_some,Qeo]
 rw[if_pos (by omega)]
 rfl
def ZK:Nat→List Int→List Int
 | _,[]=>[]
 | m,d::r=>if m%2=1 then d::ZK (m/2) r else ZK (m/2) r
theorem Qce: ∀(m:Nat) (r:List Int),(ZK m r).Sublist r
 | _,[]=>List.Sublist.refl _
 | m,d::r=>by
  unfold ZK
  split
  ·exact (Qce (m/2) r).cons_cons d
  ·exact (Qce (m/2) r).cons d
theorem Qcf {r:List Int} (hn:r.length≤15) {m:Nat} (hm:m<65536): ∀(rest:List Int) (k f:Nat) (out:List Int),r.drop k=rest→k≤r.length→out.length≤k→rest.length<f →
  iter (ZN r (m:Int)) f (out,(k:Int))=some (out++ZK (m/2^k) rest)
 | _,_,0,_,_,_,_,h=>by omega
 | [],k,f+1,out,h,hk,ho,_=>by
  have h0:r.length=k:=by
   have:=congrArg List.length h
   simp at this;omega
  have h1: ¬((k:Int)<((r.length:Nat):Int)):=by omega
  simp only[iter,ZN,oun,QK,h1,decide_false,cond_false,Option.bind_some,ZK,List.append_nil]
 | d::rest,k,f+1,out,h,hk,ho,hf=>by
  have hk':k<r.length:=by
   have:=congrArg List.length h
   simp at this;omega
  have h1:((k:Int)<((r.length:Nat):Int)):=by omega
  have gd:r[k]? =some d:=by
   have:(r.drop k)[0]? =some d:=by rw[h];rfl
   simpa using this
  have hr:r.drop (k+1)=rest:=by rw[←List.drop_drop,h];rfl
  have e1:w64 ((k:Int)+1)=((k+1:Nat):Int):=by rw[Q7 (by omega) (by omega)];omega
  have e2:((m:Int)/2^((k:Int)).toNat)=((m/2^k:Nat):Int):=by
   rw[Int.toNat_natCast]
   simp
  have hq:m/2^k≤m:=Nat.div_le_self _ _;have e3:Qe9 .i64 ((m:Int)/2^((k:Int)).toNat) 1=((m/2^k%2:Nat):Int):=by
   rw[e2]
   generalize m/2^k=q at hq ⊢
   rw[Qkk (by omega) (by omega)]
   omega
  have e4:m/2^k/2=m/2^(k+1):=by rw[Nat.div_div_eq_div_mul,Nat.pow_succ]
  unfold ZK
  rw[e4]
  by_cases hb:m/2^k%2=1
  ·have ih:=Qcf hn hm rest (k+1) f (out++[d]) hr (by omega) (by simp;omega) (by simp at hf;omega)
   rw[if_pos hb]
   simp only[iter,ZN,oun,QK,h1,decide_true,cond_true,Qq,gd,Option.bind_some,e1,Jf (show 0≤(k:Int)∧(k:Int)≤64 by omega),e3,hb,Int.natCast_one,Jy (show out.length+[d].length≤1000000 by simp;omega)]
   have ih':=ih
   rw[List.append_assoc] at ih'
   exact ih'
  ·have ih:=Qcf hn hm rest (k+1) f out hr (by omega) (by omega) (by simp at hf;omega);have h0:m/2^k%2=0:=by omega
   rw[if_neg hb]
   simp only[iter,ZN,oun,QK,h1,decide_true,cond_true,Qq,gd,Option.bind_some,e1,Jf (show 0≤(k:Int)∧(k:Int)≤64 by omega),e3,h0,Int.natCast_zero,show decide ((0:Int)=1)=false by decide,cond_false]
   exact ih
def Qhu (ok:List Int→Bool) (out l:List Int):List Int :=
 bif decide (l.length<out.length)||(decide (l.length=out.length)&&decide (0≤VS l out)) then out else bif ok l then l else out
def Qja (ok:List Int→Bool) (r:List Int):List Int:=((List.range (2^r.length)).map fun m=>ZK m r).foldl (Qhu ok) []
theorem Qef {F:Nat} (hF:41100≤F) {p:Pr} (hp:OkP p) (hc:Qg p=some 0) (hne:p.Road.Edges.length≤600) (v:Int) {r:List Int} (hn:r.length≤15): ∀(rest:List Nat) (k f:Nat) (out:List Int),(List.range (2^r.length)).drop k=rest→k≤2^r.length→rest.length<f →
  out.length≤1000→iter (ZO F p v r) f (out,((2^r.length:Nat):Int),(k:Int))=some ((rest.map fun m=>ZK m r).foldl (Qhu fun l=>(JI p v l).1) out)
 | _,_,0,_,_,_,h,_=>by omega
 | [],k,f+1,out,h,hk,_,_=>by
  have h0:2^r.length=k:=by
   have:=congrArg List.length h
   simp at this;omega
  have h1: ¬((k:Int)<((2^r.length:Nat):Int)):=by omega
  simp only[iter,ZO,oun,QK,h1,decide_false,cond_false,Option.bind_some,List.map_nil,List.foldl_nil]
 | m::rest,k,f+1,out,h,hk,hf,ho=>by
  have hk':k<2^r.length:=by
   have:=congrArg List.length h
   simp at this;omega
  have hm:m=k:=by
   have:((List.range (2^r.length)).drop k)[0]? =some m:=by rw[h];rfl
   simp[hk'] at this
   exact this.symm
  subst hm;have hr:(List.range (2^r.length)).drop (m+1)=rest:=by rw[←List.drop_drop,h];rfl
  have h1:((m:Int)<((2^r.length:Nat):Int)):=by omega
  have hp2:2^r.length≤2^15:=Nat.pow_le_pow_right (by decide) hn;have e1:w64 ((m:Int)+1)=((m+1:Nat):Int):=by rw[Q7 (by omega) (by omega)];omega
  have hml:=Qcf hn (m:=m) (by omega) r 0 (((r.length:Nat):Int).toNat+1) [] rfl (by omega) (by simp) (by simp)
  rw[show m/2^0=m by simp,List.nil_append] at hml
  have hml':iter (ZN r (m:Int)) (((r.length:Nat):Int).toNat+1) ([],0)=some (ZK m r):=hml;have hlen:(ZK m r).length≤15:=Nat.le_trans (Qce m r).length_le hn;have ih:=Qef hF hp hc hne v hn rest (m+1) f (Qhu (fun l=>(JI p v l).1) out (ZK m r)) hr (by omega) (by simp at hf;omega) (by
   simp only[Qhu]
   cases (decide ((ZK m r).length<out.length)||(decide ((ZK m r).length=out.length)&&decide (0≤VS (ZK m r) out))) with
   | true=>exact ho
   | false =>
    cases (JI p v (ZK m r)).1 with
    | true=>simp only[cond_false,cond_true];omega
    | false=>exact ho)
  have c1:decide ((((ZK m r).length:Nat):Int)<((out.length:Nat):Int))=decide ((ZK m r).length<out.length):=by
   by_cases h:(ZK m r).length<out.length<;>simp[h]<;>omega
  have c2:decide ((((ZK m r).length:Nat):Int)=((out.length:Nat):Int))=decide ((ZK m r).length=out.length):=by
   by_cases h:(ZK m r).length=out.length<;>simp[h]<;>omega
  have hb:ZO F p v r (out,((2^r.length:Nat):Int),(m:Int))=some (.inl (Qhu (fun l=>(JI p v l).1) out (ZK m r),((2^r.length:Nat):Int),((m+1:Nat):Int))):=by
   simp only[ZO,oun,h1,decide_true,cond_true,hml',Option.bind_some,e1,Qc2 (show (ZK m r).length≤1000000 by omega),Qez hF hp hc hne v (show (ZK m r).length≤100 by omega),Qhu]
   rw[c1,c2]
   cases decide ((ZK m r).length<out.length)<;>cases decide ((ZK m r).length=out.length)<;>cases decide (0≤VS (ZK m r) out)<;>cases (JI p v (ZK m r)).1<;>rfl
  rw[List.map_cons,List.foldl_cons,←ih]
  simp only[iter,hb,Option.bind_some,QK]
def QgC (p:Pr) (e v:Int) (ds:List Int):List Int×Int :=
 bif decide ((if e=0 then WO p v ds else e)=0) then (Qja (fun l=>(JI p v l).1) (ZX ds),0) else ([],if e=0 then WO p v ds else e)
theorem QiB {F:Nat} (hF:41100≤F) {p:Pr} (hne:p.Road.Edges.length≤600) {e:Int} (hc:Qg p=some e) (v:Int) {ds:List Int} (hd:ds.length≤15):W5 F p v ds=some (QgC p e v ds):=by
 unfold W5 QgC
 rw[Qda (by omega) hne hc v ds (by omega),Option.bind_some]
 by_cases h:(if e=0 then WO p v ds else e)=0
 ·obtain ⟨rfl,h2⟩:=QeF h;have hl:(ZX ds).length=ds.length:=(VY ds).length_eq;have hp2:2^ds.length≤2^15:=Nat.pow_le_pow_right (by decide) hd;have hw:w64 (1*2^(((ZX ds).length:Nat):Int).toNat)=((2^(ZX ds).length:Nat):Int):=by
   rw[Int.toNat_natCast,hl,Int.one_mul]
   have:((2:Int)^ds.length)=((2^ds.length:Nat):Int):=by simp
   rw[this]
   generalize 2^ds.length=q at hp2 ⊢
   exact Q7 (by omega) (by omega)
  have hr2:(List.range (2^(ZX ds).length)).length<F:=by
   rw[List.length_range,hl]
   omega
  have:=Qef hF (OkP.of hne hc) hc hne v (r:=ZX ds) (by omega) _ 0 F [] rfl (Nat.zero_le _) (by simpa using hr2) (by simp);have h':iter (ZO F p v (ZX ds)) F ([],((2^(ZX ds).length:Nat):Int),0)=_:=this
  simp only[if_true,h2,decide_true,Bool.not_true,cond_false,cond_true,Qg8 (show ds.length≤1000 by omega),Option.bind_some,Jf (show 0≤(((ZX ds).length:Nat):Int)∧(((ZX ds).length:Nat):Int)≤64 by omega),hw,h',List.drop_zero]
  rfl
 ·simp only[h,decide_false,Bool.not_false,cond_true,cond_false]
end Go.Proofs.Ytilbengnjgglhaa
namespace Go.Proofs.Ytilbengnjgglhaa
open Go.RowKit
set_option linter.unusedSimpArgs false
set_option linter.unusedVariables false
def QkE (k:List Int→Int×Int) (s:Bst) (c:List Int):Bst :=
 bif decide ((k c).2=0)&&(!s.1||(decide ((k c).1<s.2.1)||(decide ((k c).1=s.2.1)&&WE c s.2.2))) then (true,(k c).1,c) else s
def Qcn (k:List Int→Int×Int) (ds:List Int):Bst:=(VR ds ds.length [] (List.replicate ds.length false)).foldl (QkE k) (false,0,[])
def Qa3 (p:Pr) (v:Int) (c:List Int):Int×Int:=(JE p ⟨v,c⟩).getD (0,1)
theorem Wm {p:Pr} (hp:OkP p) (hc:Qg p=some 0) (v:Int) (ds:List Int):JI p v ds=Qcn (Qa3 p v) ds:=by
 have e:(fun c=>JU p ⟨v,c⟩)=Qa3 p v:=funext fun c=>by unfold Qa3;rw[Qid hp hc];rfl
 rw[←e]
 rfl
def exZ (g:Int):Pr:=Qc.mk (Qs.mk 3 [(QE.mk 0 1 100 60),(QE.mk 1 0 100 60),(QE.mk 1 2 100 60),(QE.mk 2 1 100 60)]) [(Qj.mk ⟨#[118]⟩ 0 (QY.mk 0 86400) g 1)] [(Qh.mk 0 1 0 10 (QY.mk 0 86400) 0),(Qh.mk 1 2 0 10 (QY.mk 0 86400) 0)] 0 0
theorem Qkm (g:Int):QQ g=some (exZ g):=rfl
theorem exN (g:Int):(exZ g).Road.Edges.length≤600:=by show 4≤600;decide
theorem c20:Qg (exZ 20)=some 0:=by decide +kernel
theorem c10:Qg (exZ 10)=some 0:=by decide +kernel
theorem c9:Qg (exZ 9)=some 0:=by decide +kernel
theorem z1:Qab (exZ 20) 0 0 [1,0]=(⟨0,[0,1,-1]⟩,400,0):=by
 unfold Qab
 rw[Wm (OkP.of (exN 20) c20) c20,show Qcn (Qa3 (exZ 20) 0) [1,0]=(true,400,[0,1,-1]) by decide +kernel,show WO (exZ 20) 0 [1,0]=0 by decide +kernel]
 rfl
theorem z2:Qab (exZ 10) 0 0 [0,1]=(⟨0,[0,-1,1,-1]⟩,600,0):=by
 unfold Qab
 rw[Wm (OkP.of (exN 10) c10) c10,show Qcn (Qa3 (exZ 10) 0) [0,1]=(true,600,[0,-1,1,-1]) by decide +kernel,show WO (exZ 10) 0 [0,1]=0 by decide +kernel]
 rfl
theorem z3:Qab (exZ 9) 0 0 [0,1]=(⟨0,[]⟩,0,40):=by
 unfold Qab
 rw[Wm (OkP.of (exN 9) c9) c9,show Qcn (Qa3 (exZ 9) 0) [0,1]=(false,0,[]) by decide +kernel,show WO (exZ 9) 0 [0,1]=0 by decide +kernel]
 rfl
theorem z4:QaS (exZ 9) 0 0 [0]=(false,0):=by
 unfold QaS
 rw[Wm (OkP.of (exN 9) c9) c9,show Qcn (Qa3 (exZ 9) 0) [0]=(false,0,[]) by decide +kernel,show WO (exZ 9) 0 [0]=0 by decide +kernel]
 rfl
theorem z5:QaS (exZ 20) 0 0 [0,1]=(true,0):=by
 unfold QaS
 rw[Wm (OkP.of (exN 20) c20) c20,show (Qcn (Qa3 (exZ 20) 0) [0,1]).1=true by decide +kernel,show WO (exZ 20) 0 [0,1]=0 by decide +kernel]
 rfl
theorem z6:QgC (exZ 10) 0 0 [1,0]=([0,1],0):=by
 unfold QgC;have e:(fun l=>(JI (exZ 10) 0 l).1)=fun l=>(Qcn (Qa3 (exZ 10) 0) l).1:=funext fun l=>by rw[Wm (OkP.of (exN 10) c10) c10]
 rw[e,show Qja (fun l=>(Qcn (Qa3 (exZ 10) 0) l).1) (ZX [1,0])=[0,1] by decide +kernel,show WO (exZ 10) 0 [1,0]=0 by decide +kernel]
 rfl
theorem QiJ {F:Nat} (hF:41100≤F):QZ F=some true:=by
 unfold QZ
 simp only[Qkm,Option.bind_some,QcT hF (exN 20) c20 0 (ds:=[1,0]) (by decide),QcT hF (exN 10) c10 0 (ds:=[0,1]) (by decide),QcT hF (exN 9) c9 0 (ds:=[0,1]) (by decide),QdV hF (exN 9) c9 0 (ds:=[0]) (by decide),QdV hF (exN 20) c20 0 (ds:=[0,1]) (by decide),QiB hF (exN 10) c10 0 (ds:=[1,0]) (by decide),z1,z2,z3,z4,z5,z6,oun]
 decide +kernel
end Go.Proofs.Ytilbengnjgglhaa
namespace Go.Proofs.Ytilbengnjgglhaa
open Go.RowKit
set_option linter.unusedSimpArgs false
set_option linter.unusedVariables false
def Po {α:Type} (Q:α→Prop) (o:Option α):Prop:= ∀x,o=some x→Q x
theorem Po.some {α:Type} {Q:α→Prop} {x:α} (h:Q x):Po Q (some x):=fun y hy=>by
 injection hy with hy
 exact hy▸h
theorem Po.bind {α β:Type} {Q:β→Prop} {o:Option α} {f:α→Option β} (h: ∀x,Po Q (f x)):Po Q (Option.bind o f):=fun y hy=>by
 cases o with
 | none=>cases hy
 | some x=>exact h x y hy
theorem Po.bindI {α β:Type} {R:α→Prop} {Q:β→Prop} {o:Option α} {f:α→Option β} (ho:Po R o) (h: ∀x,R x→Po Q (f x)):Po Q (Option.bind o f):=fun y hy=>by
 cases o with
 | none=>cases hy
 | some x=>exact h x (ho x rfl) y hy
theorem Po.cond {α:Type} {Q:α→Prop} {b:Bool} {x y:Option α} (h1:Po Q x) (h2:Po Q y):Po Q (bif b then x else y):=by
 cases b
 ·exact h2
 ·exact h1
def N2 {α:Type}:α⊕Int→Prop
 | .inl _=>True
 | .inr e=>e≠40
def N3 {σ α:Type}:σ⊕(α⊕Int)→Prop
 | .inl _=>True
 | .inr x=>N2 x
theorem Po.osum {α β:Type} {Q:β→Prop} {o:α⊕Int} {f:α→Option β} {g:Int→Option β} (h:N2 o) (hf: ∀a,Po Q (f a)) (hg: ∀e,e≠40→Po Q (g e)):Po Q (QK o f g):=by
 cases o with
 | inl a=>exact hf a
 | inr e=>exact hg e h
theorem Po.iter {σ α:Type} {body:σ→Option (σ⊕(α⊕Int))} (h: ∀s,Po N3 (body s)): ∀(n:Nat) (s:σ),Po N2 (iter body n s)
 | 0,s=>fun y hy=>by cases hy
 | n+1,s=>by
  unfold Go.Proofs.Ytilbengnjgglhaa.iter;refine Po.bindI (h s) fun x hx=> ?_;cases x with
  | inl s'=>exact Po.iter h n s'
  | inr r=>exact Po.some hx
theorem p19 (r:Qs):Po (· ≠(40:Int)) (YM r):=by
 unfold YM;refine Po.bind fun v1=>Po.cond (Po.some (by decide)) (Po.cond (Po.some (by decide)) (Po.bindI (Po.iter (fun s=> ?_) _ _) fun o ho=>Po.osum ho (fun _=>Po.some (by decide)) fun e he=>Po.some he));unfold Ya;refine Po.cond (Po.bind fun x1=>Po.bind fun v3=>Po.cond (Po.some (show (7:Int)≠40 by decide)) (Po.bind fun v=>Po.cond (Po.some (show (1:Int)≠40 by decide)) (Po.some trivial))) (Po.some trivial)
theorem QkC (v:Qj) (n m:Int):Po (· ≠(40:Int)) (QI v n m):=by
 unfold QI;refine Po.bind fun r1=>Po.cond (Po.some (by decide)) (Po.bind fun v2=>Po.cond (Po.some (by decide)) (Po.bind fun v3=>Po.cond (Po.some (by decide)) (Po.bind fun v4=>Po.cond (Po.some (by decide)) (Po.bind fun v5=>Po.cond (Po.some (by decide)) (Po.some (by decide))))))
theorem p20 (l:List Qj) (n m:Int):Po (· ≠(40:Int)) (QR l n m):=by
 unfold QR;refine Po.bind fun v1=>Po.cond (Po.some (by decide)) (Po.cond (Po.some (by decide)) (Po.cond (Po.some (by decide)) (Po.bindI (Po.iter (fun s=> ?_) _ _) fun o ho=>Po.osum ho (fun _=>Po.bindI (Po.iter (fun s=> ?_) _ _) fun o ho=>Po.osum ho (fun _=>Po.some (by decide)) fun e he=>Po.some he) fun e he=>Po.some he)))
 ·unfold Qz;exact Po.cond (Po.bind fun x1=>Po.bindI (QkC _ _ _) fun r hr=>Po.cond (Po.some hr) (Po.some trivial)) (Po.some trivial)
 ·unfold YO;refine Po.cond (Po.bindI (R:=N2) (Po.bindI (Po.iter (fun s=> ?_) _ _) fun o ho=>Po.osum ho (fun _=>Po.some trivial) fun e he=>Po.some he) fun o ho=>Po.osum ho (fun _=>Po.some trivial) fun e he=>Po.some he) (Po.some trivial);unfold YN;exact Po.cond (Po.bind fun x=>Po.bind fun y=>Po.cond (Po.some (show (6:Int)≠40 by decide)) (Po.some trivial)) (Po.some trivial)
theorem p21 (l:List Qh) (n m:Int):Po (· ≠(40:Int)) (QS l n m):=by
 unfold QS;refine Po.cond (Po.some (by decide)) (Po.bindI (Po.iter (fun s=> ?_) _ _) fun o ho=>Po.osum ho (fun _=>Po.bindI (Po.iter (fun s=> ?_) _ _) fun o ho=>Po.osum ho (fun _=>Po.some (by decide)) fun e he=>Po.some he) fun e he=>Po.some he)
 ·unfold QD;refine Po.cond (Po.bind fun x1=>Po.bind fun v1=>Po.cond (Po.some (show (7:Int)≠40 by decide)) (Po.bind fun v2=>Po.cond (Po.some (show (1:Int)≠40 by decide)) (Po.some trivial))) (Po.some trivial)
 ·unfold QX;refine Po.cond (Po.bindI (R:=N2) (Po.bindI (Po.iter (fun s=> ?_) _ _) fun o ho=>Po.osum ho (fun _=>Po.some trivial) fun e he=>Po.some he) fun o ho=>Po.osum ho (fun _=>Po.some trivial) fun e he=>Po.some he) (Po.some trivial);unfold QW;exact Po.cond (Po.bind fun x=>Po.bind fun y=>Po.cond (Po.some (show (6:Int)≠40 by decide)) (Po.some trivial)) (Po.some trivial)
theorem p22 (p:Pr):Po (· ≠(40:Int)) (Qg p):=by
 unfold Qg;refine Po.bindI (p19 _) fun a ha=>Po.cond (Po.some ha) (Po.bindI (p20 _ _ _) fun b hb=>Po.cond (Po.some hb) (Po.bindI (p21 _ _ _) fun c hc=>Po.cond (Po.some hc) (Po.bind fun x=>Po.cond (Po.some (by decide)) (Po.bind fun y=>Po.cond (Po.some (by decide)) (Po.some (by decide))))))
end Go.Proofs.Ytilbengnjgglhaa
namespace Go.Proofs.Ytilbengnjgglhaa
open Go.RowKit
set_option linter.unusedSimpArgs false
set_option linter.unusedVariables false
theorem QfN (x:Q9):YL x=some false∨(YL x=some true∧x.Problem.Road.Edges.length≤600∧x.Demands.length≤4):=by
 unfold YL;obtain ⟨⟨b,hb⟩,hl⟩:=QfW x.Problem
 rw[hb]
 cases b with
 | true=>exact .inl rfl
 | false =>
  obtain ⟨h1,_,_⟩:=hl hb
  simp only[Option.bind_some,Bool.not_false,cond_true]
  by_cases h2:((x.Problem.Demands.length:Nat):Int)≤40
  ·by_cases h3:((x.Demands.length:Nat):Int)≤4
   ·exact .inr ⟨by simp only[h2,h3,decide_true,cond_true,Option.bind_some],h1,by omega⟩
   ·exact .inl (by simp only[h2,h3,decide_true,decide_false,cond_true,Option.bind_some])
  ·exact .inl (by simp only[h2,decide_false,cond_false,Option.bind_some])
theorem QjW (x:Int): ∃k:Nat,IntKind.u8.wrap x=k∧k<256:=by
 have h:IntKind.u8.wrap x=x%256:=by simp[IntKind.wrap,IntKind.bits,IntKind.signed]
 exact ⟨(x%256).toNat,by rw[h];omega,by omega⟩
theorem Qg0 {k:Nat} (h:k≤8):IntKind.u64.wrap (k:Int)=k:=by
 have h':IntKind.u64.wrap (k:Int)=(k:Int)%18446744073709551616:=by simp[IntKind.wrap,IntKind.bits,IntKind.signed]
 rw[h']
 omega
theorem QiV (ds:List Int) (k i:Nat) (hi:i<ds.length):(ds.drop (k%ds.length)++ds.take (k%ds.length))[i]? =ds[(i+k)%ds.length]? :=by
 have hj:k%ds.length<ds.length:=Nat.mod_lt _ (by omega);have he:(i+k)%ds.length=(i+k%ds.length)%ds.length:=by simp[Nat.add_mod]
 rw[he]
 generalize k%ds.length=j at hj
 by_cases h:i+j<ds.length
 ·rw[List.getElem?_append_left (by simp;omega),List.getElem?_drop,Nat.mod_eq_of_lt h,Nat.add_comm]
 ·rw[List.getElem?_append_right (by simp;omega),List.length_drop,List.getElem?_take_of_lt (by omega),Nat.mod_eq_sub_mod (by omega),Nat.mod_eq_of_lt (by omega)]
  congr 1
  omega
theorem QfH (ds:List Int) (hd:ds.length≤4) (x:Qp) (k:Nat) (hk:IntKind.u8.wrap (Int.tdiv x.From 2)=k) (hk2:k<256): ∀(rest:List Int) (i f:Nat) (out:List Int),(ds.drop (k%ds.length)++ds.take (k%ds.length)).drop i=rest→i≤ds.length→out.length=i→rest.length<f →
  iter (Q8 ds x) f (out,(i:Int))=some (out++rest)
 | _,_,0,_,_,_,_,h=>by omega
 | [],i,f+1,out,h,hi,ho,_=>by
  have h0:ds.length=i:=by
   have:=congrArg List.length h
   simp at this;omega
  have h1: ¬((i:Int)<((ds.length:Nat):Int)):=by omega
  simp only[iter,Q8,oun,QK,h1,decide_false,cond_false,Option.bind_some,List.append_nil]
 | d::rest,i,f+1,out,h,hi,ho,hf=>by
  have hi':i<ds.length:=by
   have:=congrArg List.length h
   simp at this;omega
  have h1:((i:Int)<((ds.length:Nat):Int)):=by omega
  have gd:ds[(i+k)%ds.length]? =some d:=by
   rw[←QiV ds k i hi']
   have:((ds.drop (k%ds.length)++ds.take (k%ds.length)).drop i)[0]? =some d:=by rw[h];rfl
   simpa using this
  have hr:(ds.drop (k%ds.length)++ds.take (k%ds.length)).drop (i+1)=rest:=by rw[←List.drop_drop,h];rfl
  have e0:Int.tmod (w64 ((i:Int)+(w64 (k:Int)))) ((ds.length:Nat):Int)=(((i+k)%ds.length:Nat):Int):=by
   rw[Q7 (n:=(k:Int)) (by omega) (by omega),Q7 (by omega) (by omega),Int.tmod_eq_emod_of_nonneg (by omega)]
   simp
  have e1:w64 ((i:Int)+1)=((i+1:Nat):Int):=by rw[Q7 (by omega) (by omega)];omega
  have ih:=QfH ds hd x k hk hk2 rest (i+1) f (out++[d]) hr (by omega) (by simp[ho]) (by simp at hf;omega);have ih':=ih
  rw[List.append_assoc] at ih'
  simp only[iter,Q8,oun,QK,h1,decide_true,cond_true,hk,Jf (show ((ds.length:Nat):Int)≠0 by omega),e0,Qq,gd,Option.bind_some,e1,Jy (show out.length+[d].length≤1000000 by simp;omega)]
  exact ih'
theorem Qer (ds:List Int) (hd:ds.length≤4) (x:Qp): ∀(f i:Nat) (l:List Int),l.Perm ds→ds.length+2≤i+f→i≤ds.length+1→ ∃l2,iter (QO ds x) f (l,(i:Int))=some l2∧l2.Perm ds
 | 0,i,l,hp,hf,hi=>by
  exact absurd hf (by omega)
 | f+1,i,l,hp,hf,hi=>by
  have e1:w64 ((i:Int)+1)=((i+1:Nat):Int):=by rw[Q7 (by omega) (by omega)];omega
  have e2:w64 ((i:Int)+2)=((i+2:Nat):Int):=by rw[Q7 (by omega) (by omega)];omega
  by_cases h1:(((i+1:Nat):Int)<((ds.length:Nat):Int))
  ·by_cases h2:Int.tmod x.From 2=1
   ·have hl:l.length=ds.length:=hp.length_eq;have g1:l[i]? =some l[i]:=List.getElem?_eq_getElem (by omega);have g2:l[i+1]? =some l[i+1]:=List.getElem?_eq_getElem (by omega);have g3:(l.set i l[i+1])[i+1]? =some l[i+1]:=by rw[List.getElem?_set_ne (by omega)];exact g2
    obtain ⟨l2,i1,i2⟩:=Qer ds hd x f (i+2) ((l.set i l[i+1]).set (i+1) l[i]) ((List.set_set_perm (show i<l.length by omega) (show i+1<l.length by omega)).trans hp) (by omega) (by omega);refine ⟨l2,?_,i2⟩
    rw[←i1]
    simp only[iter,QO,oun,QK,e1,e2,h1,h2,decide_true,cond_true,Option.bind_some,Qq,g1,g2,g3,Zi,Int.toNat_natCast]
   ·exact ⟨l,by simp only[iter,QO,oun,QK,e1,h1,h2,decide_true,decide_false,cond_true,cond_false,Option.bind_some],hp⟩
  ·exact ⟨l,by simp only[iter,QO,oun,QK,e1,h1,decide_false,cond_false,Option.bind_some],hp⟩
theorem Qb9 (ds:List Int) (hd:ds.length≤4) (x:Qp) (L:List Int) (hL:L.length=ds.length): ∀(rest:List Int) (i f:Nat) (out:List Int),L.drop i=rest→i≤ds.length→out.length≤2*i→rest.length<f →
  ∃P:List (Int×Bool),iter (QP ds x L) f (out,(i:Int))=some (out++ZL P)∧P.map Prod.fst=rest
 | _,_,0,_,_,_,_,h=>by omega
 | [],i,f+1,out,h,hi,ho,_=>by
  have h0:ds.length=i:=by
   have:=congrArg List.length h
   simp at this;omega
  have h1: ¬((i:Int)<((ds.length:Nat):Int)):=by omega
  exact ⟨[],by simp only[iter,QP,oun,QK,h1,decide_false,cond_false,Option.bind_some,ZL,List.append_nil],rfl⟩
 | d::rest,i,f+1,out,h,hi,ho,hf=>by
  have hi':i<ds.length:=by
   have:=congrArg List.length h
   simp at this;omega
  have h1:((i:Int)<((ds.length:Nat):Int)):=by omega
  have gd:L[i]? =some d:=by
   have:(L.drop i)[0]? =some d:=by rw[h];rfl
   simpa using this
  have hr:L.drop (i+1)=rest:=by rw[←List.drop_drop,h];rfl
  have e1:w64 ((i:Int)+1)=((i+1:Nat):Int):=by rw[Q7 (by omega) (by omega)];omega
  cases hb:decide ((Qe9 .u8 (x.Unload/2^((i:Int)).toNat) 1)=1) with
  | false =>
   obtain ⟨P,p1,p2⟩:=Qb9 ds hd x L hL rest (i+1) f (out++[d]) hr (by omega) (by simp;omega) (by simp at hf;omega);refine ⟨(d,false)::P,?_,by simp[p2]⟩
   rw[List.append_assoc] at p1
   simp only[iter,QP,oun,QK,h1,decide_true,cond_true,Qq,gd,Option.bind_some,e1,Jy (show out.length+[d].length≤1000000 by simp;omega),Qg0 (show i≤8 by omega),Jf (show 0≤(i:Int)∧(i:Int)≤8 by omega),hb,cond_false]
   exact p1
  | true =>
   obtain ⟨P,p1,p2⟩:=Qb9 ds hd x L hL rest (i+1) f ((out++[d])++[-1]) hr (by omega) (by simp;omega) (by simp at hf;omega);refine ⟨(d,true)::P,?_,by simp[p2]⟩
   rw[show out++[d]++[-1]++ZL P=out++ZL ((d,true)::P) by simp[ZL]] at p1
   simp only[iter,QP,oun,QK,h1,decide_true,cond_true,Qq,gd,Option.bind_some,e1,Jy (show out.length+[d].length≤1000000 by simp;omega),Jy (show (out++[d]).length+[(-1:Int)].length≤1000000 by simp;omega),Qg0 (show i≤8 by omega),Jf (show 0≤(i:Int)∧(i:Int)≤8 by omega),hb]
   exact p1
theorem QeA {F:Nat} (hF:1000≤F) (ds:List Int) (hd:ds.length≤4) (x:Qp): ∃c,YD F ds x=some c∧QfV ds c:=by
 unfold YD;obtain ⟨k,hk,hk2⟩:=QjW (Int.tdiv x.From 2);have hq:(ds.drop (k%ds.length)++ds.take (k%ds.length)).Perm ds:=List.perm_append_comm.trans (by rw[List.take_append_drop]);have r1:=QfH ds hd x k hk hk2 _ 0 (((ds.length:Nat):Int).toNat+1) [] rfl (by omega) rfl (by rw[List.drop_zero,hq.length_eq];simp);have r1':iter (Q8 ds x) (((ds.length:Nat):Int).toNat+1) ([],0)=_:=r1
 rw[r1',Option.bind_some,List.nil_append,List.drop_zero]
 obtain ⟨l2,s1,s2⟩:=Qer ds hd x F 0 _ hq (by omega) (by omega);have s1':iter (QO ds x) F (ds.drop (k%ds.length)++ds.take (k%ds.length),0)=_:=s1
 rw[s1',Option.bind_some]
 obtain ⟨P,p1,p2⟩:=Qb9 ds hd x l2 s2.length_eq _ 0 (((ds.length:Nat):Int).toNat+1) [] rfl (by omega) (by simp) (by rw[List.drop_zero,s2.length_eq];simp);have p1':iter (QP ds x l2) (((ds.length:Nat):Int).toNat+1) ([],0)=_:=p1
 rw[p1',Option.bind_some,List.nil_append]
 rw[List.drop_zero] at p2
 exact ⟨_,rfl,P,p2▸s2,rfl⟩
theorem Qhw {p:Pr} {v:Int} {ds:List Int} (h:WO p v ds=0):Qab p 0 v ds=bif (JI p v ds).1 then (⟨v,(JI p v ds).2.2⟩,(JI p v ds).2.1,0) else (⟨0,[]⟩,0,40):=by
 unfold Qab
 rw[if_pos rfl,h]
 rfl
theorem Qg3 {p:Pr} {e v:Int} {ds:List Int} (h:(if e=0 then WO p v ds else e)≠0):Qab p e v ds=(⟨0,[]⟩,0,if e=0 then WO p v ds else e):=by
 unfold Qab
 rw[decide_eq_false h]
 rfl
theorem QiK {p:Pr} {e v:Int} {ds:List Int} (hc:Qg p=some e):(if e=0 then WO p v ds else e)≠40:=by
 split
 ·exact QhR p v ds
 ·exact p22 p e hc
theorem J9 (x:Q9) (o:Qp) (hx:Wg x) (ho:JZ o): ∃F,YS F x o=some true:=by
 refine ⟨41100,?_⟩;have haw:=QiJ (Nat.le_refl 41100);unfold YS;rcases QfN x with h | ⟨h,hn,hd⟩
 ·rw[h];simp only[Option.bind_some,Bool.not_false,cond_true,haw]
 ·rw[h]
  obtain ⟨e,hc⟩:=Qgn x.Problem hn;obtain ⟨c,hcand,hC⟩:=QeA (F:=41100) (by decide) x.Demands hd o;have hcl:=hC.len
  rw[QcT (Nat.le_refl 41100) hn hc x.Vehicle (show x.Demands.length≤100 by omega)]
  simp only[Option.bind_some,Bool.not_true,cond_false,oun,hcand]
  by_cases hz:(if e=0 then WO x.Problem x.Vehicle x.Demands else e)=0
  ·obtain ⟨rfl,hchk⟩:=QeF hz;have hp:=OkP.of hn hc
   rw[QgB (by decide) hp hc hn]
   have hB:=Qfe x.Problem x.Vehicle x.Demands
   rw[Qhw hchk]
   generalize JI x.Problem x.Vehicle x.Demands=s at hB
   rcases hB with ⟨h1,h2⟩ | ⟨h1,h2,h3,h4⟩
   ·subst h1;have:=h2 c hC
    simp[this,haw]
   ·rw[h1]
    by_cases hf:(JU x.Problem ⟨x.Vehicle,c⟩).2=0
    ·have h5:=h4 c hC hf
     simp only[hf,decide_true,Bool.not_true,cond_false,cond_true,Option.bind_some,haw,QiA (F:=41100) (by decide) (show c.length≤1000 by omega)]
     rcases h5 with h5 | ⟨h5,h6⟩
     ·simp only[h5,decide_true,cond_true,Option.bind_some]
     ·have h7: ¬(s.2.1<(JU x.Problem ⟨x.Vehicle,c⟩).1):=by omega
      simp only[h7,h5,h6,decide_true,decide_false,cond_true,cond_false,Option.bind_some,Bool.not_false,Int.lt_irrefl]
    ·simp only[hf,decide_true,decide_false,Bool.not_true,Bool.not_false,cond_true,cond_false,Option.bind_some,haw]
  ·have h40:=QiK (v:=x.Vehicle) (ds:=x.Demands) hc
   rw[Qg3 hz]
   simp only[hz,h40,decide_false,cond_false,cond_true,Bool.not_false,Option.bind_some,List.length_nil,Int.natCast_zero,Int.ofNat_zero,decide_true,haw]
end Go.Proofs.Ytilbengnjgglhaa
namespace Go.Proofs.Ytilbengnjgglhaa
open Go.RowKit Go.ChangeShapes Go.WideShapes
set_option linter.unusedSimpArgs false
set_option linter.unusedVariables false
def QeI (W:World):Gh:=⟨fun b=>W.heap[b]?,W.os,W.output,W.tape⟩
theorem QhX (W:World):Inv W (QeI W) []:=⟨rfl,rfl,rfl,fun _ _ h=>h,by simp,by simp,by simp⟩
theorem QhP {W W':World} {μ:Gh} {L:List Seg} (hm:(QeI W).le μ) (h:Inv W' μ L):Below W.heap.size W W':=by
 have hb: ∀k,k<W.heap.size→W'.heap[k]? =W.heap[k]? :=fun k hk=>by
  have h1:W.heap[k]? =some W.heap[k]:=by simp[hk]
  rw[h1]
  exact h.mem k _ (hm.mem k _ h1)
 refine ⟨h.os.trans hm.os,h.tape.trans hm.tape,h.out.trans hm.out,?_,hb⟩;rcases Nat.eq_zero_or_pos W.heap.size with h0 | h0
 ·omega
 ·have h1:=hb (W.heap.size-1) (by omega);have h2:W.heap[W.heap.size-1]? =some (W.heap[W.heap.size-1]'(by omega)):=by simp
  rw[h2] at h1
  have:=YV h1
  omega
theorem Qfg {P:Program} {f:FuncId} {fn:Func} (hf:P.funcs[f]? =some fn) (hb:fn.body.isNone=false) {args:List Value} {W:World} {v:Value} (h:Fn P f args (QeI W) [] fun u _ _=>u=v) :
  Calls P f args.toArray W fun e W'=>e= .returned v∧Below W.heap.size W W':=by
 rcases h with ⟨_,h⟩ | ⟨fn',_,hf',_,hb',_⟩
 ·refine (h W (QhX W)).mono ?_;rintro e W' ⟨u,μ',L',rfl,hm,hi,rfl⟩;exact ⟨rfl,QhP hm hi⟩
 ·rw[hf] at hf'
  injection hf' with hf'
  subst hf'
  rw[hb] at hb';cases hb'
section
variable {H:Type} {enc:TypeId×Value→H} {P:Program}
theorem Qbe (hl:laidOutB P=true) {W W':World} (hb:Below W.heap.size W W') {sp:Nat→Bool}: ∀{ts:List TypeId} {vs:List Value} {ds:List (DataW H)} {ps:List MemPlace},
  (∀t∈ts,P.readableRec t=true∧t<P.types.size)→(∀p∈ps,p.block<W.heap.size)→(∀p∈ps,sp p.block=true) →
  DataW.TrodAll enc P W 0 (fun _=>true) true ts vs ds ps→DataW.TrodAll enc P W' 0 sp true ts vs ds ps
 | [],vs,ds,ps,_,_,_,h=>by
  obtain ⟨rfl,rfl,rfl⟩:=trodAll_nil h
  rfl
 | t::ts,vs,ds,ps,hr,hlt,hs,h=>by
  obtain ⟨v,vs',d,ds',p,q,rfl,rfl,rfl,hd,hrest⟩:=trodAll_cons h;refine ⟨p,q,WideElems.Trod_stays hl (hr t (by simp)).1 (hr t (by simp)).2 hd (fun x hx=>hb.same (hlt x (by simp[hx]))) (fun x hx=>hs x (by simp[hx])),?_,rfl⟩;exact Qbe hl hb (fun u hu=>hr u (by simp[hu])) (fun x hx=>hlt x (by simp[hx])) (fun x hx=>hs x (by simp[hx])) hrest
theorem Qhj {f:Func} {s:ChangeSpec} {apart fresh handsOn again:Bool} {W W':World} {args:Array Value} {ds:List (DataW H)} {before:List MemPlace} {tb:TypeId}
  (hW:DataW.Whole enc P f.params.toList s.vars apart W args.toList ds [] before) (hv:s.vars=[]) (hres:f.resultTypes= #[tb]) (htb:P.underlying tb=some .bool)
  (hfr:(s.fn H ds).results=[.lit (.bool true)]) (hfa:(s.fn H ds).args=ds) (hfv:(s.fn H ds).vars=[]) (hl:laidOutB P=true) (hr: ∀t∈f.params.toList,P.readableRec t=true∧t<P.types.size) (hb:Below W.heap.size W W') :
  s.post enc P f apart fresh handsOn again W args (.bool true) W':=by
 have hlt: ∀p∈before,p.block<W.heap.size:=fun p hp=>hW.lt p hp;have hW':=hW;obtain ⟨p,q,hA,hV,hpq,hz,hn⟩:=hW'
 rw[hv] at hV
 obtain ⟨_,rfl⟩:=trodVars_none hV
 rw[List.append_nil] at hpq
 subst hpq;have hresl:((Value.bool true).resultList f.resultTypes.size)=[.bool true]:=by rw[hres];rfl
 have hargs: ∀sp:Nat→Bool,(∀x∈before,sp x.block=true)→DataW.TrodAll enc P W' 0 sp true f.params.toList args.toList ds before:=fun sp hs=>Qbe hl hb hr hlt hs hA;have hres2: ∀(b:Nat) (sp:Nat→Bool) (hd:Bool),DataW.TrodAll enc P W' b sp hd f.resultTypes.toList [.bool true] [.lit (.bool true)] []:=fun b sp hd=>by
  rw[hres];exact trodAll_mk1 (shut_bool htb true)
 have hold: ∀p∈before,(fun b=>decide (b<W.heap.size)) p.block=true:=fun p hp=>by simpa using hlt p hp
 have hvars: ∀sp:Nat→Bool,DataW.TrodVars enc P W' sp s.vars [] []:=fun sp=>by rw[hv];rfl
 refine ⟨ds,[],before,[],before,[],hW,?_,?_,?_,World.keptBut_mono (fun p hp=>⟨hp,by simpa using hp⟩) (hb.frame (· ∈before)),fun _=> ?_⟩
 ·rw[hresl,List.append_nil,hfr];exact hres2 _ _ _
 ·rw[List.append_nil,hfa];exact hargs _ hold
 ·rw[List.append_nil,hfv];exact hvars _
 ·have A1:=hargs (fun _=>true) (fun _ _=>rfl);have R1:=hres2 0 (fun _=>true) true;refine ⟨ok_one hres rfl (okWide_bool_mk htb true),?_⟩
  rw[hresl]
  refine ⟨_,_,([]++before)++[],⟨[]++before,[],trodAll_append A1 R1,hvars _,rfl,?_,?_⟩,?_⟩
  ·intro b off hp;have hin:MemPlace.cell b off∈before:=by simpa using hp
   rw[hb.frozen (hlt _ hin)]
   exact hz b off hin
  ·intro ha;have:=hn ha
   simpa using this
  ·intro p hp _
   simpa using hp
end
end Go.Proofs.Ytilbengnjgglhaa
namespace Go.Proofs.Ytilbengnjgglhaa
open Go.RowKit Go.ChangeShapes Go.WideShapes Go.Deep
set_option linter.unusedSimpArgs false
set_option linter.unusedVariables false
theorem QdK {W:World} {L:List Seg} {a:Addr} {v:Value} (h:W.cell? a=some v):ZT (QeI W) L a v:=by
 unfold World.cell? at h
 split at h
 ·rename_i c e f hb
  split at h
  ·cases h
  ·rename_i hs
   refine ⟨by simpa using hs,c,e,f,.inl hb,by simpa using h⟩
 ·cases h
theorem QgQ {α β:Type} (Q:Nat→α→β→Prop): ∀n,(∀i,i<n→ ∃x y,Q i x y)→ ∃(l:List α) (m:List β),l.length=n∧m.length=n∧ ∀(i:Nat) (x:α) (y:β),l[i]? =some x→m[i]? =some y→Q i x y
 | 0,_=>⟨[],[],rfl,rfl,by simp⟩
 | n+1,h=>by
  obtain ⟨l,m,hl,hm,hq⟩:=QgQ Q n fun i hi=>h i (by omega);obtain ⟨x,y,hx⟩:=h n (by omega);refine ⟨l++[x],m++[y],by simp[hl],by simp[hm],fun i u v hu hv=> ?_⟩;rcases Nat.lt_or_ge i n with hi | hi
  ·rw[List.getElem?_append_left (by omega)] at hu hv
   exact hq i u v hu hv
  ·rw[List.getElem?_append_right (by omega)] at hu hv
   have:i-n=0:=by
    rcases Nat.eq_zero_or_pos (i-n) with h0 | h0
    ·exact h0
    ·rw[List.getElem?_eq_none (by simp;omega)] at hu;cases hu
   rw[hl,this] at hu
   rw[hm,this] at hv
   simp only[List.getElem?_cons_zero,Option.some.injEq] at hu hv
   have:i=n:=by omega
   subst this;subst hu;subst hv;exact hx
def Opn {α:Type} (P:Program) (W:World) (t:TypeId) (r:Rp α) (Q:α→Prop):Prop :=
 ∀(H:Type) (enc:TypeId×Value→H) (spare:Nat→Bool) (held:Bool) (fuel:Nat) (cs:List Value) (x:DataW H×List MemPlace),DataW.trod enc P W 0 spare held fuel t cs=some x→ ∃d,r.rep (QeI W) d cs∧Q d
section
variable {P:Program} {W:World} {t:TypeId}
theorem Ze {k:IntKind} (ht:P.underlying t=some (.int k)):Opn P W t (rI k) (wfI k):=by
 intro H enc spare held fuel cs x h;obtain ⟨n,h1,_,h2⟩:=DataW.trod_int ht h;exact ⟨n,h1,h2⟩
theorem QiT (ht:P.underlying t=some .string):Opn P W t QkD fun s=>s.size≤maxLen:=by
 intro H enc spare held fuel cs x h;obtain ⟨n,h1,_,h2⟩:=DataW.trod_string ht h;exact ⟨n,h1,h2⟩
theorem QaW {α:Type} {e:TypeId} {r:Rp α} {Q:α→Prop} (ht:P.underlying t=some (.slice e)) (hC:P.cellsOf e=r.sz) (he:Opn P W e r Q):Opn P W t (Qkt r) fun xs=> ∀x∈xs,Q x:=by
 intro H enc spare held fuel cs x h;rcases open_slice ht h with ⟨rfl,_⟩ | ⟨a,n,c,m,nn,D,Pl,rfl,hb,hl,hm,hmm,hx,hi⟩
 ·exact ⟨[],⟨none,0,rfl,Nat.le_refl _,Nat.zero_le _,Qr.nil⟩,by simp⟩
 ·have hrow: ∀i,i<n→ ∃(y:α) (cs:List Value),r.rep (QeI W) y cs∧Q y∧YU (QeI W) [] (a.add (i*r.sz)) cs:=fun i hin=>by
   obtain ⟨cs',hc,htr⟩:=hi i (by split at hmm<;>omega)
   rw[hC] at hc
   obtain ⟨y,hy,hq⟩:=he H enc spare held nn cs' _ htr;obtain ⟨_,hcl,hat⟩:=World.cells?_some hc;refine ⟨y,cs',hy,hq,fun j u hu=> ?_⟩;have hjk:j<r.sz:=by
    rcases Nat.lt_or_ge j r.sz with h | h
    ·exact h
    ·rw[List.getElem?_eq_none (by omega)] at hu;cases hu
   exact QdK (by rw[hat j hjk];exact hu)
  obtain ⟨xs,css,hxl,hcl,hq⟩:=QgQ (fun i y cs=>r.rep (QeI W) y cs∧Q y∧YU (QeI W) [] (a.add (i*r.sz)) cs) n hrow;refine ⟨xs,⟨some a,c,by rw[hxl],by omega,hm,css,fun i cs hcs=> ?_,by rw[hxl,hcl],fun i y cs hy hcs=>(hq i y cs hy hcs).1⟩,fun y hy=> ?_⟩
  ·have hlt:i<css.length:=by
    rcases Nat.lt_or_ge i css.length with h | h
    ·exact h
    ·rw[List.getElem?_eq_none h] at hcs;cases hcs
   obtain ⟨h1,_,h3⟩:=hq i (xs[i]'(by omega)) cs (by simp) hcs;exact ⟨r.len h1,a,rfl,h3⟩
  ·obtain ⟨i,hi'⟩:=List.getElem?_of_mem hy;have hlt:i<xs.length:=by
    rcases Nat.lt_or_ge i xs.length with h | h
    ·exact h
    ·rw[List.getElem?_eq_none h] at hi';cases hi'
   exact (hq i y (css[i]'(by omega)) hi' (by simp)).2.1
end
theorem Y1 {cs:List Value} {o a o2:Nat} (h:o+a=o2):cs.drop o=(cs.drop o).take a++cs.drop o2:=by rw[←h,←List.drop_drop,List.take_append_drop]
theorem Qet {cs:Array Value} {l:List Value} (h:cs.toList=l):cs=l.toArray:=by rw[←h]
end Go.Proofs.Ytilbengnjgglhaa
