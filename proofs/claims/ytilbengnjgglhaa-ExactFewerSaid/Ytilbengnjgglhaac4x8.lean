/- ExactFewer: for every input the given law returns true, and its arguments read as before. No condition. -/
import Derived.Test.Ytilbengnjgglhaac4x7
import Derived.Test.Ytilbengnjgglhaac4x2
import Derived.Test.Ytilbengnjgglhaac4x1
import Derived.ProofKit
import Derived.Below
import Derived.ChangeSame
import Derived.Carry
import Derived.WideKeyArgs
import Derived.Deep.Slices
import Derived.Deep.Fields
import Derived.OpenShut
namespace Go.Proofs.Ytilbengnjgglhaa
open Go.RowKit
set_option linter.unusedSimpArgs false
set_option linter.unusedVariables false
abbrev Wa:=Ql
structure At (p:Pr) (v:Ve) (w:Wa) (x:Vi) (m:Int) (l:List Vi):Prop where
 pl:w.place=⟨x.Node,x.Leave,x.Load,m⟩
 ep:w.p=p
 ev:w.v=v
 vs:w.visits=l
 ok:okC p w.legs
theorem QeL {w:Wa} {s a b:Int} (h:w.visits.length≤1000):Zx w s a b=some ⟨w.place,w.p,w.v,w.legs,w.visits++[⟨s,w.place.node,a,b,w.place.time,w.place.load⟩]⟩:=by
 unfold Zx
 rw[appO_eq (by simp;omega)]
 rfl
theorem Qgv {F:Nat} (hF:40000≤F) {p:Pr} {v:Ve} (hp:OkP p) (hv:OkV p.Road.Nodes v) {t:Qf} (hn:t.Stops.length≤40) {k:Nat} {s:Int} (hk:t.Stops[k]? =some s) {x:Vi} (hx:InV p v k x) {w:Wa} {m:Int} {l:List Vi}
  (hw:At p v w x m l) (hl:l.length≤900) (hm0:0≤m) (hm1:m≤k*6400000) :
  match JC p v (t.Stops.take k) x s with
   | .inl y=> ∃w',ZC F w t (k:Int)=some (0,w')∧At p v w' y (m+(Yh p x.Node y.Node).Meters) (l++[y])
   | .inr e=> ∃w',ZC F w t (k:Int)=some (e,w'):=by
 obtain ⟨pl,wp,wv,wl,wvs⟩:=w;obtain ⟨e1,e2,e3,e4,e5⟩:=hw
 simp only at e1 e2 e3 e4 e5
 subst e1 e2 e3 e4;have hkl:=QF hk;have h1:=hx.t0;have h2:=hx.t1;have h3:=hx.l0;have h4:=hx.l1;have hg:=hv.g1;have hsub:Jw t.Stops 0 (k:Int)=some (t.Stops.take k):=Wq (Nat.le_of_lt hkl);have hcon:Yu (t.Stops.take k) s=some (decide (s∈t.Stops.take k)):=Qck _ (by simp;omega) s;unfold ZC JC
 simp only[Qs,hk,Option.bind_some]
 by_cases hs:s= -1
 ·subst hs;have hu:=Zh hp ⟨hx.n0,hx.n1⟩ ⟨hp.u0,hp.u1⟩;have hus0:=hp.us0;have hus1:=hp.us1;obtain ⟨c,hc1,hc2⟩:=Qgb hF (w:=⟨⟨x.Node,x.Leave,x.Load,m⟩,wp,wv,wl,wvs⟩) hp e5 ⟨hx.n0,hx.n1⟩ ⟨hp.u0,hp.u1⟩
  simp only[decide_true,Bool.not_true,cond_false,cond_true,if_true,Option.bind_some,QT,hc1,oun]
  by_cases hl2:(Yh wp x.Node wp.Unload).Secs<0
  ·rw[if_pos hl2,show decide (0≤(Yh wp x.Node wp.Unload).Secs)=false by simp;omega]
   exact ⟨_,rfl⟩
  ·rw[if_neg hl2,show decide (0≤(Yh wp x.Node wp.Unload).Secs)=true by simp;omega]
   simp only[Bool.not_true,cond_false]
   rw[Ye (n:=x.Leave+(Yh wp x.Node wp.Unload).Secs) (by omega) (by omega),Ye (n:=x.Leave+(Yh wp x.Node wp.Unload).Secs+wp.UnloadSecs) (by omega) (by omega),Ye (n:=m+(Yh wp x.Node wp.Unload).Meters) (by omega) (by omega)]
   rw[QeL (by simp only[];omega)]
   exact ⟨_,rfl,⟨rfl,rfl,rfl,rfl,hc2⟩⟩
 ·simp only[show decide (s= -1)=false by simpa using hs,cond_false,cond_true,Bool.not_false,if_neg hs,Yv,Option.bind_some]
  by_cases h7:s<0∨((wp.Demands.length:Nat):Int)≤s
  ·rw[if_pos h7,show (decide (s<0)||decide (((wp.Demands.length:Nat):Int)≤s))=true by simpa using h7]
   exact ⟨_,rfl⟩
  ·rw[if_neg h7,show (decide (s<0)||decide (((wp.Demands.length:Nat):Int)≤s))=false by simpa using h7]
   simp only[cond_false,hsub,hcon,Option.bind_some]
   by_cases h6:s∈t.Stops.take k
   ·rw[if_pos h6]
    simp only[h6,decide_true,cond_true,Option.bind_some,QT]
    exact ⟨_,rfl⟩
   ·rw[if_neg h6]
    obtain ⟨i,rfl⟩: ∃i:Nat,s=i:=⟨s.toNat,by omega⟩
    have hd:wp.Demands[i]? =some wp.Demands[i]:=List.getElem?_eq_getElem (by omega)
    generalize wp.Demands[i]=d at hd
    have hd2:=hp.de d (List.mem_of_getElem? hd);have hl3:=Zh hp ⟨hx.n0,hx.n1⟩ ⟨hd2.n0,hd2.n1⟩;have a1:=hd2.g0;have a2:=hd2.w0;have a3:=hd2.w1;have a4:=hd2.w2;have a5:=hd2.s0;have a6:=hd2.s1;have a7:=hd2.g1;obtain ⟨c,hc1,hc2⟩:=Qgb hF (w:=⟨⟨x.Node,x.Leave,x.Load,m⟩,wp,wv,wl,wvs⟩) hp e5 ⟨hx.n0,hx.n1⟩ ⟨hd2.n0,hd2.n1⟩
    simp only[h6,decide_false,cond_false,Option.bind_some,QT,Qs,hd,Int.toNat_natCast,(QcV hv hd2.k0 hd2.k1).1]
    cases hc:Qf0 wv d.Kind with
    | false=>simp only[Bool.not_false,cond_true,Option.bind_some,QT,if_true];exact ⟨_,rfl⟩
    | true =>
     simp only[Bool.not_true,cond_false,Option.bind_some,Bool.true_eq_false,if_false,QT,hc1,oun]
     by_cases hl2:(Yh wp x.Node d.Node).Secs<0
     ·rw[if_pos hl2,show decide (0≤(Yh wp x.Node d.Node).Secs)=false by simp;omega]
      exact ⟨_,rfl⟩
     ·rw[if_neg hl2,show decide (0≤(Yh wp x.Node d.Node).Secs)=true by simp;omega]
      simp only[Bool.not_true,cond_false,Qs,hd,Option.bind_some]
      rw[Ye (n:=x.Leave+(Yh wp x.Node d.Node).Secs) (by omega) (by omega),Ye (n:=x.Load+d.Grams) (by omega) (by omega),Ye (n:=m+(Yh wp x.Node d.Node).Meters) (by omega) (by omega)]
      by_cases hw:d.When.To≤max (x.Leave+(Yh wp x.Node d.Node).Secs) d.When.From
      ·rw[if_pos hw]
       simp only[hw,decide_true,cond_true]
       exact ⟨_,rfl⟩
      ·rw[if_neg hw]
       by_cases hgr:wv.Grams<x.Load+d.Grams
       ·rw[if_pos hgr]
        simp only[hw,hgr,decide_true,decide_false,cond_true,cond_false]
        exact ⟨_,rfl⟩
       ·rw[if_neg hgr]
        rw[Ye (n:=max (x.Leave+(Yh wp x.Node d.Node).Secs) d.When.From+d.Service) (by omega) (by omega)]
        simp only[hw,hgr,decide_false,cond_false]
        rw[QeL (by simp only[];omega)]
        exact ⟨_,rfl,⟨rfl,rfl,rfl,rfl,hc2⟩⟩
def ZM (p:Pr) (v:Ve):List Int→List Int→Vi→(Vi×List Vi)⊕(Int×Nat)
 | _,[],x=> .inl (x,[])
 | pre,s::rest,x=>match JC p v pre x s with
  | .inr e=> .inr (e,pre.length)
  | .inl y=>match ZM p v (pre++[s]) rest y with
   | .inl z=> .inl (z.1,y::z.2)
   | .inr q=> .inr q
def Vr (p:Pr):Int→List Vi→Int
 | _,[]=>0
 | a,y::l=>(Yh p a y.Node).Meters+Vr p y.Node l
theorem QbH {p:Pr} {v:Ve}: ∀(rest pre:List Int) (x:Vi) (q:Int×Nat),ZM p v pre rest x= .inr q→q.1≠0
 | [],pre,x,q,h=>by cases h
 | s::rest,pre,x,q,h=>by
  unfold ZM at h
  split at h
  ·rename_i e he
   injection h with h;subst h
   exact Qen he
  ·rename_i y hy
   split at h
   ·cases h
   ·rename_i q' hq
    injection h with h;subst h
    exact QbH rest _ _ _ hq
theorem QaQ {p:Pr} {v:Ve} (hp:OkP p) (hv:OkV p.Road.Nodes v): ∀(rest pre:List Int) (x:Vi) (z:Vi×List Vi),InV p v pre.length x→ZM p v pre rest x= .inl z→InV p v (pre.length+rest.length) z.1∧z.2.length=rest.length∧0≤Vr p x.Node z.2∧Vr p x.Node z.2≤rest.length*6400000
 | [],pre,x,z,hx,h=>by
  injection h with h;subst h
  exact ⟨hx,rfl,Int.le_refl _,by simp[Vr]⟩
 | s::rest,pre,x,z,hx,h=>by
  unfold ZM at h
  split at h
  ·cases h
  ·rename_i y hy
   obtain ⟨h1,h2,_⟩:=QaH hp hv hx hy
   split at h
   ·rename_i z' hz
    injection h with h;subst h
    have h3:=QaQ hp hv rest (pre++[s]) y z' (by simpa using h1) hz;have h4:=Zh hp ⟨hx.n0,hx.n1⟩ ⟨h1.n0,h1.n1⟩
    simp only[List.length_append,List.length_singleton,List.length_cons,Vr] at h3 ⊢
    refine ⟨by rw[show pre.length+(rest.length+1)=pre.length+1+rest.length by omega];exact h3.1,by omega,by omega,by omega⟩
   ·cases h
theorem Qeo {t:List Int} {k:Nat} {s:Int} {rest:List Int} (h:t.drop k=s::rest):t[k]? =some s∧t.take (k+1)=t.take k++[s]∧t.drop (k+1)=rest:=by
 have h1:t[k]? =some s:=by
  have:(t.drop k)[0]? =some s:=by rw[h];rfl
  rw[List.getElem?_drop] at this
  simpa using this
 refine ⟨h1,V9 h1,?_⟩
 rw[←List.drop_drop,h]
 rfl
theorem Qio {p:Pr} {v:Ve} (hp:OkP p) (hv:OkV p.Road.Nodes v) {t:Qf} (hn:t.Stops.length≤40): ∀(rest:List Int) (k:Nat) (x:Vi) (out:List Vi) (n:Nat),t.Stops.drop k=rest→k≤t.Stops.length→rest.length<n→InV p v k x→out.length=k →
  iter (Yp p t v) n (x.Stop,x.Node,x.Arrive,x.Start,x.Leave,x.Load,out,(k:Int))=some (match ZM p v (t.Stops.take k) rest x with
   | .inl z=> .inl (z.1.Stop,z.1.Node,z.1.Arrive,z.1.Start,z.1.Leave,z.1.Load,out++z.2)
   | .inr q=> .inr ([],q.1,((q.2:Nat):Int))):=by
 intro rest
 induction rest with
 | nil =>
  intro k x out n hd hk hn2 hx ho;obtain ⟨n,rfl⟩: ∃f,n=f+1:=⟨n-1,by omega⟩
  have hk2:k=t.Stops.length:=by
   have:=congrArg List.length hd
   simp at this;omega
  rw[iter]
  simp only[Yp,oun]
  rw[show decide ((k:Int)<((t.Stops.length:Nat):Int))=false by simp;omega]
  simp only[cond_false,Option.bind_some,QT,ZM,List.append_nil]
 | cons s rest ih =>
  intro k x out n hd hk hn2 hx ho;obtain ⟨n,rfl⟩: ∃f,n=f+1:=⟨n-1,by omega⟩
  obtain ⟨h1,h2,h3⟩:=Qeo hd;have hkl:=QF h1
  rw[iter,Qip hp hv hn h1 hx out (by omega)]
  unfold ZM;cases hs:JC p v (t.Stops.take k) x s with
  | inr e =>
   simp only[Option.bind_some,QT]
   rw[ZH (Nat.le_of_lt hkl)]
  | inl y =>
   simp only[Option.bind_some,QT]
   have:=ih (k+1) y (out++[y]) n h3 (by omega) (by simp only[List.length_cons] at hn2;omega) (QaH hp hv hx hs).1 (by simp;omega)
   rw[this,h2]
   cases ZM p v (t.Stops.take k++[s]) rest y with
   | inl z=>simp
   | inr q=>rfl
theorem Qii {F:Nat} (hF:40000≤F) {p:Pr} {v:Ve} (hp:OkP p) (hv:OkV p.Road.Nodes v) {t:Qf} (hn:t.Stops.length≤40): ∀(rest:List Int) (k:Nat) (x:Vi) (w:Wa) (m:Int) (l:List Vi) (n:Nat),t.Stops.drop k=rest→k≤t.Stops.length→rest.length<n→InV p v k x→At p v w x m l→l.length=k→0≤m→m≤k*6400000 →
  match ZM p v (t.Stops.take k) rest x with
   | .inl z=> ∃w',iter (YV F t) n (w,0,(k:Int))=some (w',0,((t.Stops.length:Nat):Int))∧At p v w' z.1 (m+Vr p x.Node z.2) (l++z.2)
   | .inr q=> ∃w',iter (YV F t) n (w,0,(k:Int))=some (w',q.1,((q.2:Nat):Int)):=by
 intro rest
 induction rest with
 | nil =>
  intro k x w m l n hd hk hn2 hx hw ho hm0 hm1;obtain ⟨n,rfl⟩: ∃f,n=f+1:=⟨n-1,by omega⟩
  have hk2:k=t.Stops.length:=by
   have:=congrArg List.length hd
   simp at this;omega
  refine ⟨w,?_,by simpa [Vr] using hw⟩
  rw[iter]
  simp only[YV,oun]
  rw[show decide ((k:Int)<((t.Stops.length:Nat):Int))=false by simp;omega]
  simp only[cond_false,Option.bind_some,QT,hk2]
 | cons s rest ih =>
  intro k x w m l n hd hk hn2 hx hw ho hm0 hm1;obtain ⟨n,rfl⟩: ∃f,n=f+1:=⟨n-1,by omega⟩
  obtain ⟨h1,h2,h3⟩:=Qeo hd;have hkl:=QF h1;have hst:=Qgv hF hp hv hn h1 hx hw (by omega) hm0 hm1;have hk2:decide ((k:Int)<((t.Stops.length:Nat):Int))=true:=by simp;omega
  unfold ZM;cases hs:JC p v (t.Stops.take k) x s with
  | inr e =>
   rw[hs] at hst
   obtain ⟨w',hw'⟩:=hst;refine ⟨w',?_⟩
   rw[iter]
   simp only[YV,oun,hk2,cond_true,hw',Option.bind_some]
   rw[show decide (e=0)=false by simpa using Qen hs]
   simp only[Bool.not_false,cond_true,Option.bind_some,QT]
   rw[ZH (Nat.le_of_lt hkl)]
  | inl y =>
   rw[hs] at hst
   obtain ⟨w',hw',hat⟩:=hst;have hin:=QaH hp hv hx hs;have hlb:=Zh hp ⟨hx.n0,hx.n1⟩ ⟨hin.1.n0,hin.1.n1⟩;have:=ih (k+1) y w' (m+(Yh p x.Node y.Node).Meters) (l++[y]) n h3 (by omega) (by simp only[List.length_cons] at hn2;omega) hin.1 hat (by simp;omega) (by omega) (by omega)
   rw[h2] at this
   have hb:iter (YV F t) (n+1) (w,0,(k:Int))=iter (YV F t) n (w',0,((k+1:Nat):Int)):=by
    rw[iter]
    simp only[YV,oun,hk2,cond_true,hw',Option.bind_some,decide_true,Bool.not_true,cond_false,QT]
    rw[Ji (by omega)]
   rw[hb]
   simp only[]
   cases hf:ZM p v (t.Stops.take k++[s]) rest y with
   | inl z =>
    rw[hf] at this
    obtain ⟨w2,g1,g2⟩:=this;refine ⟨w2,g1,?_⟩
    simp only[Vr]
    rw[show m+((Yh p x.Node y.Node).Meters+Vr p y.Node z.2)=m+(Yh p x.Node y.Node).Meters+Vr p y.Node z.2 by omega,show l++y::z.2=l++[y]++z.2 by simp]
    exact g2
   | inr q =>
    rw[hf] at this
    exact this
def J7 (p:Pr) (v:Ve) (x:Vi):Vi⊕Int :=
 if (Yh p x.Node v.Depot).Secs<0 then .inr 22
 else if x.Load≠0 then .inr 20
 else if v.Shift.To≤x.Leave+(Yh p x.Node v.Depot).Secs then .inr 19
 else .inl ⟨-2,v.Depot,x.Leave+(Yh p x.Node v.Depot).Secs,x.Leave+(Yh p x.Node v.Depot).Secs,x.Leave+(Yh p x.Node v.Depot).Secs,0⟩
theorem Qb3 {p:Pr} {v:Ve} {x:Vi} {e:Int} (hs:J7 p v x= .inr e):e≠0:=by
 unfold J7 at hs
 repeat' split at hs
 all_goals first | (cases hs;done) | (injection hs with hs;subst hs;decide)
theorem Qim {p:Pr} {v:Ve} (hp:OkP p) (hv:OkV p.Road.Nodes v) {k:Nat} (hk:k≤1000) {x:Vi} (hx:InV p v k x):ZP p v x=match J7 p v x with
  | .inl y=>some (y,0)
  | .inr e=>some (⟨0,0,0,0,0,0⟩,e):=by
 have h1:=hx.t0;have h2:=hx.t1;have h3:=hx.l0;have hl:=Zh hp ⟨hx.n0,hx.n1⟩ ⟨hv.d0,hv.d1⟩;unfold ZP J7
 rw[QcS hp ⟨hx.n0,hx.n1⟩ ⟨hv.d0,hv.d1⟩]
 simp only[Option.bind_some]
 by_cases c1:(Yh p x.Node v.Depot).Secs<0
 ·rw[if_pos c1];simp only[c1,decide_true,cond_true]
 ·rw[if_neg c1,Ye (n:=x.Leave+(Yh p x.Node v.Depot).Secs) (by omega) (by omega)]
  simp only[c1,decide_false,cond_false]
  by_cases c2:x.Load≠0
  ·rw[if_pos c2,show decide (0<x.Load)=true by simp;omega];rfl
  ·rw[if_neg c2,show decide (0<x.Load)=false by simp;omega]
   simp only[cond_false]
   by_cases c3:v.Shift.To≤x.Leave+(Yh p x.Node v.Depot).Secs
   ·rw[if_pos c3];simp only[c3,decide_true,cond_true]
   ·rw[if_neg c3];simp only[c3,decide_false,cond_false]
theorem Qih {F:Nat} (hF:40000≤F) {p:Pr} {v:Ve} (hp:OkP p) (hv:OkV p.Road.Nodes v) {k:Nat} (hk:k≤1000) {x:Vi} (hx:InV p v k x) {w:Wa} {m:Int} {l:List Vi} (hw:At p v w x m l) (hl:l.length≤900) (hm0:0≤m) (hm1:m≤k*6400000):match J7 p v x with
  | .inl y=> ∃w',ZY F w=some (0,w')∧w'.visits=l++[y]∧w'.place.meters=m+(Yh p x.Node v.Depot).Meters
  | .inr e=> ∃w',ZY F w=some (e,w'):=by
 obtain ⟨pl,wp,wv,wl,wvs⟩:=w;obtain ⟨e1,e2,e3,e4,e5⟩:=hw
 simp only at e1 e2 e3 e4 e5
 subst e1 e2 e3 e4;have h1:=hx.t0;have h2:=hx.t1;have h3:=hx.l0;have hlb:=Zh hp ⟨hx.n0,hx.n1⟩ ⟨hv.d0,hv.d1⟩;obtain ⟨c,hc1,hc2⟩:=Qgb hF (w:=⟨⟨x.Node,x.Leave,x.Load,m⟩,wp,wv,wl,wvs⟩) hp e5 ⟨hx.n0,hx.n1⟩ ⟨hv.d0,hv.d1⟩;unfold ZY J7
 simp only[hc1,Option.bind_some,oun]
 by_cases c1:(Yh wp x.Node wv.Depot).Secs<0
 ·rw[if_pos c1,show decide (0≤(Yh wp x.Node wv.Depot).Secs)=false by simp;omega]
  exact ⟨_,rfl⟩
 ·rw[if_neg c1,show decide (0≤(Yh wp x.Node wv.Depot).Secs)=true by simp;omega]
  simp only[Bool.not_true,cond_false]
  rw[Ye (n:=x.Leave+(Yh wp x.Node wv.Depot).Secs) (by omega) (by omega),Ye (n:=m+(Yh wp x.Node wv.Depot).Meters) (by omega) (by omega)]
  by_cases c2:x.Load≠0
  ·rw[if_pos c2,show decide (x.Load=0)=false by simpa using c2]
   exact ⟨_,rfl⟩
  ·rw[if_neg c2]
   simp only[ne_eq,Decidable.not_not] at c2
   simp only[c2,decide_true,Bool.not_true,cond_false]
   by_cases c3:wv.Shift.To≤x.Leave+(Yh wp x.Node wv.Depot).Secs
   ·rw[if_pos c3];simp only[c3,decide_true,cond_true];exact ⟨_,rfl⟩
   ·rw[if_neg c3];simp only[c3,decide_false,cond_false]
    rw[QeL (by simp only[];omega)]
    exact ⟨_,rfl,rfl,rfl⟩
end Go.Proofs.Ytilbengnjgglhaa
namespace Go.Proofs.Ytilbengnjgglhaa
open Go.RowKit
set_option linter.unusedSimpArgs false
set_option linter.unusedVariables false
def x0 (v:Ve):Vi:=⟨0,v.Depot,0,0,v.Shift.From,0⟩
theorem QdE {p:Pr} {v:Ve} (hv:OkV p.Road.Nodes v):InV p v 0 (x0 v):=by
 have h1:=hv.s0;have h2:=hv.s1;have h3:=hv.s2;have h4:=hv.g0;exact ⟨hv.d0,hv.d1,h1,by simp only[x0];omega,Int.le_refl _,by simp only[x0];omega⟩
def Wc (p:Pr) (t:Qf):(Vi×List Vi×Ve)⊕(Int×Int) :=
 if t.Vehicle<0∨((p.Vehicles.length:Nat):Int)≤t.Vehicle then .inr (7,0)
 else if 40<t.Stops.length then .inr (8,0)
 else match p.Vehicles[t.Vehicle.toNat]? with
  | none=> .inr (7,0)
  | some v=>match ZM p v [] t.Stops (x0 v) with
   | .inr q=> .inr (q.1,((q.2:Nat):Int))
   | .inl z=>match J7 p v z.1 with
    | .inr e=> .inr (e,((t.Stops.length:Nat):Int))
    | .inl y=> .inl (z.1,z.2++[y],v)
def QiJ (p:Pr) (t:Qf):List Vi×Int×Int:=match Wc p t with
 | .inl z=>(z.2.1,0,0)
 | .inr q=>([],q.1,q.2)
def JA (p:Pr) (t:Qf):Int×Int:=match Wc p t with
 | .inl z=>(Vr p z.2.2.Depot z.2.1,0)
 | .inr q=>(0,q.1)
theorem Qcd {p:Pr} {t:Qf} {q:Int×Int} (h:Wc p t= .inr q):q.1≠0:=by
 unfold Wc at h
 split at h
 ·injection h with h;subst h;decide
 ·split at h
  ·injection h with h;subst h;decide
  ·split at h
   ·injection h with h;subst h;decide
   ·split at h
    ·rename_i q' hq
     injection h with h;subst h
     exact QbH _ _ _ _ hq
    ·split at h
     ·rename_i e he
      injection h with h;subst h
      exact Qb3 he
     ·cases h
theorem Qd9 {p:Pr} {v:Ve} (y:Vi): ∀(rest pre:List Int) (x:Vi) (z:Vi×List Vi),ZM p v pre rest x= .inl z→Vr p x.Node (z.2++[y])=Vr p x.Node z.2+(Yh p z.1.Node y.Node).Meters
 | [],pre,x,z,h=>by
  injection h with h;subst h
  simp[Vr]
 | s::rest,pre,x,z,h=>by
  unfold ZM at h
  split at h
  ·cases h
  ·split at h
   ·rename_i y' _ z' hz
    injection h with h;subst h
    have:=Qd9 y rest _ _ _ hz
    simp only[List.cons_append,Vr] at this ⊢
    omega
   ·cases h
theorem Qil {p:Pr} (hp:OkP p) (hc:Qj p=some 0) (t:Qf):JF p t=some (QiJ p t):=by
 unfold JF QiJ Wc
 rw[hc]
 simp only[Option.bind_some,decide_true,Bool.not_true,cond_false,Yv]
 by_cases h1:t.Vehicle<0∨((p.Vehicles.length:Nat):Int)≤t.Vehicle
 ·rw[if_pos h1,show (decide (t.Vehicle<0)||decide (((p.Vehicles.length:Nat):Int)≤t.Vehicle))=true by simpa using h1]
  rfl
 ·rw[if_neg h1,show (decide (t.Vehicle<0)||decide (((p.Vehicles.length:Nat):Int)≤t.Vehicle))=false by simpa using h1]
  simp only[cond_false]
  by_cases h2:40<t.Stops.length
  ·rw[if_pos h2,show decide ((40:Int)<((t.Stops.length:Nat):Int))=true by simp;omega]
   rfl
  ·rw[if_neg h2,show decide ((40:Int)<((t.Stops.length:Nat):Int))=false by simp;omega]
   simp only[cond_false]
   obtain ⟨i,hi⟩: ∃i:Nat,t.Vehicle=i:=⟨t.Vehicle.toNat,by omega⟩
   have hd:p.Vehicles[i]? =some p.Vehicles[i]:=List.getElem?_eq_getElem (by omega)
   generalize p.Vehicles[i]=v at hd
   have hv:=hp.ve v (List.mem_of_getElem? hd)
   rw[hi]
   simp only[Qs,hd,Option.bind_some,Int.toNat_natCast]
   have hl:=Qio hp hv (t:=t) (by omega) t.Stops 0 (x0 v) [] (t.Stops.length+1) rfl (Nat.zero_le _) (by simp) (QdE hv) rfl
   rw[List.take_zero] at hl
   have hl2:iter (Yp p t v) (t.Stops.length+1) (0,v.Depot,0,0,v.Shift.From,0,[],0)=_:=hl
   rw[hl2]
   cases hf:ZM p v [] t.Stops (x0 v) with
   | inr q=>rfl
   | inl z =>
    have hz:=QaQ hp hv t.Stops [] _ _ (QdE hv) hf
    simp only[List.length_nil,Nat.zero_add] at hz
    simp only[Option.bind_some,QT,oun,List.nil_append]
    have hh:ZP p v ⟨z.1.Stop,z.1.Node,z.1.Arrive,z.1.Start,z.1.Leave,z.1.Load⟩=_:=Qim hp hv (k:=t.Stops.length) (by omega) hz.1
    rw[hh]
    cases hm:J7 p v z.1 with
    | inr e =>
     simp only[Option.bind_some,oun]
     rw[show decide (e=0)=false by simpa using Qb3 hm]
     rfl
    | inl y =>
     simp only[Option.bind_some,oun,decide_true,Bool.not_true,cond_false]
     rw[appO_eq (by simp;omega)]
     rfl
theorem Qgf {F:Nat} (hF:40000≤F) {p:Pr} (hp:OkP p) (t:Qf):match Wc p t with
  | .inl z=> ∃w,JY F p t=some (some w,0,0)∧w.visits=z.2.1∧w.place.meters=Vr p z.2.2.Depot z.2.1
  | .inr q=>JY F p t=some (none,q.1,q.2):=by
 unfold JY Wc
 simp only[Option.bind_some,Yv]
 by_cases h1:t.Vehicle<0∨((p.Vehicles.length:Nat):Int)≤t.Vehicle
 ·rw[if_pos h1,show (decide (t.Vehicle<0)||decide (((p.Vehicles.length:Nat):Int)≤t.Vehicle))=true by simpa using h1]
  rfl
 ·rw[if_neg h1,show (decide (t.Vehicle<0)||decide (((p.Vehicles.length:Nat):Int)≤t.Vehicle))=false by simpa using h1]
  simp only[cond_false]
  by_cases h2:40<t.Stops.length
  ·rw[if_pos h2,show decide ((40:Int)<((t.Stops.length:Nat):Int))=true by simp;omega]
   rfl
  ·rw[if_neg h2,show decide ((40:Int)<((t.Stops.length:Nat):Int))=false by simp;omega]
   simp only[cond_false]
   obtain ⟨i,hi⟩: ∃i:Nat,t.Vehicle=i:=⟨t.Vehicle.toNat,by omega⟩
   have hd:p.Vehicles[i]? =some p.Vehicles[i]:=List.getElem?_eq_getElem (by omega)
   generalize p.Vehicles[i]=v at hd
   have hv:=hp.ve v (List.mem_of_getElem? hd)
   rw[hi]
   simp only[Qs,hd,Option.bind_some,Int.toNat_natCast]
   have hl:=Qii hF hp hv (t:=t) (by omega) t.Stops 0 (x0 v) ⟨⟨v.Depot,v.Shift.From,0,0⟩,p,v,[],[]⟩ 0 [] (t.Stops.length+1) rfl (Nat.zero_le _) (by simp) (QdE hv) ⟨rfl,rfl,rfl,rfl,fun n L h=>by cases h⟩ rfl (Int.le_refl _) (by simp)
   rw[List.take_zero] at hl
   cases hf:ZM p v [] t.Stops (x0 v) with
   | inr q =>
    rw[hf] at hl
    obtain ⟨w',hw'⟩:=hl
    rw[show ((0:Nat):Int)=(0:Int) from rfl] at hw'
    simp only[hw',Option.bind_some,oun]
    rw[show decide (q.1=0)=false by simpa using QbH _ _ _ _ hf]
    simp only[cond_false,Option.bind_some,oun]
    rw[show decide (q.1=0)=false by simpa using QbH _ _ _ _ hf]
    rfl
   | inl z =>
    rw[hf] at hl
    obtain ⟨w',hw',hat⟩:=hl
    rw[show ((0:Nat):Int)=(0:Int) from rfl] at hw'
    have hz:=QaQ hp hv t.Stops [] _ _ (QdE hv) hf
    simp only[List.length_nil,Nat.zero_add] at hz
    simp only[hw',Option.bind_some,oun,decide_true,cond_true]
    have hb:=Qih hF hp hv (k:=t.Stops.length) (by omega) hz.1 hat (by simp;omega) (by omega) (by omega);cases hm:J7 p v z.1 with
    | inr e =>
     rw[hm] at hb
     obtain ⟨w2,hw2⟩:=hb
     simp only[hw2,Option.bind_some,oun]
     rw[show decide (e=0)=false by simpa using Qb3 hm]
     rfl
    | inl y =>
     rw[hm] at hb
     obtain ⟨w2,hw2,g1,g2⟩:=hb
     simp only[hw2,Option.bind_some,oun,decide_true,Bool.not_true,cond_false]
     refine ⟨w2,rfl,by simpa using g1,?_⟩
     rw[g2]
     have h5:=Qd9 y _ _ _ _ hf;have h6:y.Node=v.Depot:=by
      unfold J7 at hm
      repeat' split at hm
      all_goals first | (cases hm;done) | (injection hm with hm;subst hm;rfl)
     rw[h6] at h5
     show 0+Vr p (x0 v).Node z.2+_=Vr p (x0 v).Node (z.2++[y])
     omega
theorem QiK {F:Nat} (hF:40000≤F) {p:Pr} (hp:OkP p) (hc:Qj p=some 0) (hn:p.Road.Edges.length≤600) (t:Qf):VN F p t=some (JA p t):=by
 unfold VN JA
 rw[Qa9 (by omega) p hn,hc]
 simp only[Option.bind_some,decide_true,Bool.not_true,cond_false]
 have:=Qgf hF hp t;cases h:Wc p t with
 | inr q =>
  rw[h] at this
  simp only[this,Option.bind_some,oun]
  rw[show decide (q.1=0)=false by simpa using Qcd h]
  rfl
 | inl z =>
  rw[h] at this
  obtain ⟨w,h1,_,h3⟩:=this
  simp only[h1,Option.bind_some,oun,decide_true,Bool.not_true,cond_false,h3]
theorem Qdf {p:Pr} {v:Ve} (hp:OkP p) (hv:OkV p.Road.Nodes v): ∀(rest pre:List Int) (x:Vi) (z:Vi×List Vi),InV p v pre.length x→ZM p v pre rest x= .inl z→ ∀y∈z.2,0≤y.Node∧y.Node<p.Road.Nodes
 | [],pre,x,z,hx,h=>by
  injection h with h;subst h
  intro y hy;cases hy
 | s::rest,pre,x,z,hx,h=>by
  unfold ZM at h
  split at h
  ·cases h
  ·rename_i y hy
   obtain ⟨h1,_,_⟩:=QaH hp hv hx hy
   split at h
   ·rename_i z' hz
    injection h with h;subst h
    have h3:=Qdf hp hv rest (pre++[s]) y z' (by simpa using h1) hz;intro u hu;rcases List.mem_cons.1 hu with h4 | h4
    ·subst h4;exact ⟨h1.n0,h1.n1⟩
    ·exact h3 u h4
   ·cases h
theorem Qgi {p:Pr} (hp:OkP p) (L:List Vi) (hL:L.length≤100) (hnd: ∀y∈L,0≤y.Node∧y.Node<p.Road.Nodes): ∀(rest:List Vi) (k:Nat) (sum a:Int) (n:Nat),L.drop k=rest→k≤L.length→rest.length<n→0≤a∧a<p.Road.Nodes→0≤sum→sum≤k*6400000 →
  iter (YT p L) n (sum,a,(k:Int))=some (sum+Vr p a rest):=by
 intro rest
 induction rest with
 | nil =>
  intro k sum a n hd hk hn ha hs0 hs1;obtain ⟨n,rfl⟩: ∃f,n=f+1:=⟨n-1,by omega⟩
  have hk2:k=L.length:=by
   have:=congrArg List.length hd
   simp at this;omega
  rw[iter]
  simp only[YT,oun]
  rw[show decide ((k:Int)<((L.length:Nat):Int))=false by simp;omega]
  simp[Vr,QT]
 | cons y rest ih =>
  intro k sum a n hd hk hn ha hs0 hs1;obtain ⟨n,rfl⟩: ∃f,n=f+1:=⟨n-1,by omega⟩
  have h1:L[k]? =some y:=by
   have:(L.drop k)[0]? =some y:=by rw[hd];rfl
   rw[List.getElem?_drop] at this
   simpa using this
  have h3:L.drop (k+1)=rest:=by rw[←List.drop_drop,hd];rfl
  have hkl:=QF h1;have hy:=hnd y (List.mem_of_getElem? h1);have hl:=Zh hp ha hy
  rw[iter]
  simp only[YT,oun]
  rw[show decide ((k:Int)<((L.length:Nat):Int))=true by simp;omega]
  simp only[cond_true,Qs,h1,Option.bind_some,QcS hp ha hy,QT]
  rw[Ji (by omega),Ye (by omega) (by omega)]
  rw[ih (k+1) _ _ n h3 (by omega) (by simp only[List.length_cons] at hn;omega) hy (by omega) (by omega)]
  simp only[Vr]
  congr 1
  omega
theorem Qik {p:Pr} (hp:OkP p) (hc:Qj p=some 0) (t:Qf):JE p t=some (JA p t):=by
 unfold JE
 rw[Qil hp hc]
 unfold QiJ JA;cases h:Wc p t with
 | inr q =>
  simp only[Option.bind_some,oun]
  rw[show decide (q.1=0)=false by simpa using Qcd h]
  rfl
 | inl z =>
  simp only[Option.bind_some,oun,decide_true,Bool.not_true,cond_false]
  unfold Wc at h
  split at h
  ·cases h
  ·rename_i h1
   split at h
   ·cases h
   ·rename_i h2
    obtain ⟨i,hi⟩: ∃i:Nat,t.Vehicle=i:=⟨t.Vehicle.toNat,by omega⟩
    have hd:p.Vehicles[i]? =some p.Vehicles[i]:=List.getElem?_eq_getElem (by omega)
    generalize p.Vehicles[i]=v at hd
    have hv:=hp.ve v (List.mem_of_getElem? hd)
    rw[hi] at h ⊢
    simp only[Qs,hd,Option.bind_some,Int.toNat_natCast] at h ⊢
    cases hf:ZM p v [] t.Stops (x0 v) with
    | inr q=>rw[hf] at h;cases h
    | inl w =>
     rw[hf] at h
     simp only[] at h
     cases hm:J7 p v w.1 with
     | inr e=>rw[hm] at h;cases h
     | inl y =>
      rw[hm] at h
      injection h with h;subst h
      have hz:=QaQ hp hv t.Stops [] _ _ (QdE hv) hf;have hnn:=Qdf hp hv t.Stops [] _ _ (QdE hv) hf
      simp only[List.length_nil,Nat.zero_add] at hz
      have h6:y.Node=v.Depot:=by
       unfold J7 at hm
       repeat' split at hm
       all_goals first | (cases hm;done) | (injection hm with hm;subst hm;rfl)
      have:=Qgi hp (w.2++[y]) (by simp;omega) (fun u hu=>by
       rcases List.mem_append.1 hu with h7 | h7
       ·exact hnn u h7
       ·rw[List.mem_singleton.1 h7,h6];exact ⟨hv.d0,hv.d1⟩) (w.2++[y]) 0 0 v.Depot ((w.2++[y]).length+1) rfl (Nat.zero_le _) (by simp) ⟨hv.d0,hv.d1⟩ (Int.le_refl _) (by simp)
      rw[show ((0:Nat):Int)=(0:Int) from rfl,Int.zero_add] at this
      show Option.bind (iter (YT p (w.2++[y])) ((w.2++[y]).length+1) (0,v.Depot,0)) _=_
      rw[this]
      rfl
end Go.Proofs.Ytilbengnjgglhaa
namespace Go.Proofs.Ytilbengnjgglhaa
open Go.RowKit
set_option linter.unusedSimpArgs false
set_option linter.unusedVariables false
structure Fol (p:Pr) (t:Qf) (v:Ve) (z:Vi×List Vi) (y:Vi):Prop where
 t0:0≤t.Vehicle
 t1:t.Vehicle<((p.Vehicles.length:Nat):Int)
 sl:t.Stops.length≤40
 hv:QM p.Vehicles t.Vehicle=some v
 fol:ZM p v [] t.Stops (x0 v)= .inl z
 hom:J7 p v z.1= .inl y
theorem QiG {p:Pr} {t:Qf} {u:Vi×List Vi×Ve} (h:Wc p t= .inl u): ∃z y,Fol p t u.2.2 z y∧u.1=z.1∧u.2.1=z.2++[y]:=by
 unfold Wc at h
 split at h
 ·cases h
 ·rename_i h1
  split at h
  ·cases h
  ·rename_i h2
   split at h
   ·cases h
   ·rename_i v hv
    split at h
    ·cases h
    ·rename_i z hf
     split at h
     ·cases h
     ·rename_i y hm
      injection h with h;subst h
      exact ⟨z,y,⟨by omega,by omega,by omega,by unfold QM;rw[if_pos (by omega)];exact hv,hf,hm⟩,rfl,rfl⟩
end Go.Proofs.Ytilbengnjgglhaa
namespace Go.Proofs.Ytilbengnjgglhaa
open Go.RowKit
set_option linter.unusedSimpArgs false
set_option linter.unusedVariables false
theorem Vj {p:Pr} {v:Ve} (b:List Int): ∀(a pre:List Int) (x:Vi),ZM p v pre (a++b) x=match ZM p v pre a x with
  | .inr q=> .inr q
  | .inl z=>match ZM p v (pre++a) b z.1 with
   | .inr q=> .inr q
   | .inl z2=> .inl (z2.1,z.2++z2.2)
 | [],pre,x=>by
  simp only[List.nil_append,ZM,List.append_nil]
  cases ZM p v pre b x<;>rfl
 | s::a,pre,x=>by
  simp only[List.cons_append,ZM]
  cases JC p v pre x s with
  | inr e=>rfl
  | inl y =>
   simp only[]
   rw[Vj b a (pre++[s]) y]
   cases ZM p v (pre++[s]) a y with
   | inr q=>rfl
   | inl z =>
    simp only[List.append_assoc,List.singleton_append]
    cases ZM p v (pre++s::a) b z.1<;>rfl
theorem QiF {p:Pr} {t:Qf} {v:Ve} (h0:0≤t.Vehicle) (h1:t.Vehicle<((p.Vehicles.length:Nat):Int)) (hv:QM p.Vehicles t.Vehicle=some v) (hs:t.Stops.length≤40) :
  Wc p t=match ZM p v [] t.Stops (x0 v) with
   | .inr q=> .inr (q.1,((q.2:Nat):Int))
   | .inl z=>match J7 p v z.1 with
    | .inr e=> .inr (e,((t.Stops.length:Nat):Int))
    | .inl y=> .inl (z.1,z.2++[y],v):=by
 unfold Wc
 rw[if_neg (by omega),if_neg (by omega)]
 unfold QM at hv
 rw[if_pos h0] at hv
 rw[hv]<;>rfl
end Go.Proofs.Ytilbengnjgglhaa
namespace Go.Proofs.Ytilbengnjgglhaa
open Go.RowKit
set_option linter.unusedSimpArgs false
set_option linter.unusedVariables false
theorem Wk.join {r:Rd_} {a b:Int} {k:Nat} {l:Lg} (h:Wk r a k b l): ∀{k':Nat} {c:Int} {l':Lg},Wk r b k' c l'→Wk r a (k+k') c ⟨l.Secs+l'.Secs,l.Meters+l'.Meters⟩
 | _,_,_,.nil=>by simpa using h
 | _,_,_,.cons (l:=m) (x:=x) h2 hx ha=>by
  have h3:=Wk.join h h2;have h4:=Wk.cons h3 hx ha;unfold Zl at h4 ⊢
  simp only[] at h4 ⊢
  rw[show l.Secs+(m.Secs+x.Secs)=l.Secs+m.Secs+x.Secs by omega,show l.Meters+(m.Meters+x.Meters)=l.Meters+m.Meters+x.Meters by omega]
  exact h4
theorem tri {p:Pr} (hp:OkP p) {a b c:Int} (ha:0≤a∧a<p.Road.Nodes) (hb:0≤b∧b<p.Road.Nodes) (hc:0≤c∧c<p.Road.Nodes) (h1:0≤(Yh p a b).Secs) (h2:0≤(Yh p b c).Secs) :
  0≤(Yh p a c).Secs∧(Yh p a c).Secs≤(Yh p a b).Secs+(Yh p b c).Secs:=by
 have hr:=OkR.of hp.road;obtain ⟨La,_⟩:=QaS hp ha;obtain ⟨Lb,_⟩:=QaS hp hb;obtain ⟨k,_,w1,_⟩:=QaX hr (La.lb b hb.1 hb.2) (Qb9 h1);obtain ⟨k',_,w2,_⟩:=QaX hr (Lb.lb c hc.1 hc.2) (Qb9 h2);have h3:=La.best _ _ _ (w1.join w2);have h4:=h3.2;unfold Lg.le at h4;refine ⟨h3.1,?_⟩;unfold Yh at h1 h2 ⊢
 simp only[] at h4
 omega
structure Lax (p:Pr) (x' x:Vi):Prop where
 leg: ∀b,0≤b→b<p.Road.Nodes→0≤(Yh p x.Node b).Secs→0≤(Yh p x'.Node b).Secs∧x'.Leave+(Yh p x'.Node b).Secs≤x.Leave+(Yh p x.Node b).Secs
 load:x'.Load≤x.Load
theorem Lax.same {p:Pr} {x' x:Vi} (h1:x'.Node=x.Node) (h2:x'.Leave≤x.Leave) (h3:x'.Load≤x.Load):Lax p x' x :=
 ⟨fun b _ _ h=>⟨by rw[h1];exact h,by rw[h1];omega⟩,h3⟩
theorem Qh6 {p:Pr} {v:Ve} (hp:OkP p) {x' x y:Vi} {pre pre':List Int} {s:Int} (hl:Lax p x' x) (hsub: ∀u∈pre',u∈pre) (hs:JC p v pre x s= .inl y) :
  ∃y',JC p v pre' x' s= .inl y'∧Lax p y' y:=by
 unfold JC at hs
 split at hs
 ·rename_i h1
  split at hs
  ·cases hs
  ·rename_i h2
   injection hs with hs;subst hs
   obtain ⟨g1,g2⟩:=hl.leg _ hp.u0 hp.u1 (by omega);unfold JC
   rw[if_pos h1,if_neg (by omega)]
   exact ⟨_,rfl,Lax.same rfl (by simp only[];omega) (Int.le_refl _)⟩
 ·rename_i h1
  split at hs
  ·cases hs
  ·rename_i h2
   split at hs
   ·cases hs
   ·rename_i h3
    split at hs
    ·cases hs
    ·rename_i d hd
     have hd2:=hp.de d (List.mem_of_getElem? hd)
     split at hs
     ·cases hs
     ·rename_i h4
      split at hs
      ·cases hs
      ·rename_i h5
       split at hs
       ·cases hs
       ·rename_i h6
        split at hs
        ·cases hs
        ·rename_i h7
         injection hs with hs;subst hs
         obtain ⟨g1,g2⟩:=hl.leg _ hd2.n0 hd2.n1 (by omega);have g3:=hl.load;unfold JC
         rw[if_neg h1,if_neg h2,if_neg (fun h=>h3 (hsub _ h)),hd]
         simp only[]
         rw[if_neg h4,if_neg (by omega),if_neg (by omega),if_neg (by omega)]
         exact ⟨_,rfl,Lax.same rfl (by simp only[];omega) (by simp only[];omega)⟩
theorem QgO {p:Pr} {v:Ve} (hp:OkP p): ∀(rest pre pre':List Int) (x x':Vi) (z:Vi×List Vi),Lax p x' x→(∀u∈pre',u∈pre)→ZM p v pre rest x= .inl z→ ∃z',ZM p v pre' rest x'= .inl z'∧Lax p z'.1 z.1
 | [],pre,pre',x,x',z,hl,_,h=>by
  injection h with h;subst h
  exact ⟨_,rfl,hl⟩
 | s::rest,pre,pre',x,x',z,hl,hsub,h=>by
  unfold ZM at h
  split at h
  ·cases h
  ·rename_i y hy
   obtain ⟨y',h1,h2⟩:=Qh6 hp hl hsub hy
   split at h
   ·rename_i z1 hz
    injection h with h;subst h
    obtain ⟨z',h3,h4⟩:=QgO hp rest (pre++[s]) (pre'++[s]) y y' z1 h2 (fun u hu=>by
     rcases List.mem_append.1 hu with h5 | h5
     ·exact List.mem_append_left _ (hsub u h5)
     ·exact List.mem_append_right _ h5) hz
    unfold ZM
    rw[h1]
    simp only[]
    rw[h3]
    exact ⟨_,rfl,h4⟩
   ·cases h
theorem Qh5 {p:Pr} {v:Ve} (hv:OkV p.Road.Nodes v) {x x' y:Vi} (hl:Lax p x' x) (h0:0≤x'.Load) (hs:J7 p v x= .inl y): ∃y',J7 p v x'= .inl y':=by
 unfold J7 at hs
 split at hs
 ·cases hs
 ·rename_i h1
  split at hs
  ·cases hs
  ·rename_i h2
   split at hs
   ·cases hs
   ·rename_i h3
    obtain ⟨g1,g2⟩:=hl.leg _ hv.d0 hv.d1 (by omega);have g3:=hl.load;unfold J7
    simp only[ne_eq,Decidable.not_not] at h2
    rw[if_neg (by omega),if_neg (by omega),if_neg (by omega)]
    exact ⟨_,rfl⟩
theorem Qh4 {p:Pr} {v:Ve} (hp:OkP p) (hv:OkV p.Road.Nodes v) {k:Nat} {x y:Vi} {pre:List Int} {s:Int} (hx:InV p v k x) (h0:0≤s) (hs:JC p v pre x s= .inl y):Lax p x y:=by
 have hin:=QaH hp hv hx hs;unfold JC at hs
 rw[if_neg (by omega)] at hs
 split at hs
 ·cases hs
 ·split at hs
  ·cases hs
  ·split at hs
   ·cases hs
   ·rename_i d hd
    have hd2:=hp.de d (List.mem_of_getElem? hd);have a1:=hd2.g0;have a5:=hd2.s0
    split at hs
    ·cases hs
    ·split at hs
     ·cases hs
     ·rename_i h5
      split at hs
      ·cases hs
      ·split at hs
       ·cases hs
       ·injection hs with hs;subst hs
        refine ⟨fun b b0 b1 hb=> ?_,by simp only[];omega⟩
        simp only[] at hb ⊢
        have h6:=tri hp ⟨hx.n0,hx.n1⟩ ⟨hd2.n0,hd2.n1⟩ ⟨b0,b1⟩ (by omega) hb
        omega
end Go.Proofs.Ytilbengnjgglhaa
namespace Go.Proofs.Ytilbengnjgglhaa
open Go.RowKit
set_option linter.unusedSimpArgs false
set_option linter.unusedVariables false
def WS:List Int→List Int→Bool
 | [],[]=>false
 | [],_::_=>true
 | _::_,[]=>false
 | a::x,b::y=>decide (a<b)||(decide (a=b)&&WS x y)
theorem Qfu: ∀a:List Int,WS a a=false
 | []=>rfl
 | a::x=>by simp[WS,Qfu x]
theorem Qdm: ∀{a b c:List Int},WS a b=true→WS b c=true→WS a c=true
 | [],[],_,h,_=>by cases h
 | [],_::_,[],_,h=>by cases h
 | [],_::_,_::_,_,_=>rfl
 | _::_,[],_,h,_=>by cases h
 | _::_,_::_,[],_,h=>by cases h
 | a::x,b::y,c::z,h1,h2=>by
  simp only[WS,Bool.or_eq_true,Bool.and_eq_true,decide_eq_true_eq] at h1 h2 ⊢
  rcases h1 with h1 | ⟨h1,h3⟩
  ·rcases h2 with h2 | ⟨h2,_⟩
   ·left;omega
   ·left;omega
  ·rcases h2 with h2 | ⟨h2,h4⟩
   ·left;omega
   ·right;exact ⟨by omega,Qdm h3 h4⟩
theorem Qfv: ∀{a b:List Int},WS a b=false→WS b a=false→a=b
 | [],[],_,_=>rfl
 | [],_::_,h,_=>by cases h
 | _::_,[],_,h=>by cases h
 | a::x,b::y,h1,h2=>by
  simp only[WS,Bool.or_eq_false_iff,Bool.and_eq_false_iff,decide_eq_false_iff_not] at h1 h2
  obtain ⟨h1,h3⟩:=h1;obtain ⟨h2,h4⟩:=h2;have e:a=b:=by omega
  subst e;have e1:WS x y=false:=by rcases h3 with h3 | h3;exact absurd rfl h3;exact h3
  have e2:WS y x=false:=by rcases h4 with h4 | h4;exact absurd rfl h4;exact h4
  rw[Qfv e1 e2]
def VD:List Int→List Int→Int
 | [],[]=>0
 | [],_::_=> -1
 | _::_,[]=>1
 | a::x,b::y=>if a<b then -1 else if b<a then 1 else VD x y
theorem Qfe: ∀a b:List Int,(VD a b<0↔WS a b=true)∧(VD a b=0↔a=b)
 | [],[]=>by simp[VD,WS]
 | [],_::_=>by simp[VD,WS]
 | _::_,[]=>by simp[VD,WS]
 | a::x,b::y=>by
  have ih:=Qfe x y
  simp only[VD,WS,Bool.or_eq_true,Bool.and_eq_true,decide_eq_true_eq,List.cons.injEq]
  by_cases h1:a<b
  ·rw[if_pos h1]
   exact ⟨⟨fun _=> .inl h1,fun _=>by decide⟩,⟨fun h=>by omega,fun h=>by omega⟩⟩
  ·rw[if_neg h1]
   by_cases h2:b<a
   ·rw[if_pos h2]
    exact ⟨⟨fun h=>by omega,fun h=>by omega⟩,⟨fun h=>by omega,fun h=>by omega⟩⟩
   ·rw[if_neg h2]
    have e:a=b:=by omega
    rw[ih.1,ih.2]
    exact ⟨⟨fun h=> .inr ⟨e,h⟩,fun h=>by rcases h with h | h;omega;exact h.2⟩,⟨fun h=>⟨e,h⟩,fun h=>h.2⟩⟩
theorem Qex (a b:Int):Z7 a b=some (if a<b then -1 else if b<a then 1 else 0):=by
 unfold Z7 JI
 simp only[Option.bind_some,decide_true,Bool.not_true,cond_false]
 by_cases h:a<b
 ·simp[h]
 ·by_cases h2:b<a<;>simp[h,h2]
theorem Qff {a b:List Int} (hn:a.length≤1000000): ∀(x y:List Int) (k f:Nat),a.drop k=x→b.drop k=y→k≤a.length→k≤b.length→x.length<f →
  ∃o,iter (QP a b) f (k:Int)=some o∧QT o (fun _=>bif decide (((a.length:Nat):Int)<((b.length:Nat):Int)) then some (-1) else some 0) (fun z=>some z)=some (VD x y)
 | _,_,_,0,_,_,_,_,h=>by omega
 | [],y,k,f+1,hx,hy,ha,hb,_=>by
  have h0:a.length=k:=by
   have:=congrArg List.length hx
   simp at this;omega
  have h1: ¬((k:Int)<((a.length:Nat):Int)):=by omega
  refine ⟨.inl (),by simp only[iter,QP,h1,decide_false,cond_false,Option.bind_some,QT],?_⟩;have hl:=congrArg List.length hy
  simp only[List.length_drop] at hl
  cases y with
  | nil =>
   have: ¬(((a.length:Nat):Int)<((b.length:Nat):Int)):=by simp at hl;omega
   simp[QT,this,VD]
  | cons d y =>
   have:((a.length:Nat):Int)<((b.length:Nat):Int):=by simp at hl;omega
   simp[QT,this,VD]
 | c::x,y,k,f+1,hx,hy,ha,hb,hf=>by
  have hka:k<a.length:=by
   have:=congrArg List.length hx
   simp at this;omega
  have h1:((k:Int)<((a.length:Nat):Int)):=by omega
  have ga:a[k]? =some c:=by
   have:(a.drop k)[0]? =some c:=by rw[hx];rfl
   simpa using this
  have gx:a.drop (k+1)=x:=by
   rw[←List.drop_drop,hx];rfl
  cases y with
  | nil =>
   have h2:((b.length:Nat):Int)≤(k:Int):=by
    have:=congrArg List.length hy
    simp at this;omega
   refine ⟨.inr 1,by simp only[iter,QP,h1,decide_true,cond_true,Qs,ga,Option.bind_some,h2,QT],?_⟩
   simp[QT,VD]
  | cons d y =>
   have hkb:k<b.length:=by
    have:=congrArg List.length hy
    simp at this;omega
   have h2: ¬(((b.length:Nat):Int)≤(k:Int)):=by omega
   have gb:b[k]? =some d:=by
    have:(b.drop k)[0]? =some d:=by rw[hy];rfl
    simpa using this
   have gy:b.drop (k+1)=y:=by
    rw[←List.drop_drop,hy];rfl
   have e1:w64 ((k:Int)+1)=((k+1:Nat):Int):=by rw[Ye (by omega) (by omega)];omega
   by_cases h3:c<d
   ·refine ⟨.inr (-1),?_,by simp[QT,VD,h3]⟩
    simp only[iter,QP,h1,decide_true,cond_true,Qs,ga,gb,Option.bind_some,h2,decide_false,cond_false,Qex,h3,if_true]
    rfl
   ·by_cases h4:d<c
    ·refine ⟨.inr 1,?_,by simp[QT,VD,h3,h4]⟩
     simp only[iter,QP,h1,decide_true,cond_true,Qs,ga,gb,Option.bind_some,h2,decide_false,cond_false,Qex,h3,h4,if_true,if_false]
     rfl
    ·obtain ⟨o,o1,o2⟩:=Qff hn x y (k+1) f gx gy (by omega) (by omega) (by simp at hf;omega);refine ⟨o,?_,by simp only[VD,h3,h4,if_false];exact o2⟩
     rw[←o1]
     simp only[iter,QP,h1,decide_true,cond_true,Qs,ga,gb,Option.bind_some,h2,decide_false,cond_false,Qex,h3,h4,if_false,decide_true,Bool.not_true,cond_false,e1,QT]
theorem QcW {a b:List Int} (hn:a.length≤1000000):Y5 a b=some (VD a b):=by
 unfold Y5;obtain ⟨o,o1,o2⟩:=Qff (a:=a) (b:=b) hn a b 0 (((a.length:Nat):Int).toNat+1) rfl rfl (by omega) (by omega) (by simp);have o1':iter (QP a b) (((a.length:Nat):Int).toNat+1) 0=some o:=o1
 rw[o1']
 exact o2
def Yx:List (Int×Bool)→List Int
 | []=>[]
 | (d,f)::r=>d::((if f then [-1] else [])++Yx r)
def Qep (rem:List Int) (c:List Int):Prop:= ∃P:List (Int×Bool),(P.map Prod.fst).Perm rem∧c=Yx P
theorem Qep.perm {a b c:List Int} (h:a.Perm b):Qep a c↔Qep b c :=
 ⟨fun ⟨P,h1,h2⟩=>⟨P,h1.trans h,h2⟩,fun ⟨P,h1,h2⟩=>⟨P,h1.trans h.symm,h2⟩⟩
theorem Qcx: ∀P:List (Int×Bool),(Yx P).length≤2*P.length
 | []=>by simp[Yx]
 | (d,f)::r=>by
  have:=Qcx r;cases f<;>simp[Yx]<;>omega
theorem Qep.len {ds c:List Int} (h:Qep ds c):c.length≤2*ds.length:=by
 obtain ⟨P,h1,rfl⟩:=h;have h2:=Qcx P;have h3:=h1.length_eq
 simp at h3
 omega
def Ju:List Int→List Bool→List Int
 | d::ds,u::us=>if u=true then Ju ds us else d::Ju ds us
 | _,_=>[]
theorem QcU: ∀{ds:List Int} {us:List Bool} {i:Nat} {d:Int},ds[i]? =some d→us[i]? =some false→(Ju ds us).Perm (d::Ju ds (us.set i true))
 | [],_,_,_,h,_=>by simp at h
 | _::_,[],_,_,_,h=>by simp at h
 | a::ds,u::us,0,d,h1,h2=>by
  simp at h1 h2
  subst h1 h2
  simp[Ju]
 | a::ds,u::us,i+1,d,h1,h2=>by
  have ih:=QcU (ds:=ds) (us:=us) (i:=i) (d:=d) (by simpa using h1) (by simpa using h2);cases u with
  | true=>simpa [Ju] using ih
  | false =>
   simp only[Ju,List.set_cons_succ,Bool.false_eq_true,if_false]
   exact (List.Perm.cons a ih).trans (List.Perm.swap d a _)
theorem QeR: ∀{ds:List Int} {us:List Bool} {d:Int},d∈Ju ds us→ ∃i:Nat,ds[i]? =some d∧us[i]? =some false
 | [],_,_,h=>by simp[Ju] at h
 | _::_,[],_,h=>by simp[Ju] at h
 | a::ds,u::us,d,h=>by
  cases u with
  | true =>
   obtain ⟨i,h1,h2⟩:=QeR (ds:=ds) (us:=us) (d:=d) (by simpa [Ju] using h);exact ⟨i+1,by simpa using h1,by simpa using h2⟩
  | false =>
   simp only[Ju,Bool.false_eq_true,if_false,List.mem_cons] at h
   rcases h with rfl | h
   ·exact ⟨0,rfl,rfl⟩
   ·obtain ⟨i,h1,h2⟩:=QeR h;exact ⟨i+1,by simpa using h1,by simpa using h2⟩
theorem QcT: ∀(ds:List Int),Ju ds (List.replicate ds.length false)=ds
 | []=>rfl
 | a::ds=>by simp[Ju,List.replicate_succ,QcT ds]
def VS (ds:List Int):Nat→List Int→List Bool→List (List Int)
 | 0,pre,_=>[pre]
 | n+1,pre,us=>(List.range ds.length).flatMap fun i=>match ds[i]?,us[i]? with
  | some d,some false=>VS ds n (pre++[d]) (us.set i true)++VS ds n (pre++[d,-1]) (us.set i true)
  | _,_=>[]
theorem Qal {ds:List Int} {c:List Int}: ∀(n:Nat) (pre:List Int) (us:List Bool),(Ju ds us).length=n→(c∈VS ds n pre us↔ ∃P:List (Int×Bool),(P.map Prod.fst).Perm (Ju ds us)∧c=pre++Yx P)
 | 0,pre,us,hn=>by
  have h0:Ju ds us=[]:=List.eq_nil_of_length_eq_zero hn
  simp only[VS,List.mem_singleton,h0]
  constructor
  ·rintro rfl;exact ⟨[],List.Perm.refl _,by simp[Yx]⟩
  ·rintro ⟨P,h1,rfl⟩;have:P=[]:=by simpa using h1.eq_nil
   subst this
   simp[Yx]
 | n+1,pre,us,hn=>by
  simp only[VS,List.mem_flatMap,List.mem_range]
  constructor
  ·rintro ⟨
       i,hi,hc⟩
   cases hd:ds[i]? with
   | none=>rw[hd] at hc;simp at hc
   | some d =>
    cases hu:us[i]? with
    | none=>rw[hd,hu] at hc;simp at hc
    | some u =>
     cases u with
     | true=>rw[hd,hu] at hc;simp at hc
     | false =>
      rw[hd,hu] at hc
      simp only at hc
      have hp:=QcU hd hu;have hl:(Ju ds (us.set i true)).length=n:=by
       have:=hp.length_eq
       simp at this;omega
      rcases List.mem_append.1 hc with hc | hc
      ·obtain ⟨P,h1,h2⟩:=(Qal n _ _ hl).1 hc;exact ⟨(d,false)::P,(List.Perm.cons d h1).trans hp.symm,by rw[h2];simp[Yx]⟩
      ·obtain ⟨P,h1,h2⟩:=(Qal n _ _ hl).1 hc;exact ⟨(d,true)::P,(List.Perm.cons d h1).trans hp.symm,by rw[h2];simp[Yx]⟩
  ·rintro ⟨P,h1,h2⟩;cases P with
   | nil =>
    have:=h1.length_eq
    simp at this;omega
   | cons q P =>
    obtain ⟨d,f⟩:=q;obtain ⟨i,hd,hu⟩:=QeR (h1.subset (show d∈((d,f)::P).map Prod.fst by simp));have hp:=QcU hd hu;have h3:(P.map Prod.fst).Perm (Ju ds (us.set i true)):=(List.perm_cons d).1 (show (d::P.map Prod.fst).Perm _ from h1.trans hp);have hl:(Ju ds (us.set i true)).length=n:=by
     have:=hp.length_eq
     simp at this;omega
    refine ⟨i,QF hd,?_⟩
    rw[hd,hu]
    simp only[List.mem_append]
    cases f with
    | false=>exact .inl ((Qal n _ _ hl).2 ⟨P,h3,by rw[h2];simp[Yx]⟩)
    | true=>exact .inr ((Qal n _ _ hl).2 ⟨P,h3,by rw[h2];simp[Yx]⟩)
end Go.Proofs.Ytilbengnjgglhaa
namespace Go.Proofs.Ytilbengnjgglhaa
open Go.RowKit
set_option linter.unusedSimpArgs false
set_option linter.unusedVariables false
abbrev Bst:=Bool×Int×List Int
def Qhz (p:Pr) (v:Int) (s:Bst) (c:List Int):Bool:=decide ((JA p ⟨v,c⟩).2=0)&&(!s.1||(decide ((JA p ⟨v,c⟩).1<s.2.1)||(decide ((JA p ⟨v,c⟩).1=s.2.1)&&WS c s.2.2)))
def Qa1 (p:Pr) (v:Int) (s:Bst) (c:List Int):Bst:=bif Qhz p v s c then (true,(JA p ⟨v,c⟩).1,c) else s
theorem QjL {l:List Int} (hl:l.length≤1000000):Qc6 l=some l:=by
 unfold Qc6
 rw[if_pos hl]
theorem QhT {F:Nat} (hF:40000≤F) {p:Pr} (hp:OkP p) (hc:Qj p=some 0) (hn:p.Road.Edges.length≤600) {v v0:Int} {c:List Int} (hl:c.length≤1000) (s:Bst) :
  J6 F c p v s.1 s.2.1 ⟨v0,s.2.2⟩=some ((Qa1 p v s c).1,(Qa1 p v s c).2.1,⟨v0,(Qa1 p v s c).2.2⟩):=by
 unfold J6
 rw[QiK hF hp hc hn,Option.bind_some]
 simp only[oun,Qa1,Qhz,QcW (show c.length≤1000000 by omega),QjL (show c.length≤1000000 by omega),Option.bind_some]
 have hz:=Qfe c s.2.2;have e:decide (VD c s.2.2<0)=WS c s.2.2:=by
  cases h:WS c s.2.2 with
  | true=>exact decide_eq_true (hz.1.2 h)
  | false =>
   refine decide_eq_false fun h2=> ?_
   rw[hz.1.1 h2] at h
   cases h
 rw[e]
 obtain ⟨s1,s2,s3⟩:=s
 by_cases h0:(JA p ⟨v,c⟩).2=0
 ·simp only[h0,decide_true,Bool.not_true,cond_false,Bool.true_and]
  cases s1 with
  | false=>simp
  | true =>
   by_cases h1:(JA p ⟨v,c⟩).1<s2
   ·simp[h1]
   ·by_cases h2:(JA p ⟨v,c⟩).1=s2
    ·cases h3:WS c s3<;>simp[h1,h2,h3]
    ·simp[h1,h2]
 ·simp[h0]
def Qcw (ds:List Int) (n:Nat) (pre:List Int) (us:List Bool) (i:Nat):List (List Int):=match ds[i]?,us[i]? with
 | some d,some false=>VS ds n (pre++[d]) (us.set i true)++VS ds n (pre++[d,-1]) (us.set i true)
 | _,_=>[]
theorem Qg9 (ds:List Int) (n:Nat) (pre:List Int) (us:List Bool):VS ds (n+1) pre us=(List.range ds.length).flatMap (Qcw ds n pre us):=by
 rfl
theorem QiA (L:List Bool) (i:Nat) (x:Bool):Zw L (i:Int) x=L.set i x:=by simp[Zw]
theorem QiE (pre x:List Int):Jw (pre++x) 0 ((pre.length:Nat):Int)=some pre:=by
 rw[Wq (by simp)]
 simp
theorem QiD (pre:List Int):Jw pre 0 ((pre.length:Nat):Int)=some pre:=by
 rw[Wq (Nat.le_refl _)]
 simp
def Qjd (p:Pr) (v v0:Int) (ds:List Int) (n:Nat) (rec_:Int→Unit→Qc→Int→Bool→Int→Qf→(List Int)→(List Int)→(List Bool)→Unit→Option (Bool×Int×Qf×(List Int)×(List Bool))):Prop :=
 ∀(s:Bst) (pre:List Int) (us:List Bool),pre.length+2*n≤1000→us.length=ds.length→(Ju ds us).length=n →
  rec_ (n:Int) () p v s.1 s.2.1 ⟨v0,s.2.2⟩ pre ds us ()=some (((VS ds n pre us).foldl (Qa1 p v) s).1,((VS ds n pre us).foldl (Qa1 p v) s).2.1,⟨v0,((VS ds n pre us).foldl (Qa1 p v) s).2.2⟩,pre,us)
theorem QbZ {p:Pr} {v v0:Int} {ds pre:List Int} {us:List Bool} {n:Nat} {rec_:Int→Unit→Qc→Int→Bool→Int→Qf→(List Int)→(List Int)→(List Bool)→Unit→Option (Bool×Int×Qf×(List Int)×(List Bool))}
  (hr:Qjd p v v0 ds n rec_) (hd:ds.length≤1000) (hpre:pre.length+2*(n+1)≤1000) (hus:us.length=ds.length) (hn:(Ju ds us).length=n+1): ∀(rest:List Nat) (i f:Nat) (s:Bst),(List.range ds.length).drop i=rest→i≤ds.length→rest.length<f →
  iter (Yg ((n+1:Nat):Int) p v pre ds rec_) f (pre,us,s.1,s.2.1,v0,s.2.2,(i:Int))=some (((rest.flatMap (Qcw ds n pre us)).foldl (Qa1 p v) s).1,((rest.flatMap (Qcw ds n pre us)).foldl (Qa1 p v) s).2.1,v0,((rest.flatMap (Qcw ds n pre us)).foldl (Qa1 p v) s).2.2,pre,us)
 | _,_,0,_,_,_,h=>by omega
 | [],i,f+1,s,h,hi,_=>by
  have h0:ds.length=i:=by
   have:=congrArg List.length h
   simp at this;omega
  have h1: ¬((i:Int)<((ds.length:Nat):Int)):=by omega
  simp only[iter,Yg,oun,QT,h1,decide_false,cond_false,Option.bind_some,List.flatMap_nil,List.foldl_nil]
 | k::rest,i,f+1,s,h,hi,hf=>by
  have hi':i<ds.length:=by
   have:=congrArg List.length h
   simp at this;omega
  have hk:k=i:=by
   have:((List.range ds.length).drop i)[0]? =some k:=by rw[h];rfl
   simp[hi'] at this
   exact this.symm
  subst hk;have hrest:(List.range ds.length).drop (k+1)=rest:=by rw[←List.drop_drop,h];rfl
  have h1:((k:Int)<((ds.length:Nat):Int)):=by omega
  have e1:w64 ((k:Int)+1)=((k+1:Nat):Int):=by rw[Ye (by omega) (by omega)];omega
  have en:w64 (((n+1:Nat):Int)-1)=(n:Int):=by rw[Ye (by omega) (by omega)];omega
  obtain ⟨d,gd⟩: ∃d,ds[k]? =some d:=⟨_,List.getElem?_eq_getElem hi'⟩
  obtain ⟨u,gu⟩: ∃u,us[k]? =some u:=⟨_,List.getElem?_eq_getElem (hus▸hi')⟩
  rw[List.flatMap_cons,List.foldl_append]
  cases u with
  | true =>
   have hs:Qcw ds n pre us k=[]:=by simp only[Qcw,gd,gu]
   rw[hs,List.foldl_nil]
   have ih:=QbZ hr hd hpre hus hn rest (k+1) f s hrest (by omega) (by simp at hf;omega)
   rw[←ih]
   simp only[iter,Yg,oun,QT,h1,decide_true,cond_true,Qs,gd,gu,Option.bind_some,e1]
  | false =>
   have hp:=QcU gd gu;have hl2:(Ju ds (us.set k true)).length=n:=by
    have:=hp.length_eq
    simp at this;omega
   have hs:Qcw ds n pre us k=VS ds n (pre++[d]) (us.set k true)++VS ds n (pre++[d,-1]) (us.set k true):=by simp only[Qcw,gd,gu]
   rw[hs,List.foldl_append]
   have r1:=hr s (pre++[d]) (us.set k true) (by simp;omega) (by simp[hus]) hl2
   generalize (VS ds n (pre++[d]) (us.set k true)).foldl (Qa1 p v) s=s1 at r1 ⊢
   have r2:=hr s1 (pre++[d,-1]) (us.set k true) (by simp;omega) (by simp[hus]) hl2
   generalize (VS ds n (pre++[d,-1]) (us.set k true)).foldl (Qa1 p v) s1=s2 at r2 ⊢
   have ih:=QbZ hr hd hpre hus hn rest (k+1) f s2 hrest (by omega) (by simp at hf;omega)
   rw[←ih]
   have gx:(us.set k true)[k]? =some true:=by simp[hus,hi']
   have gz:(us.set k true).set k false=us:=by
    rw[List.set_set]
    apply List.ext_getElem? fun j=> ?_
    by_cases hj:j=k
    ·subst hj
     rw[gu]
     simp[hus,hi']
    ·rw[List.getElem?_set_ne (by omega)]
   simp only[iter,Yg,oun,QT,h1,decide_true,cond_true,Qs,gd,gu,Option.bind_some,e1,en,cond_false,QiD,QiE,QiA,appO_eq (show pre.length+[d].length≤1000000 by simp;omega),appO_eq (show pre.length+[d,-1].length≤1000000 by simp;omega),r1,r2,gx,gz]
theorem QgH {p:Pr} (hp:OkP p) (hc:Qj p=some 0) (hne:p.Road.Edges.length≤600) {v v0:Int} {ds:List Int} (hd:ds.length≤1000): ∀(n F:Nat),40000+n+1≤F→Qjd p v v0 ds n (Yn F)
 | 0,0,h=>by omega
 | n+1,0,h=>by omega
 | 0,F+1,h=>by
  intro s pre us hpre hus hn;have b:=QhT (v0:=v0) (v:=v) (show 40000≤F by omega) hp hc hne (c:=pre) (by omega) s
  simp only[Yn,ZF,Int.ofNat_zero,Int.natCast_zero,decide_true,cond_true,b,Option.bind_some,oun,VS,List.foldl_cons,List.foldl_nil]
 | n+1,F+1,h=>by
  intro s pre us hpre hus hn;have ih:=QgH hp hc hne (v:=v) (v0:=v0) hd n F (by omega);have l:=QbZ ih hd hpre hus hn _ 0 (((ds.length:Nat):Int).toNat+1) s rfl (by omega) (by simp);have h0: ¬(((n+1:Nat):Int)=0):=by omega
  simp only[Yn,ZF,h0,decide_false,cond_false]
  have l':iter (Yg ((n+1:Nat):Int) p v pre ds (Yn F)) (((ds.length:Nat):Int).toNat+1) (pre,us,s.1,s.2.1,v0,s.2.2,0)=_:=l
  rw[l',Qg9]
  simp only[Option.bind_some,oun,List.drop_zero]
end Go.Proofs.Ytilbengnjgglhaa
namespace Go.Proofs.Ytilbengnjgglhaa
open Go.RowKit
set_option linter.unusedSimpArgs false
set_option linter.unusedVariables false
theorem QdX {L:List Int}: ∀(l pre:List Int),L=pre++l→pre.Nodup→Yt (fun k (y:Int)=>bif decide (y∈L.take k) then some (.inr 6) else none) (.inl ():Unit⊕Int) pre.length l=bif decide L.Nodup then .inl () else .inr 6
 | [],pre,h,hp=>by
  have:L.Nodup:=by rw[h];simpa using hp
  simp[Yt,this]
 | y::l,pre,h,hp=>by
  have ht:L.take pre.length=pre:=by rw[h];simp
  unfold Yt
  rw[ht]
  by_cases hy:y∈pre
  ·have hnd: ¬L.Nodup:=by
    rw[h,List.nodup_append]
    exact fun hh=>hh.2.2 y hy y List.mem_cons_self rfl
   simp[hy,hnd]
  ·have ih:=QdX (L:=L) l (pre++[y]) (by rw[h];simp) (by
    rw[List.nodup_append]
    exact ⟨hp,by simp,fun a ha b hb=>by rw[List.mem_singleton] at hb;subst hb;exact fun hh=>hy (hh▸ha)⟩)
   rw[List.length_append] at ih
   simpa [hy] using ih
theorem QhX {L:List Int} (hn:L.length≤1000):iter (ZU L) (((L.length:Nat):Int).toNat+1) 0=some (bif decide L.Nodup then .inl () else .inr 6):=by
 have:=YG (body:=ZU L) L (fun k (y:Int)=>bif decide (y∈L.take k) then some (.inr 6) else none) (.inl ():Unit⊕Int) (by omega) (fun k y hy=> ?_) (by simp[ZU]) (((L.length:Nat):Int).toNat+1) (by simp)
 ·rw[this]
  exact congrArg some (QdX L [] rfl List.nodup_nil)
 ·have hk:=QF hy;have hk2:((k:Int)<(L.length:Nat)):=by omega
  simp only[ZU,hk2,decide_true,cond_true,Qs,hy,Option.bind_some,Wq (Nat.le_of_lt hk),Qck (L.take k) (by simp;omega)]
  cases decide (y∈L.take k)<;>rfl
def QeO (p:Pr) (d:Int):Bool:=decide (d<0)||decide (((p.Demands.length:Nat):Int)≤d)
theorem QjU (p:Pr) (L:List Int) (hn:L.length≤1000):Yk L p=some (L.any (QeO p)):=by
 unfold Yk Y8;have:=YG (body:=Yl L p) L (fun k y=>bif QeO p y then some (.inr (k:Int)) else none) (.inl ():Unit⊕Int) (by omega) (fun k y hy=> ?_) (by simp[Yl]) (((L.length:Nat):Int).toNat+1) (by simp)
 ·rw[this]
  rcases QgE (QeO p) L 0 with ⟨h1,h2⟩ | ⟨j,h1,h2⟩
  ·rw[h1,h2];rfl
  ·rw[h1,h2]
   simp only[Option.bind_some,QT]
   simp
 ·have hk:=QF hy;have hk2:((k:Int)<(L.length:Nat)):=by omega
  simp only[Yl,hk2,decide_true,cond_true,Qs,hy,Option.bind_some,Wv,QeO]
  cases decide (y<0)<;>cases decide (((p.Demands.length:Nat):Int)≤y)<;>rfl
def Wl (p:Pr) (v:Int) (ds:List Int):Int :=
 bif decide (v<0)||decide (((p.Vehicles.length:Nat):Int)≤v) then 7
 else bif decide (5<ds.length) then 8
 else bif ds.any (QeO p) then 7
 else bif decide ds.Nodup then 0 else 6
theorem Qc4 {F:Nat} (hF:33≤F) {p:Pr} (hn:p.Road.Edges.length≤600) {e:Int} (hc:Qj p=some e) (v:Int) (ds:List Int) (hd:ds.length≤1000) :
  Jm F p v ds=some (if e=0 then Wl p v ds else e):=by
 unfold Jm
 rw[Qa9 hF p hn,hc]
 simp only[Option.bind_some]
 by_cases h:e=0
 ·subst h
  simp only[decide_true,Bool.not_true,cond_false,if_true,Wl,QjU p ds hd,QhX hd,Option.bind_some]
  have h5:decide ((5:Int)<((ds.length:Nat):Int))=decide (5<ds.length):=by
   by_cases h:5<ds.length<;>simp[h]<;>omega
  rw[h5]
  cases decide (v<0)<;>cases decide (((p.Vehicles.length:Nat):Int)≤v)<;>cases decide (5<ds.length)<;>cases ds.any (QeO p)<;>cases decide ds.Nodup<;>rfl
 ·simp[h]
theorem Qc5 {p:Pr} {v:Int} {ds:List Int}:Wl p v ds=0↔(0≤v∧v<((p.Vehicles.length:Nat):Int))∧ds.length≤5∧(∀d∈ds,0≤d∧d<((p.Demands.length:Nat):Int))∧ds.Nodup:=by
 have ho:ds.any (QeO p)=false↔ ∀d∈ds,0≤d∧d<((p.Demands.length:Nat):Int):=by
  simp only[List.any_eq_false,QeO,Bool.or_eq_true,decide_eq_true_eq,not_or,Int.not_lt,Int.not_le]
 rw[←ho]
 unfold Wl
 by_cases h1:v<0∨((p.Vehicles.length:Nat):Int)≤v
 ·have e:(decide (v<0)||decide (((p.Vehicles.length:Nat):Int)≤v))=true:=by simpa using h1
  rw[e]
  simp only[cond_true]
  constructor
  ·intro h;cases h
  ·rintro ⟨h,_⟩;omega
 ·have e:(decide (v<0)||decide (((p.Vehicles.length:Nat):Int)≤v))=false:=by
   simp only[Bool.or_eq_false_iff,decide_eq_false_iff_not];omega
  rw[e]
  simp only[cond_false]
  by_cases h5:5<ds.length
  ·simp only[h5,decide_true,cond_true]
   exact ⟨fun h=>(by cases h),fun h=>by omega⟩
  ·simp only[h5,decide_false,cond_false]
   cases ds.any (QeO p) with
   | true =>
    simp only[cond_true]
    exact ⟨fun h=>(by cases h),fun h=>(by cases h.2.2.1)⟩
   | false =>
    by_cases hnd:ds.Nodup
    ·simp only[hnd,decide_true,cond_true,cond_false]
     exact ⟨fun _=>⟨by omega,by omega,trivial,trivial⟩,fun _=>trivial⟩
    ·simp only[hnd,decide_false,cond_false]
     exact ⟨fun h=>(by cases h),fun h=>absurd h.2.2.2 id⟩
def W2 (p:Pr) (v:Int) (C:List Int→Prop) (s:Bst):Prop :=
 (s=(false,0,[])∧ ∀c,C c→(JA p ⟨v,c⟩).2≠0) ∨
 (s.1=true∧C s.2.2∧JA p ⟨v,s.2.2⟩=(s.2.1,0)∧ ∀c,C c→(JA p ⟨v,c⟩).2=0→s.2.1<(JA p ⟨v,c⟩).1∨(s.2.1=(JA p ⟨v,c⟩).1∧WS c s.2.2=false))
theorem W2.congr {p:Pr} {v:Int} {C D:List Int→Prop} {s:Bst} (h: ∀c,C c↔D c) (hs:W2 p v C s):W2 p v D s:=by
 have:C=D:=funext fun c=>propext (h c);exact this▸hs
theorem W2.uniq {p:Pr} {v:Int} {C:List Int→Prop} {s s':Bst} (h:W2 p v C s) (h':W2 p v C s'):s=s':=by
 rcases h with ⟨h1,h2⟩ | ⟨h1,h2,h3,h4⟩
 ·rcases h' with ⟨g1,g2⟩ | ⟨g1,g2,g3,g4⟩
  ·rw[h1,g1]
  ·exact absurd (congrArg Prod.snd g3) (h2 _ g2)
 ·rcases h' with ⟨g1,g2⟩ | ⟨g1,g2,g3,g4⟩
  ·exact absurd (congrArg Prod.snd h3) (g2 _ h2)
  ·have a:=h4 _ g2 (congrArg Prod.snd g3);have b:=g4 _ h2 (congrArg Prod.snd h3)
   rw[g3] at a
   rw[h3] at b
   obtain ⟨s1,s2,s3⟩:=s;obtain ⟨t1,t2,t3⟩:=s'
   simp only at *
   have e2:s2=t2:=by omega
   have e3:s3=t3:=by
    rcases a with a | a
    ·omega
    ·rcases b with b | b
     ·omega
     ·exact Qfv b.2 a.2
   rw[h1,g1,e2,e3]
theorem W2.step {p:Pr} {v:Int} {C:List Int→Prop} {s:Bst} (h:W2 p v C s) (c:List Int):W2 p v (fun x=>C x∨x=c) (Qa1 p v s c):=by
 unfold Qa1;cases hu:Qhz p v s c with
 | true =>
  simp only[cond_true]
  simp only[Qhz,Bool.and_eq_true,Bool.or_eq_true,decide_eq_true_eq,Bool.not_eq_true'] at hu
  obtain ⟨h0,hu⟩:=hu;refine .inr ⟨rfl,.inr rfl,Prod.ext rfl h0,?_⟩;rintro x (hx | rfl) hx0
  ·rcases h with ⟨h1,h2⟩ | ⟨h1,h2,h3,h4⟩
   ·exact absurd hx0 (h2 _ hx)
   ·rcases hu with hu | hu | ⟨hu1,hu2⟩
    ·rw[h1] at hu;cases hu
    ·have:=h4 _ hx hx0
     simp only
     omega
    ·rcases h4 _ hx hx0 with h5 | ⟨h5,h6⟩
     ·simp only;omega
     ·refine .inr ⟨by simp only;omega,?_⟩
      simp only
      cases h7:WS x c with
      | false=>rfl
      | true=>rw[Qdm h7 hu2] at h6;cases h6
  ·exact .inr ⟨rfl,Qfu _⟩
 | false =>
  simp only[cond_false]
  rcases h with ⟨h1,h2⟩ | ⟨h1,h2,h3,h4⟩
  ·refine .inl ⟨h1,?_⟩;rintro x (hx | rfl)
   ·exact h2 _ hx
   ·intro h0
    rw[h1] at hu
    simp[Qhz,h0] at hu
  ·refine .inr ⟨h1,.inl h2,h3,?_⟩;rintro x (hx | rfl) hx0
   ·exact h4 _ hx hx0
   ·simp only[Qhz,hx0,decide_true,Bool.true_and,h1,Bool.not_true,Bool.false_or,Bool.or_eq_false_iff,decide_eq_false_iff_not,Bool.and_eq_false_iff] at hu
    obtain ⟨hu1,hu2⟩:=hu;rcases hu2 with hu2 | hu2
    ·exact .inl (by omega)
    ·by_cases he:s.2.1=(JA p ⟨v,x⟩).1
     ·exact .inr ⟨he,hu2⟩
     ·exact .inl (by omega)
theorem W2.fold {p:Pr} {v:Int}: ∀(L:List (List Int)) {C:List Int→Prop} {s:Bst},W2 p v C s→W2 p v (fun x=>C x∨x∈L) (L.foldl (Qa1 p v) s)
 | [],C,s,h=>h.congr (by simp)
 | c::L,C,s,h=>by
  rw[List.foldl_cons]
  refine (W2.fold L (h.step c)).congr fun x=> ?_
  simp only[List.mem_cons,or_assoc]
def Y9 (p:Pr) (v:Int) (ds:List Int):Bst:=(VS ds ds.length [] (List.replicate ds.length false)).foldl (Qa1 p v) (false,0,[])
theorem JV (p:Pr) (v:Int) (ds:List Int):W2 p v (Qep ds) (Y9 p v ds):=by
 refine (W2.fold (VS ds ds.length [] (List.replicate ds.length false)) (C:=fun _=>False) (s:=(false,0,[])) (.inl ⟨rfl,fun c h=>h.elim⟩)).congr fun x=> ?_
 rw[Qal ds.length [] (List.replicate ds.length false) (by rw[QcT]),QcT]
 simp only[List.nil_append,false_or]
 exact Iff.rfl
theorem QfZ {p:Pr} {v:Int} {a b:List Int} (h:a.Perm b):Y9 p v a=Y9 p v b :=
 ((JV p v a).congr fun _=>Qep.perm h).uniq (JV p v b)
theorem Qev {F:Nat} (hF:41100≤F) {p:Pr} (hp:OkP p) (hc:Qj p=some 0) (hne:p.Road.Edges.length≤600) (v:Int) {ds:List Int} (hd:ds.length≤100) :
  JP F p v ds=some (⟨v,(Y9 p v ds).2.2⟩,(Y9 p v ds).2.1,(Y9 p v ds).1):=by
 unfold JP ZG;have hm:WL false ((ds.length:Nat):Int)=some (List.replicate ds.length false):=by
  unfold WL
  rw[if_pos ⟨by omega,by omega⟩]
  simp
 obtain ⟨l2,hm2⟩: ∃l2,WL (0:Int) (w64 (2*((ds.length:Nat):Int)))=some l2:=by
  rw[Ye (by omega) (by omega)]
  unfold WL
  rw[if_pos ⟨by omega,by omega⟩]
  exact ⟨_,rfl⟩
 have:=QgH hp hc hne (v:=v) (v0:=v) (ds:=ds) (by omega) ds.length F (by omega) (false,0,[]) [] (List.replicate ds.length false) (by simp;omega) (by simp) (by rw[QcT])
 rw[hm,hm2]
 simp only[Option.bind_some]
 simp only at this
 rw[this]
 rfl
def Qa2 (p:Pr) (e v:Int) (ds:List Int):Qf×Int×Int :=
 bif decide ((if e=0 then Wl p v ds else e)=0) then
  bif (Y9 p v ds).1 then (⟨v,(Y9 p v ds).2.2⟩,(Y9 p v ds).2.1,0) else (⟨0,[]⟩,0,40)
 else (⟨0,[]⟩,0,if e=0 then Wl p v ds else e)
def Wu (p:Pr) (e v:Int) (ds:List Int):Bool×Int :=
 bif decide ((if e=0 then Wl p v ds else e)=0) then ((Y9 p v ds).1,0) else (false,if e=0 then Wl p v ds else e)
theorem QeA {e x:Int} (h:(if e=0 then x else e)=0):e=0∧x=0:=by
 by_cases h0:e=0
 ·rw[if_pos h0] at h;exact ⟨h0,h⟩
 ·rw[if_neg h0] at h;exact absurd h h0
theorem Qbv {F:Nat} (hF:41100≤F) {p:Pr} (hne:p.Road.Edges.length≤600) {e:Int} (hc:Qj p=some e) (v:Int) {ds:List Int} (hd:ds.length≤100):Z0 F p v ds=some (Qa2 p e v ds):=by
 unfold Z0 Qa2
 rw[Qc4 (by omega) hne hc v ds (by omega),Option.bind_some]
 by_cases h:(if e=0 then Wl p v ds else e)=0
 ·obtain ⟨rfl,h2⟩:=QeA h
  simp only[if_true,h2,decide_true,Bool.not_true,cond_false,cond_true,Qev hF (OkP.of hne hc) hc hne v hd,Option.bind_some,oun]
  cases (Y9 p v ds).1<;>rfl
 ·simp only[h,decide_false,Bool.not_false,cond_true,cond_false]
theorem Serves_eq {F:Nat} (hF:41100≤F) {p:Pr} (hne:p.Road.Edges.length≤600) {e:Int} (hc:Qj p=some e) (v:Int) {ds:List Int} (hd:ds.length≤100):ZE F p v ds=some (Wu p e v ds):=by
 unfold ZE Wu
 rw[Qc4 (by omega) hne hc v ds (by omega),Option.bind_some]
 by_cases h:(if e=0 then Wl p v ds else e)=0
 ·obtain ⟨rfl,h2⟩:=QeA h
  simp only[if_true,h2,decide_true,Bool.not_true,cond_false,cond_true,Qev hF (OkP.of hne hc) hc hne v hd,Option.bind_some,oun]
 ·simp only[h,decide_false,Bool.not_false,cond_true,cond_false]
end Go.Proofs.Ytilbengnjgglhaa
namespace Go.Proofs.Ytilbengnjgglhaa
open Go.RowKit
set_option linter.unusedSimpArgs false
set_option linter.unusedVariables false
theorem Qg2 (L:List Int) (hn:L.length≤1000): ∀(rest:List Int) (k f:Nat) (out:List Int),L.drop k=rest→k≤L.length→out.length=k→rest.length<f →
  iter (Q4 L) f ((k:Int),out)=some (out++rest)
 | _,_,0,_,_,_,_,h=>by omega
 | [],k,f+1,out,h,hk,ho,_=>by
  have h0:L.length=k:=by
   have:=congrArg List.length h
   simp at this;omega
  have h1: ¬((k:Int)<((L.length:Nat):Int)):=by omega
  simp only[iter,Q4,oun,QT,h1,decide_false,cond_false,Option.bind_some,List.append_nil]
 | d::rest,k,f+1,out,h,hk,ho,hf=>by
  have hk':k<L.length:=by
   have:=congrArg List.length h
   simp at this;omega
  have h1:((k:Int)<((L.length:Nat):Int)):=by omega
  have gd:L[k]? =some d:=by
   have:(L.drop k)[0]? =some d:=by rw[h];rfl
   simpa using this
  have hr:L.drop (k+1)=rest:=by rw[←List.drop_drop,h];rfl
  have e1:w64 ((k:Int)+1)=((k+1:Nat):Int):=by rw[Ye (by omega) (by omega)];omega
  have ih:=Qg2 L hn rest (k+1) f (out++[d]) hr (by omega) (by simp[ho]) (by simp at hf;omega)
  simp only[iter,Q4,Zo,oun,QT,h1,decide_true,cond_true,Qs,gd,Option.bind_some,e1,appO_eq (show out.length+[d].length≤1000000 by simp;omega)]
  have ih':=ih
  rw[List.append_assoc] at ih'
  exact ih'
theorem Qg7 {L:List Int} (hn:L.length≤1000):Y1 L=some (Zr L):=by
 unfold Y1 Zp YD Zf;have:=Qg2 L hn L 0 (((L.length:Nat):Int).toNat+1) [] rfl (by omega) rfl (by simp)
 rw[List.nil_append] at this
 have h2:iter (Q4 L) (((L.length:Nat):Int).toNat+1) (0,[])=some L:=this
 rw[h2]
 simp only[Option.bind_some,Qel]
 rw[if_pos (by omega)]
 rfl
def Zj:Nat→List Int→List Int
 | _,[]=>[]
 | m,d::r=>if m%2=1 then d::Zj (m/2) r else Zj (m/2) r
theorem QaT: ∀(m:Nat) (r:List Int),(Zj m r).Sublist r
 | _,[]=>List.Sublist.refl _
 | m,d::r=>by
  unfold Zj
  split
  ·exact (QaT (m/2) r).cons_cons d
  ·exact (QaT (m/2) r).cons d
theorem Qb7: ∀{l r:List Int},l.Sublist r→ ∃m,m<2^r.length∧Zj m r=l
 | _,_,.slnil=>⟨0,by simp,rfl⟩
 | _,_,.cons (l₁:=l) (l₂:=r) a h=>by
  obtain ⟨m,h1,h2⟩:=Qb7 h;refine ⟨2*m,by simp[Nat.pow_succ];omega,?_⟩;unfold Zj
  rw[if_neg (by omega),show 2*m/2=m by omega,h2]
 | _,_,.cons_cons (l₁:=l) (l₂:=r) a h=>by
  obtain ⟨m,h1,h2⟩:=Qb7 h;refine ⟨2*m+1,by simp[Nat.pow_succ];omega,?_⟩;unfold Zj
  rw[if_pos (by omega),show (2*m+1)/2=m by omega,h2]
theorem Qb8 {r:List Int} (hn:r.length≤15) {m:Nat} (hm:m<65536): ∀(rest:List Int) (k f:Nat) (out:List Int),r.drop k=rest→k≤r.length→out.length≤k→rest.length<f →
  iter (ZK r (m:Int)) f (out,(k:Int))=some (out++Zj (m/2^k) rest)
 | _,_,0,_,_,_,_,h=>by omega
 | [],k,f+1,out,h,hk,ho,_=>by
  have h0:r.length=k:=by
   have:=congrArg List.length h
   simp at this;omega
  have h1: ¬((k:Int)<((r.length:Nat):Int)):=by omega
  simp only[iter,ZK,oun,QT,h1,decide_false,cond_false,Option.bind_some,Zj,List.append_nil]
 | d::rest,k,f+1,out,h,hk,ho,hf=>by
  have hk':k<r.length:=by
   have:=congrArg List.length h
   simp at this;omega
  have h1:((k:Int)<((r.length:Nat):Int)):=by omega
  have gd:r[k]? =some d:=by
   have:(r.drop k)[0]? =some d:=by rw[h];rfl
   simpa using this
  have hr:r.drop (k+1)=rest:=by rw[←List.drop_drop,h];rfl
  have e1:w64 ((k:Int)+1)=((k+1:Nat):Int):=by rw[Ye (by omega) (by omega)];omega
  have e2:((m:Int)/2^((k:Int)).toNat)=((m/2^k:Nat):Int):=by
   rw[Int.toNat_natCast]
   simp
  have hq:m/2^k≤m:=Nat.div_le_self _ _;have e3:Qha .i64 ((m:Int)/2^((k:Int)).toNat) 1=((m/2^k%2:Nat):Int):=by
   rw[e2]
   generalize m/2^k=q at hq ⊢
   rw[Qko (by omega) (by omega)]
   omega
  have e4:m/2^k/2=m/2^(k+1):=by rw[Nat.div_div_eq_div_mul,Nat.pow_succ]
  unfold Zj
  rw[e4]
  by_cases hb:m/2^k%2=1
  ·have ih:=Qb8 hn hm rest (k+1) f (out++[d]) hr (by omega) (by simp;omega) (by simp at hf;omega)
   rw[if_pos hb]
   simp only[iter,ZK,oun,QT,h1,decide_true,cond_true,Qs,gd,Option.bind_some,e1,JW (show 0≤(k:Int)∧(k:Int)≤64 by omega),e3,hb,Int.natCast_one,appO_eq (show out.length+[d].length≤1000000 by simp;omega)]
   have ih':=ih
   rw[List.append_assoc] at ih'
   exact ih'
  ·have ih:=Qb8 hn hm rest (k+1) f out hr (by omega) (by omega) (by simp at hf;omega);have h0:m/2^k%2=0:=by omega
   rw[if_neg hb]
   simp only[iter,ZK,oun,QT,h1,decide_true,cond_true,Qs,gd,Option.bind_some,e1,JW (show 0≤(k:Int)∧(k:Int)≤64 by omega),e3,h0,Int.natCast_zero,show decide ((0:Int)=1)=false by decide,cond_false]
   exact ih
def QaI (ok:List Int→Bool) (out l:List Int):List Int :=
 bif decide (l.length<out.length)||(decide (l.length=out.length)&&decide (0≤VD l out)) then out else bif ok l then l else out
def Qcs (ok:List Int→Bool) (r:List Int):List Int:=((List.range (2^r.length)).map fun m=>Zj m r).foldl (QaI ok) []
theorem Qec {F:Nat} (hF:41100≤F) {p:Pr} (hp:OkP p) (hc:Qj p=some 0) (hne:p.Road.Edges.length≤600) (v:Int) {r:List Int} (hn:r.length≤15): ∀(rest:List Nat) (k f:Nat) (out:List Int),(List.range (2^r.length)).drop k=rest→k≤2^r.length→rest.length<f →
  out.length≤1000→iter (ZL F p v r) f (out,((2^r.length:Nat):Int),(k:Int))=some ((rest.map fun m=>Zj m r).foldl (QaI fun l=>(Y9 p v l).1) out)
 | _,_,0,_,_,_,h,_=>by omega
 | [],k,f+1,out,h,hk,_,_=>by
  have h0:2^r.length=k:=by
   have:=congrArg List.length h
   simp at this;omega
  have h1: ¬((k:Int)<((2^r.length:Nat):Int)):=by omega
  simp only[iter,ZL,oun,QT,h1,decide_false,cond_false,Option.bind_some,List.map_nil,List.foldl_nil]
 | m::rest,k,f+1,out,h,hk,hf,ho=>by
  have hk':k<2^r.length:=by
   have:=congrArg List.length h
   simp at this;omega
  have hm:m=k:=by
   have:((List.range (2^r.length)).drop k)[0]? =some m:=by rw[h];rfl
   simp[hk'] at this
   exact this.symm
  subst hm;have hr:(List.range (2^r.length)).drop (m+1)=rest:=by rw[←List.drop_drop,h];rfl
  have h1:((m:Int)<((2^r.length:Nat):Int)):=by omega
  have hp2:2^r.length≤2^15:=Nat.pow_le_pow_right (by decide) hn;have e1:w64 ((m:Int)+1)=((m+1:Nat):Int):=by rw[Ye (by omega) (by omega)];omega
  have hml:=Qb8 hn (m:=m) (by omega) r 0 (((r.length:Nat):Int).toNat+1) [] rfl (by omega) (by simp) (by simp)
  rw[show m/2^0=m by simp,List.nil_append] at hml
  have hml':iter (ZK r (m:Int)) (((r.length:Nat):Int).toNat+1) ([],0)=some (Zj m r):=hml;have hlen:(Zj m r).length≤15:=Nat.le_trans (QaT m r).length_le hn;have ih:=Qec hF hp hc hne v hn rest (m+1) f (QaI (fun l=>(Y9 p v l).1) out (Zj m r)) hr (by omega) (by simp at hf;omega) (by
   simp only[QaI]
   cases (decide ((Zj m r).length<out.length)||(decide ((Zj m r).length=out.length)&&decide (0≤VD (Zj m r) out))) with
   | true=>exact ho
   | false =>
    cases (Y9 p v (Zj m r)).1 with
    | true=>simp only[cond_false,cond_true];omega
    | false=>exact ho)
  have c1:decide ((((Zj m r).length:Nat):Int)<((out.length:Nat):Int))=decide ((Zj m r).length<out.length):=by
   by_cases h:(Zj m r).length<out.length<;>simp[h]<;>omega
  have c2:decide ((((Zj m r).length:Nat):Int)=((out.length:Nat):Int))=decide ((Zj m r).length=out.length):=by
   by_cases h:(Zj m r).length=out.length<;>simp[h]<;>omega
  have hb:ZL F p v r (out,((2^r.length:Nat):Int),(m:Int))=some (.inl (QaI (fun l=>(Y9 p v l).1) out (Zj m r),((2^r.length:Nat):Int),((m+1:Nat):Int))):=by
   simp only[ZL,oun,h1,decide_true,cond_true,hml',Option.bind_some,e1,QcW (show (Zj m r).length≤1000000 by omega),Qev hF hp hc hne v (show (Zj m r).length≤100 by omega),QaI]
   rw[c1,c2]
   cases decide ((Zj m r).length<out.length)<;>cases decide ((Zj m r).length=out.length)<;>cases decide (0≤VD (Zj m r) out)<;>cases (Y9 p v (Zj m r)).1<;>rfl
  rw[List.map_cons,List.foldl_cons,←ih]
  simp only[iter,hb,Option.bind_some,QT]
def QdR (p:Pr) (e v:Int) (ds:List Int):List Int×Int :=
 bif decide ((if e=0 then Wl p v ds else e)=0) then (Qcs (fun l=>(Y9 p v l).1) (Zr ds),0) else ([],if e=0 then Wl p v ds else e)
theorem Most_eq {F:Nat} (hF:41100≤F) {p:Pr} (hne:p.Road.Edges.length≤600) {e:Int} (hc:Qj p=some e) (v:Int) {ds:List Int} (hd:ds.length≤15):JO F p v ds=some (QdR p e v ds):=by
 unfold JO QdR
 rw[Qc4 (by omega) hne hc v ds (by omega),Option.bind_some]
 by_cases h:(if e=0 then Wl p v ds else e)=0
 ·obtain ⟨rfl,h2⟩:=QeA h;have hl:(Zr ds).length=ds.length:=(JQ ds).length_eq;have hp2:2^ds.length≤2^15:=Nat.pow_le_pow_right (by decide) hd;have hw:w64 (1*2^(((Zr ds).length:Nat):Int).toNat)=((2^(Zr ds).length:Nat):Int):=by
   rw[Int.toNat_natCast,hl,Int.one_mul]
   have:((2:Int)^ds.length)=((2^ds.length:Nat):Int):=by simp
   rw[this]
   generalize 2^ds.length=q at hp2 ⊢
   exact Ye (by omega) (by omega)
  have hr2:(List.range (2^(Zr ds).length)).length<F:=by
   rw[List.length_range,hl]
   omega
  have:=Qec hF (OkP.of hne hc) hc hne v (r:=Zr ds) (by omega) _ 0 F [] rfl (Nat.zero_le _) (by simpa using hr2) (by simp);have h':iter (ZL F p v (Zr ds)) F ([],((2^(Zr ds).length:Nat):Int),0)=_:=this
  simp only[if_true,h2,decide_true,Bool.not_true,cond_false,cond_true,Qg7 (show ds.length≤1000 by omega),Option.bind_some,JW (show 0≤(((Zr ds).length:Nat):Int)∧(((Zr ds).length:Nat):Int)≤64 by omega),hw,h',List.drop_zero]
  rfl
 ·simp only[h,decide_false,Bool.not_false,cond_true,cond_false]
end Go.Proofs.Ytilbengnjgglhaa
namespace Go.Proofs.Ytilbengnjgglhaa
open Go.RowKit
set_option linter.unusedSimpArgs false
set_option linter.unusedVariables false
def QkH (k:List Int→Int×Int) (s:Bst) (c:List Int):Bst :=
 bif decide ((k c).2=0)&&(!s.1||(decide ((k c).1<s.2.1)||(decide ((k c).1=s.2.1)&&WS c s.2.2))) then (true,(k c).1,c) else s
def Qci (k:List Int→Int×Int) (ds:List Int):Bst:=(VS ds ds.length [] (List.replicate ds.length false)).foldl (QkH k) (false,0,[])
def Qa3 (p:Pr) (v:Int) (c:List Int):Int×Int:=(JE p ⟨v,c⟩).getD (0,1)
theorem Wj {p:Pr} (hp:OkP p) (hc:Qj p=some 0) (v:Int) (ds:List Int):Y9 p v ds=Qci (Qa3 p v) ds:=by
 have e:(fun c=>JA p ⟨v,c⟩)=Qa3 p v:=funext fun c=>by unfold Qa3;rw[Qik hp hc];rfl
 rw[←e]
 rfl
def exZ (g:Int):Pr:=Qc.mk (Qq.mk 3 [(QB.mk 0 1 100 60),(QB.mk 1 0 100 60),(QB.mk 1 2 100 60),(QB.mk 2 1 100 60)]) [(Qk.mk ⟨#[118]⟩ 0 (QR.mk 0 86400) g 1)] [(Qh.mk 0 1 0 10 (QR.mk 0 86400) 0),(Qh.mk 1 2 0 10 (QR.mk 0 86400) 0)] 0 0
theorem Qkq (g:Int):QL g=some (exZ g):=rfl
theorem exN (g:Int):(exZ g).Road.Edges.length≤600:=by show 4≤600;decide
theorem c20:Qj (exZ 20)=some 0:=by decide +kernel
theorem c10:Qj (exZ 10)=some 0:=by decide +kernel
theorem c9:Qj (exZ 9)=some 0:=by decide +kernel
theorem z1:Qa2 (exZ 20) 0 0 [1,0]=(⟨0,[0,1,-1]⟩,400,0):=by
 unfold Qa2
 rw[Wj (OkP.of (exN 20) c20) c20,show Qci (Qa3 (exZ 20) 0) [1,0]=(true,400,[0,1,-1]) by decide +kernel,show Wl (exZ 20) 0 [1,0]=0 by decide +kernel]
 rfl
theorem z2:Qa2 (exZ 10) 0 0 [0,1]=(⟨0,[0,-1,1,-1]⟩,600,0):=by
 unfold Qa2
 rw[Wj (OkP.of (exN 10) c10) c10,show Qci (Qa3 (exZ 10) 0) [0,1]=(true,600,[0,-1,1,-1]) by decide +kernel,show Wl (exZ 10) 0 [0,1]=0 by decide +kernel]
 rfl
theorem z3:Qa2 (exZ 9) 0 0 [0,1]=(⟨0,[]⟩,0,40):=by
 unfold Qa2
 rw[Wj (OkP.of (exN 9) c9) c9,show Qci (Qa3 (exZ 9) 0) [0,1]=(false,0,[]) by decide +kernel,show Wl (exZ 9) 0 [0,1]=0 by decide +kernel]
 rfl
theorem z4:Wu (exZ 9) 0 0 [0]=(false,0):=by
 unfold Wu
 rw[Wj (OkP.of (exN 9) c9) c9,show Qci (Qa3 (exZ 9) 0) [0]=(false,0,[]) by decide +kernel,show Wl (exZ 9) 0 [0]=0 by decide +kernel]
 rfl
theorem z5:Wu (exZ 20) 0 0 [0,1]=(true,0):=by
 unfold Wu
 rw[Wj (OkP.of (exN 20) c20) c20,show (Qci (Qa3 (exZ 20) 0) [0,1]).1=true by decide +kernel,show Wl (exZ 20) 0 [0,1]=0 by decide +kernel]
 rfl
theorem z6:QdR (exZ 10) 0 0 [1,0]=([0,1],0):=by
 unfold QdR;have e:(fun l=>(Y9 (exZ 10) 0 l).1)=fun l=>(Qci (Qa3 (exZ 10) 0) l).1:=funext fun l=>by rw[Wj (OkP.of (exN 10) c10) c10]
 rw[e,show Qcs (fun l=>(Qci (Qa3 (exZ 10) 0) l).1) (Zr [1,0])=[0,1] by decide +kernel,show Wl (exZ 10) 0 [1,0]=0 by decide +kernel]
 rfl
theorem QiR {F:Nat} (hF:41100≤F):Q5 F=some true:=by
 unfold Q5
 simp only[Qkq,Option.bind_some,Qbv hF (exN 20) c20 0 (ds:=[1,0]) (by decide),Qbv hF (exN 10) c10 0 (ds:=[0,1]) (by decide),Qbv hF (exN 9) c9 0 (ds:=[0,1]) (by decide),Serves_eq hF (exN 9) c9 0 (ds:=[0]) (by decide),Serves_eq hF (exN 20) c20 0 (ds:=[0,1]) (by decide),Most_eq hF (exN 10) c10 0 (ds:=[1,0]) (by decide),z1,z2,z3,z4,z5,z6,oun]
 decide +kernel
theorem Qhq (a:List Int) (hn:a.length≤1000):iter (Yq a a) (((a.length:Nat):Int).toNat+1) 0=some (.inl ()):=by
 have:=YG (body:=Yq a a) a (fun _ _=>none) (.inl ():Unit⊕Bool) (by omega) (fun k y hy=> ?_) (by simp[Yq]) (((a.length:Nat):Int).toNat+1) (by simp)
 ·rw[this]
  exact congrArg some (Jn a 0 fun _ _ _=>rfl)
 ·have hk:=QF hy;have hk2:((k:Int)<(a.length:Nat)):=by omega
  simp only[Yq,hk2,decide_true,cond_true,Qs,hy,Option.bind_some,Bool.not_true,cond_false]
  rfl
theorem QdS {a:List Int} (hn:a.length≤1000):QJ a a=some true:=by
 unfold QJ
 rw[Qhq a hn]
 simp[QT]
end Go.Proofs.Ytilbengnjgglhaa
namespace Go.Proofs.Ytilbengnjgglhaa
open Go.RowKit
set_option linter.unusedSimpArgs false
set_option linter.unusedVariables false
def Po {α:Type} (Q:α→Prop) (o:Option α):Prop:= ∀x,o=some x→Q x
theorem Po.some {α:Type} {Q:α→Prop} {x:α} (h:Q x):Po Q (some x):=fun y hy=>by
 injection hy with hy
 exact hy▸h
theorem Po.bind {α β:Type} {Q:β→Prop} {o:Option α} {f:α→Option β} (h: ∀x,Po Q (f x)):Po Q (Option.bind o f):=fun y hy=>by
 cases o with
 | none=>cases hy
 | some x=>exact h x y hy
theorem Po.bindI {α β:Type} {R:α→Prop} {Q:β→Prop} {o:Option α} {f:α→Option β} (ho:Po R o) (h: ∀x,R x→Po Q (f x)):Po Q (Option.bind o f):=fun y hy=>by
 cases o with
 | none=>cases hy
 | some x=>exact h x (ho x rfl) y hy
theorem Po.cond {α:Type} {Q:α→Prop} {b:Bool} {x y:Option α} (h1:Po Q x) (h2:Po Q y):Po Q (bif b then x else y):=by
 cases b
 ·exact h2
 ·exact h1
def N2 {α:Type}:α⊕Int→Prop
 | .inl _=>True
 | .inr e=>e≠40
def N3 {σ α:Type}:σ⊕(α⊕Int)→Prop
 | .inl _=>True
 | .inr x=>N2 x
theorem Po.osum {α β:Type} {Q:β→Prop} {o:α⊕Int} {f:α→Option β} {g:Int→Option β} (h:N2 o) (hf: ∀a,Po Q (f a)) (hg: ∀e,e≠40→Po Q (g e)):Po Q (QT o f g):=by
 cases o with
 | inl a=>exact hf a
 | inr e=>exact hg e h
theorem Po.iter {σ α:Type} {body:σ→Option (σ⊕(α⊕Int))} (h: ∀s,Po N3 (body s)): ∀(n:Nat) (s:σ),Po N2 (iter body n s)
 | 0,s=>fun y hy=>by cases hy
 | n+1,s=>by
  unfold Go.Proofs.Ytilbengnjgglhaa.iter;refine Po.bindI (h s) fun x hx=> ?_;cases x with
  | inl s'=>exact Po.iter h n s'
  | inr r=>exact Po.some hx
end Go.Proofs.Ytilbengnjgglhaa
namespace Go.Proofs.Ytilbengnjgglhaa
open Go.RowKit
set_option linter.unusedSimpArgs false
set_option linter.unusedVariables false
theorem QfK (x:QU):YI x=some false∨(YI x=some true∧x.Problem.Road.Edges.length≤600∧x.Demands.length≤4):=by
 unfold YI;obtain ⟨⟨b,hb⟩,hl⟩:=QfS x.Problem
 rw[hb]
 cases b with
 | true=>exact .inl rfl
 | false =>
  obtain ⟨h1,_,_⟩:=hl hb
  simp only[Option.bind_some,Bool.not_false,cond_true]
  by_cases h2:((x.Problem.Demands.length:Nat):Int)≤40
  ·by_cases h3:((x.Demands.length:Nat):Int)≤4
   ·exact .inr ⟨by simp only[h2,h3,decide_true,cond_true,Option.bind_some],h1,by omega⟩
   ·exact .inl (by simp only[h2,h3,decide_true,decide_false,cond_true,Option.bind_some])
  ·exact .inl (by simp only[h2,decide_false,cond_false,Option.bind_some])
theorem QeZ {p:Pr} {v:Int} {ds:List Int} (h:Wl p v ds=0):Qa2 p 0 v ds=bif (Y9 p v ds).1 then (⟨v,(Y9 p v ds).2.2⟩,(Y9 p v ds).2.1,0) else (⟨0,[]⟩,0,40):=by
 unfold Qa2
 rw[if_pos rfl,h]
 rfl
theorem Qc0 {p:Pr} {v:Int} {ds:List Int} (h:Wl p v ds=0):Wu p 0 v ds=((Y9 p v ds).1,0):=by
 unfold Wu
 rw[if_pos rfl,h]
 rfl
theorem Qe3 {p:Pr} {e v:Int} {ds:List Int} (h:(if e=0 then Wl p v ds else e)≠0):Wu p e v ds=(false,if e=0 then Wl p v ds else e):=by
 unfold Wu
 rw[decide_eq_false h]
 rfl
theorem Qe1 {p:Pr} {v:Int} {ds:List Int} (h:Wl p v ds=0):QdR p 0 v ds=(Qcs (fun l=>(Y9 p v l).1) (Zr ds),0):=by
 unfold QdR
 rw[if_pos rfl,h]
 rfl
end Go.Proofs.Ytilbengnjgglhaa
namespace Go.Proofs.Ytilbengnjgglhaa
open Go.RowKit
set_option linter.unusedSimpArgs false
set_option linter.unusedVariables false
theorem Qga {p:Pr} (hp:OkP p) {a:Int} (ha:0≤a∧a<p.Road.Nodes):Yh p a a=⟨0,0⟩:=by
 obtain ⟨h1,_⟩:=QaS hp ha;have h2:=h1.best 0 a ⟨0,0⟩ .nil;have h3:=Zh hp ha ha;unfold Yh at h3 ⊢
 generalize lab (Qas p a) a=l at *
 have h4:=h2.2;unfold Lg.le at h4;cases l
 simp only at h2 h3 h4 ⊢
 congr 1<;>omega
theorem QhW {p:Pr} (hp:OkP p) {v:Int} (hv:0≤v∧v<((p.Vehicles.length:Nat):Int)):(JA p ⟨v,[]⟩).2=0:=by
 unfold JA Wc;obtain ⟨w,hw⟩: ∃w,p.Vehicles[v.toNat]? =some w:=⟨_,List.getElem?_eq_getElem (by omega)⟩
 have hk:=hp.ve w (List.mem_of_getElem? hw);have h1: ¬(v<0∨((p.Vehicles.length:Nat):Int)≤v):=by omega
 have h2: ¬(40<([]:List Int).length):=by simp
 have hs:=Qga hp ⟨hk.d0,hk.d1⟩;have h3: ¬(w.Shift.To≤w.Shift.From+0):=by have:=hk.s1;omega
 simp only[h1,if_false,hw,ZM,J7,x0,hs,List.length_nil,show ¬(40<0) by decide,show ¬((0:Int)<0) by decide,h3,ne_eq,not_true_eq_false]
theorem QjS {p:Pr} (hp:OkP p) {v:Int} (hv:0≤v∧v<((p.Vehicles.length:Nat):Int)):(Y9 p v []).1=true:=by
 rcases JV p v [] with ⟨h1,h2⟩ | ⟨h1,_⟩
 ·exact absurd (QhW hp hv) (h2 [] ⟨[],List.Perm.refl _,rfl⟩)
 ·exact h1
theorem QiH (ok:List Int→Bool) (out l:List Int):out.length≤(QaI ok out l).length∧(ok l=true→l.length≤(QaI ok out l).length)∧(QaI ok out l=out∨(QaI ok out l=l∧ok l=true)):=by
 unfold QaI
 generalize hb:(decide (l.length<out.length)||(decide (l.length=out.length)&&decide (0≤VD l out)))=b
 cases b with
 | true =>
  simp only[Bool.or_eq_true,Bool.and_eq_true,decide_eq_true_eq] at hb
  simp only[cond_true]
  exact ⟨Nat.le_refl _,fun _=>by omega,.inl trivial⟩
 | false =>
  simp only[Bool.or_eq_false_iff,decide_eq_false_iff_not] at hb
  simp only[cond_false]
  cases h3:ok l with
  | true =>
   simp only[cond_true]
   exact ⟨by omega,fun _=>Nat.le_refl _,.inr ⟨trivial,trivial⟩⟩
  | false =>
   simp only[cond_false]
   exact ⟨Nat.le_refl _,fun h=>(by cases h),.inl trivial⟩
theorem Qd4 (ok:List Int→Bool): ∀(L:List (List Int)) (out:List Int),out.length≤(L.foldl (QaI ok) out).length∧(∀l∈L,ok l=true→l.length≤(L.foldl (QaI ok) out).length)∧(L.foldl (QaI ok) out=out∨(L.foldl (QaI ok) out∈L∧ok (L.foldl (QaI ok) out)=true))
 | [],out=>⟨Nat.le_refl _,fun _ h=>(by cases h),.inl rfl⟩
 | l::L,out=>by
  rw[List.foldl_cons]
  obtain ⟨a1,a2,a3⟩:=QiH ok out l;obtain ⟨b1,b2,b3⟩:=Qd4 ok L (QaI ok out l);refine ⟨Nat.le_trans a1 b1,fun y hy hok=> ?_,?_⟩
  ·rcases List.mem_cons.1 hy with rfl | hy
   ·exact Nat.le_trans (a2 hok) b1
   ·exact b2 y hy hok
  ·rcases b3 with b3 | ⟨b3,b4⟩
   ·rw[b3]
    rcases a3 with a3 | ⟨a3,a4⟩
    ·exact .inl a3
    ·rw[a3];exact .inr ⟨List.mem_cons_self,a4⟩
   ·exact .inr ⟨List.mem_cons_of_mem _ b3,b4⟩
theorem Qgd {ok:List Int→Bool} (h0:ok []=true) (r:List Int):(Qcs ok r).Sublist r∧ok (Qcs ok r)=true∧ ∀l,l.Sublist r→ok l=true→l.length≤(Qcs ok r).length:=by
 unfold Qcs;obtain ⟨_,h2,h3⟩:=Qd4 ok ((List.range (2^r.length)).map fun m=>Zj m r) [];refine ⟨?_,?_,fun l hl hok=> ?_⟩
 ·rcases h3 with h3 | ⟨h3,_⟩
  ·rw[h3];exact List.nil_sublist _
  ·obtain ⟨m,_,hm⟩:=List.mem_map.1 h3
   rw[←hm]
   exact QaT m r
 ·rcases h3 with h3 | ⟨_,h3⟩
  ·rw[h3];exact h0
  ·exact h3
 ·obtain ⟨m,m1,m2⟩:=Qb7 hl;exact h2 l (List.mem_map.2 ⟨m,List.mem_range.2 m1,m2⟩) hok
theorem QgI {p:Pr} {v:Int} {a b:List Int} (h:Wl p v b=0) (ha:a.Nodup) (hs: ∀d∈a,d∈b) (hl:a.length≤5):Wl p v a=0:=by
 obtain ⟨h1,_,h3,_⟩:=Qc5.1 h;exact Qc5.2 ⟨h1,hl,fun d hd=>h3 d (hs d hd),ha⟩
end Go.Proofs.Ytilbengnjgglhaa
namespace Go.Proofs.Ytilbengnjgglhaa
open Go.RowKit
set_option linter.unusedSimpArgs false
set_option linter.unusedVariables false
theorem Qf9 {p:Pr} {v:Ve} (hp:OkP p) {k:Nat} {x y:Vi} {pre:List Int} (hx:InV p v k x) (h0:x.Load=0) (hs:JC p v pre x (-1)= .inl y):Lax p x y:=by
 unfold JC at hs
 rw[if_pos rfl] at hs
 split at hs
 ·cases hs
 ·injection hs with hs;subst hs
  refine ⟨fun b b0 b1 hb=> ?_,by simp only[];omega⟩
  simp only[] at hb ⊢
  have h6:=tri hp ⟨hx.n0,hx.n1⟩ ⟨hp.u0,hp.u1⟩ ⟨b0,b1⟩ (by omega) hb;have:=hp.us0
  omega
theorem Qhm {p:Pr} {v:Ve} {A:List Int} {z:Vi×List Vi} (hA:A=[]∨ ∃B,A=B++[-1]) (h:ZM p v [] A (x0 v)= .inl z):z.1.Load=0:=by
 rcases hA with rfl | ⟨B,rfl⟩
 ·injection h with h;subst h;rfl
 ·rw[Vj] at h
  cases hB:ZM p v [] B (x0 v) with
  | inr q=>rw[hB] at h;cases h
  | inl zB =>
   rw[hB] at h
   simp only[List.nil_append] at h
   cases hC:ZM p v B [-1] zB.1 with
   | inr q=>rw[hC] at h;cases h
   | inl zC =>
    rw[hC] at h
    injection h with h
    subst h
    simp only
    unfold ZM at hC
    split at hC
    ·cases hC
    ·rename_i y hy
     split at hC
     ·rename_i z1 hz
      injection hC with hC;subst hC
      injection hz with hz;subst hz
      unfold JC at hy
      rw[if_pos rfl] at hy
      split at hy
      ·cases hy
      ·injection hy with hy;subst hy;rfl
     ·cases hC
theorem Qhh {p:Pr} (hp:OkP p) {v:Int} {A B:List Int} {s:Int} {u:Vi×List Vi×Ve} (h:Wc p ⟨v,A++s::B⟩= .inl u) (hs:0≤s∨(s= -1∧(A=[]∨ ∃A',A=A'++[-1]))): ∃u',Wc p ⟨v,A++B⟩= .inl u':=by
 obtain ⟨z,y,hf,_,_⟩:=QiG h;have hv:=hp.ve u.2.2 (by
  have:=hf.hv;unfold QM at this
  rw[if_pos hf.t0] at this
  exact List.mem_of_getElem? this)
 have hsl:(A++s::B).length≤40:=hf.sl;have hfol:ZM p u.2.2 [] (A++s::B) (x0 u.2.2)= .inl z:=hf.fol
 rw[Vj] at hfol
 cases hA:ZM p u.2.2 [] A (x0 u.2.2) with
 | inr q=>rw[hA] at hfol;cases hfol
 | inl zA =>
  rw[hA] at hfol
  simp only[List.nil_append] at hfol
  have hzA:=QaQ hp hv A [] _ _ (QdE hv) hA
  simp only[List.length_nil,Nat.zero_add] at hzA
  cases hB:ZM p u.2.2 A (s::B) zA.1 with
  | inr q=>rw[hB] at hfol;cases hfol
  | inl zB =>
   rw[hB] at hfol
   injection hfol with hfol
   have hB2:=hB;unfold ZM at hB2
   split at hB2
   ·cases hB2
   ·rename_i y1 hy1
    split at hB2
    ·rename_i zC hC
     injection hB2 with hB2
     have hlx:Lax p zA.1 y1:=by
      rcases hs with h0 | ⟨h0,h1⟩
      ·exact Qh4 hp hv hzA.1 h0 hy1
      ·subst h0;exact Qf9 hp hzA.1 (Qhm h1 hA) hy1
     obtain ⟨z',g1,g2⟩:=QgO hp B (A++[s]) A y1 zA.1 zC hlx (fun w hw=>List.mem_append_left _ hw) hC;have hzn:=QaQ hp hv B A _ _ hzA.1 g1;have hhom:=hf.hom
     rw[←hfol,←hB2] at hhom
     obtain ⟨y',g3⟩:=Qh5 hv g2 hzn.1.l0 hhom;have e:=QiF (p:=p) (t:=⟨v,A++B⟩) hf.t0 hf.t1 hf.hv (by simp at hsl ⊢;omega)
     simp only[] at e
     rw[Vj,hA] at e
     simp only[List.nil_append,g1,g3] at e
     exact ⟨_,e⟩
    ·cases hB2
def okT (p:Pr) (v:Int) (c:List Int):Prop:=(JA p ⟨v,c⟩).2=0
theorem QgT {p:Pr} {v:Int} {c:List Int}:okT p v c↔ ∃u,Wc p ⟨v,c⟩= .inl u:=by
 unfold okT JA;cases h:Wc p ⟨v,c⟩ with
 | inl u=>exact ⟨fun _=>⟨u,rfl⟩,fun _=>rfl⟩
 | inr q=>exact ⟨fun h2=>absurd h2 (Qcd h),fun ⟨u,hu⟩=>by cases hu⟩
theorem Qdq {p:Pr} (hp:OkP p) {v:Int} {A B:List Int} {s:Int} (h:okT p v (A++s::B)) (hs:0≤s∨(s= -1∧(A=[]∨ ∃A',A=A'++[-1]))):okT p v (A++B):=by
 obtain ⟨u,hu⟩:=QgT.1 h;exact QgT.2 (Qhh hp hu hs)
theorem ZX: ∀(P Q:List (Int×Bool)),Yx (P++Q)=Yx P++Yx Q
 | [],Q=>rfl
 | (d,f)::P,Q=>by simp[Yx,ZX P Q]
theorem Qhf {p:Pr} (hp:OkP p) {v:Int} {ds rest c:List Int} {d:Int} (hc:Qep ds c) (hok:okT p v c) (hd:ds.Perm (d::rest)) (h0:0≤d): ∃c',Qep rest c'∧okT p v c':=by
 obtain ⟨P,h1,rfl⟩:=hc;have h2:=h1.trans hd;have hm:d∈P.map Prod.fst:=h2.symm.subset List.mem_cons_self;obtain ⟨⟨d',f⟩,hq,hdd⟩:=List.mem_map.1 hm
 simp only at hdd
 subst hdd;obtain ⟨P1,P2,rfl⟩:=List.append_of_mem hq;have h3:((P1++P2).map Prod.fst).Perm rest:=by
  have:((P1++(d',f)::P2).map Prod.fst).Perm (d'::(P1++P2).map Prod.fst):=by
   simp[List.perm_middle]
  exact (List.perm_cons d').1 (this.symm.trans h2)
 have h4:okT p v (Yx P1++((if f then [-1] else [])++Yx P2)):=by
  rw[ZX] at hok
  exact Qdq hp (s:=d') hok (.inl h0)
 cases f with
 | false=>exact ⟨_,⟨P1++P2,h3,rfl⟩,by rw[ZX];exact h4⟩
 | true =>
  have h5:okT p v (Yx P1++ -1::Yx P2):=h4;rcases List.eq_nil_or_concat P1 with rfl | ⟨P1',⟨a,g⟩,rfl⟩
  ·exact ⟨_,⟨[]++P2,h3,rfl⟩,Qdq hp h5 (.inr ⟨rfl,.inl rfl⟩)⟩
  ·cases g with
   | true =>
    refine ⟨_,⟨_,h3,rfl⟩,?_⟩
    rw[ZX]
    refine Qdq hp h5 (.inr ⟨rfl,.inr ⟨Yx P1'++[a],?_⟩⟩)
    simp[ZX,Yx]
   | false =>
    refine ⟨_,⟨P1'++(a,true)::P2,by simpa using h3,rfl⟩,?_⟩;have e:Yx (P1'++(a,true)::P2)=Yx (P1'++[(a,false)])++ -1::Yx P2:=by simp[ZX,Yx]
    rw[e]
    simpa using h5
theorem Qhc {p:Pr} (hp:OkP p) {v:Int} {ds rest:List Int} {d:Int} (hd:ds.Perm (d::rest)) (h0:0≤d) (h:(Y9 p v ds).1=true):(Y9 p v rest).1=true:=by
 rcases JV p v ds with ⟨h1,_⟩ | ⟨_,h2,h3,_⟩
 ·rw[h1] at h;cases h
 ·obtain ⟨c',c1,c2⟩:=Qhf hp h2 (congrArg Prod.snd h3) hd h0;rcases JV p v rest with ⟨g1,g2⟩ | ⟨g1,_⟩
  ·exact absurd c2 (g2 c' c1)
  ·exact g1
theorem QhU (p:Pr) (v:Int) (ds:List Int):(Y9 p v ds).2.2.length≤2*ds.length:=by
 rcases JV p v ds with ⟨h1,_⟩ | ⟨_,h2,_⟩
 ·rw[h1];simp
 ·exact h2.len
theorem Wn (x:QU) (k:Int) (hx:We x) (hk:wfI .u8 k): ∃F,YZ F x k=some true:=by
 refine ⟨41100,?_⟩;have hk0:0≤k∧k<256:=by
  simp only[wfI,Lit.wf,Bool.and_eq_true,decide_eq_true_eq] at hk
  have h1:IntKind.u8.min=0:=by decide
  have h2:IntKind.u8.max=255:=by decide
  omega
 have haw:=QiR (Nat.le_refl 41100);unfold YZ;rcases QfK x with h | ⟨h,hn,hd⟩
 ·rw[h];simp only[Option.bind_some,Bool.not_false,cond_true,haw]
 ·rw[h]
  by_cases hne:((x.Demands.length:Nat):Int)=0
  ·simp only[Option.bind_some,Bool.not_true,cond_false,hne,decide_true,cond_true,haw]
  ·obtain ⟨e,hc⟩:=Qgm x.Problem hn
   simp only[Option.bind_some,Bool.not_true,cond_false,hne,decide_false,oun,Serves_eq (Nat.le_refl 41100) hn hc x.Vehicle (show x.Demands.length≤100 by omega)]
   by_cases hz:(if e=0 then Wl x.Problem x.Vehicle x.Demands else e)=0
   ·obtain ⟨rfl,hchk⟩:=QeA hz;have hp:=OkP.of hn hc;obtain ⟨hv,_,hdd,hnd⟩:=Qc5.1 hchk;obtain ⟨n,hnn⟩: ∃n:Nat,Int.tmod (w64 k) ((x.Demands.length:Nat):Int)=n:=by
     rw[Ye (by omega) (by omega),Int.tmod_eq_emod_of_nonneg hk0.1]
     exact ⟨(k%((x.Demands.length:Nat):Int)).toNat,by have:=Int.emod_nonneg k hne;omega⟩
    have hnl:n<x.Demands.length:=by
     rw[Ye (by omega) (by omega),Int.tmod_eq_emod_of_nonneg hk0.1] at hnn
     have:=Int.emod_lt_of_pos k (show (0:Int)<((x.Demands.length:Nat):Int) by omega)
     omega
    have hsub: ∀j,j≤x.Demands.length→Jw x.Demands ((j:Nat):Int) ((x.Demands.length:Nat):Int)=some (x.Demands.drop j):=by
     intro j hj;unfold Jw
     rw[if_pos ⟨by omega,by omega,by omega⟩]
     simp
    have e1:w64 ((n:Int)+1)=((n+1:Nat):Int):=by rw[Ye (by omega) (by omega)];omega
    have hperm:x.Demands.Perm (x.Demands[n]::(x.Demands.take n++x.Demands.drop (n+1))):=by
     have e2:x.Demands=x.Demands.take n++x.Demands[n]::x.Demands.drop (n+1):=by
      rw[←List.drop_eq_getElem_cons hnl,List.take_append_drop]
     exact (List.Perm.of_eq e2).trans List.perm_middle
    have hrot:(x.Demands.drop n++x.Demands.take n).Perm x.Demands:=List.perm_append_comm.trans (by rw[List.take_append_drop]);have hL:(x.Demands.take n++x.Demands.drop (n+1)).length≤4:=by simp;omega
    have hchL:=QgI hchk (List.nodup_cons.1 (hperm.nodup_iff.1 hnd)).2 (fun d hd=>hperm.symm.subset (List.mem_cons_of_mem _ hd)) (show (x.Demands.take n++x.Demands.drop (n+1)).length≤5 by omega);have hchR:=QgI hchk (hrot.nodup_iff.2 hnd) (fun d hd=>hrot.subset hd) (show (x.Demands.drop n++x.Demands.take n).length≤5 by rw[hrot.length_eq];omega);have hless:=Qhc hp hperm (hdd _ (List.getElem_mem hnl)).1 (v:=x.Vehicle);have hrl:(x.Demands.drop n++x.Demands.take n).length≤4:=by rw[hrot.length_eq];exact hd
    have hsort:Zr (x.Demands.drop n++x.Demands.take n)=Zr x.Demands:=Vy ((JQ _).trans (hrot.trans (JQ _).symm)) (WR _) (WR _);have hb:=QhU x.Problem x.Vehicle x.Demands;have hm:(Qcs (fun l=>(Y9 x.Problem x.Vehicle l).1) (Zr x.Demands)).length≤1000:=by
     have h1:=(Qgd (ok:=fun l=>(Y9 x.Problem x.Vehicle l).1) (QjS hp hv) (Zr x.Demands)).1.length_le
     rw[(JQ x.Demands).length_eq] at h1
     omega
    have hbl:(bif (Y9 x.Problem x.Vehicle x.Demands).1 then ((⟨x.Vehicle,(Y9 x.Problem x.Vehicle x.Demands).2.2⟩:Qf),(Y9 x.Problem x.Vehicle x.Demands).2.1,(0:Int)) else (⟨0,[]⟩,0,40)).1.Stops.length≤1000:=by
     cases (Y9 x.Problem x.Vehicle x.Demands).1 with
     | true=>simp only[cond_true];omega
     | false=>simp only[cond_false,List.length_nil];omega
    rw[hnn]
    simp only[Qc0 hchk,decide_true,Bool.not_true,cond_false,JW hne,Wq (Nat.le_of_lt hnl),e1,hsub (n+1) (by omega),hsub n (by omega),Option.bind_some,appO_eq (show ([]:List Int).length+(x.Demands.take n).length≤1000000 by simp;omega),appO_eq (show ([]:List Int).length+(x.Demands.drop n).length≤1000000 by simp;omega),List.nil_append,
     appO_eq (show (x.Demands.take n).length+(x.Demands.drop (n+1)).length≤1000000 by simp;omega),appO_eq (show (x.Demands.drop n).length+(x.Demands.take n).length≤1000000 by simp;omega),
     Serves_eq (Nat.le_refl 41100) hn hc x.Vehicle (show (x.Demands.take n++x.Demands.drop (n+1)).length≤100 by omega),Qc0 hchL,Qbv (Nat.le_refl 41100) hn hc x.Vehicle (show x.Demands.length≤100 by omega),Qbv (Nat.le_refl 41100) hn hc x.Vehicle (show (x.Demands.drop n++x.Demands.take n).length≤100 by omega),QeZ hchk,QeZ hchR,
     Most_eq (Nat.le_refl 41100) hn hc x.Vehicle (show x.Demands.length≤15 by omega),Most_eq (Nat.le_refl 41100) hn hc x.Vehicle (show (x.Demands.drop n++x.Demands.take n).length≤15 by omega),Qe1 hchk,Qe1 hchR,hsort,QfZ hrot,cond_true,QdS hbl,QdS hm,haw]
    cases hf:(Y9 x.Problem x.Vehicle x.Demands).1 with
    | false=>rfl
    | true =>
     rw[hless hf]
     rfl
   ·simp only[Qe3 hz,hz,decide_false,Bool.not_false,cond_true,Option.bind_some,haw]
end Go.Proofs.Ytilbengnjgglhaa
namespace Go.Proofs.Ytilbengnjgglhaa
open Go.RowKit Go.ChangeShapes Go.WideShapes
set_option linter.unusedSimpArgs false
set_option linter.unusedVariables false
def QeD (W:World):Gh:=⟨fun b=>W.heap[b]?,W.os,W.output,W.tape⟩
theorem Qh1 (W:World):Inv W (QeD W) []:=⟨rfl,rfl,rfl,fun _ _ h=>h,by simp,by simp,by simp⟩
theorem QhS {W W':World} {μ:Gh} {L:List Seg} (hm:(QeD W).le μ) (h:Inv W' μ L):Below W.heap.size W W':=by
 have hb: ∀k,k<W.heap.size→W'.heap[k]? =W.heap[k]? :=fun k hk=>by
  have h1:W.heap[k]? =some W.heap[k]:=by simp[hk]
  rw[h1]
  exact h.mem k _ (hm.mem k _ h1)
 refine ⟨h.os.trans hm.os,h.tape.trans hm.tape,h.out.trans hm.out,?_,hb⟩;rcases Nat.eq_zero_or_pos W.heap.size with h0 | h0
 ·omega
 ·have h1:=hb (W.heap.size-1) (by omega);have h2:W.heap[W.heap.size-1]? =some (W.heap[W.heap.size-1]'(by omega)):=by simp
  rw[h2] at h1
  have:=YP h1
  omega
theorem Qfd {P:Program} {f:FuncId} {fn:Func} (hf:P.funcs[f]? =some fn) (hb:fn.body.isNone=false) {args:List Value} {W:World} {v:Value} (h:Fn P f args (QeD W) [] fun u _ _=>u=v) :
  Calls P f args.toArray W fun e W'=>e= .returned v∧Below W.heap.size W W':=by
 rcases h with ⟨_,h⟩ | ⟨fn',_,hf',_,hb',_⟩
 ·refine (h W (Qh1 W)).mono ?_;rintro e W' ⟨u,μ',L',rfl,hm,hi,rfl⟩;exact ⟨rfl,QhS hm hi⟩
 ·rw[hf] at hf'
  injection hf' with hf'
  subst hf'
  rw[hb] at hb';cases hb'
section
variable {H:Type} {enc:TypeId×Value→H} {P:Program}
theorem Qbb (hl:laidOutB P=true) {W W':World} (hb:Below W.heap.size W W') {sp:Nat→Bool}: ∀{ts:List TypeId} {vs:List Value} {ds:List (DataW H)} {ps:List MemPlace},
  (∀t∈ts,P.readableRec t=true∧t<P.types.size)→(∀p∈ps,p.block<W.heap.size)→(∀p∈ps,sp p.block=true) →
  DataW.TrodAll enc P W 0 (fun _=>true) true ts vs ds ps→DataW.TrodAll enc P W' 0 sp true ts vs ds ps
 | [],vs,ds,ps,_,_,_,h=>by
  obtain ⟨rfl,rfl,rfl⟩:=trodAll_nil h
  rfl
 | t::ts,vs,ds,ps,hr,hlt,hs,h=>by
  obtain ⟨v,vs',d,ds',p,q,rfl,rfl,rfl,hd,hrest⟩:=trodAll_cons h;refine ⟨p,q,WideElems.Trod_stays hl (hr t (by simp)).1 (hr t (by simp)).2 hd (fun x hx=>hb.same (hlt x (by simp[hx]))) (fun x hx=>hs x (by simp[hx])),?_,rfl⟩;exact Qbb hl hb (fun u hu=>hr u (by simp[hu])) (fun x hx=>hlt x (by simp[hx])) (fun x hx=>hs x (by simp[hx])) hrest
theorem Qhn {f:Func} {s:ChangeSpec} {apart fresh handsOn again:Bool} {W W':World} {args:Array Value} {ds:List (DataW H)} {before:List MemPlace} {tb:TypeId}
  (hW:DataW.Whole enc P f.params.toList s.vars apart W args.toList ds [] before) (hv:s.vars=[]) (hres:f.resultTypes= #[tb]) (htb:P.underlying tb=some .bool)
  (hfr:(s.fn H ds).results=[.lit (.bool true)]) (hfa:(s.fn H ds).args=ds) (hfv:(s.fn H ds).vars=[]) (hl:laidOutB P=true) (hr: ∀t∈f.params.toList,P.readableRec t=true∧t<P.types.size) (hb:Below W.heap.size W W') :
  s.post enc P f apart fresh handsOn again W args (.bool true) W':=by
 have hlt: ∀p∈before,p.block<W.heap.size:=fun p hp=>hW.lt p hp;have hW':=hW;obtain ⟨p,q,hA,hV,hpq,hz,hn⟩:=hW'
 rw[hv] at hV
 obtain ⟨_,rfl⟩:=trodVars_none hV
 rw[List.append_nil] at hpq
 subst hpq;have hresl:((Value.bool true).resultList f.resultTypes.size)=[.bool true]:=by rw[hres];rfl
 have hargs: ∀sp:Nat→Bool,(∀x∈before,sp x.block=true)→DataW.TrodAll enc P W' 0 sp true f.params.toList args.toList ds before:=fun sp hs=>Qbb hl hb hr hlt hs hA;have hres2: ∀(b:Nat) (sp:Nat→Bool) (hd:Bool),DataW.TrodAll enc P W' b sp hd f.resultTypes.toList [.bool true] [.lit (.bool true)] []:=fun b sp hd=>by
  rw[hres];exact trodAll_mk1 (shut_bool htb true)
 have hold: ∀p∈before,(fun b=>decide (b<W.heap.size)) p.block=true:=fun p hp=>by simpa using hlt p hp
 have hvars: ∀sp:Nat→Bool,DataW.TrodVars enc P W' sp s.vars [] []:=fun sp=>by rw[hv];rfl
 refine ⟨ds,[],before,[],before,[],hW,?_,?_,?_,World.keptBut_mono (fun p hp=>⟨hp,by simpa using hp⟩) (hb.frame (· ∈before)),fun _=> ?_⟩
 ·rw[hresl,List.append_nil,hfr];exact hres2 _ _ _
 ·rw[List.append_nil,hfa];exact hargs _ hold
 ·rw[List.append_nil,hfv];exact hvars _
 ·have A1:=hargs (fun _=>true) (fun _ _=>rfl);have R1:=hres2 0 (fun _=>true) true;refine ⟨ok_one hres rfl (okWide_bool_mk htb true),?_⟩
  rw[hresl]
  refine ⟨_,_,([]++before)++[],⟨[]++before,[],trodAll_append A1 R1,hvars _,rfl,?_,?_⟩,?_⟩
  ·intro b off hp;have hin:MemPlace.cell b off∈before:=by simpa using hp
   rw[hb.frozen (hlt _ hin)]
   exact hz b off hin
  ·intro ha;have:=hn ha
   simpa using this
  ·intro p hp _
   simpa using hp
end
end Go.Proofs.Ytilbengnjgglhaa
namespace Go.Proofs.Ytilbengnjgglhaa
open Go.RowKit Go.ChangeShapes Go.WideShapes Go.Deep
set_option linter.unusedSimpArgs false
set_option linter.unusedVariables false
theorem QdH {W:World} {L:List Seg} {a:Addr} {v:Value} (h:W.cell? a=some v):ZQ (QeD W) L a v:=by
 unfold World.cell? at h
 split at h
 ·rename_i c e f hb
  split at h
  ·cases h
  ·rename_i hs
   refine ⟨by simpa using hs,c,e,f,.inl hb,by simpa using h⟩
 ·cases h
theorem QgQ {α β:Type} (Q:Nat→α→β→Prop): ∀n,(∀i,i<n→ ∃x y,Q i x y)→ ∃(l:List α) (m:List β),l.length=n∧m.length=n∧ ∀(i:Nat) (x:α) (y:β),l[i]? =some x→m[i]? =some y→Q i x y
 | 0,_=>⟨[],[],rfl,rfl,by simp⟩
 | n+1,h=>by
  obtain ⟨l,m,hl,hm,hq⟩:=QgQ Q n fun i hi=>h i (by omega);obtain ⟨x,y,hx⟩:=h n (by omega);refine ⟨l++[x],m++[y],by simp[hl],by simp[hm],fun i u v hu hv=> ?_⟩;rcases Nat.lt_or_ge i n with hi | hi
  ·rw[List.getElem?_append_left (by omega)] at hu hv
   exact hq i u v hu hv
  ·rw[List.getElem?_append_right (by omega)] at hu hv
   have:i-n=0:=by
    rcases Nat.eq_zero_or_pos (i-n) with h0 | h0
    ·exact h0
    ·rw[List.getElem?_eq_none (by simp;omega)] at hu;cases hu
   rw[hl,this] at hu
   rw[hm,this] at hv
   simp only[List.getElem?_cons_zero,Option.some.injEq] at hu hv
   have:i=n:=by omega
   subst this;subst hu;subst hv;exact hx
def Opn {α:Type} (P:Program) (W:World) (t:TypeId) (r:Rp α) (Q:α→Prop):Prop :=
 ∀(H:Type) (enc:TypeId×Value→H) (spare:Nat→Bool) (held:Bool) (fuel:Nat) (cs:List Value) (x:DataW H×List MemPlace),DataW.trod enc P W 0 spare held fuel t cs=some x→ ∃d,r.rep (QeD W) d cs∧Q d
section
variable {P:Program} {W:World} {t:TypeId}
theorem Zm {k:IntKind} (ht:P.underlying t=some (.int k)):Opn P W t (rI k) (wfI k):=by
 intro H enc spare held fuel cs x h;obtain ⟨n,h1,_,h2⟩:=DataW.trod_int ht h;exact ⟨n,h1,h2⟩
theorem Qi0 (ht:P.underlying t=some .string):Opn P W t QkG fun s=>s.size≤maxLen:=by
 intro H enc spare held fuel cs x h;obtain ⟨n,h1,_,h2⟩:=DataW.trod_string ht h;exact ⟨n,h1,h2⟩
theorem QaV {α:Type} {e:TypeId} {r:Rp α} {Q:α→Prop} (ht:P.underlying t=some (.slice e)) (hC:P.cellsOf e=r.sz) (he:Opn P W e r Q):Opn P W t (Qkx r) fun xs=> ∀x∈xs,Q x:=by
 intro H enc spare held fuel cs x h;rcases open_slice ht h with ⟨rfl,_⟩ | ⟨a,n,c,m,nn,D,Pl,rfl,hb,hl,hm,hmm,hx,hi⟩
 ·exact ⟨[],⟨none,0,rfl,Nat.le_refl _,Nat.zero_le _,Qn.nil⟩,by simp⟩
 ·have hrow: ∀i,i<n→ ∃(y:α) (cs:List Value),r.rep (QeD W) y cs∧Q y∧YO (QeD W) [] (a.add (i*r.sz)) cs:=fun i hin=>by
   obtain ⟨cs',hc,htr⟩:=hi i (by split at hmm<;>omega)
   rw[hC] at hc
   obtain ⟨y,hy,hq⟩:=he H enc spare held nn cs' _ htr;obtain ⟨_,hcl,hat⟩:=World.cells?_some hc;refine ⟨y,cs',hy,hq,fun j u hu=> ?_⟩;have hjk:j<r.sz:=by
    rcases Nat.lt_or_ge j r.sz with h | h
    ·exact h
    ·rw[List.getElem?_eq_none (by omega)] at hu;cases hu
   exact QdH (by rw[hat j hjk];exact hu)
  obtain ⟨xs,css,hxl,hcl,hq⟩:=QgQ (fun i y cs=>r.rep (QeD W) y cs∧Q y∧YO (QeD W) [] (a.add (i*r.sz)) cs) n hrow;refine ⟨xs,⟨some a,c,by rw[hxl],by omega,hm,css,fun i cs hcs=> ?_,by rw[hxl,hcl],fun i y cs hy hcs=>(hq i y cs hy hcs).1⟩,fun y hy=> ?_⟩
  ·have hlt:i<css.length:=by
    rcases Nat.lt_or_ge i css.length with h | h
    ·exact h
    ·rw[List.getElem?_eq_none h] at hcs;cases hcs
   obtain ⟨h1,_,h3⟩:=hq i (xs[i]'(by omega)) cs (by simp) hcs;exact ⟨r.len h1,a,rfl,h3⟩
  ·obtain ⟨i,hi'⟩:=List.getElem?_of_mem hy;have hlt:i<xs.length:=by
    rcases Nat.lt_or_ge i xs.length with h | h
    ·exact h
    ·rw[List.getElem?_eq_none h] at hi';cases hi'
   exact (hq i y (css[i]'(by omega)) hi' (by simp)).2.1
end
theorem Y6 {cs:List Value} {o a o2:Nat} (h:o+a=o2):cs.drop o=(cs.drop o).take a++cs.drop o2:=by rw[←h,←List.drop_drop,List.take_append_drop]
theorem Qhy {cs:Array Value} {l:List Value} (h:cs.toList=l):cs=l.toArray:=by rw[←h]
end Go.Proofs.Ytilbengnjgglhaa
