/- DispatchPlans: for every input the given law returns true, and its arguments read as before. No condition. -/
import Derived.Test.YthpgjbbjpfiniaaGreatc1x11
import Derived.Test.YthpgjbbjpfiniaaGreatc1x10
namespace Go.Proofs.YthpgjbbjpfiniaaGreat
open Go.RowKit
set_option linter.unusedSimpArgs false
set_option linter.unusedVariables false
abbrev Wa:=QH
structure At (p:Pr) (v:Ve) (w:Wa) (x:Vi) (m:Int) (l:List Vi):Prop where
 pl:w.place=⟨x.Node,x.Leave,x.Load,m⟩
 ep:w.p=p
 ev:w.v=v
 vs:w.visits=l
 ok:okC p w.legs
theorem QjZ {w:Wa} {s a b:Int} (h:w.visits.length≤1000):Vb w s a b=some ⟨w.place,w.p,w.v,w.legs,w.visits++[⟨s,w.place.node,a,b,w.place.time,w.place.load⟩]⟩:=by
 unfold Vb
 rw[Ym (by simp;omega)]
 rfl
theorem Qmb {F:Nat} (hF:40000≤F) {p:Pr} {v:Ve} (hp:OkP p) (hv:OkV p.Road.Nodes v) {t:Qa} (hn:t.Stops.length≤40) {k:Nat} {s:Int} (hk:t.Stops[k]? =some s) {x:Vi} (hx:InV p v k x) {w:Wa} {m:Int} {l:List Vi}
  (hw:At p v w x m l) (hl:l.length≤900) (hm0:0≤m) (hm1:m≤k*6400000) :
  match QaE p v (t.Stops.take k) x s with
   | .inl y=> ∃w',Vq F w t (k:Int)=some (0,w')∧At p v w' y (m+(Zz p x.Node y.Node).Meters) (l++[y])
   | .inr e=> ∃w',Vq F w t (k:Int)=some (e,w'):=by
 obtain ⟨pl,wp,wv,wl,wvs⟩:=w;obtain ⟨e1,e2,e3,e4,e5⟩:=hw
 simp only at e1 e2 e3 e4 e5
 subst e1 e2 e3 e4;have hkl:=Qv hk;have h1:=hx.t0;have h2:=hx.t1;have h3:=hx.l0;have h4:=hx.l1;have hg:=hv.g1;have hsub:WV t.Stops 0 (k:Int)=some (t.Stops.take k):=VY (Nat.le_of_lt hkl);have hcon:YH (t.Stops.take k) s=some (decide (s∈t.Stops.take k)):=QcJ _ (by simp;omega) s;unfold Vq QaE
 simp only[Qt,hk,Option.bind_some]
 by_cases hs:s= -1
 ·subst hs;have hu:=Wc hp ⟨hx.n0,hx.n1⟩ ⟨hp.u0,hp.u1⟩;have hus0:=hp.us0;have hus1:=hp.us1;obtain ⟨c,hc1,hc2⟩:=QlM hF (w:=⟨⟨x.Node,x.Leave,x.Load,m⟩,wp,wv,wl,wvs⟩) hp e5 ⟨hx.n0,hx.n1⟩ ⟨hp.u0,hp.u1⟩
  simp only[decide_true,Bool.not_true,cond_false,cond_true,if_true,Option.bind_some,QJ,hc1,oun]
  by_cases hl2:(Zz wp x.Node wp.Unload).Secs<0
  ·rw[if_pos hl2,show decide (0≤(Zz wp x.Node wp.Unload).Secs)=false by simp;omega]
   exact ⟨_,rfl⟩
  ·rw[if_neg hl2,show decide (0≤(Zz wp x.Node wp.Unload).Secs)=true by simp;omega]
   simp only[Bool.not_true,cond_false]
   rw[Yi (n:=x.Leave+(Zz wp x.Node wp.Unload).Secs) (by omega) (by omega),Yi (n:=x.Leave+(Zz wp x.Node wp.Unload).Secs+wp.UnloadSecs) (by omega) (by omega),Yi (n:=m+(Zz wp x.Node wp.Unload).Meters) (by omega) (by omega)]
   rw[QjZ (by simp only[];omega)]
   exact ⟨_,rfl,⟨rfl,rfl,rfl,rfl,hc2⟩⟩
 ·simp only[show decide (s= -1)=false by simpa using hs,cond_false,cond_true,Bool.not_false,if_neg hs,Zl,Option.bind_some]
  by_cases h7:s<0∨((wp.Demands.length:Nat):Int)≤s
  ·rw[if_pos h7,show (decide (s<0)||decide (((wp.Demands.length:Nat):Int)≤s))=true by simpa using h7]
   exact ⟨_,rfl⟩
  ·rw[if_neg h7,show (decide (s<0)||decide (((wp.Demands.length:Nat):Int)≤s))=false by simpa using h7]
   simp only[cond_false,hsub,hcon,Option.bind_some]
   by_cases h6:s∈t.Stops.take k
   ·rw[if_pos h6]
    simp only[h6,decide_true,cond_true,Option.bind_some,QJ]
    exact ⟨_,rfl⟩
   ·rw[if_neg h6]
    obtain ⟨i,rfl⟩: ∃i:Nat,s=i:=⟨s.toNat,by omega⟩
    have hd:wp.Demands[i]? =some wp.Demands[i]:=List.getElem?_eq_getElem (by omega)
    generalize wp.Demands[i]=d at hd
    have hd2:=hp.de d (List.mem_of_getElem? hd);have hl3:=Wc hp ⟨hx.n0,hx.n1⟩ ⟨hd2.n0,hd2.n1⟩;have a1:=hd2.g0;have a2:=hd2.w0;have a3:=hd2.w1;have a4:=hd2.w2;have a5:=hd2.s0;have a6:=hd2.s1;have a7:=hd2.g1;obtain ⟨c,hc1,hc2⟩:=QlM hF (w:=⟨⟨x.Node,x.Leave,x.Load,m⟩,wp,wv,wl,wvs⟩) hp e5 ⟨hx.n0,hx.n1⟩ ⟨hd2.n0,hd2.n1⟩
    simp only[h6,decide_false,cond_false,Option.bind_some,QJ,Qt,hd,Int.toNat_natCast,(Qfi hv hd2.k0 hd2.k1).1]
    cases hc:QhH wv d.Kind with
    | false=>simp only[Bool.not_false,cond_true,Option.bind_some,QJ,if_true];exact ⟨_,rfl⟩
    | true =>
     simp only[Bool.not_true,cond_false,Option.bind_some,Bool.true_eq_false,if_false,QJ,hc1,oun]
     by_cases hl2:(Zz wp x.Node d.Node).Secs<0
     ·rw[if_pos hl2,show decide (0≤(Zz wp x.Node d.Node).Secs)=false by simp;omega]
      exact ⟨_,rfl⟩
     ·rw[if_neg hl2,show decide (0≤(Zz wp x.Node d.Node).Secs)=true by simp;omega]
      simp only[Bool.not_true,cond_false,Qt,hd,Option.bind_some]
      rw[Yi (n:=x.Leave+(Zz wp x.Node d.Node).Secs) (by omega) (by omega),Yi (n:=x.Load+d.Grams) (by omega) (by omega),Yi (n:=m+(Zz wp x.Node d.Node).Meters) (by omega) (by omega)]
      by_cases hw:d.When.To≤max (x.Leave+(Zz wp x.Node d.Node).Secs) d.When.From
      ·rw[if_pos hw]
       simp only[hw,decide_true,cond_true]
       exact ⟨_,rfl⟩
      ·rw[if_neg hw]
       by_cases hgr:wv.Grams<x.Load+d.Grams
       ·rw[if_pos hgr]
        simp only[hw,hgr,decide_true,decide_false,cond_true,cond_false]
        exact ⟨_,rfl⟩
       ·rw[if_neg hgr]
        rw[Yi (n:=max (x.Leave+(Zz wp x.Node d.Node).Secs) d.When.From+d.Service) (by omega) (by omega)]
        simp only[hw,hgr,decide_false,cond_false]
        rw[QjZ (by simp only[];omega)]
        exact ⟨_,rfl,⟨rfl,rfl,rfl,rfl,hc2⟩⟩
def VM (p:Pr) (v:Ve):List Int→List Int→Vi→(Vi×List Vi)⊕(Int×Nat)
 | _,[],x=> .inl (x,[])
 | pre,s::rest,x=>match QaE p v pre x s with
  | .inr e=> .inr (e,pre.length)
  | .inl y=>match VM p v (pre++[s]) rest y with
   | .inl z=> .inl (z.1,y::z.2)
   | .inr q=> .inr q
def Qa1 (p:Pr):Int→List Vi→Int
 | _,[]=>0
 | a,y::l=>(Zz p a y.Node).Meters+Qa1 p y.Node l
theorem QfY {p:Pr} {v:Ve}: ∀(rest pre:List Int) (x:Vi) (q:Int×Nat),VM p v pre rest x= .inr q→q.1≠0
 | [],pre,x,q,h=>by cases h
 | s::rest,pre,x,q,h=>by
  unfold VM at h
  split at h
  ·rename_i e he
   injection h with h;subst h
   exact Qjx he
  ·rename_i y hy
   split at h
   ·cases h
   ·rename_i q' hq
    injection h with h;subst h
    exact QfY rest _ _ _ hq
theorem QdG {p:Pr} {v:Ve} (hp:OkP p) (hv:OkV p.Road.Nodes v): ∀(rest pre:List Int) (x:Vi) (z:Vi×List Vi),InV p v pre.length x→VM p v pre rest x= .inl z→InV p v (pre.length+rest.length) z.1∧z.2.length=rest.length∧0≤Qa1 p x.Node z.2∧Qa1 p x.Node z.2≤rest.length*6400000
 | [],pre,x,z,hx,h=>by
  injection h with h;subst h
  exact ⟨hx,rfl,Int.le_refl _,by simp[Qa1]⟩
 | s::rest,pre,x,z,hx,h=>by
  unfold VM at h
  split at h
  ·cases h
  ·rename_i y hy
   obtain ⟨h1,h2,_⟩:=QeO hp hv hx hy
   split at h
   ·rename_i z' hz
    injection h with h;subst h
    have h3:=QdG hp hv rest (pre++[s]) y z' (by simpa using h1) hz;have h4:=Wc hp ⟨hx.n0,hx.n1⟩ ⟨h1.n0,h1.n1⟩
    simp only[List.length_append,List.length_singleton,List.length_cons,Qa1] at h3 ⊢
    refine ⟨by rw[show pre.length+(rest.length+1)=pre.length+1+rest.length by omega];exact h3.1,by omega,by omega,by omega⟩
   ·cases h
theorem Qjy {t:List Int} {k:Nat} {s:Int} {rest:List Int} (h:t.drop k=s::rest):t[k]? =some s∧t.take (k+1)=t.take k++[s]∧t.drop (k+1)=rest:=by
 have h1:t[k]? =some s:=by
  have:(t.drop k)[0]? =some s:=by rw[h];rfl
  rw[List.getElem?_drop] at this
  simpa using this
 refine ⟨h1,YN h1,?_⟩
 rw[←List.drop_drop,h]
 rfl
theorem QoJ {p:Pr} {v:Ve} (hp:OkP p) (hv:OkV p.Road.Nodes v) {t:Qa} (hn:t.Stops.length≤40): ∀(rest:List Int) (k:Nat) (x:Vi) (out:List Vi) (n:Nat),t.Stops.drop k=rest→k≤t.Stops.length→rest.length<n→InV p v k x→out.length=k →
  iter (Zc p t v) n (x.Stop,x.Node,x.Arrive,x.Start,x.Leave,x.Load,out,(k:Int))=some (match VM p v (t.Stops.take k) rest x with
   | .inl z=> .inl (z.1.Stop,z.1.Node,z.1.Arrive,z.1.Start,z.1.Leave,z.1.Load,out++z.2)
   | .inr q=> .inr ([],q.1,((q.2:Nat):Int))):=by
 intro rest
 induction rest with
 | nil =>
  intro k x out n hd hk hn2 hx ho;obtain ⟨n,rfl⟩: ∃f,n=f+1:=⟨n-1,by omega⟩
  have hk2:k=t.Stops.length:=by
   have:=congrArg List.length hd
   simp at this;omega
  rw[iter]
  simp only[Zc,oun]
  rw[show decide ((k:Int)<((t.Stops.length:Nat):Int))=false by simp;omega]
  simp only[cond_false,Option.bind_some,QJ,VM,List.append_nil]
 | cons s rest ih =>
  intro k x out n hd hk hn2 hx ho;obtain ⟨n,rfl⟩: ∃f,n=f+1:=⟨n-1,by omega⟩
  obtain ⟨h1,h2,h3⟩:=Qjy hd;have hkl:=Qv h1
  rw[iter,QoK hp hv hn h1 hx out (by omega)]
  unfold VM;cases hs:QaE p v (t.Stops.take k) x s with
  | inr e =>
   simp only[Option.bind_some,QJ]
   rw[Yn (Nat.le_of_lt hkl)]
  | inl y =>
   simp only[Option.bind_some,QJ]
   have:=ih (k+1) y (out++[y]) n h3 (by omega) (by simp only[List.length_cons] at hn2;omega) (QeO hp hv hx hs).1 (by simp;omega)
   rw[this,h2]
   cases VM p v (t.Stops.take k++[s]) rest y with
   | inl z=>simp
   | inr q=>rfl
theorem QoB {F:Nat} (hF:40000≤F) {p:Pr} {v:Ve} (hp:OkP p) (hv:OkV p.Road.Nodes v) {t:Qa} (hn:t.Stops.length≤40): ∀(rest:List Int) (k:Nat) (x:Vi) (w:Wa) (m:Int) (l:List Vi) (n:Nat),t.Stops.drop k=rest→k≤t.Stops.length→rest.length<n→InV p v k x→At p v w x m l→l.length=k→0≤m→m≤k*6400000 →
  match VM p v (t.Stops.take k) rest x with
   | .inl z=> ∃w',iter (JO F t) n (w,0,(k:Int))=some (w',0,((t.Stops.length:Nat):Int))∧At p v w' z.1 (m+Qa1 p x.Node z.2) (l++z.2)
   | .inr q=> ∃w',iter (JO F t) n (w,0,(k:Int))=some (w',q.1,((q.2:Nat):Int)):=by
 intro rest
 induction rest with
 | nil =>
  intro k x w m l n hd hk hn2 hx hw ho hm0 hm1;obtain ⟨n,rfl⟩: ∃f,n=f+1:=⟨n-1,by omega⟩
  have hk2:k=t.Stops.length:=by
   have:=congrArg List.length hd
   simp at this;omega
  refine ⟨w,?_,by simpa [Qa1] using hw⟩
  rw[iter]
  simp only[JO,oun]
  rw[show decide ((k:Int)<((t.Stops.length:Nat):Int))=false by simp;omega]
  simp only[cond_false,Option.bind_some,QJ,hk2]
 | cons s rest ih =>
  intro k x w m l n hd hk hn2 hx hw ho hm0 hm1;obtain ⟨n,rfl⟩: ∃f,n=f+1:=⟨n-1,by omega⟩
  obtain ⟨h1,h2,h3⟩:=Qjy hd;have hkl:=Qv h1;have hst:=Qmb hF hp hv hn h1 hx hw (by omega) hm0 hm1;have hk2:decide ((k:Int)<((t.Stops.length:Nat):Int))=true:=by simp;omega
  unfold VM;cases hs:QaE p v (t.Stops.take k) x s with
  | inr e =>
   rw[hs] at hst
   obtain ⟨w',hw'⟩:=hst;refine ⟨w',?_⟩
   rw[iter]
   simp only[JO,oun,hk2,cond_true,hw',Option.bind_some]
   rw[show decide (e=0)=false by simpa using Qjx hs]
   simp only[Bool.not_false,cond_true,Option.bind_some,QJ]
   rw[Yn (Nat.le_of_lt hkl)]
  | inl y =>
   rw[hs] at hst
   obtain ⟨w',hw',hat⟩:=hst;have hin:=QeO hp hv hx hs;have hlb:=Wc hp ⟨hx.n0,hx.n1⟩ ⟨hin.1.n0,hin.1.n1⟩;have:=ih (k+1) y w' (m+(Zz p x.Node y.Node).Meters) (l++[y]) n h3 (by omega) (by simp only[List.length_cons] at hn2;omega) hin.1 hat (by simp;omega) (by omega) (by omega)
   rw[h2] at this
   have hb:iter (JO F t) (n+1) (w,0,(k:Int))=iter (JO F t) n (w',0,((k+1:Nat):Int)):=by
    rw[iter]
    simp only[JO,oun,hk2,cond_true,hw',Option.bind_some,decide_true,Bool.not_true,cond_false,QJ]
    rw[Wv (by omega)]
   rw[hb]
   simp only[]
   cases hf:VM p v (t.Stops.take k++[s]) rest y with
   | inl z =>
    rw[hf] at this
    obtain ⟨w2,g1,g2⟩:=this;refine ⟨w2,g1,?_⟩
    simp only[Qa1]
    rw[show m+((Zz p x.Node y.Node).Meters+Qa1 p y.Node z.2)=m+(Zz p x.Node y.Node).Meters+Qa1 p y.Node z.2 by omega,show l++y::z.2=l++[y]++z.2 by simp]
    exact g2
   | inr q =>
    rw[hf] at this
    exact this
def QaU (p:Pr) (v:Ve) (x:Vi):Vi⊕Int :=
 if (Zz p x.Node v.Depot).Secs<0 then .inr 22
 else if x.Load≠0 then .inr 20
 else if v.Shift.To≤x.Leave+(Zz p x.Node v.Depot).Secs then .inr 19
 else .inl ⟨-2,v.Depot,x.Leave+(Zz p x.Node v.Depot).Secs,x.Leave+(Zz p x.Node v.Depot).Secs,x.Leave+(Zz p x.Node v.Depot).Secs,0⟩
theorem Qgx {p:Pr} {v:Ve} {x:Vi} {e:Int} (hs:QaU p v x= .inr e):e≠0:=by
 unfold QaU at hs
 repeat' split at hs
 all_goals first | (cases hs;done) | (injection hs with hs;subst hs;decide)
theorem QoH {p:Pr} {v:Ve} (hp:OkP p) (hv:OkV p.Road.Nodes v) {k:Nat} (hk:k≤1000) {x:Vi} (hx:InV p v k x):JP p v x=match QaU p v x with
  | .inl y=>some (y,0)
  | .inr e=>some (⟨0,0,0,0,0,0⟩,e):=by
 have h1:=hx.t0;have h2:=hx.t1;have h3:=hx.l0;have hl:=Wc hp ⟨hx.n0,hx.n1⟩ ⟨hv.d0,hv.d1⟩;unfold JP QaU
 rw[Qhr hp ⟨hx.n0,hx.n1⟩ ⟨hv.d0,hv.d1⟩]
 simp only[Option.bind_some]
 by_cases c1:(Zz p x.Node v.Depot).Secs<0
 ·rw[if_pos c1];simp only[c1,decide_true,cond_true]
 ·rw[if_neg c1,Yi (n:=x.Leave+(Zz p x.Node v.Depot).Secs) (by omega) (by omega)]
  simp only[c1,decide_false,cond_false]
  by_cases c2:x.Load≠0
  ·rw[if_pos c2,show decide (0<x.Load)=true by simp;omega];rfl
  ·rw[if_neg c2,show decide (0<x.Load)=false by simp;omega]
   simp only[cond_false]
   by_cases c3:v.Shift.To≤x.Leave+(Zz p x.Node v.Depot).Secs
   ·rw[if_pos c3];simp only[c3,decide_true,cond_true]
   ·rw[if_neg c3];simp only[c3,decide_false,cond_false]
theorem QoA {F:Nat} (hF:40000≤F) {p:Pr} {v:Ve} (hp:OkP p) (hv:OkV p.Road.Nodes v) {k:Nat} (hk:k≤1000) {x:Vi} (hx:InV p v k x) {w:Wa} {m:Int} {l:List Vi} (hw:At p v w x m l) (hl:l.length≤900) (hm0:0≤m) (hm1:m≤k*6400000):match QaU p v x with
  | .inl y=> ∃w',VF F w=some (0,w')∧w'.visits=l++[y]∧w'.place.meters=m+(Zz p x.Node v.Depot).Meters
  | .inr e=> ∃w',VF F w=some (e,w'):=by
 obtain ⟨pl,wp,wv,wl,wvs⟩:=w;obtain ⟨e1,e2,e3,e4,e5⟩:=hw
 simp only at e1 e2 e3 e4 e5
 subst e1 e2 e3 e4;have h1:=hx.t0;have h2:=hx.t1;have h3:=hx.l0;have hlb:=Wc hp ⟨hx.n0,hx.n1⟩ ⟨hv.d0,hv.d1⟩;obtain ⟨c,hc1,hc2⟩:=QlM hF (w:=⟨⟨x.Node,x.Leave,x.Load,m⟩,wp,wv,wl,wvs⟩) hp e5 ⟨hx.n0,hx.n1⟩ ⟨hv.d0,hv.d1⟩;unfold VF QaU
 simp only[hc1,Option.bind_some,oun]
 by_cases c1:(Zz wp x.Node wv.Depot).Secs<0
 ·rw[if_pos c1,show decide (0≤(Zz wp x.Node wv.Depot).Secs)=false by simp;omega]
  exact ⟨_,rfl⟩
 ·rw[if_neg c1,show decide (0≤(Zz wp x.Node wv.Depot).Secs)=true by simp;omega]
  simp only[Bool.not_true,cond_false]
  rw[Yi (n:=x.Leave+(Zz wp x.Node wv.Depot).Secs) (by omega) (by omega),Yi (n:=m+(Zz wp x.Node wv.Depot).Meters) (by omega) (by omega)]
  by_cases c2:x.Load≠0
  ·rw[if_pos c2,show decide (x.Load=0)=false by simpa using c2]
   exact ⟨_,rfl⟩
  ·rw[if_neg c2]
   simp only[ne_eq,Decidable.not_not] at c2
   simp only[c2,decide_true,Bool.not_true,cond_false]
   by_cases c3:wv.Shift.To≤x.Leave+(Zz wp x.Node wv.Depot).Secs
   ·rw[if_pos c3];simp only[c3,decide_true,cond_true];exact ⟨_,rfl⟩
   ·rw[if_neg c3];simp only[c3,decide_false,cond_false]
    rw[QjZ (by simp only[];omega)]
    exact ⟨_,rfl,rfl,rfl⟩
end Go.Proofs.YthpgjbbjpfiniaaGreat
namespace Go.Proofs.YthpgjbbjpfiniaaGreat
open Go.RowKit
set_option linter.unusedSimpArgs false
set_option linter.unusedVariables false
def x0 (v:Ve):Vi:=⟨0,v.Depot,0,0,v.Shift.From,0⟩
theorem Qg7 {p:Pr} {v:Ve} (hv:OkV p.Road.Nodes v):InV p v 0 (x0 v):=by
 have h1:=hv.s0;have h2:=hv.s1;have h3:=hv.s2;have h4:=hv.g0;exact ⟨hv.d0,hv.d1,h1,by simp only[x0];omega,Int.le_refl _,by simp only[x0];omega⟩
def W4 (p:Pr) (t:Qa):(Vi×List Vi×Ve)⊕(Int×Int) :=
 if t.Vehicle<0∨((p.Vehicles.length:Nat):Int)≤t.Vehicle then .inr (7,0)
 else if 40<t.Stops.length then .inr (8,0)
 else match p.Vehicles[t.Vehicle.toNat]? with
  | none=> .inr (7,0)
  | some v=>match VM p v [] t.Stops (x0 v) with
   | .inr q=> .inr (q.1,((q.2:Nat):Int))
   | .inl z=>match QaU p v z.1 with
    | .inr e=> .inr (e,((t.Stops.length:Nat):Int))
    | .inl y=> .inl (z.1,z.2++[y],v)
def Qdz (p:Pr) (t:Qa):List Vi×Int×Int:=match W4 p t with
 | .inl z=>(z.2.1,0,0)
 | .inr q=>([],q.1,q.2)
def YJ (p:Pr) (t:Qa):Int×Int:=match W4 p t with
 | .inl z=>(Qa1 p z.2.2.Depot z.2.1,0)
 | .inr q=>(0,q.1)
theorem Qan {p:Pr} {t:Qa} {q:Int×Int} (h:W4 p t= .inr q):q.1≠0:=by
 unfold W4 at h
 split at h
 ·injection h with h;subst h;decide
 ·split at h
  ·injection h with h;subst h;decide
  ·split at h
   ·injection h with h;subst h;decide
   ·split at h
    ·rename_i q' hq
     injection h with h;subst h
     exact QfY _ _ _ _ hq
    ·split at h
     ·rename_i e he
      injection h with h;subst h
      exact Qgx he
     ·cases h
theorem QgB {p:Pr} {v:Ve} (y:Vi): ∀(rest pre:List Int) (x:Vi) (z:Vi×List Vi),VM p v pre rest x= .inl z→Qa1 p x.Node (z.2++[y])=Qa1 p x.Node z.2+(Zz p z.1.Node y.Node).Meters
 | [],pre,x,z,h=>by
  injection h with h;subst h
  simp[Qa1]
 | s::rest,pre,x,z,h=>by
  unfold VM at h
  split at h
  ·cases h
  ·split at h
   ·rename_i y' _ z' hz
    injection h with h;subst h
    have:=QgB y rest _ _ _ hz
    simp only[List.cons_append,Qa1] at this ⊢
    omega
   ·cases h
theorem Qip {p:Pr} (hp:OkP p) (hc:Qo p=some 0) (t:Qa):Z3 p t=some (Qdz p t):=by
 unfold Z3 Qdz W4
 rw[hc]
 simp only[Option.bind_some,decide_true,Bool.not_true,cond_false,Zl]
 by_cases h1:t.Vehicle<0∨((p.Vehicles.length:Nat):Int)≤t.Vehicle
 ·rw[if_pos h1,show (decide (t.Vehicle<0)||decide (((p.Vehicles.length:Nat):Int)≤t.Vehicle))=true by simpa using h1]
  rfl
 ·rw[if_neg h1,show (decide (t.Vehicle<0)||decide (((p.Vehicles.length:Nat):Int)≤t.Vehicle))=false by simpa using h1]
  simp only[cond_false]
  by_cases h2:40<t.Stops.length
  ·rw[if_pos h2,show decide ((40:Int)<((t.Stops.length:Nat):Int))=true by simp;omega]
   rfl
  ·rw[if_neg h2,show decide ((40:Int)<((t.Stops.length:Nat):Int))=false by simp;omega]
   simp only[cond_false]
   obtain ⟨i,hi⟩: ∃i:Nat,t.Vehicle=i:=⟨t.Vehicle.toNat,by omega⟩
   have hd:p.Vehicles[i]? =some p.Vehicles[i]:=List.getElem?_eq_getElem (by omega)
   generalize p.Vehicles[i]=v at hd
   have hv:=hp.ve v (List.mem_of_getElem? hd)
   rw[hi]
   simp only[Qt,hd,Option.bind_some,Int.toNat_natCast]
   have hl:=QoJ hp hv (t:=t) (by omega) t.Stops 0 (x0 v) [] (t.Stops.length+1) rfl (Nat.zero_le _) (by simp) (Qg7 hv) rfl
   rw[List.take_zero] at hl
   have hl2:iter (Zc p t v) (t.Stops.length+1) (0,v.Depot,0,0,v.Shift.From,0,[],0)=_:=hl
   rw[hl2]
   cases hf:VM p v [] t.Stops (x0 v) with
   | inr q=>rfl
   | inl z =>
    have hz:=QdG hp hv t.Stops [] _ _ (Qg7 hv) hf
    simp only[List.length_nil,Nat.zero_add] at hz
    simp only[Option.bind_some,QJ,oun,List.nil_append]
    have hh:JP p v ⟨z.1.Stop,z.1.Node,z.1.Arrive,z.1.Start,z.1.Leave,z.1.Load⟩=_:=QoH hp hv (k:=t.Stops.length) (by omega) hz.1
    rw[hh]
    cases hm:QaU p v z.1 with
    | inr e =>
     simp only[Option.bind_some,oun]
     rw[show decide (e=0)=false by simpa using Qgx hm]
     rfl
    | inl y =>
     simp only[Option.bind_some,oun,decide_true,Bool.not_true,cond_false]
     rw[Ym (by simp;omega)]
     rfl
theorem QfA {F:Nat} (hF:40000≤F) {p:Pr} (hp:OkP p) (t:Qa):match W4 p t with
  | .inl z=> ∃w,VI F p t=some (some w,0,0)∧w.visits=z.2.1∧w.place.meters=Qa1 p z.2.2.Depot z.2.1
  | .inr q=>VI F p t=some (none,q.1,q.2):=by
 unfold VI W4
 simp only[Option.bind_some,Zl]
 by_cases h1:t.Vehicle<0∨((p.Vehicles.length:Nat):Int)≤t.Vehicle
 ·rw[if_pos h1,show (decide (t.Vehicle<0)||decide (((p.Vehicles.length:Nat):Int)≤t.Vehicle))=true by simpa using h1]
  rfl
 ·rw[if_neg h1,show (decide (t.Vehicle<0)||decide (((p.Vehicles.length:Nat):Int)≤t.Vehicle))=false by simpa using h1]
  simp only[cond_false]
  by_cases h2:40<t.Stops.length
  ·rw[if_pos h2,show decide ((40:Int)<((t.Stops.length:Nat):Int))=true by simp;omega]
   rfl
  ·rw[if_neg h2,show decide ((40:Int)<((t.Stops.length:Nat):Int))=false by simp;omega]
   simp only[cond_false]
   obtain ⟨i,hi⟩: ∃i:Nat,t.Vehicle=i:=⟨t.Vehicle.toNat,by omega⟩
   have hd:p.Vehicles[i]? =some p.Vehicles[i]:=List.getElem?_eq_getElem (by omega)
   generalize p.Vehicles[i]=v at hd
   have hv:=hp.ve v (List.mem_of_getElem? hd)
   rw[hi]
   simp only[Qt,hd,Option.bind_some,Int.toNat_natCast]
   have hl:=QoB hF hp hv (t:=t) (by omega) t.Stops 0 (x0 v) ⟨⟨v.Depot,v.Shift.From,0,0⟩,p,v,[],[]⟩ 0 [] (t.Stops.length+1) rfl (Nat.zero_le _) (by simp) (Qg7 hv) ⟨rfl,rfl,rfl,rfl,fun n L h=>by cases h⟩ rfl (Int.le_refl _) (by simp)
   rw[List.take_zero] at hl
   cases hf:VM p v [] t.Stops (x0 v) with
   | inr q =>
    rw[hf] at hl
    obtain ⟨w',hw'⟩:=hl
    rw[show ((0:Nat):Int)=(0:Int) from rfl] at hw'
    simp only[hw',Option.bind_some,oun]
    rw[show decide (q.1=0)=false by simpa using QfY _ _ _ _ hf]
    simp only[cond_false,Option.bind_some,oun]
    rw[show decide (q.1=0)=false by simpa using QfY _ _ _ _ hf]
    rfl
   | inl z =>
    rw[hf] at hl
    obtain ⟨w',hw',hat⟩:=hl
    rw[show ((0:Nat):Int)=(0:Int) from rfl] at hw'
    have hz:=QdG hp hv t.Stops [] _ _ (Qg7 hv) hf
    simp only[List.length_nil,Nat.zero_add] at hz
    simp only[hw',Option.bind_some,oun,decide_true,cond_true]
    have hb:=QoA hF hp hv (k:=t.Stops.length) (by omega) hz.1 hat (by simp;omega) (by omega) (by omega);cases hm:QaU p v z.1 with
    | inr e =>
     rw[hm] at hb
     obtain ⟨w2,hw2⟩:=hb
     simp only[hw2,Option.bind_some,oun]
     rw[show decide (e=0)=false by simpa using Qgx hm]
     rfl
    | inl y =>
     rw[hm] at hb
     obtain ⟨w2,hw2,g1,g2⟩:=hb
     simp only[hw2,Option.bind_some,oun,decide_true,Bool.not_true,cond_false]
     refine ⟨w2,rfl,by simpa using g1,?_⟩
     rw[g2]
     have h5:=QgB y _ _ _ _ hf;have h6:y.Node=v.Depot:=by
      unfold QaU at hm
      repeat' split at hm
      all_goals first | (cases hm;done) | (injection hm with hm;subst hm;rfl)
     rw[h6] at h5
     show 0+Qa1 p (x0 v).Node z.2+_=Qa1 p (x0 v).Node (z.2++[y])
     omega
theorem QcF (p:Pr) (hn:p.Road.Edges.length≤600):(Qo p=some 0∧OkP p)∨ ∃e,e≠0∧Qo p=some e:=by
 obtain ⟨e,he⟩:=Ql1 p hn
 by_cases h:e=0
 ·subst h;exact .inl ⟨he,OkP.of hn he⟩
 ·exact .inr ⟨e,h,he⟩
theorem Qmq {F:Nat} (hF:40000≤F) {p:Pr} (hp:OkP p) (hc:Qo p=some 0) (hn:p.Road.Edges.length≤600) (t:Qa):Qck F p t=some (Qdz p t):=by
 unfold Qck Qdz
 rw[ZP (by omega) p hn,hc]
 simp only[Option.bind_some,decide_true,Bool.not_true,cond_false]
 have:=QfA hF hp t;cases h:W4 p t with
 | inr q =>
  rw[h] at this
  simp only[this,Option.bind_some,oun]
  rw[show decide (q.1=0)=false by simpa using Qan h]
  rfl
 | inl z =>
  rw[h] at this
  obtain ⟨w,h1,h2,_⟩:=this
  simp only[h1,Option.bind_some,oun,decide_true,Bool.not_true,cond_false,h2]
theorem Qo7 {F:Nat} (hF:40000≤F) {p:Pr} (hp:OkP p) (hc:Qo p=some 0) (hn:p.Road.Edges.length≤600) (t:Qa):Qdv F p t=some (YJ p t):=by
 unfold Qdv YJ
 rw[ZP (by omega) p hn,hc]
 simp only[Option.bind_some,decide_true,Bool.not_true,cond_false]
 have:=QfA hF hp t;cases h:W4 p t with
 | inr q =>
  rw[h] at this
  simp only[this,Option.bind_some,oun]
  rw[show decide (q.1=0)=false by simpa using Qan h]
  rfl
 | inl z =>
  rw[h] at this
  obtain ⟨w,h1,_,h3⟩:=this
  simp only[h1,Option.bind_some,oun,decide_true,Bool.not_true,cond_false,h3]
theorem QhY {p:Pr} {v:Ve} (hp:OkP p) (hv:OkV p.Road.Nodes v): ∀(rest pre:List Int) (x:Vi) (z:Vi×List Vi),InV p v pre.length x→VM p v pre rest x= .inl z→ ∀y∈z.2,0≤y.Node∧y.Node<p.Road.Nodes
 | [],pre,x,z,hx,h=>by
  injection h with h;subst h
  intro y hy;cases hy
 | s::rest,pre,x,z,hx,h=>by
  unfold VM at h
  split at h
  ·cases h
  ·rename_i y hy
   obtain ⟨h1,_,_⟩:=QeO hp hv hx hy
   split at h
   ·rename_i z' hz
    injection h with h;subst h
    have h3:=QhY hp hv rest (pre++[s]) y z' (by simpa using h1) hz;intro u hu;rcases List.mem_cons.1 hu with h4 | h4
    ·subst h4;exact ⟨h1.n0,h1.n1⟩
    ·exact h3 u h4
   ·cases h
theorem QlX {p:Pr} (hp:OkP p) (L:List Vi) (hL:L.length≤100) (hnd: ∀y∈L,0≤y.Node∧y.Node<p.Road.Nodes): ∀(rest:List Vi) (k:Nat) (sum a:Int) (n:Nat),L.drop k=rest→k≤L.length→rest.length<n→0≤a∧a<p.Road.Nodes→0≤sum→sum≤k*6400000 →
  iter (ZU p L) n (sum,a,(k:Int))=some (sum+Qa1 p a rest):=by
 intro rest
 induction rest with
 | nil =>
  intro k sum a n hd hk hn ha hs0 hs1;obtain ⟨n,rfl⟩: ∃f,n=f+1:=⟨n-1,by omega⟩
  have hk2:k=L.length:=by
   have:=congrArg List.length hd
   simp at this;omega
  rw[iter]
  simp only[ZU,oun]
  rw[show decide ((k:Int)<((L.length:Nat):Int))=false by simp;omega]
  simp[Qa1,QJ]
 | cons y rest ih =>
  intro k sum a n hd hk hn ha hs0 hs1;obtain ⟨n,rfl⟩: ∃f,n=f+1:=⟨n-1,by omega⟩
  have h1:L[k]? =some y:=by
   have:(L.drop k)[0]? =some y:=by rw[hd];rfl
   rw[List.getElem?_drop] at this
   simpa using this
  have h3:L.drop (k+1)=rest:=by rw[←List.drop_drop,hd];rfl
  have hkl:=Qv h1;have hy:=hnd y (List.mem_of_getElem? h1);have hl:=Wc hp ha hy
  rw[iter]
  simp only[ZU,oun]
  rw[show decide ((k:Int)<((L.length:Nat):Int))=true by simp;omega]
  simp only[cond_true,Qt,h1,Option.bind_some,Qhr hp ha hy,QJ]
  rw[Wv (by omega),Yi (by omega) (by omega)]
  rw[ih (k+1) _ _ n h3 (by omega) (by simp only[List.length_cons] at hn;omega) hy (by omega) (by omega)]
  simp only[Qa1]
  congr 1
  omega
theorem QeJ {p:Pr} (hp:OkP p) (hc:Qo p=some 0) (t:Qa):Yt p t=some (YJ p t):=by
 unfold Yt
 rw[Qip hp hc]
 unfold Qdz YJ;cases h:W4 p t with
 | inr q =>
  simp only[Option.bind_some,oun]
  rw[show decide (q.1=0)=false by simpa using Qan h]
  rfl
 | inl z =>
  simp only[Option.bind_some,oun,decide_true,Bool.not_true,cond_false]
  unfold W4 at h
  split at h
  ·cases h
  ·rename_i h1
   split at h
   ·cases h
   ·rename_i h2
    obtain ⟨i,hi⟩: ∃i:Nat,t.Vehicle=i:=⟨t.Vehicle.toNat,by omega⟩
    have hd:p.Vehicles[i]? =some p.Vehicles[i]:=List.getElem?_eq_getElem (by omega)
    generalize p.Vehicles[i]=v at hd
    have hv:=hp.ve v (List.mem_of_getElem? hd)
    rw[hi] at h ⊢
    simp only[Qt,hd,Option.bind_some,Int.toNat_natCast] at h ⊢
    cases hf:VM p v [] t.Stops (x0 v) with
    | inr q=>rw[hf] at h;cases h
    | inl w =>
     rw[hf] at h
     simp only[] at h
     cases hm:QaU p v w.1 with
     | inr e=>rw[hm] at h;cases h
     | inl y =>
      rw[hm] at h
      injection h with h;subst h
      have hz:=QdG hp hv t.Stops [] _ _ (Qg7 hv) hf;have hnn:=QhY hp hv t.Stops [] _ _ (Qg7 hv) hf
      simp only[List.length_nil,Nat.zero_add] at hz
      have h6:y.Node=v.Depot:=by
       unfold QaU at hm
       repeat' split at hm
       all_goals first | (cases hm;done) | (injection hm with hm;subst hm;rfl)
      have:=QlX hp (w.2++[y]) (by simp;omega) (fun u hu=>by
       rcases List.mem_append.1 hu with h7 | h7
       ·exact hnn u h7
       ·rw[List.mem_singleton.1 h7,h6];exact ⟨hv.d0,hv.d1⟩) (w.2++[y]) 0 0 v.Depot ((w.2++[y]).length+1) rfl (Nat.zero_le _) (by simp) ⟨hv.d0,hv.d1⟩ (Int.le_refl _) (by simp)
      rw[show ((0:Nat):Int)=(0:Int) from rfl,Int.zero_add] at this
      show Option.bind (iter (ZU p (w.2++[y])) ((w.2++[y]).length+1) (0,v.Depot,0)) _=_
      rw[this]
      rfl
end Go.Proofs.YthpgjbbjpfiniaaGreat
namespace Go.Proofs.YthpgjbbjpfiniaaGreat
open Go.RowKit
set_option linter.unusedSimpArgs false
set_option linter.unusedVariables false
structure Fol (p:Pr) (t:Qa) (v:Ve) (z:Vi×List Vi) (y:Vi):Prop where
 t0:0≤t.Vehicle
 t1:t.Vehicle<((p.Vehicles.length:Nat):Int)
 sl:t.Stops.length≤40
 hv:getI p.Vehicles t.Vehicle=some v
 fol:VM p v [] t.Stops (x0 v)= .inl z
 hom:QaU p v z.1= .inl y
theorem Qgg {p:Pr} {t:Qa} {u:Vi×List Vi×Ve} (h:W4 p t= .inl u): ∃z y,Fol p t u.2.2 z y∧u.1=z.1∧u.2.1=z.2++[y]:=by
 unfold W4 at h
 split at h
 ·cases h
 ·rename_i h1
  split at h
  ·cases h
  ·rename_i h2
   split at h
   ·cases h
   ·rename_i v hv
    split at h
    ·cases h
    ·rename_i z hf
     split at h
     ·cases h
     ·rename_i y hm
      injection h with h;subst h
      exact ⟨z,y,⟨by omega,by omega,by omega,by unfold getI;rw[if_pos (by omega)];exact hv,hf,hm⟩,rfl,rfl⟩
end Go.Proofs.YthpgjbbjpfiniaaGreat
namespace Go.Proofs.YthpgjbbjpfiniaaGreat
open Go.RowKit
set_option linter.unusedSimpArgs false
set_option linter.unusedVariables false
def vec (n:Nat) (f:Nat→Nat):List Int:=(List.range n).map fun d=>((f d:Nat):Int)
theorem VR (n:Nat) (f:Nat→Nat):(vec n f).length=n:=by simp[vec]
theorem Qgj {n i:Nat} (f:Nat→Nat) (h:i<n):(vec n f)[i]? =some ((f i:Nat):Int):=by simp[vec,h]
theorem Qcd {n:Nat} {f g:Nat→Nat} (h: ∀d,d<n→f d=g d):vec n f=vec n g:=by
 unfold vec;apply List.map_congr_left;intro d hd
 rw[h d (List.mem_range.1 hd)]
theorem QpF {n i:Nat} (f:Nat→Nat) (h:i<n) (hb:f i<1000000):Yl (vec n f) (i:Int) (w64 (((f i:Nat):Int)+1))=vec n (fun d=>f d+if d=i then 1 else 0):=by
 rw[Yi (by omega) (by omega)]
 apply List.ext_getElem?;intro j;unfold Yl
 rw[Int.toNat_natCast,List.getElem?_set]
 rcases Nat.lt_or_ge j n with hj | hj
 ·rw[Qgj _ hj,Qgj _ hj,VR]
  by_cases hij:i=j
  ·subst hij;simp[h]
  ·have: ¬j=i:=fun e=>hij e.symm
   simp[hij,this]
 ·rw[List.getElem?_eq_none (by rw[VR];exact hj),List.getElem?_eq_none (by rw[VR];exact hj)]
  split
  ·omega
  ·rfl
theorem Qeu (n:Nat) (h:n≤1000):QbZ (0:Int) ((n:Nat):Int)=some (vec n fun _=>0):=by
 unfold QbZ
 rw[if_pos (by omega)]
 congr 1
 apply List.ext_getElem?;intro j
 rw[Int.toNat_natCast]
 rcases Nat.lt_or_ge j n with hj | hj
 ·rw[Qgj _ hj,List.getElem?_replicate,if_pos hj];rfl
 ·rw[List.getElem?_eq_none (by simp;exact hj),List.getElem?_eq_none (by rw[VR];exact hj)]
def cn (L:List Int) (d:Nat):Nat:=L.count (d:Int)
theorem Qmv (L:List Int) (s:Int) (d:Nat):cn (L++[s]) d=cn L d+if s=(d:Int) then 1 else 0:=by
 unfold cn
 rw[List.count_append,List.count_singleton]
 simp
theorem Qi3 (L:List Int) (d:Nat):cn L d≤L.length:=List.count_le_length
def okS (n:Nat) (s:Int):Prop:=s= -1∨(0≤s∧s<(n:Int))
theorem Qgk {n:Nat} {L:List Int} {k:Nat} {s:Int} (f:Nat→Nat) (hs:L[k]? =some s) (h0:0≤s) (h1:s<(n:Int)) (hb:f s.toNat+L.length<1000000) :
  getI (vec n fun d=>f d+cn (L.take k) d) s=some ((f s.toNat+cn (L.take k) s.toNat:Nat):Int)∧Yl (vec n fun d=>f d+cn (L.take k) d) s (w64 (((f s.toNat+cn (L.take k) s.toNat:Nat):Int)+1))=vec n fun d=>f d+cn (L.take (k+1)) d:=by
 obtain ⟨i,rfl⟩: ∃i:Nat,s=i:=⟨s.toNat,by omega⟩
 have hc:=Qi3 (L.take k) i;have hk:=Qv hs
 rw[Yn (Nat.le_of_lt hk)] at hc
 rw[Int.toNat_natCast] at *
 refine ⟨by rw[Qt,Qgj _ (by omega)],?_⟩
 rw[QpF (fun d=>f d+cn (L.take k) d) (by omega) (by show f i+cn (L.take k) i<1000000;omega)]
 refine Qcd fun d _=> ?_
 rw[YN hs,Qmv]
 by_cases h:d=i
 ·subst h;simp;omega
 ·have: ¬((i:Int)=(d:Int)):=by omega
  simp[h,this]
theorem Qmu {L:List Int} {k:Nat} {s:Int} (hs:L[k]? =some s) (h0:s<0) (f:Nat→Nat) (n:Nat):(vec n fun d=>f d+cn (L.take (k+1)) d)=vec n fun d=>f d+cn (L.take k) d:=by
 refine Qcd fun d _=> ?_
 rw[YN hs,Qmv,if_neg (by omega)]
 rfl
theorem Qmh {n:Nat} (t:Qa) (f:Nat→Nat) (hn:t.Stops.length≤1000) (hf: ∀d,f d≤900000) (ho: ∀s∈t.Stops,okS n s) :
  iter (Qaq t) (((t.Stops.length:Nat):Int).toNat+1) (vec n f,0)=some (vec n fun d=>f d+cn t.Stops d) ∧
  iter (Zr t) (((t.Stops.length:Nat):Int).toNat+1) (vec n f,0)=some (vec n fun d=>f d+cn t.Stops d):=by
 have hz:(vec n fun d=>f d+cn (t.Stops.take 0) d)=vec n f:=Qcd fun d _=>by simp[cn]
 have hx:(vec n fun d=>f d+cn (t.Stops.take t.Stops.length) d)=vec n fun d=>f d+cn t.Stops d:=by rw[List.take_length]
 constructor
 ·have:=Y3 (body:=Qaq t) t.Stops (fun k=>vec n fun d=>f d+cn (t.Stops.take k) d) (fun m k=>(m,k)) (fun _ _=>none) (vec n fun d=>f d+cn t.Stops d) (by omega) (fun k s hs _=> ?_) (fun _=>by simp only[Qaq,oun,hx];simp) (((t.Stops.length:Nat):Int).toNat+1) (by simp)
  ·rw[QY _ _ (fun _ _ _=>rfl),hz] at this
   exact this
  ·have hk:=Qv hs;have hk2:((k:Int)<(t.Stops.length:Nat)):=by omega
   simp only[Qaq,oun,hk2,decide_true,cond_true,Qt,hs,Option.bind_some,Jp]
   rcases ho s (List.mem_of_getElem? hs) with h1 | ⟨h1,h2⟩
   ·simp only[h1,decide_true,Bool.not_true,cond_false,Option.bind_some]
    rw[Qmu hs (by omega)]
   ·rw[show decide (s= -1)=false by simp;omega]
    obtain ⟨g1,g2⟩:=Qgk f hs h1 h2 (by have:=hf s.toNat;omega)
    simp only[Bool.not_false,cond_true,g1,Option.bind_some,g2]
 ·have:=Y3 (body:=Zr t) t.Stops (fun k=>vec n fun d=>f d+cn (t.Stops.take k) d) (fun m k=>(m,k)) (fun _ _=>none) (vec n fun d=>f d+cn t.Stops d) (by omega) (fun k s hs _=> ?_) (fun _=>by simp only[Zr,oun,hx];simp) (((t.Stops.length:Nat):Int).toNat+1) (by simp)
  ·rw[QY _ _ (fun _ _ _=>rfl),hz] at this
   exact this
  ·have hk:=Qv hs;have hk2:((k:Int)<(t.Stops.length:Nat)):=by omega
   simp only[Zr,oun,hk2,decide_true,cond_true,Qt,hs,Option.bind_some,Jp]
   rcases ho s (List.mem_of_getElem? hs) with h1 | ⟨h1,h2⟩
   ·rw[show decide (0≤s)=false by simp;omega]
    simp only[cond_false,Option.bind_some]
    rw[Qmu hs (by omega)]
   ·rw[show decide (0≤s)=true by simpa using h1]
    obtain ⟨g1,g2⟩:=Qgk f hs h1 h2 (by have:=hf s.toNat;omega)
    simp only[cond_true,g1,Option.bind_some,g2]
end Go.Proofs.YthpgjbbjpfiniaaGreat
namespace Go.Proofs.YthpgjbbjpfiniaaGreat
open Go.RowKit
set_option linter.unusedSimpArgs false
set_option linter.unusedVariables false
abbrev To:=Qa
def tn (ts:List To) (d:Nat):Nat:=(ts.map fun t=>cn t.Stops d).sum
theorem QpE (ts:List To) (t:To) (d:Nat):tn (ts++[t]) d=tn ts d+cn t.Stops d:=by simp[tn]
theorem QpQ {ts:List To} (h: ∀t∈ts,t.Stops.length≤1000) (d:Nat):tn ts d≤ts.length*1000:=by
 induction ts with
 | nil=>simp[tn]
 | cons t ts ih =>
  have h1:=ih fun u hu=>h u (List.mem_cons_of_mem _ hu);have h2:=Qi3 t.Stops d;have h3:=h t List.mem_cons_self
  simp only[tn,List.map_cons,List.sum_cons,List.length_cons] at h1 ⊢
  omega
theorem Qcw {n:Nat} (x:Qf) (f:Nat→Nat) (hn:x.Tours.length≤100) (hf: ∀d,f d≤1000) (hl: ∀t∈x.Tours,t.Stops.length≤1000) (ho: ∀t∈x.Tours,∀s∈t.Stops,okS n s) :
  iter (Qar x) (((x.Tours.length:Nat):Int).toNat+1) (vec n f,0)=some (vec n fun d=>f d+tn x.Tours d) ∧
  iter (Zs x) (((x.Tours.length:Nat):Int).toNat+1) (vec n f,0)=some (vec n fun d=>f d+tn x.Tours d):=by
 have hz:(vec n fun d=>f d+tn (x.Tours.take 0) d)=vec n f:=Qcd fun d _=>by simp[tn]
 have hx:(vec n fun d=>f d+tn (x.Tours.take x.Tours.length) d)=vec n fun d=>f d+tn x.Tours d:=by rw[List.take_length]
 have hstep: ∀(k:Nat) (t:To),x.Tours[k]? =some t→_:=fun k t ht=>Qmh (n:=n) t (fun d=>f d+tn (x.Tours.take k) d) (hl t (List.mem_of_getElem? ht)) (fun d=>by
  have h1:=hf d;have h2:=QpQ (ts:=x.Tours.take k) (fun u hu=>hl u (List.mem_of_mem_take hu)) d;have h3:=Yn (Nat.le_of_lt (Qv ht));have h4:=Qv ht
  omega) (ho t (List.mem_of_getElem? ht))
 have hnext: ∀(k:Nat) (t:To),x.Tours[k]? =some t→(vec n fun d=>f d+tn (x.Tours.take k) d+cn t.Stops d)=vec n fun d=>f d+tn (x.Tours.take (k+1)) d:=fun k t ht=>Qcd fun d _=>by
  rw[YN ht,QpE];omega
 constructor
 ·have:=Y3 (body:=Qar x) x.Tours (fun k=>vec n fun d=>f d+tn (x.Tours.take k) d) (fun m k=>(m,k)) (fun _ _=>none) (vec n fun d=>f d+tn x.Tours d) (by omega) (fun k t ht _=> ?_) (fun _=>by simp only[Qar,oun,hx];simp) (((x.Tours.length:Nat):Int).toNat+1) (by simp)
  ·rw[QY _ _ (fun _ _ _=>rfl),hz] at this
   exact this
  ·have hk:=Qv ht;have hk2:((k:Int)<(x.Tours.length:Nat)):=by omega
   simp only[Qar,oun,hk2,decide_true,cond_true,Qt,ht,Option.bind_some,Jp]
   rw[(hstep k t ht).1]
   simp only[Option.bind_some,hnext k t ht]
 ·have:=Y3 (body:=Zs x) x.Tours (fun k=>vec n fun d=>f d+tn (x.Tours.take k) d) (fun m k=>(m,k)) (fun _ _=>none) (vec n fun d=>f d+tn x.Tours d) (by omega) (fun k t ht _=> ?_) (fun _=>by simp only[Zs,oun,hx];simp) (((x.Tours.length:Nat):Int).toNat+1) (by simp)
  ·rw[QY _ _ (fun _ _ _=>rfl),hz] at this
   exact this
  ·have hk:=Qv ht;have hk2:((k:Int)<(x.Tours.length:Nat)):=by omega
   simp only[Zs,oun,hk2,decide_true,cond_true,Qt,ht,Option.bind_some,Jp]
   rw[(hstep k t ht).2]
   simp only[Option.bind_some,hnext k t ht]
def Qfl (n:Nat) (L:List Int):Bool:=L.any fun s=>decide (s<0)||decide ((n:Int)≤s)
theorem Qdh {n:Nat} (x:Qf) (f:Nat→Nat) (hn:x.Left.length≤1000) (hf: ∀d,f d≤500000) :
  iter (Qap x) (((x.Left.length:Nat):Int).toNat+1) (vec n f,0)=some (bif Qfl n x.Left then .inr (0,7) else .inl (vec n fun d=>f d+cn x.Left d)) ∧
  iter (Zt x) (((x.Left.length:Nat):Int).toNat+1) (vec n f,0)=some (bif Qfl n x.Left then .inr ([],7) else .inl (vec n fun d=>f d+cn x.Left d)):=by
 have hz:(vec n fun d=>f d+cn (x.Left.take 0) d)=vec n f:=Qcd fun d _=>by simp[cn]
 have hx:(vec n fun d=>f d+cn (x.Left.take x.Left.length) d)=vec n fun d=>f d+cn x.Left d:=by rw[List.take_length]
 constructor
 ·have:=Y3 (body:=Qap x) x.Left (fun k=>vec n fun d=>f d+cn (x.Left.take k) d) (fun m k=>(m,k)) (fun _ s=>bif decide (s<0)||decide ((n:Int)≤s) then some (.inr (0,7)) else none) (.inl (vec n fun d=>f d+cn x.Left d)) (by omega) (fun k s hs _=> ?_) (fun _=>by simp only[Qap,oun,hx];simp) (((x.Left.length:Nat):Int).toNat+1) (by simp)
  ·rw[Qkk,hz] at this
   exact this
  ·have hk:=Qv hs;have hk2:((k:Int)<(x.Left.length:Nat)):=by omega
   simp only[Qap,oun,hk2,decide_true,cond_true,Qt,hs,Option.bind_some,Zl,VR]
   cases hb:(decide (s<0)||decide ((n:Int)≤s)) with
   | true=>rfl
   | false =>
    simp only[Bool.or_eq_false_iff,decide_eq_false_iff_not] at hb
    obtain ⟨g1,g2⟩:=Qgk (n:=n) f hs (by omega) (by omega) (by have:=hf s.toNat;omega)
    simp only[cond_false,g1,Option.bind_some,g2,Jp]
 ·have:=Y3 (body:=Zt x) x.Left (fun k=>vec n fun d=>f d+cn (x.Left.take k) d) (fun m k=>(m,k)) (fun _ s=>bif decide (s<0)||decide ((n:Int)≤s) then some (.inr ([],7)) else none) (.inl (vec n fun d=>f d+cn x.Left d)) (by omega) (fun k s hs _=> ?_) (fun _=>by simp only[Zt,oun,hx];simp) (((x.Left.length:Nat):Int).toNat+1) (by simp)
  ·rw[Qkk,hz] at this
   exact this
  ·have hk:=Qv hs;have hk2:((k:Int)<(x.Left.length:Nat)):=by omega
   simp only[Zt,oun,hk2,decide_true,cond_true,Qt,hs,Option.bind_some,Zl,VR]
   cases hb:(decide (s<0)||decide ((n:Int)≤s)) with
   | true=>rfl
   | false =>
    simp only[Bool.or_eq_false_iff,decide_eq_false_iff_not] at hb
    obtain ⟨g1,g2⟩:=Qgk (n:=n) f hs (by omega) (by omega) (by have:=hf s.toNat;omega)
    simp only[cond_false,g1,Option.bind_some,g2,Jp]
def Qg8 (L:List Int):Int:=bif L.any (fun c=>decide (1<c)) then 6 else bif L.any (fun c=>decide (c=0)) then 38 else 0
theorem Qho (L:List Int) (hn:L.length≤1000):ZE L=some (L.any fun c=>decide (1<c)):=by
 unfold ZE Wg;have:=YQ (body:=ZF L) L (fun k y=>bif decide (1<y) then some (.inr (k:Int)) else none) (.inl ():Unit⊕Int) (by omega) (fun k y hy=> ?_) (by simp[ZF]) (((L.length:Nat):Int).toNat+1) (by simp)
 ·rw[this]
  rcases Qkl (fun y:Int=>decide (1<y)) L 0 with ⟨h1,h2⟩ | ⟨j,h1,h2⟩
  ·rw[h1,h2];rfl
  ·rw[h1,h2]
   simp only[Option.bind_some,QJ]
   simp
 ·have hk:=Qv hy;have hk2:((k:Int)<(L.length:Nat)):=by omega
  simp only[ZF,hk2,decide_true,cond_true,Qt,hy,Option.bind_some,QcU]
  cases decide (1<y)<;>rfl
theorem Qhs (L:List Int) (hn:L.length≤1000):YH L 0=some (L.any fun c=>decide (c=0)):=by
 rw[QcJ L hn]
 congr 1
 rw[Bool.eq_iff_iff]
 simp only[List.any_eq_true,decide_eq_true_eq]
 exact ⟨fun h=>⟨0,h,rfl⟩,fun ⟨y,h1,h2⟩=>h2▸h1⟩
theorem Qnl (L:List Int) (hn:L.length≤1000):iter (YW L) (((L.length:Nat):Int).toNat+1) (false,0)=some (bif L.any (fun c=>decide (1<c)) then .inr 6 else .inl (L.any fun c=>decide (c=0))):=by
 have:=Y3 (body:=YW L) L (fun k=>(L.take k).any fun c=>decide (c=0)) (fun m k=>(m,k)) (fun _ c=>bif decide (1<c) then some (.inr 6) else none) (.inl (L.any fun c=>decide (c=0))) (by omega) (fun k c hc _=> ?_) (fun _=>by simp only[YW,oun,List.take_length];simp) (((L.length:Nat):Int).toNat+1) (by simp)
 ·rw[Qkk] at this
  simpa using this
 ·have hk:=Qv hc;have hk2:((k:Int)<(L.length:Nat)):=by omega
  simp only[YW,oun,hk2,decide_true,cond_true,Qt,hc,Option.bind_some]
  rw[YN hc,List.any_append]
  cases h1:decide (1<c) with
  | true=>rfl
  | false =>
   simp only[cond_false]
   cases (L.take k).any fun c=>decide (c=0)
   ·simp[QJ,Jp]
   ·simp[QJ,Jp]
end Go.Proofs.YthpgjbbjpfiniaaGreat
namespace Go.Proofs.YthpgjbbjpfiniaaGreat
open Go.RowKit
set_option linter.unusedSimpArgs false
set_option linter.unusedVariables false
theorem Qmg {p:Pr} {v:Ve} {pre:List Int} {x y:Vi} {s:Int} (hs:QaE p v pre x s= .inl y):okS p.Demands.length s:=by
 unfold QaE at hs;unfold okS
 split at hs
 ·exact .inl (by assumption)
 ·split at hs
  ·cases hs
  ·exact .inr (by omega)
theorem QhZ {p:Pr} {v:Ve}: ∀(rest pre:List Int) (x:Vi) (z:Vi×List Vi),VM p v pre rest x= .inl z→ ∀s∈rest,okS p.Demands.length s
 | [],_,_,_,_,s,hs=>by cases hs
 | a::rest,pre,x,z,h,s,hs=>by
  unfold VM at h
  split at h
  ·cases h
  ·rename_i y hy
   split at h
   ·rename_i z' hz
    rcases List.mem_cons.1 hs with h1 | h1
    ·subst h1;exact Qmg hy
    ·exact QhZ rest _ _ _ hz s h1
   ·cases h
theorem VL {p:Pr} (hp:OkP p) {t:Qa} {u:Vi×List Vi×Ve} (h:W4 p t= .inl u):0≤Qa1 p u.2.2.Depot u.2.1∧Qa1 p u.2.2.Depot u.2.1≤262400000∧(∀s∈t.Stops,okS p.Demands.length s)∧t.Stops.length≤40:=by
 obtain ⟨z,y,hf,_,e2⟩:=Qgg h;have hv:=hp.ve u.2.2 (by
  have:=hf.hv;unfold getI at this
  rw[if_pos hf.t0] at this
  exact List.mem_of_getElem? this)
 have hz:=QdG hp hv t.Stops [] _ _ (Qg7 hv) hf.fol;have hm:=QgB y _ _ _ _ hf.fol;have hsl:=hf.sl;have h6:y.Node=u.2.2.Depot:=by
  have hom:=hf.hom;unfold QaU at hom
  repeat' split at hom
  all_goals first | (cases hom;done) | (injection hom with hom;subst hom;rfl)
 have hlb:=Wc hp ⟨hz.1.n0,hz.1.n1⟩ ⟨hv.d0,hv.d1⟩
 rw[h6] at hm
 rw[e2]
 refine ⟨?_,?_,QhZ _ _ _ _ hf.fol,hf.sl⟩
 ·show 0≤Qa1 p (x0 u.2.2).Node (z.2++[y])
  omega
 ·show Qa1 p (x0 u.2.2).Node (z.2++[y])≤262400000
  omega
def Qc9 (p:Pr) (ts:List To) (k:Nat) (t:To):Option Int:=bif (ts.take k).any (fun u=>decide (u.Vehicle=t.Vehicle)) then some 6 else match W4 p t with
 | .inl _=>none
 | .inr q=>some q.1
def Zx (p:Pr) (ts:List To):Int:=QaF (fun t=>(YJ p t).1) ts
theorem QiX (L:List To) (hn:L.length≤1000) (x:To):Zj L x=some (L.any fun y=>decide (y.Vehicle=x.Vehicle)):=by
 unfold Zj J0;have:=YQ (body:=Zk L x) L (fun k y=>bif decide (y.Vehicle=x.Vehicle) then some (.inr (k:Int)) else none) (.inl ():Unit⊕Int) (by omega) (fun k y hy=> ?_) (by simp[Zk]) (((L.length:Nat):Int).toNat+1) (by simp)
 ·rw[this]
  rcases Qkl (fun y:To=>decide (y.Vehicle=x.Vehicle)) L 0 with ⟨h1,h2⟩ | ⟨j,h1,h2⟩
  ·rw[h1,h2];rfl
  ·rw[h1,h2]
   simp only[Option.bind_some,QJ]
   simp
 ·have hk:=Qv hy;have hk2:((k:Int)<(L.length:Nat)):=by omega
  simp only[Zk,hk2,decide_true,cond_true,Qt,hy,Option.bind_some,QcT]
  cases decide (y.Vehicle=x.Vehicle)<;>rfl
theorem Qda {p:Pr} {ts:List To} {k:Nat} {t:To} (h:Qc9 p ts k t=none): ∃u,W4 p t= .inl u:=by
 unfold Qc9 at h;cases hb:(ts.take k).any (fun u=>decide (u.Vehicle=t.Vehicle)) with
 | true=>rw[hb] at h;cases h
 | false =>
  rw[hb] at h
  cases hr:W4 p t with
  | inl u=>exact ⟨u,rfl⟩
  | inr q=>rw[hr] at h;cases h
theorem Qfn {p:Pr} (hp:OkP p) {ts:List To}: ∀(k:Nat),k≤ts.length→(∀(j:Nat) (y:To),j<k→ts[j]? =some y→Qc9 p ts j y=none)→0≤Zx p (ts.take k)∧Zx p (ts.take k)≤k*262400000
 | 0,_,_=>by simp[Zx,QaF]
 | k+1,hk,h=>by
  have h1:=Qfn hp k (by omega) fun j y hj=>h j y (by omega);have hx:ts[k]? =some ts[k]:=List.getElem?_eq_getElem (by omega);obtain ⟨u,hu⟩:=Qda (h k _ (by omega) hx);have h2:=VL hp hu;have h3:(YJ p ts[k]).1=Qa1 p u.2.2.Depot u.2.1:=by unfold YJ;rw[hu]
  rw[YN hx]
  unfold Zx at h1 ⊢
  rw[Qcc]
  have h4:QaF (fun t=>(YJ p t).1) [ts[k]]=(YJ p ts[k]).1:=by simp[QaF]
  rw[h4]
  omega
theorem QeZ {F:Nat} (hF:40000≤F) {p:Pr} (hp:OkP p) (x:Qf) (hn:x.Tours.length≤30) :
  iter (Qao F p x) (((x.Tours.length:Nat):Int).toNat+1) (0,0)=some (YL (fun k t=>(Qc9 p x.Tours k t).map fun c=> .inr (0,c)) (.inl (Zx p x.Tours)) 0 x.Tours):=by
 have:=Y3 (body:=Qao F p x) x.Tours (fun k=>Zx p (x.Tours.take k)) (fun m k=>(m,k)) (fun k t=>(Qc9 p x.Tours k t).map fun c=> .inr (0,c)) (.inl (Zx p x.Tours)) (by omega) (fun k t ht hno=> ?_) (fun _=>by simp[Qao,oun]) (((x.Tours.length:Nat):Int).toNat+1) (by simp)
 ·exact this
 ·have hk:=Qv ht;have hk2:((k:Int)<(x.Tours.length:Nat)):=by omega
  have hb:=Qfn hp k (Nat.le_of_lt hk) (fun j y hj hy=>by
   have:=hno j y hj hy;cases h:Qc9 p x.Tours j y with
   | none=>rfl
   | some c=>rw[h] at this;cases this)
  simp only[Qao,oun,hk2,decide_true,cond_true,Qt,ht,Option.bind_some,VY (Nat.le_of_lt hk)]
  rw[QiX _ (by simp;omega)]
  simp only[Option.bind_some]
  unfold Qc9;cases (x.Tours.take k).any (fun u=>decide (u.Vehicle=t.Vehicle)) with
  | true=>rfl
  | false =>
   simp only[cond_false]
   have hfo:=QfA hF hp t;cases hr:W4 p t with
   | inr q =>
    rw[hr] at hfo
    simp only[hfo,Option.bind_some]
    rw[show decide (q.1=0)=false by simpa using Qan hr]
    rfl
   | inl u =>
    rw[hr] at hfo
    obtain ⟨w,h1,_,h3⟩:=hfo;have h2:=VL hp hr;have h4:(YJ p t).1=Qa1 p u.2.2.Depot u.2.1:=by unfold YJ;rw[hr]
    simp only[h1,Option.bind_some,decide_true,Bool.not_true,cond_false,h3,Option.map_none,Jp]
    rw[Yi (n:=Zx p (x.Tours.take k)+Qa1 p u.2.2.Depot u.2.1) (by omega) (by omega),YN ht]
    unfold Zx
    rw[Qcc]
    have h5:QaF (fun t=>(YJ p t).1) [t]=(YJ p t).1:=by simp[QaF]
    rw[h5,h4]
theorem Qmy {p:Pr} (hp:OkP p) (hc:Qo p=some 0) (x:Qf) (hn:x.Tours.length≤30) :
  iter (YV p x) (((x.Tours.length:Nat):Int).toNat+1) 0=some (YL (fun k t=>(Qc9 p x.Tours k t).map fun c=> .inr c) (.inl ()) 0 x.Tours):=by
 refine YQ (body:=YV p x) x.Tours (fun k t=>(Qc9 p x.Tours k t).map fun c=> .inr c) (.inl ()) (by omega) (fun k t ht=> ?_) (by simp[YV]) (((x.Tours.length:Nat):Int).toNat+1) (by simp);have hk:=Qv ht;have hk2:((k:Int)<(x.Tours.length:Nat)):=by omega
 have hin:=YQ (body:=ZN x (k:Int) t) (x.Tours.take k) (fun _ u=>bif decide (u.Vehicle=t.Vehicle) then some (.inr 6) else none) (.inl ():Unit⊕Int) (by simp;omega) (fun j u hu=>by
  have hj:=Qv hu
  rw[Yn (Nat.le_of_lt hk)] at hj
  rw[List.getElem?_take,if_pos hj] at hu
  have hj2:((j:Int)<(k:Int)):=by omega
  simp only[ZN,hj2,decide_true,cond_true,Qt,hu,Option.bind_some]
  cases decide (u.Vehicle=t.Vehicle)<;>rfl) (by rw[Yn (Nat.le_of_lt hk)];simp[ZN]) ((k:Int).toNat+1) (by rw[Yn (Nat.le_of_lt hk)];omega)
 rw[Qkk] at hin
 simp only[YV,hk2,decide_true,cond_true,Qt,ht,Option.bind_some]
 rw[hin]
 unfold Qc9;cases (x.Tours.take k).any (fun u=>decide (u.Vehicle=t.Vehicle)) with
 | true=>rfl
 | false =>
  simp only[cond_false,Option.bind_some,QJ,Qip hp hc]
  unfold Qdz;cases hr:W4 p t with
  | inr q =>
   simp only[oun]
   rw[show decide (q.1=0)=false by simpa using Qan hr]
   rfl
  | inl u=>rfl
end Go.Proofs.YthpgjbbjpfiniaaGreat
namespace Go.Proofs.YthpgjbbjpfiniaaGreat
open Go.RowKit
set_option linter.unusedSimpArgs false
set_option linter.unusedVariables false
theorem Qfv {α γ:Type} (g:Nat→α→Option γ): ∀(l:List α) (k:Nat),(∀(i:Nat) (x:α),l[i]? =some x→g (k+i) x=none) ∨
  ∃(c:γ) (i:Nat) (x:α),g i x=some c∧ ∀{ρ:Type} (h:γ→ρ) (fin:ρ),YL (fun k t=>(g k t).map h) fin k l=h c
 | [],k=> .inl fun i x h=>by simp at h
 | y::l,k=>by
  cases hg:g k y with
  | some c=>exact .inr ⟨c,k,y,hg,fun h fin=>by simp only[YL,hg,Option.map_some]⟩
  | none =>
   rcases Qfv g l (k+1) with h1 | ⟨c,i,x,h1,h2⟩
   ·refine .inl fun i x hx=> ?_;cases i with
    | zero=>simp at hx;subst hx;exact hg
    | succ i=>have:=h1 i x (by simpa using hx);rwa [show k+(i+1)=k+1+i by omega]
   ·exact .inr ⟨c,i,x,h1,fun h fin=>by simp only[YL,hg,Option.map_none];exact h2 h fin⟩
theorem Qko {p:Pr} {ts:List To} {k:Nat} {t:To} {c:Int} (h:Qc9 p ts k t=some c):c≠0:=by
 unfold Qc9 at h;cases hb:(ts.take k).any (fun u=>decide (u.Vehicle=t.Vehicle)) with
 | true=>rw[hb] at h;injection h with h;subst h;decide
 | false =>
  rw[hb] at h
  simp only[cond_false] at h
  cases hr:W4 p t with
  | inl u=>rw[hr] at h;cases h
  | inr q=>rw[hr] at h;injection h with h;subst h;exact Qan hr
theorem Qhu (x:Qf):(∃b,Zq x=some b)∧(Zq x=some false→x.Tours.length≤30∧x.Left.length≤100):=by
 unfold Zq
 simp only[Zl,Option.bind_some]
 by_cases h:(decide ((30:Int)<((x.Tours.length:Nat):Int))||decide ((100:Int)<((x.Left.length:Nat):Int)))=true
 ·rw[h]
  exact ⟨⟨true,rfl⟩,fun e=>by cases e⟩
 ·rw[Bool.not_eq_true] at h
  rw[h]
  simp only[Bool.or_eq_false_iff,decide_eq_false_iff_not] at h
  obtain ⟨o,ho⟩:=QbB (body:=ZD x) (N:=x.Tours.length) (by omega) (fun k hk=>by
   obtain ⟨t,ht⟩: ∃t,x.Tours[k]? =some t:=⟨_,List.getElem?_eq_getElem hk⟩
   have hk2:((k:Int)<((x.Tours.length:Nat):Int)):=by omega
   simp only[ZD,hk2,decide_true,cond_true,Qt,ht,Option.bind_some,Wv (show k<9223372036854775807 by omega)]
   cases decide ((100:Int)<((t.Stops.length:Nat):Int)) with
   | true=>exact .inl ⟨_,rfl⟩
   | false=>exact .inr rfl) ⟨_,by simp[ZD];rfl⟩ x.Tours.length 0 (by omega)
  refine ⟨?_,fun _=>by omega⟩
  simp only[cond_false]
  rw[show (((x.Tours.length:Nat):Int).toNat+1)=x.Tours.length+1 by simp,show (0:Int)=((0:Nat):Int) from rfl,ho]
  cases o with
  | inl u=>exact ⟨false,rfl⟩
  | inr b=>exact ⟨b,rfl⟩
theorem Qnp {F:Nat} (hF:40000≤F) {p:Pr} (hn:p.Road.Edges.length≤600) (x:Qf) (hx:x.Tours.length≤30) (hl:x.Left.length≤100) :
  ∃s e,Zv F p x=some (s,e)∧QR p x=some e∧Ya p x=some (s,e):=by
 rcases QcF p hn with ⟨g1,g2⟩ | ⟨e,g1,g2⟩
 ·have hdl:=g2.dl;have ht: ∀e,QR p x=some e→e≠0→Ya p x=some (0,e):=fun e he h0=>by
   unfold Ya
   rw[he]
   simp only[Option.bind_some]
   rw[show decide (e=0)=false by simpa using h0]
   rfl
  rcases Qfv (Qc9 p x.Tours) x.Tours 0 with h1 | ⟨c,i,t,h1,h2⟩
  ·simp only[Nat.zero_add] at h1
   have hall: ∀t∈x.Tours,(∀s∈t.Stops,okS p.Demands.length s)∧t.Stops.length≤40:=fun t htm=>by
    obtain ⟨i,hi⟩:=List.getElem?_of_mem htm;obtain ⟨u,hu⟩:=Qda (h1 i t hi);exact (VL g2 hu).2.2
   have q1:=QeZ hF g2 x hx
   rw[QY _ _ (fun i t hi=>by rw[Nat.zero_add,h1 i t hi];rfl)] at q1
   have q2:=Qmy g2 g1 x hx
   rw[QY _ _ (fun i t hi=>by rw[Nat.zero_add,h1 i t hi];rfl)] at q2
   have q3:=(Qdh (n:=p.Demands.length) x (fun _=>0) (by omega) (fun _=>Nat.zero_le _)).1;have q4:=(Qcw (n:=p.Demands.length) x (fun d=>0+cn x.Left d) (by omega) (fun d=>by have:=Qi3 x.Left d;omega) (fun t htm=>by have:=(hall t htm).2;omega) (fun t htm=>(hall t htm).1)).1;have q5:=(Qcw (n:=p.Demands.length) x (fun _=>0) (by omega) (fun d=>by omega) (fun t htm=>by have:=(hall t htm).2;omega) (fun t htm=>(hall t htm).1)).2;have q6:=(Qdh (n:=p.Demands.length) x (fun d=>0+tn x.Tours d) (by omega) (fun d=>by have:=QpQ (ts:=x.Tours) (fun t htm=>by have:=(hall t htm).2;omega) d;omega)).2;have q7:(vec p.Demands.length fun d=>0+tn x.Tours d+cn x.Left d)=vec p.Demands.length fun d=>0+cn x.Left d+tn x.Tours d:=Qcd fun d _=>by omega
   rw[q7] at q6
   have hfe:QR p x=some (bif Qfl p.Demands.length x.Left then 7 else Qg8 (vec p.Demands.length fun d=>0+cn x.Left d+tn x.Tours d)):=by
    unfold QR Vd
    rw[g1]
    simp only[Option.bind_some,decide_true,Bool.not_true,cond_false]
    rw[q2]
    simp only[Option.bind_some,QJ]
    rw[Qeu _ (by omega)]
    simp only[Option.bind_some]
    rw[q5]
    simp only[Option.bind_some]
    rw[q6]
    cases Qfl p.Demands.length x.Left with
    | true=>rfl
    | false =>
     simp only[cond_false,Option.bind_some,QJ,oun,decide_true,Bool.not_true]
     rw[Qnl _ (by rw[VR];omega)]
     unfold Qg8
     generalize (vec p.Demands.length fun d=>0+cn x.Left d+tn x.Tours d).any (fun c=>decide (1<c))=a
     generalize (vec p.Demands.length fun d=>0+cn x.Left d+tn x.Tours d).any (fun c=>decide (c=0))=b
     cases a<;>cases b<;>rfl
   have hpl:Zv F p x=some (bif Qfl p.Demands.length x.Left then (0,7) else (bif decide (Qg8 (vec p.Demands.length fun d=>0+cn x.Left d+tn x.Tours d)=0) then Zx p x.Tours else 0,Qg8 (vec p.Demands.length fun d=>0+cn x.Left d+tn x.Tours d))):=by
    unfold Zv
    rw[ZP (by omega) _ hn,g1]
    simp only[Option.bind_some,decide_true,Bool.not_true,cond_false]
    rw[q1]
    simp only[Option.bind_some,QJ]
    rw[Qeu _ (by omega)]
    simp only[Option.bind_some]
    rw[q3]
    cases Qfl p.Demands.length x.Left with
    | true=>rfl
    | false =>
     simp only[cond_false,Option.bind_some,QJ]
     rw[q4]
     simp only[Option.bind_some]
     rw[Qho _ (by rw[VR];omega),Qhs _ (by rw[VR];omega)]
     unfold Qg8
     simp only[Option.bind_some]
     generalize (vec p.Demands.length fun d=>0+cn x.Left d+tn x.Tours d).any (fun c=>decide (1<c))=a
     generalize (vec p.Demands.length fun d=>0+cn x.Left d+tn x.Tours d).any (fun c=>decide (c=0))=b
     cases a<;>cases b<;>rfl
   cases hbl:Qfl p.Demands.length x.Left with
   | true =>
    rw[hbl] at hfe hpl
    exact ⟨0,7,hpl,hfe,ht 7 hfe (by decide)⟩
   | false =>
    rw[hbl] at hfe hpl
    simp only[cond_false] at hfe hpl
    by_cases h0:Qg8 (vec p.Demands.length fun d=>0+cn x.Left d+tn x.Tours d)=0
    ·rw[h0] at hfe hpl
     refine ⟨Zx p x.Tours,0,by simpa using hpl,hfe,?_⟩;unfold Ya
     rw[hfe]
     simp only[Option.bind_some,decide_true,Bool.not_true,cond_false]
     have:=Y3 (body:=Jw p x) x.Tours (fun k=>Zx p (x.Tours.take k)) (fun m k=>(m,k)) (fun _ _=>none) (Zx p x.Tours) (by omega) (fun k t htk _=> ?_) (fun _=>by simp[Jw,oun]) (((x.Tours.length:Nat):Int).toNat+1) (by simp)
     ·rw[QY _ _ (fun _ _ _=>rfl)] at this
      have e0:Zx p (x.Tours.take 0)=0:=by simp[Zx,QaF]
      rw[e0] at this
      rw[this]
      rfl
     ·have hk:=Qv htk;have hk2:((k:Int)<(x.Tours.length:Nat)):=by omega
      have hb:=Qfn g2 k (Nat.le_of_lt hk) (fun j y _ hy=>h1 j y hy);obtain ⟨u,hu⟩:=Qda (h1 k t htk);have h3:=VL g2 hu;have h4:(YJ p t).1=Qa1 p u.2.2.Depot u.2.1:=by unfold YJ;rw[hu]
      simp only[Jw,oun,hk2,decide_true,cond_true,Qt,htk,Option.bind_some,QeJ g2 g1,Jp]
      rw[Yi (n:=Zx p (x.Tours.take k)+(YJ p t).1) (by omega) (by omega),YN htk]
      unfold Zx
      rw[Qcc]
      have h5:QaF (fun t=>(YJ p t).1) [t]=(YJ p t).1:=by simp[QaF]
      rw[h5]
    ·rw[show decide (Qg8 (vec p.Demands.length fun d=>0+cn x.Left d+tn x.Tours d)=0)=false by simpa using h0] at hpl
     exact ⟨0,_,hpl,hfe,ht _ hfe h0⟩
  ·have hc0:=Qko h1;have q1:=QeZ hF g2 x hx
   rw[h2] at q1
   have q2:=Qmy g2 g1 x hx
   rw[h2] at q2
   have hfe:QR p x=some c:=by
    unfold QR
    rw[g1]
    simp only[Option.bind_some,decide_true,Bool.not_true,cond_false]
    rw[q2]
    rfl
   refine ⟨0,c,?_,hfe,ht c hfe hc0⟩;unfold Zv
   rw[ZP (by omega) _ hn,g1]
   simp only[Option.bind_some,decide_true,Bool.not_true,cond_false]
   rw[q1]
   rfl
 ·refine ⟨0,e,?_,?_,?_⟩
  ·unfold Zv
   rw[ZP (by omega) _ hn,g2]
   simp only[Option.bind_some]
   rw[show decide (e=0)=false by simpa using g1]
   rfl
  ·unfold QR
   rw[g2]
   simp only[Option.bind_some]
   rw[show decide (e=0)=false by simpa using g1]
   rfl
  ·unfold Ya QR
   rw[g2]
   simp only[Option.bind_some]
   rw[show decide (e=0)=false by simpa using g1]
   simp only[Bool.not_false,cond_true,Option.bind_some]
   rw[show decide (e=0)=false by simpa using g1]
   rfl
end Go.Proofs.YthpgjbbjpfiniaaGreat
namespace Go.Proofs.YthpgjbbjpfiniaaGreat
set_option linter.unusedSimpArgs false
set_option linter.unusedVariables false
section
variable {α:Type}
def Qh1 (cmp:α→α→Option Int) (a1:Int) (j_:(List α)×Int):Option (((List α)×Int)⊕((List α))) :=
 oun j_ fun data3 j1 =>
 Option.bind (
  bif (decide (a1<j1)) then
   Option.bind (getI data3 j1) fun x1 =>
   Option.bind (getI data3 (w64 (j1-1))) fun x2 =>
   Option.bind (cmp x1 x2) fun r1 =>
   some (decide (r1<0))
  else
   some false) (fun v1 =>
  bif v1 then
   Option.bind (getI data3 (w64 (j1-1))) fun x3 =>
   Option.bind (getI data3 j1) fun x4 =>
   Option.bind (getI data3 j1) fun x5 =>
   Option.bind (getI (Yl data3 j1 x3) (w64 (j1-1))) fun x6 =>
   some (.inl ((Yl (Yl data3 j1 x3) (w64 (j1-1)) x4),w64 (j1-1)))
  else
   some (.inr data3))
def Qh2 (cmp:α→α→Option Int) (F:Nat) (a1:Int) (b1:Int) (j_:(List α)×Int):Option (((List α)×Int)⊕((List α))) :=
 oun j_ fun data2 i1 =>
 bif (decide (i1<b1)) then
  Option.bind (
   Option.bind (
    iter (Qh1 cmp a1) F (data2,i1)) (fun data5 =>
    some data5)) (fun data6 =>
   some (.inl (data6,w64 (i1+1))))
 else
  some (.inr data2)
def Qn5 (cmp:α→α→Option Int) (F:Nat) (data1:(List α)) (a1:Int) (b1:Int):Option ((List α)) :=
 Option.bind (
  iter (Qh2 cmp F a1 b1) F (data1,w64 (a1+1))) (fun data7 =>
  some data7)
def QmC (a1:Int) (b1:Int) (n2:Int) (j_:(List α)×Int):Option (((List α)×Int)⊕((List α))) :=
 oun j_ fun data2 i1 =>
 bif (decide (i1<n2)) then
  Option.bind (getI data2 (w64 (b1+i1))) fun x1 =>
  Option.bind (getI data2 (w64 (a1+i1))) fun x2 =>
  Option.bind (getI data2 (w64 (a1+i1))) fun x3 =>
  Option.bind (getI (Yl data2 (w64 (a1+i1)) x1) (w64 (b1+i1))) fun x4 =>
  some (.inl ((Yl (Yl data2 (w64 (a1+i1)) x1) (w64 (b1+i1)) x2),w64 (i1+1)))
 else
  some (.inr data2)
def gSw (data1:(List α)) (a1:Int) (b1:Int) (n2:Int):Option ((List α)) :=
 Option.bind (
  iter (QmC a1 b1 n2) (n2.toNat+1) (data1,0)) (fun data4 =>
  some data4)
def Qh5 (m1:Int) (j_:(List α)×Int×Int):Option (((List α)×Int×Int)⊕(((List α)×Int))) :=
 oun j_ fun data2 j_=>oun j_ fun i1 j1 =>
 bif (!(decide (i1=j1))) then
  bif (decide (j1<i1)) then
   Option.bind (gSw data2 (w64 (m1-i1)) m1 j1) fun r1 =>
   some (.inl (r1,w64 (i1-j1),j1))
  else
   Option.bind (gSw data2 (w64 (m1-i1)) (w64 ((w64 (m1+j1))-i1)) i1) fun r2 =>
   some (.inl (r2,i1,w64 (j1-i1)))
 else
  some (.inr (data2,i1))
def Qpi (F:Nat) (data1:(List α)) (a1:Int) (m1:Int) (b1:Int):Option ((List α)) :=
 Option.bind (
  iter (Qh5 m1) F (data1,w64 (m1-a1),w64 (b1-m1))) (fun j_=>oun j_ fun data3 i2 =>
  Option.bind (gSw data3 (w64 (m1-i2)) m1 i2) fun r3 =>
  some r3)
def Qh6 (cmp:α→α→Option Int) (data1:(List α)) (a1:Int) (j_:Int×Int):Option ((Int×Int)⊕(Int)) :=
 oun j_ fun i1 j1 =>
 bif (decide (i1<j1)) then
  Option.bind (WO (0≤1∧1≤64)) fun _ =>
  Option.bind (getI data1 (w64 ((IntKind.u64.wrap (w64 (i1+j1)))/2^(1:Int).toNat))) fun x1 =>
  Option.bind (getI data1 a1) fun x2 =>
  Option.bind (cmp x1 x2) fun r1 =>
  bif (decide (r1<0)) then
   some (.inl (w64 ((w64 ((IntKind.u64.wrap (w64 (i1+j1)))/2^(1:Int).toNat))+1),j1))
  else
   some (.inl (i1,w64 ((IntKind.u64.wrap (w64 (i1+j1)))/2^(1:Int).toNat)))
 else
  some (.inr i1)
def QjN (cmp:α→α→Option Int) (i2:Int) (j_:(List α)×Int):Option (((List α)×Int)⊕((List α))) :=
 oun j_ fun data2 k1 =>
 bif (decide (k1<(w64 (i2-1)))) then
  Option.bind (getI data2 (w64 (k1+1))) fun x3 =>
  Option.bind (getI data2 k1) fun x4 =>
  Option.bind (getI data2 k1) fun x5 =>
  Option.bind (getI (Yl data2 k1 x3) (w64 (k1+1))) fun x6 =>
  some (.inl ((Yl (Yl data2 k1 x3) (w64 (k1+1)) x4),w64 (k1+1)))
 else
  some (.inr data2)
def Qh7 (cmp:α→α→Option Int) (data1:(List α)) (m1:Int) (j_:Int×Int):Option ((Int×Int)⊕(Int)) :=
 oun j_ fun i3 j2 =>
 bif (decide (i3<j2)) then
  Option.bind (WO (0≤1∧1≤64)) fun _ =>
  Option.bind (getI data1 m1) fun x7 =>
  Option.bind (getI data1 (w64 ((IntKind.u64.wrap (w64 (i3+j2)))/2^(1:Int).toNat))) fun x8 =>
  Option.bind (cmp x7 x8) fun r2 =>
  bif (!(decide (r2<0))) then
   some (.inl (w64 ((w64 ((IntKind.u64.wrap (w64 (i3+j2)))/2^(1:Int).toNat))+1),j2))
  else
   some (.inl (i3,w64 ((IntKind.u64.wrap (w64 (i3+j2)))/2^(1:Int).toNat)))
 else
  some (.inr i3)
def QjO (cmp:α→α→Option Int) (i4:Int) (j_:(List α)×Int):Option (((List α)×Int)⊕((List α))) :=
 oun j_ fun data5 k2 =>
 bif (decide (i4<k2)) then
  Option.bind (getI data5 (w64 (k2-1))) fun x9 =>
  Option.bind (getI data5 k2) fun x10 =>
  Option.bind (getI data5 k2) fun x11 =>
  Option.bind (getI (Yl data5 k2 x9) (w64 (k2-1))) fun x12 =>
  some (.inl ((Yl (Yl data5 k2 x9) (w64 (k2-1)) x10),w64 (k2-1)))
 else
  some (.inr data5)
def Qgw (cmp:α→α→Option Int) (data1:(List α)) (j_:Int×Int×Int):Option ((Int×Int×Int)⊕(Int)) :=
 oun j_ fun start2 j_=>oun j_ fun r4 p1 =>
 bif (decide (start2<r4)) then
  Option.bind (WO (0≤1∧1≤64)) fun _ =>
  Option.bind (getI data1 (w64 (p1-(w64 ((IntKind.u64.wrap (w64 (start2+r4)))/2^(1:Int).toNat))))) fun x13 =>
  Option.bind (getI data1 (w64 ((IntKind.u64.wrap (w64 (start2+r4)))/2^(1:Int).toNat))) fun x14 =>
  Option.bind (cmp x13 x14) fun r5 =>
  bif (!(decide (r5<0))) then
   some (.inl (w64 ((w64 ((IntKind.u64.wrap (w64 (start2+r4)))/2^(1:Int).toNat))+1),r4,p1))
  else
   some (.inl (start2,w64 ((IntKind.u64.wrap (w64 (start2+r4)))/2^(1:Int).toNat),p1))
 else
  some (.inr start2)
def Qeo (cmp:α→α→Option Int) (rec_:(List α)→Int→Int→Int→Option ((List α))) (F:Nat) (data1:(List α)) (a1:Int) (m1:Int) (b1:Int):Option ((List α)) :=
 bif (decide ((w64 (m1-a1))=1)) then
  Option.bind (
   iter (Qh6 cmp data1 a1) F (m1,b1)) (fun i2 =>
   Option.bind (
    iter (QjN cmp i2) F (data1,a1)) (fun data4 =>
    some data4))
 else
  bif (decide ((w64 (b1-m1))=1)) then
   Option.bind (
    iter (Qh7 cmp data1 m1) F (a1,m1)) (fun i4 =>
    Option.bind (
     iter (QjO cmp i4) F (data1,m1)) (fun data7 =>
     some data7))
  else
   Option.bind (WO (0≤1∧1≤64)) fun _ =>
   Option.bind (
    bif (decide ((w64 ((IntKind.u64.wrap (w64 (a1+b1)))/2^(1:Int).toNat))<m1)) then
     some (w64 ((IntKind.u64.wrap (w64 (a1+b1)))/2^(1:Int).toNat),w64 ((w64 ((IntKind.u64.wrap (w64 (a1+b1)))/2^(1:Int).toNat))+m1),w64 ((w64 ((w64 ((IntKind.u64.wrap (w64 (a1+b1)))/2^(1:Int).toNat))+m1))-b1),w64 ((IntKind.u64.wrap (w64 (a1+b1)))/2^(1:Int).toNat))
    else
     some (w64 ((IntKind.u64.wrap (w64 (a1+b1)))/2^(1:Int).toNat),w64 ((w64 ((IntKind.u64.wrap (w64 (a1+b1)))/2^(1:Int).toNat))+m1),a1,m1)) (fun j_=>oun j_ fun mid1 j_=>oun j_ fun n2 j_=>oun j_ fun start1 r3 =>
    Option.bind (
     iter (Qgw cmp data1) F (start1,r3,w64 (n2-1))) (fun start3 =>
     Option.bind (
      bif (decide (start3<m1)) then
       some (w64 (n2-start3),(decide (m1<(w64 (n2-start3)))))
      else
       some (w64 (n2-start3),false)) (fun j_=>oun j_ fun f_end1 v1 =>
      Option.bind (
       bif v1 then
        Option.bind (Qpi F data1 start3 m1 f_end1) fun r6 =>
        some r6
       else
        some data1) (fun data8 =>
       Option.bind (
        bif (decide (a1<start3)) then
         some (decide (start3<mid1))
        else
         some false) (fun v2 =>
        Option.bind (
         bif v2 then
          Option.bind (rec_ data8 a1 start3 mid1) fun r7 =>
          some r7
         else
          some data8) (fun data9 =>
         Option.bind (
          bif (decide (mid1<f_end1)) then
           some (decide (f_end1<b1))
          else
           some false) (fun v3 =>
          Option.bind (
           bif v3 then
            Option.bind (rec_ data9 mid1 f_end1 b1) fun r8 =>
            some r8
           else
            some data9) (fun data10 =>
           some data10))))))))
def QjM (cmp:α→α→Option Int):Nat→(List α)→Int→Int→Int→Option ((List α))
 | 0,_,_,_,_=>none
 | F+1,data1,a1,m1,b1=>Qeo cmp (QjM cmp F) F data1 a1 m1 b1
def QmB (cmp:α→α→Option Int) (F:Nat) (n2:Int) (j_:(List α)×Int×Int):Option (((List α)×Int×Int)⊕(((List α)×Int))) :=
 oun j_ fun data2 j_=>oun j_ fun a1 b1 =>
 bif (decide (b1≤n2)) then
  Option.bind (Qn5 cmp F data2 a1 b1) fun r1 =>
  some (.inl (r1,b1,w64 (b1+20)))
 else
  some (.inr (data2,a1))
def QgU (cmp:α→α→Option Int) (F:Nat) (n2:Int) (blockSize1:Int) (j_:(List α)×Int×Int):Option (((List α)×Int×Int)⊕(((List α)×Int))) :=
 oun j_ fun data5 j_=>oun j_ fun a3 b2 =>
 bif (decide (b2≤n2)) then
  Option.bind (QjM cmp F data5 a3 (w64 (a3+blockSize1)) b2) fun r3 =>
  some (.inl (r3,b2,w64 (b2+(w64 (2*blockSize1)))))
 else
  some (.inr (data5,a3))
def QgV (cmp:α→α→Option Int) (F:Nat) (n2:Int) (j_:(List α)×Int):Option (((List α)×Int)⊕((List α))) :=
 oun j_ fun data4 blockSize1 =>
 bif (decide (blockSize1<n2)) then
  Option.bind (
   iter (QgU cmp F n2 blockSize1) F (data4,0,w64 (2*blockSize1))) (fun j_=>oun j_ fun data6 a4 =>
   Option.bind (
    bif (decide ((w64 (a4+blockSize1))<n2)) then
     Option.bind (QjM cmp F data6 a4 (w64 (a4+blockSize1)) n2) fun r4 =>
     some r4
    else
     some data6) (fun data7 =>
    some (.inl (data7,w64 (blockSize1*2)))))
 else
  some (.inr data4)
def gSt (cmp:α→α→Option Int) (F:Nat) (data1:(List α)) (n2:Int):Option ((List α)) :=
 Option.bind (
  iter (QmB cmp F n2) F (data1,0,20)) (fun j_=>oun j_ fun data3 a2 =>
  Option.bind (Qn5 cmp F data3 a2 n2) fun r2 =>
  Option.bind (
   iter (QgV cmp F n2) F (r2,20)) (fun data8 =>
   some data8))
def Qjc (cmp:α→α→Option Int) (F:Nat) (x1:(List α)):Option ((List α)) :=
 Option.bind (gSt cmp F x1 ((x1.length:Nat):Int)) fun r1 =>
 some r1
theorem QiY {a b:Nat} (h:a+b≤1000000000000000):w64 ((a:Int)+(b:Int))=((a+b:Nat):Int):=by rw[Yi (by omega) (by omega)];omega
theorem QeU {a b:Nat} (h:b≤a) (h2:a≤1000000000000000):w64 ((a:Int)-(b:Int))=((a-b:Nat):Int):=by rw[Yi (by omega) (by omega)];omega
theorem Qlj {a:Nat} (h:1≤a) (h2:a≤1000000000000000):w64 ((a:Int)-1)=((a-1:Nat):Int):=QeU (b:=1) h h2
theorem Qg3 {a:Nat} (h2:a≤1000000000000):w64 ((a:Int)+1)=((a+1:Nat):Int):=QiY (b:=1) (by omega)
theorem QmX {i j:Nat} (h:i+j≤1000000000000000):w64 ((IntKind.u64.wrap (w64 ((i:Int)+(j:Int))))/2^(1:Int).toNat)=(((i+j)/2:Nat):Int):=by
 rw[QiY h]
 have h1:IntKind.u64.wrap ((i+j:Nat):Int)=((i+j:Nat):Int):=by simp[IntKind.wrap,IntKind.bits,IntKind.signed];omega
 rw[h1]
 have h2:(2:Int)^(1:Int).toNat=2:=rfl
 rw[h2,Yi (by omega) (by omega)]
 omega
theorem Qcf {L:List α} {i:Nat} (h:i<L.length): ∃x,L[i]? =some x:=⟨L[i],by simp[h]⟩
theorem Qge (L:List α) (i:Nat) (x:α):Yl L (i:Int) x=L.set i x:=by simp[Yl]
theorem Qo2 {L:List α} {i j:Nat} {x y:α} (hx:L[i]? =some x) (hy:L[j]? =some y) (t:Nat):((L.set i y).set j x)[t]? =if t=j then L[i]? else if t=i then L[j]? else L[t]? :=by
 have hi:=Qv hx;have hj:=Qv hy
 by_cases h1:t=j
 ·subst h1;rw[if_pos rfl];simp[hj,hx]
 ·by_cases h2:t=i
  ·subst h2;rw[if_neg h1,if_pos rfl,List.getElem?_set_ne (fun h=>h1 h.symm),hy];simp[hi]
  ·rw[if_neg h1,if_neg h2,List.getElem?_set_ne (fun h=>h1 h.symm),List.getElem?_set_ne (fun h=>h2 h.symm)]
def swF (L:List α) (a b n t:Nat):Option α:=if a≤t∧t<a+n then L[t-a+b]? else if b≤t∧t<b+n then L[t-b+a]? else L[t]?
theorem QkG {L:List α} {a b n:Nat} (h1:a+n≤b) (h2:b+n≤L.length) (hs:L.length≤1000000000000): ∀(r i:Nat) (M:List α) (f:Nat),i+r=n→r<f→M.length=L.length→(∀t,M[t]? =swF L a b i t) →
  ∃L',iter (QmC (α:=α) a b n) f (M,(i:Int))=some L'∧L'.length=L.length∧ ∀t,L'[t]? =swF L a b n t
 | _,_,_,0,_,h,_,_=>by omega
 | 0,i,M,f+1,hi,_,hl,hM=>by
  have:i=n:=by omega
  subst this;refine ⟨M,?_,hl,hM⟩
  simp only[iter,QmC,oun,Int.lt_irrefl,decide_false,cond_false,Option.bind_some,QJ]
 | r+1,i,M,f+1,hi,hf,hl,hM=>by
  obtain ⟨x,hx⟩:=Qcf (L:=M) (i:=b+i) (by omega);obtain ⟨y,hy⟩:=Qcf (L:=M) (i:=a+i) (by omega);have hlt:((i:Nat):Int)<(n:Nat):=by omega
  have e1:w64 ((b:Int)+(i:Int))=((b+i:Nat):Int):=QiY (by omega);have e2:w64 ((a:Int)+(i:Int))=((a+i:Nat):Int):=QiY (by omega);have e3:w64 ((i:Int)+1)=((i+1:Nat):Int):=Qg3 (by omega);have e4:(M.set (a+i) x)[b+i]? =some x:=by rw[List.getElem?_set,if_neg (by omega)];exact hx
  have key:=QkG h1 h2 hs r (i+1) ((M.set (a+i) x).set (b+i) y) f (by omega) (by omega) (by simpa using hl) (fun t=>by
   rw[Qo2 hy hx t,hM t,hM (a+i),hM (b+i)]
   unfold swF
   repeat' split
   all_goals first | omega | rfl | (congr 1;omega))
  obtain ⟨L',k1,k2,k3⟩:=key;refine ⟨L',?_,k2,k3⟩
  rw[←k1]
  simp only[iter,QmC,oun,hlt,decide_true,cond_true,e1,e2,e3,Qt,Qge,hx,hy,e4,Option.bind_some,QJ]
theorem QlJ {L:List α} {a b n:Nat} (h1:a+n≤b) (h2:b+n≤L.length) (hs:L.length≤1000000000000): ∃L',gSw L a b n=some L'∧L'.length=L.length∧ ∀t,L'[t]? =swF L a b n t:=by
 obtain ⟨L',k1,k2,k3⟩:=QkG h1 h2 hs n 0 L ((n:Int).toNat+1) (by omega) (by omega) rfl (fun t=>by unfold swF;rw[if_neg (by omega),if_neg (by omega)]);refine ⟨L',?_,k2,k3⟩;unfold gSw
 rw[show ((0:Nat):Int)=0 from rfl] at k1
 rw[k1];rfl
def Ql4 (L:List α) (m i j t:Nat):Option α:=if m-i≤t∧t<m+j then (if t<m-i+j then L[t+i]? else L[t-j]?) else L[t]?
theorem Qgv {m:Nat}: ∀(s i j:Nat) (L:List α) (f:Nat),i+j≤s→s<f→1≤i→1≤j→i≤m→m+j≤L.length→L.length≤1000000000000 →
  ∃(M:List α) (d:Nat),iter (Qh5 (α:=α) m) f (L,(i:Int),(j:Int))=some (M,(d:Int))∧M.length=L.length∧1≤d∧d≤i∧d≤j∧ ∀(L':List α),L'.length=L.length→(∀t,L'[t]? =swF M (m-d) m d t)→ ∀t,L'[t]? =Ql4 L m i j t
 | _,_,_,_,0,_,h,_,_,_,_,_=>by omega
 | 0,i,j,_,_,h,_,_,_,_,_,_=>by omega
 | s+1,i,j,L,f+1,hs,hf,hi,hj,him,hjl,hl=>by
  by_cases hij:i=j
  ·subst hij;refine ⟨L,i,?_,rfl,hi,Nat.le_refl _,Nat.le_refl _,fun L' _ h t=> ?_⟩
   ·simp only[iter,Qh5,oun,decide_true,Bool.not_true,cond_false,Option.bind_some,QJ]
   ·rw[h t]
    unfold swF Ql4
    repeat' split
    all_goals first | omega | rfl | (congr 1;omega)
  ·have hne: ¬((i:Int)=(j:Int)):=by omega
   by_cases hlt:j<i
   ·have hlt':((j:Nat):Int)<(i:Nat):=by omega
    obtain ⟨L1,k1,k2,k3⟩:=QlJ (L:=L) (a:=m-i) (b:=m) (n:=j) (by omega) (by omega) hl;obtain ⟨M,d,q1,q2,q3,q4,q5,q6⟩:=Qgv (m:=m) s (i-j) j L1 f (by omega) (by omega) (by omega) hj (by omega) (by omega) (by omega);refine ⟨M,d,?_,by omega,q3,by omega,q5,fun L' hL' h t=> ?_⟩
    ·rw[←q1]
     simp only[iter,Qh5,oun,hne,hlt',decide_false,decide_true,Bool.not_false,cond_true,QeU him (by omega:m≤1000000000000000),k1,QeU (Nat.le_of_lt hlt) (by omega:i≤1000000000000000),Option.bind_some,QJ]
    ·rw[q6 L' (by omega) h t]
     unfold Ql4
     simp only[k3]
     unfold swF
     repeat' split
     all_goals first | omega | rfl | (congr 1;omega)
   ·have hlt': ¬(((j:Nat):Int)<(i:Nat)):=by omega
    obtain ⟨L1,k1,k2,k3⟩:=QlJ (L:=L) (a:=m-i) (b:=m+j-i) (n:=i) (by omega) (by omega) hl;obtain ⟨M,d,q1,q2,q3,q4,q5,q6⟩:=Qgv (m:=m) s i (j-i) L1 f (by omega) (by omega) hi (by omega) him (by omega) (by omega);refine ⟨M,d,?_,by omega,q3,q4,by omega,fun L' hL' h t=> ?_⟩
    ·rw[←q1]
     simp only[iter,Qh5,oun,hne,hlt',decide_false,decide_true,Bool.not_false,cond_true,cond_false,QeU him (by omega:m≤1000000000000000),QiY (by omega:m+j≤1000000000000000),QeU (by omega:i≤m+j) (by omega:m+j≤1000000000000000),k1,QeU (by omega:i≤j) (by omega:j≤1000000000000000),Option.bind_some,QJ]
    ·rw[q6 L' (by omega) h t]
     unfold Ql4
     simp only[k3]
     unfold swF
     repeat' split
     all_goals first | omega | rfl | (congr 1;omega)
theorem Qpj {L:List α} {a m b F:Nat} (h1:a<m) (h2:m<b) (h3:b≤L.length) (hs:L.length≤1000000000000) (hF:b-a<F): ∃L',Qpi F L a m b=some L'∧L'.length=L.length∧ ∀t,L'[t]? =Ql4 L m (m-a) (b-m) t:=by
 obtain ⟨M,d,q1,q2,q3,q4,q5,q6⟩:=Qgv (m:=m) (b-a) (m-a) (b-m) L F (by omega) hF (by omega) (by omega) (by omega) (by omega) hs;obtain ⟨L',k1,k2,k3⟩:=QlJ (L:=M) (a:=m-d) (b:=m) (n:=d) (by omega) (by omega) (by omega);refine ⟨L',?_,by omega,q6 L' (by omega) k3⟩;unfold Qpi
 simp only[QeU (Nat.le_of_lt h1) (by omega:m≤1000000000000000),QeU (Nat.le_of_lt h2) (by omega:b≤1000000000000000),q1,Option.bind_some,oun,QeU (by omega:d≤m) (by omega:m≤1000000000000000),k1]
variable {k:α→Int}
def Srt (k:α→Int) (l:List α):Prop:=l.Pairwise fun x y=>k x≤k y
structure YT (k:α→Int) (l l':List α):Prop where
 perm:l.Perm l'
 fil: ∀c,l.filter (fun x=>decide (k x=c))=l'.filter (fun x=>decide (k x=c))
theorem YT.refl (l:List α):YT k l l:=⟨List.Perm.refl _,fun _=>rfl⟩
theorem YT.trans {a b c:List α} (h:YT k a b) (h2:YT k b c):YT k a c:=⟨h.perm.trans h2.perm,fun q=>(h.fil q).trans (h2.fil q)⟩
theorem YT.symm {a b:List α} (h:YT k a b):YT k b a:=⟨h.perm.symm,fun q=>(h.fil q).symm⟩
theorem YT.append {a b c d:List α} (h:YT k a b) (h2:YT k c d):YT k (a++c) (b++d):=⟨h.perm.append h2.perm,fun q=>by rw[List.filter_append,List.filter_append,h.fil q,h2.fil q]⟩
theorem YT.swap {u v:List α} (h: ∀x∈u,∀y∈v,k y<k x):YT k (u++v) (v++u):=by
 refine ⟨List.perm_append_comm,fun c=> ?_⟩
 rw[List.filter_append,List.filter_append]
 by_cases hu:u.filter (fun x=>decide (k x=c))=[]
 ·rw[hu];simp
 ·have hv:v.filter (fun x=>decide (k x=c))=[]:=by
   rw[List.filter_eq_nil_iff]
   intro y hy hyc;obtain ⟨x,hx⟩:=List.exists_mem_of_ne_nil _ hu;have hx':=List.mem_filter.1 hx;have:=h x hx'.1 y hy;have e1:=of_decide_eq_true hx'.2;have e2:=of_decide_eq_true hyc
   omega
  rw[hv];simp
theorem Srt.unique: ∀{l l':List α},Srt k l→Srt k l'→YT k l l'→l=l'
 | [],l',_,_,h=>(h.perm.symm.eq_nil).symm
 | x::r,[],_,_,h=>by have:=h.perm.eq_nil;cases this
 | x::r,y::r',h1,h2,h=>by
  have hx: ∀z∈x::r,k x≤k z:=fun z hz=>by
   rcases List.mem_cons.1 hz with rfl | hz
   ·exact Int.le_refl _
   ·exact (List.pairwise_cons.1 h1).1 z hz
  have hy: ∀z∈y::r',k y≤k z:=fun z hz=>by
   rcases List.mem_cons.1 hz with rfl | hz
   ·exact Int.le_refl _
   ·exact (List.pairwise_cons.1 h2).1 z hz
  have e1:=hx y (h.perm.mem_iff.2 List.mem_cons_self);have e2:=hy x (h.perm.mem_iff.1 List.mem_cons_self);have e3:k x=k y:=by omega
  have f1:=h.fil (k x)
  rw[List.filter_cons_of_pos (by simp),List.filter_cons_of_pos (by simp[e3])] at f1
  injection f1 with f1 f2
  subst f1;have:YT k r r':=⟨(List.perm_cons x).1 h.perm,fun c=>by
   by_cases hc:k x=c
   ·subst hc;exact f2
   ·have f3:=h.fil c
    rw[List.filter_cons_of_neg (by simp[hc]),List.filter_cons_of_neg (by simp[hc])] at f3
    exact f3⟩
  rw[Srt.unique (List.pairwise_cons.1 h1).2 (List.pairwise_cons.1 h2).2 this]
theorem Qpx {A U V B L':List α} {m:Nat} (hm:A.length+U.length=m) (h: ∀t,L'[t]? =Ql4 (A++(U++(V++B))) m U.length V.length t):L'=A++(V++(U++B)):=by
 refine List.ext_getElem? fun t=> ?_
 rw[h t]
 unfold Ql4
 simp only[List.getElem?_append]
 repeat' split
 all_goals first | omega | rfl | (congr 1;omega)
variable {cmp:α→α→Option Int} {Pv:α→Prop}
theorem QcL {A B:List α} {x:α} {i:Nat} (h:A.length=i):(A++x::B)[i]? =some x:=by subst h;simp
theorem Qlc {A B:List α} {x z:α} {i:Nat} (h:A.length=i):((A++z::x::B).set (i+1) z).set i x=A++x::z::B:=by
 subst h
 rw[List.set_append_right _ _ (by omega),List.set_append_right _ _ (by omega)]
 simp
theorem Qh3 (hc: ∀x y,Pv x→Pv y→ ∃z,cmp x y=some z∧(z<0↔k x<k y)) {a:Nat} {A:List α} (hA:A.length=a) {x:α} (hx:Pv x): ∀(n:Nat) (Z B:List α) (f:Nat),Z.length=n→n<f→Srt k Z→(∀z∈Z,Pv z)→a+n≤1000000000000 →
  ∃Z1 Z2,Z=Z1++Z2∧iter (Qh1 cmp a) f (A++Z++x::B,((a+n:Nat):Int))=some (A++Z1++x::(Z2++B))∧(∀z∈Z2,k x<k z)∧ ∀z∈Z1,k z≤k x
 | _,_,_,0,_,h,_,_,_=>by omega
 | 0,Z,B,f+1,hZ,_,_,_,_=>by
  have:Z=[]:=List.eq_nil_of_length_eq_zero hZ;subst this;refine ⟨[],[],rfl,?_,by simp,by simp⟩;have: ¬((a:Int)<((a+0:Nat):Int)):=by omega
  simp only[iter,Qh1,oun,this,decide_false,cond_false,Option.bind_some,QJ,List.append_nil,List.nil_append]
 | n+1,Z,B,f+1,hZ,hf,hs,hp,hb=>by
  obtain ⟨Z',z,rfl⟩: ∃Z' z,Z=Z'++[z]:=by
   have:Z≠[]:=by intro e;rw[e] at hZ;simp at hZ
   exact ⟨Z.dropLast,Z.getLast this,(List.dropLast_concat_getLast this).symm⟩
  have hl:Z'.length=n:=by simpa using hZ
  have hz:Pv z:=hp z (by simp);have hlt:(a:Int)<((a+(n+1):Nat):Int):=by omega
  have e0:A++(Z'++[z])++x::B=(A++Z')++z::x::B:=by simp
  have g1:(A++(Z'++[z])++x::B)[a+(n+1)]? =some x:=QcL (by simp[hA,hl]);have g2:(A++(Z'++[z])++x::B)[a+(n+1)-1]? =some z:=by rw[e0];exact QcL (by simp[hA,hl])
  have e1:w64 (((a+(n+1):Nat):Int)-1)=((a+(n+1)-1:Nat):Int):=Qlj (by omega) (by omega);obtain ⟨q,hq,hqk⟩:=hc x z hx hz
  by_cases hk:k x<k z
  ·have hq0:=hqk.2 hk;obtain ⟨Z1,Z2,k1,k2,k3,k4⟩:=Qh3 hc hA hx n Z' (z::B) f hl (by omega) (List.pairwise_append.1 hs).1 (fun y hy=>hp y (by simp[hy])) (by omega);refine ⟨Z1,Z2++[z],by rw[k1];simp,?_,?_,k4⟩
   ·have e2:((A++(Z'++[z])++x::B).set (a+(n+1)) z).set (a+(n+1)-1) x=A++Z'++x::(z::B):=by
     rw[e0]
     have:a+(n+1)-1=a+n:=by omega
     rw[this]
     have e3:a+(n+1)=(a+n)+1:=by omega
     rw[e3]
     exact Qlc (by simp[hA,hl])
    have g3:((A++(Z'++[z])++x::B).set (a+(n+1)) z)[a+(n+1)-1]? =some z:=by
     rw[List.getElem?_set_ne (by omega)];exact g2
    have e4:((a+(n+1)-1:Nat):Int)=((a+n:Nat):Int):=by omega
    simp only[iter,Qh1,oun,hlt,decide_true,cond_true,Qt,Qge,e1,g1,g2,g3,hq,hq0,Option.bind_some,QJ,e2]
    rw[e4,k2]
    simp
   ·intro y hy;rcases List.mem_append.1 hy with hy | hy
    ·exact k3 y hy
    ·simp only[List.mem_singleton] at hy;subst hy;exact hk
  ·have hq0: ¬q<0:=fun h=>hk (hqk.1 h);refine ⟨Z'++[z],[],by simp,?_,by simp,?_⟩
   ·simp only[iter,Qh1,oun,hlt,decide_true,cond_true,Qt,e1,g1,g2,hq,hq0,decide_false,cond_false,Option.bind_some,QJ,List.nil_append]
   ·intro y hy;rcases List.mem_append.1 hy with hy | hy
    ·have:=(List.pairwise_append.1 hs).2.2 y hy z (by simp)
     omega
    ·simp only[List.mem_singleton] at hy;subst hy;omega
theorem Qf0 {Z1 Z2:List α} {x:α} (hs:Srt k (Z1++Z2)) (h2: ∀z∈Z2,k x<k z) (h1: ∀z∈Z1,k z≤k x):Srt k (Z1++x::Z2)∧YT k (Z1++Z2++[x]) (Z1++x::Z2):=by
 have hp:=List.pairwise_append.1 hs;refine ⟨List.pairwise_append.2 ⟨hp.1,List.pairwise_cons.2 ⟨fun z hz=>by have:=h2 z hz;omega,hp.2.1⟩,fun y hy z hz=> ?_⟩,?_⟩
 ·rcases List.mem_cons.1 hz with rfl | hz
  ·exact h1 y hy
  ·exact hp.2.2 y hy z hz
 ·rw[List.append_assoc]
  refine (YT.refl Z1).append (?_:YT k (Z2++[x]) ([x]++Z2));exact YT.swap fun z hz y hy=>by simp only[List.mem_singleton] at hy;subst hy;exact h2 z hz
theorem Qh4 (hc: ∀x y,Pv x→Pv y→ ∃z,cmp x y=some z∧(z<0↔k x<k y)) {a b F:Nat} {A B:List α} (hA:A.length=a) (hb:b≤1000000000) (hF:b<F): ∀(r:Nat) (Z R:List α) (f:Nat),R.length=r→r<f→a+Z.length+r=b→Srt k Z→(∀z∈Z,Pv z)→(∀z∈R,Pv z) →
  ∃M,iter (Qh2 cmp F a b) f (A++Z++(R++B),((a+Z.length:Nat):Int))=some (A++M++B)∧Srt k M∧YT k (Z++R) M
 | _,_,_,0,_,h,_,_,_,_=>by omega
 | 0,Z,R,f+1,hR,_,hab,hs,_,_=>by
  have:R=[]:=List.eq_nil_of_length_eq_zero hR;subst this;refine ⟨Z,?_,hs,by rw[List.append_nil];exact YT.refl _⟩;have: ¬(((a+Z.length:Nat):Int)<(b:Int)):=by omega
  simp only[iter,Qh2,oun,this,decide_false,cond_false,Option.bind_some,QJ,List.nil_append]
 | r+1,Z,[],f+1,hR,_,_,_,_,_=>by simp at hR
 | r+1,Z,x::R,f+1,hR,hf,hab,hs,hp,hq=>by
  have hlt:((a+Z.length:Nat):Int)<(b:Int):=by omega
  obtain ⟨Z1,Z2,k1,k2,k3,k4⟩:=Qh3 hc hA (hq x (by simp)) Z.length Z (R++B) F rfl (by omega) hs hp (by omega);subst k1;obtain ⟨j1,j2⟩:=Qf0 hs k3 k4;have hl:(Z1++x::Z2).length=(Z1++Z2).length+1:=by simp;omega
  obtain ⟨M,m1,m2,m3⟩:=Qh4 (B:=B) hc hA hb hF r (Z1++x::Z2) R f (by simpa using hR) (by omega) (by rw[hl];omega) j1 (fun z hz=>by
   rcases List.mem_append.1 hz with hz | hz
   ·exact hp z (by simp[hz])
   ·rcases List.mem_cons.1 hz with rfl | hz
    ·exact hq z (by simp)
    ·exact hp z (by simp[hz])) (fun z hz=>hq z (by simp[hz]))
  refine ⟨M,?_,m2,?_⟩
  ·have e1:w64 (((a+(Z1++Z2).length:Nat):Int)+1)=((a+(Z1++x::Z2).length:Nat):Int):=by rw[Qg3 (by omega),hl];rfl
   have e2:A++Z1++x::(Z2++(R++B))=A++(Z1++x::Z2)++(R++B):=by simp
   simp only[iter,Qh2,oun,hlt,decide_true,cond_true,List.cons_append,k2,Option.bind_some,QJ,e1,e2,m1]
  ·refine YT.trans (b:=(Z1++x::Z2)++R) ?_ m3;have:Z1++Z2++x::R=(Z1++Z2++[x])++R:=by simp
   rw[this]
   exact j2.append (YT.refl R)
theorem QmA (hc: ∀x y,Pv x→Pv y→ ∃z,cmp x y=some z∧(z<0↔k x<k y)) {a b F:Nat} {A M B:List α} (hA:A.length=a) (hM:a+M.length=b) (hb:b≤1000000000) (hF:b+1<F) (hp: ∀z∈M,Pv z) :
  ∃M',Qn5 cmp F (A++M++B) a b=some (A++M'++B)∧Srt k M'∧YT k M M':=by
 cases M with
 | nil =>
  refine ⟨[],?_,List.Pairwise.nil,YT.refl _⟩;cases F with
  | zero=>omega
  | succ F =>
   have e1:w64 ((a:Int)+1)=((a+1:Nat):Int):=Qg3 (by simp at hM;omega);have: ¬(((a+1:Nat):Int)<(b:Int)):=by simp at hM;omega
   unfold Qn5
   simp only[e1,iter,Qh2,oun,this,decide_false,cond_false,Option.bind_some,QJ]
 | cons x R =>
  obtain ⟨M',m1,m2,m3⟩:=Qh4 (B:=B) hc hA hb (by omega:b<F) R.length [x] R F rfl (by simp at hM;omega) (by simp at hM ⊢;omega) (List.pairwise_singleton _ _) (fun z hz=>hp z (by simp at hz;simp[hz])) (fun z hz=>hp z (by simp[hz]));refine ⟨M',?_,m2,m3⟩;have e1:w64 ((a:Int)+1)=((a+[x].length:Nat):Int):=by rw[Qg3 (by simp at hM;omega)];rfl
  have e2:A++x::R++B=A++[x]++(R++B):=by simp
  unfold Qn5
  rw[e1,e2,m1];rfl
theorem QhB {τ:Type} {body:τ→Option (τ⊕Int)} {mk:Nat→Nat→τ} {test:Nat→Bool} {i0 j0:Nat} (hb: ∀i j,i0≤i→i<j→j≤j0→body (mk i j)=some (.inl (bif test ((i+j)/2) then mk ((i+j)/2+1) j else mk i ((i+j)/2)))) (he: ∀i,i0≤i→i≤j0→body (mk i i)=some (.inr (i:Int)))
  (hm: ∀s t,i0≤s→s≤t→t<j0→test t=true→test s=true): ∀(n i j f:Nat),j-i≤n→n<f→i0≤i→i≤j→j≤j0→(∀t,i0≤t→t<i→test t=true)→(∀t,j≤t→t<j0→test t=false) →
  ∃r:Nat,iter body f (mk i j)=some (r:Int)∧i≤r∧r≤j∧(∀t,i0≤t→t<r→test t=true)∧ ∀t,r≤t→t<j0→test t=false
 | _,_,_,0,_,h,_,_,_,_,_=>by omega
 | n,i,j,f+1,hn,hf,h0,hij,hj,ht,hfa=>by
  by_cases hlt:i<j
  ·cases n with
   | zero=>omega
   | succ n =>
    have h1:=hb i j h0 hlt hj;cases hq:test ((i+j)/2) with
    | true =>
     rw[hq] at h1
     obtain ⟨r,k1,k2,k3,k4,k5⟩:=QhB hb he hm n ((i+j)/2+1) j f (by omega) (by omega) (by omega) (by omega) hj (fun t h2 h3=>hm t ((i+j)/2) h2 (by omega) (by omega) hq) hfa;refine ⟨r,?_,by omega,k3,k4,k5⟩
     rw[iter,h1]
     exact k1
    | false =>
     rw[hq] at h1
     obtain ⟨r,k1,k2,k3,k4,k5⟩:=QhB hb he hm n i ((i+j)/2) f (by omega) (by omega) h0 (by omega) (by omega) ht (fun t h2 h3=>by
      cases hq2:test t with
      | false=>rfl
      | true=>have:=hm ((i+j)/2) t (by omega) h2 h3 hq2;rw[hq] at this;cases this)
     refine ⟨r,?_,k2,by omega,k4,k5⟩
     rw[iter,h1]
     exact k1
  ·have:i=j:=by omega
   subst this;exact ⟨i,by rw[iter,he i h0 hj];rfl,Nat.le_refl _,Nat.le_refl _,ht,hfa⟩
theorem Qh8 {a e:Nat} {A B:List α} {x:α}: ∀(n:Nat) (W V:List α) (f:Nat),V.length=n→n<f→A.length+W.length+n+1=e→e≤1000000000 →
  iter (QjN (α:=α) cmp (e:Int)) f (A++W++x::(V++B),((A.length+W.length:Nat):Int))=some (A++W++V++x::B)
 | _,_,_,0,_,h,_,_=>by omega
 | 0,W,V,f+1,hV,_,he,hb=>by
  have:V=[]:=List.eq_nil_of_length_eq_zero hV;subst this;have e1:w64 ((e:Int)-1)=((e-1:Nat):Int):=Qlj (by omega) (by omega);have: ¬(((A.length+W.length:Nat):Int)<((e-1:Nat):Int)):=by omega
  simp only[iter,QjN,oun,e1,this,decide_false,cond_false,Option.bind_some,QJ,List.append_nil,List.nil_append]
 | n+1,W,[],f+1,hV,_,_,_=>by simp at hV
 | n+1,W,v::V,f+1,hV,hf,he,hb=>by
  have e1:w64 ((e:Int)-1)=((e-1:Nat):Int):=Qlj (by omega) (by omega);have hlt:((A.length+W.length:Nat):Int)<((e-1:Nat):Int):=by omega
  have e2:w64 (((A.length+W.length:Nat):Int)+1)=((A.length+W.length+1:Nat):Int):=Qg3 (by omega);have g1:(A++W++x::(v::V++B))[A.length+W.length]? =some x:=QcL (by simp);have g2:(A++W++x::(v::V++B))[A.length+W.length+1]? =some v:=by
   have:A++W++x::(v::V++B)=(A++W++[x])++v::(V++B):=by simp
   rw[this];exact QcL (by simp;omega)
  have e3:((A++W++x::(v::V++B)).set (A.length+W.length) v).set (A.length+W.length+1) x=A++(W++[v])++x::(V++B):=by
   rw[List.set_append_right _ _ (by simp),List.set_append_right _ _ (by simp)]
   simp
  have g3:((A++W++x::(v::V++B)).set (A.length+W.length) v)[A.length+W.length+1]? =some v:=by
   rw[List.getElem?_set_ne (by omega)];exact g2
  have ih:=Qh8 (a:=a) (e:=e) (A:=A) (B:=B) (x:=x) n (W++[v]) V f (by simpa using hV) (by omega) (by simp;omega) hb;have e4:((A.length+W.length+1:Nat):Int)=((A.length+(W++[v]).length:Nat):Int):=by simp;omega
  simp only[iter,QjN,oun,e1,hlt,decide_true,cond_true,e2,Qt,Qge,g1,g2,g3,e3,Option.bind_some,QJ]
  rw[e4,ih]
  simp
theorem Qjd {e:Nat} {A B:List α} {x:α} (hA:A.length=e): ∀(n:Nat) (U W:List α) (f:Nat),U.length=n→n<f→e+n≤1000000000 →
  iter (QjO (α:=α) cmp (e:Int)) f (A++U++x::(W++B),((e+n:Nat):Int))=some (A++x::(U++W++B))
 | _,_,_,0,_,h,_=>by omega
 | 0,U,W,f+1,hU,_,hb=>by
  have:U=[]:=List.eq_nil_of_length_eq_zero hU;subst this;have: ¬((e:Int)<((e+0:Nat):Int)):=by omega
  simp only[iter,QjO,oun,this,decide_false,cond_false,Option.bind_some,QJ,List.append_nil,List.nil_append]
 | n+1,U,W,f+1,hU,hf,hb=>by
  obtain ⟨U',u,rfl⟩: ∃U' u,U=U'++[u]:=by
   have:U≠[]:=by intro e;rw[e] at hU;simp at hU
   exact ⟨U.dropLast,U.getLast this,(List.dropLast_concat_getLast this).symm⟩
  have hl:U'.length=n:=by simpa using hU
  have e1:w64 (((e+(n+1):Nat):Int)-1)=((e+n:Nat):Int):=Qlj (by omega) (by omega);have hlt:(e:Int)<((e+(n+1):Nat):Int):=by omega
  have e0:A++(U'++[u])++x::(W++B)=(A++U')++u::x::(W++B):=by simp
  have g1:(A++(U'++[u])++x::(W++B))[e+(n+1)]? =some x:=QcL (by simp[hA,hl]);have g2:(A++(U'++[u])++x::(W++B))[e+n]? =some u:=by rw[e0];exact QcL (by simp[hA,hl])
  have e2:((A++(U'++[u])++x::(W++B)).set (e+(n+1)) u).set (e+n) x=A++U'++x::((u::W)++B):=by
   rw[e0]
   exact Qlc (by simp[hA,hl])
  have g3:((A++(U'++[u])++x::(W++B)).set (e+(n+1)) u)[e+n]? =some u:=by
   rw[List.getElem?_set_ne (by omega)];exact g2
  have ih:=Qjd (B:=B) (x:=x) hA n U' (u::W) f hl (by omega) (by omega)
  simp only[iter,QjO,oun,hlt,decide_true,cond_true,e1,Qt,Qge,g1,g2,g3,e2,Option.bind_some,QJ]
  rw[ih]
  simp
theorem Qhm {A U B:List α} {a t:Nat} (hA:A.length=a) (h1:a≤t) (h2:t<a+U.length):(A++(U++B))[t]? =U[t-a]? :=by
 rw[List.getElem?_append_right (by omega),hA,List.getElem?_append_left (by omega)]
theorem Qcb {l:List α} (h:Srt k l) {i j:Nat} {x y:α} (hij:i≤j) (hx:l[i]? =some x) (hy:l[j]? =some y):k x≤k y:=by
 rcases Nat.lt_or_ge i j with h1 | h1
 ·have hj:=Qv hy;have:=List.pairwise_iff_getElem.1 h i j (by omega) hj h1
  rw[List.getElem?_eq_getElem (by omega)] at hx hy
  injection hx with hx;injection hy with hy
  rw[←hx,←hy];exact this
 ·have:i=j:=by omega
  subst this
  rw[hx] at hy;injection hy with hy
  subst hy;exact Int.le_refl _
theorem Qex {l:List α} {n:Nat} {x:α} (h:x∈l.take n): ∃i,i<n∧l[i]? =some x:=by
 obtain ⟨i,hi⟩:=List.getElem?_of_mem h
 rw[List.getElem?_take] at hi
 split at hi
 ·exact ⟨i,by assumption,hi⟩
 ·cases hi
theorem Qew {l:List α} {n:Nat} {x:α} (h:x∈l.drop n): ∃i,n≤i∧l[i]? =some x:=by
 obtain ⟨i,hi⟩:=List.getElem?_of_mem h
 rw[List.getElem?_drop] at hi
 exact ⟨n+i,by omega,hi⟩
theorem Qn9 (hc: ∀x y,Pv x→Pv y→ ∃z,cmp x y=some z∧(z<0↔k x<k y)) {a b F:Nat} {A V B:List α} {x:α} (hA:A.length=a) (hV:a+1+V.length=b) (hb:b≤1000000000) (hF:b-a<F) (hs:Srt k V) (hx:Pv x) (hp: ∀z∈V,Pv z) (rec_:List α→Int→Int→Int→Option (List α)) :
  ∃M,Qeo cmp rec_ F (A++([x]++(V++B))) a ((a+1:Nat):Int) b=some (A++(M++B))∧Srt k M∧YT k ([x]++V) M:=by
 have hd:w64 (((a+1:Nat):Int)-(a:Int))=1:=by rw[QeU (by omega) (by omega)];omega
 have gx:(A++([x]++(V++B)))[a]? =some x:=QcL hA;have gv: ∀t,a+1≤t→t<b→ ∃v,(A++([x]++(V++B)))[t]? =some v∧V[t-(a+1)]? =some v:=by
  intro t h1 h2;have e:A++([x]++(V++B))=(A++[x])++(V++B):=by simp
  obtain ⟨v,hv⟩:=Qcf (L:=V) (i:=t-(a+1)) (by omega);exact ⟨v,by rw[e,Qhm (a:=a+1) (by simp[hA]) h1 (by omega)];exact hv,hv⟩
 obtain ⟨r,k1,k2,k3,k4,k5⟩:=QhB (body:=Qh6 cmp (A++([x]++(V++B))) (a:Int)) (mk:=fun i j=>((i:Int),(j:Int))) (test:=fun h=>match (A++([x]++(V++B)))[h]? with | some v=>decide (k v<k x) | none=>false) (i0:=a+1) (j0:=b) (fun i j h0 hij hj=>by
   obtain ⟨v,g1,g2⟩:=gv ((i+j)/2) (by omega) (by omega);obtain ⟨z,hz,hz2⟩:=hc v x (hp v (List.mem_of_getElem? g2)) hx;have hlt:(i:Int)<(j:Int):=by omega
   have hw:=QmX (i:=i) (j:=j) (by omega);have hw1:w64 (((((i+j)/2:Nat):Int))+1)=(((i+j)/2+1:Nat):Int):=Qg3 (by omega);have hg:WO (0≤1∧1≤64)=some ():=QaT (by decide)
   by_cases hk:k v<k x
   ·have hz0:=hz2.2 hk
    simp only[Qh6,oun,hlt,decide_true,cond_true,hg,Option.bind_some,hw,Qt,g1,gx,hz,hz0,hk,hw1]
   ·have hz0: ¬z<0:=fun h=>hk (hz2.1 h)
    simp only[Qh6,oun,hlt,decide_true,cond_true,hg,Option.bind_some,hw,Qt,g1,gx,hz,hz0,hk,decide_false,cond_false])
  (fun i h0 hj=>by simp only[Qh6,oun,Int.lt_irrefl,decide_false,cond_false])
  (fun s t h1 h2 h3 ht=>by
   obtain ⟨v,g1,g2⟩:=gv s h1 (by omega);obtain ⟨w,q1,q2⟩:=gv t (by omega) h3
   simp only[q1,g1,decide_eq_true_eq] at ht ⊢
   have:=Qcb hs (by omega:s-(a+1)≤t-(a+1)) g2 q2
   omega) (b-(a+1)) (a+1) b F (Nat.le_refl _) (by omega) (Nat.le_refl _) (by omega) (Nat.le_refl _) (fun t h1 h2=>by omega) (fun t h1 h2=>by omega)
 have hl:(V.take (r-(a+1))).length=r-(a+1):=by simp;omega
 have h1: ∀z∈V.take (r-(a+1)),k z<k x:=by
  intro z hz;obtain ⟨i,hi,hz⟩:=Qex hz;have h2:=k4 (a+1+i) (by omega) (by omega);obtain ⟨v,g1,g2⟩:=gv (a+1+i) (by omega) (by omega)
  simp only[g1,decide_eq_true_eq] at h2
  rw[show a+1+i-(a+1)=i by omega,hz] at g2
  injection g2 with g2;subst g2;exact h2
 have h2: ∀z∈V.drop (r-(a+1)),k x≤k z:=by
  intro z hz;obtain ⟨i,hi,hz⟩:=Qew hz;have hlt:=Qv hz;have h2:=k5 (a+1+i) (by omega) (by omega);obtain ⟨v,g1,g2⟩:=gv (a+1+i) (by omega) (by omega)
  simp only[g1,decide_eq_false_iff_not] at h2
  rw[show a+1+i-(a+1)=i by omega,hz] at g2
  injection g2 with g2;subst g2;omega
 have hvs:V=V.take (r-(a+1))++V.drop (r-(a+1)):=(List.take_append_drop _ _).symm;refine ⟨V.take (r-(a+1))++x::V.drop (r-(a+1)),?_,?_,?_⟩
 ·have key:=Qh8 (cmp:=cmp) (a:=a) (e:=r) (A:=A) (B:=V.drop (r-(a+1))++B) (x:=x) (r-(a+1)) [] (V.take (r-(a+1))) F hl (by omega) (by simp;omega) (by omega);have e1:A++([x]++(V++B))=A++[]++x::(V.take (r-(a+1))++(V.drop (r-(a+1))++B)):=by
   rw[←List.append_assoc (V.take _),←hvs];simp
  have e2:((a:Nat):Int)=((A.length+([]:List α).length:Nat):Int):=by simp[hA]
  unfold Qeo
  simp only[hd,decide_true,cond_true,k1,Option.bind_some]
  rw[e1]
  conv=>lhs;rw[e2]
  rw[key]
  simp
 ·have:=hs
  rw[hvs] at this
  have hp2:=List.pairwise_append.1 this;refine List.pairwise_append.2 ⟨hp2.1,List.pairwise_cons.2 ⟨h2,hp2.2.1⟩,fun y hy z hz=> ?_⟩;have:=h1 y hy;rcases List.mem_cons.1 hz with rfl | hz
  ·omega
  ·have:=h2 z hz;omega
 ·conv=>lhs;rw[hvs,←List.append_assoc]
  have:V.take (r-(a+1))++x::V.drop (r-(a+1))=(V.take (r-(a+1))++[x])++V.drop (r-(a+1)):=by simp
  rw[this]
  refine YT.append (YT.swap fun u hu v hv=> ?_) (YT.refl _)
  simp only[List.mem_singleton] at hu;subst hu;exact h1 v hv
end
end Go.Proofs.YthpgjbbjpfiniaaGreat
