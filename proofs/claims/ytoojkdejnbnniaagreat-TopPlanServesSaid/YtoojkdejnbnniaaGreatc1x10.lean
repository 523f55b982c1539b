/- TopPlanServes: for every input the given law returns true, and its arguments read as before. No condition. -/
import Derived.Test.YtoojkdejnbnniaaGreatc1x9
namespace Go.Proofs.YtoojkdejnbnniaaGreat
open Go.RowKit
set_option linter.unusedSimpArgs false
set_option linter.unusedVariables false
abbrev Pr:=Qe
abbrev Ve:=QD
abbrev De:=Qt
abbrev Vi:=QT
structure OkV (n:Int) (v:Ve):Prop where
 d0:0≤v.Depot
 d1:v.Depot<n
 s0:0≤v.Shift.From
 s1:v.Shift.From<v.Shift.To
 s2:v.Shift.To≤86400
 g0:1≤v.Grams
 g1:v.Grams≤1073741824
 k0:1≤v.Kinds
 k1:v.Kinds<65536
structure OkD (n:Int) (d:De):Prop where
 n0:0≤d.Node
 n1:d.Node<n
 k0:0≤d.Kind
 k1:d.Kind<16
 g0:0≤d.Grams
 g1:d.Grams≤1073741824
 w0:0≤d.When.From
 w1:d.When.From≤d.When.To
 w2:d.When.To≤86400
 s0:0≤d.Service
 s1:d.Service≤3600
structure OkP (p:Pr):Prop where
 road:Qdj p.Road=0
 ve: ∀v∈p.Vehicles,OkV p.Road.Nodes v
 de: ∀d∈p.Demands,OkD p.Road.Nodes d
 dl:p.Demands.length≤32
 u0:0≤p.Unload
 u1:p.Unload<p.Road.Nodes
 us0:0≤p.UnloadSecs
 us1:p.UnloadSecs≤7200
theorem Qpk {v:Ve} {n:Int} (h:Ye v n 16=some 0):OkV n v:=by
 unfold Ye at h;obtain ⟨b,hb,h⟩:=Qi h
 simp only[YO,Option.bind_some,Qal (show (0:Int)≤16∧(16:Int)≤64 by decide)] at h
 rw[show w64 (1*2^(16:Int).toNat)=65536 by decide] at h
 cases b with
 | false=>cases h
 | true =>
  simp only[Bool.not_true,cond_false] at h
  cases h1:(decide (v.Depot<0)||decide (n≤v.Depot))<;>rw[h1] at h
  ·cases h2:(decide (v.Shift.From<0)||(decide (v.Shift.To≤v.Shift.From)||decide (86400<v.Shift.To)))<;>rw[h2] at h
   ·cases h3:(decide (v.Grams<1)||decide (1073741824<v.Grams))<;>rw[h3] at h
    ·cases h4:(decide (v.Kinds<1)||decide (65536≤v.Kinds))<;>rw[h4] at h
     ·simp only[Bool.or_eq_false_iff,decide_eq_false_iff_not] at h1 h2 h3 h4
      exact ⟨by omega,by omega,by omega,by omega,by omega,by omega,by omega,by omega,by omega⟩
     ·cases h
    ·cases h
   ·cases h
  ·cases h
theorem QmR {l:List Ve} {n:Int} (h:Yn l n 16=some 0): ∀v∈l,OkV n v:=by
 by_cases hl:(16:Int)<((l.length:Nat):Int)
 ·unfold Yn at h
  simp only[YO,Option.bind_some,hl,decide_true,cond_true] at h
  cases h1:(decide (n<1)||(decide (64<n)||(decide ((16:Int)<1)||decide ((16:Int)<16))))<;>rw[h1] at h
  ·rw[show decide (((l.length:Nat):Int)=0)=false by simp;intro e;rw[e] at hl;exact absurd hl (by decide)] at h
   cases h
  ·cases h
 ·have e1:=YL (body:=QV l n 16) l (fun _ x=>bif decide ((Ye x n 16).getD 0=0) then none else some (.inr ((Ye x n 16).getD 0))) (.inl ():Unit⊕Int) (by omega) (fun k x hx=>by
   have hk:=Qp hx;obtain ⟨e,he⟩:=QgS x n;have hk2:((k:Int)<((l.length:Nat):Int)):=by omega
   simp only[QV,hk2,decide_true,cond_true,Qm,hx,Option.bind_some,he,Option.getD_some]
   cases decide (e=0)<;>rfl) (by simp[QV]) (((l.length:Nat):Int).toNat+1) (by simp)
  unfold Yn at h
  rw[e1] at h
  rcases Qcw (step:=fun (_:Nat) (x:Ve)=>bif decide ((Ye x n 16).getD 0=0) then none else some (.inr ((Ye x n 16).getD 0):Unit⊕Int)) (fin:= .inl ()) l 0 with ⟨h1,_⟩ | ⟨i,x,o,h1,h2,h3,_⟩
  ·intro v hv;obtain ⟨i,hi⟩:=List.getElem?_of_mem hv;have:=h1 i v hi;obtain ⟨e,he⟩:=QgS v n
   rw[he,Option.getD_some] at this
   by_cases h0:e=0
   ·subst h0;exact Qpk he
   ·rw[show decide (e=0)=false by simpa using h0] at this;cases this
  ·rw[h3] at h
   obtain ⟨e,he⟩:=QgS x n
   rw[he,Option.getD_some] at h2
   by_cases h0:e=0
   ·subst h0;cases h2
   ·rw[show decide (e=0)=false by simpa using h0] at h2
    injection h2 with h2
    subst h2
    simp only[YO,Option.bind_some,Qy] at h
    generalize (decide (n<1)||_)=a at h
    generalize decide (((l.length:Nat):Int)=0)=b at h
    generalize decide ((16:Int)<((l.length:Nat):Int))=c at h
    cases a<;>cases b<;>cases c<;>simp at h<;>exact absurd h h0
theorem QmS {l:List De} {n:Int} (h:Yo l n 16=some 0):(∀d∈l,OkD n d)∧l.length≤32:=by
 unfold Yo at h
 by_cases hl:(32:Int)<((l.length:Nat):Int)
 ·simp only[hl,decide_true,cond_true] at h
  cases h
 ·refine ⟨?_,by omega⟩;have e1:=YL (body:=Q4 l n 16) l (fun _ x=>bif (decide (x.Container<0)||(decide (256≤x.Container)||(decide (x.Node<0)||(decide (n≤x.Node)||(decide (x.Kind<0)||decide (16≤x.Kind)))))) then some (.inr 7) else
    bif (decide (x.Grams<0)||(decide (1073741824<x.Grams)||(decide (x.When.From<0)||(decide (x.When.To<x.When.From)||(decide (86400<x.When.To)||(decide (x.Service<0)||decide (3600<x.Service))))))) then some (.inr 1) else none) (.inl ():Unit⊕Int) (by omega) (fun k x hx=>by
   have hk:=Qp hx;have hk2:((k:Int)<((l.length:Nat):Int)):=by omega
   simp only[Q4,hk2,decide_true,cond_true,Qm,hx,Option.bind_some,YO]
   generalize (decide (x.Container<0)||_)=a
   generalize (decide (x.Grams<0)||_)=b
   cases a<;>cases b<;>rfl) (by simp[Q4]) (((l.length:Nat):Int).toNat+1) (by simp)
  rw[e1] at h
  rcases Qcw (step:=fun (_:Nat) (x:De)=>bif (decide (x.Container<0)||(decide (256≤x.Container)||(decide (x.Node<0)||(decide (n≤x.Node)||(decide (x.Kind<0)||decide (16≤x.Kind)))))) then some (.inr 7:Unit⊕Int) else
    bif (decide (x.Grams<0)||(decide (1073741824<x.Grams)||(decide (x.When.From<0)||(decide (x.When.To<x.When.From)||(decide (86400<x.When.To)||(decide (x.Service<0)||decide (3600<x.Service))))))) then some (.inr 1) else none) (fin:= .inl ()) l 0 with ⟨h1,_⟩ | ⟨i,x,o,h1,h2,h3,_⟩
  ·intro v hv;obtain ⟨i,hi⟩:=List.getElem?_of_mem hv;have:=h1 i v hi
   simp only[cond_eq_ite,Bool.or_eq_true,decide_eq_true_eq] at this
   split at this
   ·cases this
   ·split at this
    ·cases this
    ·exact ⟨by omega,by omega,by omega,by omega,by omega,by omega,by omega,by omega,by omega,by omega,by omega⟩
  ·rw[h3] at h
   simp only[cond_eq_ite] at h2
   split at h2
   ·injection h2 with h2;subst h2
    simp only[hl,decide_false,cond_false,Option.bind_some,Qy] at h
    cases h
   ·split at h2
    ·injection h2 with h2;subst h2
     simp only[hl,decide_false,cond_false,Option.bind_some,Qy] at h
     cases h
    ·cases h2
theorem OkP.of {p:Pr} (hn:p.Road.Edges.length≤600) (h:Qq p=some 0):OkP p:=by
 unfold Qq at h
 rw[QaN _ hn] at h
 simp only[Option.bind_some,YO] at h
 by_cases h1:Qdj p.Road=0
 ·simp only[h1,decide_true,Bool.not_true,cond_false] at h
  obtain ⟨e2,he2,h⟩:=Qi h
  by_cases h2:e2=0
  ·subst h2
   simp only[decide_true,Bool.not_true,cond_false] at h
   obtain ⟨e3,he3,h⟩:=Qi h
   by_cases h3:e3=0
   ·subst h3
    simp only[decide_true,Bool.not_true,cond_false] at h
    obtain ⟨g1,g2⟩:=QmS he3;cases h4:(decide (p.Unload<0)||decide (p.Road.Nodes≤p.Unload))<;>rw[h4] at h
    ·cases h5:(decide (p.UnloadSecs<0)||decide (7200<p.UnloadSecs))<;>rw[h5] at h
     ·simp only[Bool.or_eq_false_iff,decide_eq_false_iff_not] at h4 h5
      exact ⟨h1,QmR he2,g1,g2,by omega,by omega,by omega,by omega⟩
     ·cases h
    ·cases h
   ·rw[show decide (e3=0)=false by simpa using h3] at h
    simp only[Bool.not_false,cond_true,Option.some.injEq] at h
    exact absurd h h3
  ·rw[show decide (e2=0)=false by simpa using h2] at h
   simp only[Bool.not_false,cond_true,Option.some.injEq] at h
   exact absurd h h2
 ·rw[show decide (Qdj p.Road=0)=false by simpa using h1] at h
  simp only[Bool.not_false,cond_true,Option.some.injEq] at h
  exact absurd h h1
def QeZ (p:Pr) (a:Int):List Lg:=match JB p.Road a with | some (L,_)=>L | none=>[]
def Zf (p:Pr) (a b:Int):Lg:=lab (QeZ p a) b
theorem Qfw {p:Pr} (hp:OkP p) {a:Int} (ha:0≤a∧a<p.Road.Nodes):IsL p.Road a (QeZ p a)∧JB p.Road a=some (QeZ p a,0)∧ ∀F,40000≤F→QcJ F p.Road a=some (QeZ p a,0):=by
 obtain ⟨L,h1,h2,h3⟩:=Qof hp.road ha;have:QeZ p a=L:=by unfold QeZ;rw[h3]
 rw[this]
 exact ⟨h1,h3,h2⟩
theorem J2 {p:Pr} (hp:OkP p) {a b:Int} (ha:0≤a∧a<p.Road.Nodes) (hb:0≤b∧b<p.Road.Nodes):(Zf p a b=noL∨0≤(Zf p a b).Secs)∧ -1≤(Zf p a b).Secs∧(Zf p a b).Secs≤6400000∧0≤(Zf p a b).Meters∧(Zf p a b).Meters≤6400000:=by
 obtain ⟨h1,_⟩:=Qfw hp ha;have hr:=OkR.of hp.road;have h2:=hr.n2;have h3:=h1.len;rcases h1.lb b hb.1 hb.2 with h4 | ⟨k,h4,h5⟩
 ·unfold Zf
  rw[h4]
  exact ⟨.inl rfl,by decide,by decide,by decide,by decide⟩
 ·have h6:=h5.bound hr;unfold Zf;exact ⟨.inr (by omega),by omega,by omega,by omega,by omega⟩
theorem Qih {p:Pr} (hp:OkP p) {a b:Int} (ha:0≤a∧a<p.Road.Nodes) (hb:0≤b∧b<p.Road.Nodes):W9 p a b=some (Zf p a b):=by
 obtain ⟨h1,h2,_⟩:=Qfw hp ha;have h3:=h1.len;unfold W9
 rw[h2]
 simp only[Option.bind_some,oun,YO,decide_true,Bool.not_true,Bool.false_or]
 rw[show (decide (b<0)||decide ((((QeZ p a).length:Nat):Int)≤b))=false by simp;omega]
 simp only[cond_false]
 rw[Qb4 hb.1 (by omega)]
 rfl
def okC (p:Pr) (m:List (Int×List Lg)):Prop:= ∀n L,Qar n m=some L→L=QeZ p n
theorem QmE {F:Nat} (hF:40000≤F) {w:QC} (hp:OkP w.p) (hc:okC w.p w.legs) {b:Int} (ha:0≤w.place.node∧w.place.node<w.p.Road.Nodes) (hb:0≤b∧b<w.p.Road.Nodes) :
  ∃m,Qao F w b=some (Zf w.p w.place.node b,decide (0≤(Zf w.p w.place.node b).Secs),⟨w.place,w.p,w.v,m,w.visits⟩)∧okC w.p m:=by
 obtain ⟨h1,_,h2⟩:=Qfw hp ha;have h3:=h1.len;have hg:getI (QeZ w.p w.place.node) b=some (Zf w.p w.place.node b):=Qb4 hb.1 (by omega);unfold Qao;cases hm:Qar w.place.node w.legs with
 | none =>
  refine ⟨Qcx w.place.node (QeZ w.p w.place.node) w.legs,?_,fun n L hL=> ?_⟩
  ·simp only[Option.isSome_none,Bool.not_false,cond_true,h2 F hF,Option.bind_some,oun,hg]
  ·by_cases hn:n=w.place.node
   ·subst hn
    rw[Qi2] at hL
    injection hL with hL;exact hL.symm
   ·rw[QkN hn] at hL
    exact hc n L hL
 | some L =>
  have:=hc _ _ hm;subst this;refine ⟨w.legs,?_,hc⟩
  simp only[Option.isSome_some,Bool.not_true,cond_false,Option.bind_some,oun,Option.getD_some,hg]
def Qit (v:Ve) (k:Int):Bool:=decide ((v.Kinds/2^k.toNat)%2=1)
theorem Qsa {x:Int} (h0:0≤x) (h1:x<65536):Qp3 .i64 x 1=x%2:=by
 obtain ⟨n,rfl⟩: ∃n:Nat,x=n:=⟨x.toNat,by omega⟩
 unfold Qp3;have e1:(BitVec.ofInt IntKind.i64.bits (n:Int) &&& BitVec.ofInt IntKind.i64.bits 1).toNat=n%2:=by
  rw[BitVec.toNat_and]
  have e2:(BitVec.ofInt IntKind.i64.bits (n:Int)).toNat=n:=by
   rw[BitVec.toNat_ofInt]
   show (((n:Int)%((2^64:Nat):Int)).toNat)=n
   omega
  have e3:(BitVec.ofInt IntKind.i64.bits 1).toNat=1:=by decide
  rw[e2,e3,Nat.and_one_is_mod]
 rw[e1]
 have:IntKind.i64.wrap ((n%2:Nat):Int)=w64 ((n%2:Nat):Int):=rfl
 rw[this,Yb (by omega) (by omega)]
 omega
theorem Qsc {v:Ve} {n:Int} (hv:OkV n v) (k:Nat):0≤v.Kinds/2^k∧v.Kinds/2^k<65536:=by
 have h0:=hv.k0;have h1:=hv.k1;have h2:(0:Int)<2^k:=Int.pow_pos (by decide);refine ⟨Int.ediv_nonneg (by omega) (by omega),?_⟩;have:v.Kinds/2^k≤v.Kinds:=Int.ediv_le_self _ (by omega)
 omega
theorem QfV {v:Ve} {n:Int} (hv:OkV n v) {k:Int} (h0:0≤k) (h1:k<16):Ww v k=some (Qit v k)∧WO v k=some (Qit v k):=by
 have h2:=Qsc hv k.toNat;have h3:=hv.k0;have h4:=hv.k1
 constructor
 ·unfold Ww Qit
  rw[show decide (0≤k)=true by simpa using h0,show decide (k<16)=true by simpa using h1]
  simp only[cond_true,Qal (show 0≤k∧k≤64 by omega),Option.bind_some,Qsa h2.1 h2.2]
 ·unfold WO Qit
  simp only[YO,Option.bind_some]
  rw[show (decide (k<0)||decide (16≤k))=false by simp;omega]
  simp only[cond_false,Qal (show 0≤k∧k≤64 by omega),Option.bind_some]
  have e1:IntKind.u64.wrap v.Kinds=v.Kinds:=by
   show v.Kinds%18446744073709551616=v.Kinds
   omega
  rw[e1,Int.tmod_eq_emod_of_nonneg h2.1]
end Go.Proofs.YtoojkdejnbnniaaGreat
namespace Go.Proofs.YtoojkdejnbnniaaGreat
open Go.RowKit
set_option linter.unusedSimpArgs false
set_option linter.unusedVariables false
theorem Qdb (L:List Int) (hn:L.length≤1000) (s:Int):YC L s=some (decide (s∈L)):=by
 unfold YC QaQ;have:=YL (body:=WD L s) L (fun k y=>bif decide (s=y) then some (.inr (k:Int)) else none) (.inl ():Unit⊕Int) (by omega) (fun k y hy=> ?_) (by simp[WD]) (((L.length:Nat):Int).toNat+1) (by simp)
 ·rw[this]
  have ha:L.any (fun y=>decide (s=y))=decide (s∈L):=by
   rw[Bool.eq_iff_iff]
   simp only[List.any_eq_true,decide_eq_true_eq]
   exact ⟨fun ⟨y,h1,h2⟩=>h2▸h1,fun h=>⟨s,h,rfl⟩⟩
  rw[←ha]
  rcases Qlf (fun y:Int=>decide (s=y)) L 0 with ⟨h1,h2⟩ | ⟨j,h1,h2⟩
  ·rw[h1,h2];rfl
  ·rw[h1,h2]
   simp only[Option.bind_some,Qy]
   simp
 ·have hk:=Qp hy;have hk2:((k:Int)<(L.length:Nat)):=by omega
  simp only[WD,hk2,decide_true,cond_true,Qm,hy,Option.bind_some]
  cases decide (s=y)<;>rfl
def Qa9 (p:Pr) (v:Ve) (pre:List Int) (x:Vi) (s:Int):Vi⊕Int :=
 if s= -1 then
  if (Zf p x.Node p.Unload).Secs<0 then .inr 22
  else .inl ⟨s,p.Unload,x.Leave+(Zf p x.Node p.Unload).Secs,x.Leave+(Zf p x.Node p.Unload).Secs,x.Leave+(Zf p x.Node p.Unload).Secs+p.UnloadSecs,0⟩
 else if s<0∨((p.Demands.length:Nat):Int)≤s then .inr 7
 else if s∈pre then .inr 6
 else match p.Demands[s.toNat]? with
  | none=> .inr 7
  | some d =>
   if Qit v d.Kind=false then .inr 21
   else if (Zf p x.Node d.Node).Secs<0 then .inr 22
   else if d.When.To≤max (x.Leave+(Zf p x.Node d.Node).Secs) d.When.From then .inr 19
   else if v.Grams<x.Load+d.Grams then .inr 20
   else .inl ⟨s,d.Node,x.Leave+(Zf p x.Node d.Node).Secs,max (x.Leave+(Zf p x.Node d.Node).Secs) d.When.From,max (x.Leave+(Zf p x.Node d.Node).Secs) d.When.From+d.Service,x.Load+d.Grams⟩
structure InV (p:Pr) (v:Ve) (k:Nat) (x:Vi):Prop where
 n0:0≤x.Node
 n1:x.Node<p.Road.Nodes
 t0:0≤x.Leave
 t1:x.Leave≤100000+k*7000000
 l0:0≤x.Load
 l1:x.Load≤v.Grams
theorem Qfi {p:Pr} {v:Ve} (hp:OkP p) (hv:OkV p.Road.Nodes v) {k:Nat} {x y:Vi} {pre:List Int} {s:Int} (h:InV p v k x) (hs:Qa9 p v pre x s= .inl y) :
  InV p v (k+1) y∧0≤(Zf p x.Node y.Node).Secs∧y.Stop=s:=by
 have hu:=J2 hp ⟨h.n0,h.n1⟩ ⟨hp.u0,hp.u1⟩;have h1:=h.t0;have h2:=h.t1;have h3:=h.l0;have h4:=h.l1;have hus0:=hp.us0;have hus1:=hp.us1;have hg:=hv.g0;unfold Qa9 at hs
 split at hs
 ·split at hs
  ·cases hs
  ·injection hs with hs;subst hs
   refine ⟨⟨hp.u0,hp.u1,by simp only[];omega,by simp only[];omega,Int.le_refl _,by simp only[];omega⟩,by simp only[];omega,rfl⟩
 ·split at hs
  ·cases hs
  ·split at hs
   ·cases hs
   ·split at hs
    ·cases hs
    ·rename_i d hd
     have hd2:=hp.de d (List.mem_of_getElem? hd);have hl:=J2 hp ⟨h.n0,h.n1⟩ ⟨hd2.n0,hd2.n1⟩;have a1:=hd2.g0;have a2:=hd2.w0;have a3:=hd2.w1;have a4:=hd2.w2;have a5:=hd2.s0;have a6:=hd2.s1
     split at hs
     ·cases hs
     ·split at hs
      ·cases hs
      ·split at hs
       ·cases hs
       ·split at hs
        ·cases hs
        ·injection hs with hs;subst hs
         refine ⟨⟨hd2.n0,hd2.n1,by simp only[];omega,by simp only[];omega,by simp only[];omega,by simp only[];omega⟩,by simp only[];omega,rfl⟩
theorem Qkk {p:Pr} {v:Ve} {x:Vi} {pre:List Int} {s e:Int} (hs:Qa9 p v pre x s= .inr e):e≠0:=by
 unfold Qa9 at hs
 repeat' split at hs
 all_goals first | (cases hs;done) | (injection hs with hs;subst hs;decide)
theorem QpE (stops:List Int) (i:Nat) (hi:i≤stops.length) (hn:stops.length≤1000) (s:Int):iter (Jg stops (i:Int) s) ((i:Int).toNat+1) 0=some (bif decide (s∈stops.take i) then .inr 6 else .inl ()):=by
 have:=YL (body:=Jg stops (i:Int) s) (stops.take i) (fun _ y=>bif decide (y=s) then some (.inr 6) else none) (.inl ():Unit⊕Int) (by simp;omega) (fun k y hy=> ?_) (by rw[Yf hi];simp[Jg]) ((i:Int).toNat+1) (by rw[Yf hi];omega)
 ·rw[this,Qle]
  have ha:(stops.take i).any (fun y=>decide (y=s))=decide (s∈stops.take i):=by
   rw[Bool.eq_iff_iff]
   simp only[List.any_eq_true,decide_eq_true_eq]
   exact ⟨fun ⟨y,h1,h2⟩=>h2▸h1,fun h=>⟨s,h,rfl⟩⟩
  rw[ha]
 ·have hk:=Qp hy
  rw[Yf hi] at hk
  rw[List.getElem?_take,if_pos hk] at hy
  have hk2:((k:Int)<(i:Int)):=by omega
  simp only[Jg,hk2,decide_true,cond_true,Qm,hy,Option.bind_some]
  cases decide (y=s)<;>rfl
theorem QpC {p:Pr} {v:Ve} (hp:OkP p) (hv:OkV p.Road.Nodes v) {t:Qb} (hn:t.Stops.length≤40) {k:Nat} {s:Int} (hk:t.Stops[k]? =some s) {x:Vi} (hx:InV p v k x) (out:List Vi) (ho:out.length≤1000) :
  ZA p t v (x.Stop,x.Node,x.Arrive,x.Start,x.Leave,x.Load,out,(k:Int))=match Qa9 p v (t.Stops.take k) x s with
   | .inl y=>some (.inl (y.Stop,y.Node,y.Arrive,y.Start,y.Leave,y.Load,out++[y],((k+1:Nat):Int)))
   | .inr e=>some (.inr (.inr ([],e,(k:Int)))):=by
 have hkl:=Qp hk;have hk2:((k:Int)<((t.Stops.length:Nat):Int)):=by omega
 have h1:=hx.t0;have h2:=hx.t1;have h3:=hx.l0;have h4:=hx.l1;have hg:=hv.g1;have happ: ∀y,ZO out [y]=some (out++[y]):=fun y=>Yi (by simp;omega)
 simp only[ZA,oun,hk2,decide_true,cond_true,Qm,hk,Option.bind_some,VE (show k<9223372036854775807 by omega)]
 unfold Qcd Qa9
 simp only[Qm,hk,Option.bind_some]
 by_cases hs:s= -1
 ·subst hs;have hu:=J2 hp ⟨hx.n0,hx.n1⟩ ⟨hp.u0,hp.u1⟩;have hus0:=hp.us0;have hus1:=hp.us1
  simp only[decide_true,cond_true,if_true,Option.bind_some]
  unfold QaL
  rw[show decide ((0:Int)≤ -1)=false by decide]
  simp only[cond_false,Option.bind_some]
  rw[Qih hp ⟨hx.n0,hx.n1⟩ ⟨hp.u0,hp.u1⟩]
  simp only[Option.bind_some]
  by_cases hl:(Zf p x.Node p.Unload).Secs<0
  ·simp only[hl,decide_true,cond_true,if_true,Option.bind_some,oun]
   rfl
  ·rw[if_neg hl]
   simp only[hl,decide_false,cond_false,show decide ((-1:Int)<0)=true by decide,cond_true,Option.bind_some,oun,decide_true,Bool.not_true]
   rw[Yb (n:=x.Leave+(Zf p x.Node p.Unload).Secs) (by omega) (by omega),Yb (by omega) (by omega),happ]
   rfl
 ·simp only[show decide (s= -1)=false by simpa using hs,cond_false,if_neg hs,YO,Option.bind_some]
  by_cases h7:s<0∨((p.Demands.length:Nat):Int)≤s
  ·rw[if_pos h7,show (decide (s<0)||decide (((p.Demands.length:Nat):Int)≤s))=true by simpa using h7]
   simp only[cond_true,Option.bind_some,show decide ((7:Int)=0)=false by decide,cond_false,oun,Bool.not_false]
  ·rw[if_neg h7,show (decide (s<0)||decide (((p.Demands.length:Nat):Int)≤s))=false by simpa using h7]
   simp only[cond_false]
   rw[QpE _ _ (Nat.le_of_lt hkl) (by omega)]
   by_cases h6:s∈t.Stops.take k
   ·rw[if_pos h6]
    simp only[h6,decide_true,cond_true,Option.bind_some,Qy,show decide ((6:Int)=0)=false by decide,cond_false,oun,Bool.not_false]
   ·rw[if_neg h6]
    obtain ⟨i,rfl⟩: ∃i:Nat,s=i:=⟨s.toNat,by omega⟩
    have hd:p.Demands[i]? =some p.Demands[i]:=List.getElem?_eq_getElem (by omega)
    generalize p.Demands[i]=d at hd
    have hd2:=hp.de d (List.mem_of_getElem? hd);have hl:=J2 hp ⟨hx.n0,hx.n1⟩ ⟨hd2.n0,hd2.n1⟩;have a1:=hd2.g0;have a2:=hd2.w0;have a3:=hd2.w1;have a4:=hd2.w2;have a5:=hd2.s0;have a6:=hd2.s1;have a7:=hd2.g1
    simp only[h6,decide_false,cond_false,Option.bind_some,Qy,Qm,hd,Int.toNat_natCast,(QfV hv hd2.k0 hd2.k1).2]
    cases hc:Qit v d.Kind with
    | false=>simp only[Bool.not_false,cond_true,Option.bind_some,show decide ((21:Int)=0)=false by decide,cond_false,oun,if_true]
    | true =>
     simp only[Bool.not_true,cond_false,Option.bind_some,decide_true,cond_true,Bool.true_eq_false,if_false]
     unfold QaL
     rw[show decide ((0:Int)≤(i:Int))=true by simp]
     simp only[cond_true,Qm,hd,Option.bind_some]
     rw[Qih hp ⟨hx.n0,hx.n1⟩ ⟨hd2.n0,hd2.n1⟩]
     simp only[Option.bind_some]
     by_cases hl2:(Zf p x.Node d.Node).Secs<0
     ·rw[if_pos hl2]
      simp only[hl2,decide_true,cond_true,Option.bind_some,oun,show decide ((22:Int)=0)=false by decide,Bool.not_false]
     ·rw[if_neg hl2]
      simp only[hl2,decide_false,cond_false,show decide ((i:Int)<0)=false by simp,Option.bind_some]
      rw[Yb (n:=x.Leave+(Zf p x.Node d.Node).Secs) (by omega) (by omega),Yb (n:=x.Load+d.Grams) (by omega) (by omega)]
      by_cases hw:d.When.To≤max (x.Leave+(Zf p x.Node d.Node).Secs) d.When.From
      ·rw[if_pos hw]
       simp only[hw,decide_true,cond_true,Option.bind_some,oun,show decide ((19:Int)=0)=false by decide,Bool.not_false]
      ·rw[if_neg hw]
       by_cases hgr:v.Grams<x.Load+d.Grams
       ·rw[if_pos hgr]
        simp only[hw,hgr,decide_true,decide_false,cond_true,cond_false,Option.bind_some,oun,show decide ((20:Int)=0)=false by decide,Bool.not_false]
       ·rw[if_neg hgr]
        rw[Yb (n:=max (x.Leave+(Zf p x.Node d.Node).Secs) d.When.From+d.Service) (by omega) (by omega)]
        simp only[hw,hgr,decide_false,cond_false,Option.bind_some,oun,decide_true,Bool.not_true,happ]
end Go.Proofs.YtoojkdejnbnniaaGreat
namespace Go.Proofs.YtoojkdejnbnniaaGreat
open Go.RowKit
set_option linter.unusedSimpArgs false
set_option linter.unusedVariables false
abbrev Wa:=QC
structure At (p:Pr) (v:Ve) (w:Wa) (x:Vi) (m:Int) (l:List Vi):Prop where
 pl:w.place=⟨x.Node,x.Leave,x.Load,m⟩
 ep:w.p=p
 ev:w.v=v
 vs:w.visits=l
 ok:okC p w.legs
theorem QkO {w:Wa} {s a b:Int} (h:w.visits.length≤1000):Vf w s a b=some ⟨w.place,w.p,w.v,w.legs,w.visits++[⟨s,w.place.node,a,b,w.place.time,w.place.load⟩]⟩:=by
 unfold Vf
 rw[Yi (by simp;omega)]
 rfl
theorem Qm2 {F:Nat} (hF:40000≤F) {p:Pr} {v:Ve} (hp:OkP p) (hv:OkV p.Road.Nodes v) {t:Qb} (hn:t.Stops.length≤40) {k:Nat} {s:Int} (hk:t.Stops[k]? =some s) {x:Vi} (hx:InV p v k x) {w:Wa} {m:Int} {l:List Vi}
  (hw:At p v w x m l) (hl:l.length≤900) (hm0:0≤m) (hm1:m≤k*6400000) :
  match Qa9 p v (t.Stops.take k) x s with
   | .inl y=> ∃w',Vs F w t (k:Int)=some (0,w')∧At p v w' y (m+(Zf p x.Node y.Node).Meters) (l++[y])
   | .inr e=> ∃w',Vs F w t (k:Int)=some (e,w'):=by
 obtain ⟨pl,wp,wv,wl,wvs⟩:=w;obtain ⟨e1,e2,e3,e4,e5⟩:=hw
 simp only at e1 e2 e3 e4 e5
 subst e1 e2 e3 e4;have hkl:=Qp hk;have h1:=hx.t0;have h2:=hx.t1;have h3:=hx.l0;have h4:=hx.l1;have hg:=hv.g1;have hsub:WL t.Stops 0 (k:Int)=some (t.Stops.take k):=Qan (Nat.le_of_lt hkl);have hcon:YC (t.Stops.take k) s=some (decide (s∈t.Stops.take k)):=Qdb _ (by simp;omega) s;unfold Vs Qa9
 simp only[Qm,hk,Option.bind_some]
 by_cases hs:s= -1
 ·subst hs;have hu:=J2 hp ⟨hx.n0,hx.n1⟩ ⟨hp.u0,hp.u1⟩;have hus0:=hp.us0;have hus1:=hp.us1;obtain ⟨c,hc1,hc2⟩:=QmE hF (w:=⟨⟨x.Node,x.Leave,x.Load,m⟩,wp,wv,wl,wvs⟩) hp e5 ⟨hx.n0,hx.n1⟩ ⟨hp.u0,hp.u1⟩
  simp only[decide_true,Bool.not_true,cond_false,cond_true,if_true,Option.bind_some,Qy,hc1,oun]
  by_cases hl2:(Zf wp x.Node wp.Unload).Secs<0
  ·rw[if_pos hl2,show decide (0≤(Zf wp x.Node wp.Unload).Secs)=false by simp;omega]
   exact ⟨_,rfl⟩
  ·rw[if_neg hl2,show decide (0≤(Zf wp x.Node wp.Unload).Secs)=true by simp;omega]
   simp only[Bool.not_true,cond_false]
   rw[Yb (n:=x.Leave+(Zf wp x.Node wp.Unload).Secs) (by omega) (by omega),Yb (n:=x.Leave+(Zf wp x.Node wp.Unload).Secs+wp.UnloadSecs) (by omega) (by omega),Yb (n:=m+(Zf wp x.Node wp.Unload).Meters) (by omega) (by omega)]
   rw[QkO (by simp only[];omega)]
   exact ⟨_,rfl,⟨rfl,rfl,rfl,rfl,hc2⟩⟩
 ·simp only[show decide (s= -1)=false by simpa using hs,cond_false,cond_true,Bool.not_false,if_neg hs,YO,Option.bind_some]
  by_cases h7:s<0∨((wp.Demands.length:Nat):Int)≤s
  ·rw[if_pos h7,show (decide (s<0)||decide (((wp.Demands.length:Nat):Int)≤s))=true by simpa using h7]
   exact ⟨_,rfl⟩
  ·rw[if_neg h7,show (decide (s<0)||decide (((wp.Demands.length:Nat):Int)≤s))=false by simpa using h7]
   simp only[cond_false,hsub,hcon,Option.bind_some]
   by_cases h6:s∈t.Stops.take k
   ·rw[if_pos h6]
    simp only[h6,decide_true,cond_true,Option.bind_some,Qy]
    exact ⟨_,rfl⟩
   ·rw[if_neg h6]
    obtain ⟨i,rfl⟩: ∃i:Nat,s=i:=⟨s.toNat,by omega⟩
    have hd:wp.Demands[i]? =some wp.Demands[i]:=List.getElem?_eq_getElem (by omega)
    generalize wp.Demands[i]=d at hd
    have hd2:=hp.de d (List.mem_of_getElem? hd);have hl3:=J2 hp ⟨hx.n0,hx.n1⟩ ⟨hd2.n0,hd2.n1⟩;have a1:=hd2.g0;have a2:=hd2.w0;have a3:=hd2.w1;have a4:=hd2.w2;have a5:=hd2.s0;have a6:=hd2.s1;have a7:=hd2.g1;obtain ⟨c,hc1,hc2⟩:=QmE hF (w:=⟨⟨x.Node,x.Leave,x.Load,m⟩,wp,wv,wl,wvs⟩) hp e5 ⟨hx.n0,hx.n1⟩ ⟨hd2.n0,hd2.n1⟩
    simp only[h6,decide_false,cond_false,Option.bind_some,Qy,Qm,hd,Int.toNat_natCast,(QfV hv hd2.k0 hd2.k1).1]
    cases hc:Qit wv d.Kind with
    | false=>simp only[Bool.not_false,cond_true,Option.bind_some,Qy,if_true];exact ⟨_,rfl⟩
    | true =>
     simp only[Bool.not_true,cond_false,Option.bind_some,Bool.true_eq_false,if_false,Qy,hc1,oun]
     by_cases hl2:(Zf wp x.Node d.Node).Secs<0
     ·rw[if_pos hl2,show decide (0≤(Zf wp x.Node d.Node).Secs)=false by simp;omega]
      exact ⟨_,rfl⟩
     ·rw[if_neg hl2,show decide (0≤(Zf wp x.Node d.Node).Secs)=true by simp;omega]
      simp only[Bool.not_true,cond_false,Qm,hd,Option.bind_some]
      rw[Yb (n:=x.Leave+(Zf wp x.Node d.Node).Secs) (by omega) (by omega),Yb (n:=x.Load+d.Grams) (by omega) (by omega),Yb (n:=m+(Zf wp x.Node d.Node).Meters) (by omega) (by omega)]
      by_cases hw:d.When.To≤max (x.Leave+(Zf wp x.Node d.Node).Secs) d.When.From
      ·rw[if_pos hw]
       simp only[hw,decide_true,cond_true]
       exact ⟨_,rfl⟩
      ·rw[if_neg hw]
       by_cases hgr:wv.Grams<x.Load+d.Grams
       ·rw[if_pos hgr]
        simp only[hw,hgr,decide_true,decide_false,cond_true,cond_false]
        exact ⟨_,rfl⟩
       ·rw[if_neg hgr]
        rw[Yb (n:=max (x.Leave+(Zf wp x.Node d.Node).Secs) d.When.From+d.Service) (by omega) (by omega)]
        simp only[hw,hgr,decide_false,cond_false]
        rw[QkO (by simp only[];omega)]
        exact ⟨_,rfl,⟨rfl,rfl,rfl,rfl,hc2⟩⟩
def V6 (p:Pr) (v:Ve):List Int→List Int→Vi→(Vi×List Vi)⊕(Int×Nat)
 | _,[],x=> .inl (x,[])
 | pre,s::rest,x=>match Qa9 p v pre x s with
  | .inr e=> .inr (e,pre.length)
  | .inl y=>match V6 p v (pre++[s]) rest y with
   | .inl z=> .inl (z.1,y::z.2)
   | .inr q=> .inr q
def Qbr (p:Pr):Int→List Vi→Int
 | _,[]=>0
 | a,y::l=>(Zf p a y.Node).Meters+Qbr p y.Node l
theorem QgK {p:Pr} {v:Ve}: ∀(rest pre:List Int) (x:Vi) (q:Int×Nat),V6 p v pre rest x= .inr q→q.1≠0
 | [],pre,x,q,h=>by cases h
 | s::rest,pre,x,q,h=>by
  unfold V6 at h
  split at h
  ·rename_i e he
   injection h with h;subst h
   exact Qkk he
  ·rename_i y hy
   split at h
   ·cases h
   ·rename_i q' hq
    injection h with h;subst h
    exact QgK rest _ _ _ hq
theorem Qec {p:Pr} {v:Ve} (hp:OkP p) (hv:OkV p.Road.Nodes v): ∀(rest pre:List Int) (x:Vi) (z:Vi×List Vi),InV p v pre.length x→V6 p v pre rest x= .inl z→InV p v (pre.length+rest.length) z.1∧z.2.length=rest.length∧0≤Qbr p x.Node z.2∧Qbr p x.Node z.2≤rest.length*6400000
 | [],pre,x,z,hx,h=>by
  injection h with h;subst h
  exact ⟨hx,rfl,Int.le_refl _,by simp[Qbr]⟩
 | s::rest,pre,x,z,hx,h=>by
  unfold V6 at h
  split at h
  ·cases h
  ·rename_i y hy
   obtain ⟨h1,h2,_⟩:=Qfi hp hv hx hy
   split at h
   ·rename_i z' hz
    injection h with h;subst h
    have h3:=Qec hp hv rest (pre++[s]) y z' (by simpa using h1) hz;have h4:=J2 hp ⟨hx.n0,hx.n1⟩ ⟨h1.n0,h1.n1⟩
    simp only[List.length_append,List.length_singleton,List.length_cons,Qbr] at h3 ⊢
    refine ⟨by rw[show pre.length+(rest.length+1)=pre.length+1+rest.length by omega];exact h3.1,by omega,by omega,by omega⟩
   ·cases h
theorem Qkl {t:List Int} {k:Nat} {s:Int} {rest:List Int} (h:t.drop k=s::rest):t[k]? =some s∧t.take (k+1)=t.take k++[s]∧t.drop (k+1)=rest:=by
 have h1:t[k]? =some s:=by
  have:(t.drop k)[0]? =some s:=by rw[h];rfl
  rw[List.getElem?_drop] at this
  simpa using this
 refine ⟨h1,YF h1,?_⟩
 rw[←List.drop_drop,h]
 rfl
theorem QpB {p:Pr} {v:Ve} (hp:OkP p) (hv:OkV p.Road.Nodes v) {t:Qb} (hn:t.Stops.length≤40): ∀(rest:List Int) (k:Nat) (x:Vi) (out:List Vi) (n:Nat),t.Stops.drop k=rest→k≤t.Stops.length→rest.length<n→InV p v k x→out.length=k →
  iter (ZA p t v) n (x.Stop,x.Node,x.Arrive,x.Start,x.Leave,x.Load,out,(k:Int))=some (match V6 p v (t.Stops.take k) rest x with
   | .inl z=> .inl (z.1.Stop,z.1.Node,z.1.Arrive,z.1.Start,z.1.Leave,z.1.Load,out++z.2)
   | .inr q=> .inr ([],q.1,((q.2:Nat):Int))):=by
 intro rest
 induction rest with
 | nil =>
  intro k x out n hd hk hn2 hx ho;obtain ⟨n,rfl⟩: ∃f,n=f+1:=⟨n-1,by omega⟩
  have hk2:k=t.Stops.length:=by
   have:=congrArg List.length hd
   simp at this;omega
  rw[iter]
  simp only[ZA,oun]
  rw[show decide ((k:Int)<((t.Stops.length:Nat):Int))=false by simp;omega]
  simp only[cond_false,Option.bind_some,Qy,V6,List.append_nil]
 | cons s rest ih =>
  intro k x out n hd hk hn2 hx ho;obtain ⟨n,rfl⟩: ∃f,n=f+1:=⟨n-1,by omega⟩
  obtain ⟨h1,h2,h3⟩:=Qkl hd;have hkl:=Qp h1
  rw[iter,QpC hp hv hn h1 hx out (by omega)]
  unfold V6;cases hs:Qa9 p v (t.Stops.take k) x s with
  | inr e =>
   simp only[Option.bind_some,Qy]
   rw[Yf (Nat.le_of_lt hkl)]
  | inl y =>
   simp only[Option.bind_some,Qy]
   have:=ih (k+1) y (out++[y]) n h3 (by omega) (by simp only[List.length_cons] at hn2;omega) (Qfi hp hv hx hs).1 (by simp;omega)
   rw[this,h2]
   cases V6 p v (t.Stops.take k++[s]) rest y with
   | inl z=>simp
   | inr q=>rfl
theorem Qpv {F:Nat} (hF:40000≤F) {p:Pr} {v:Ve} (hp:OkP p) (hv:OkV p.Road.Nodes v) {t:Qb} (hn:t.Stops.length≤40): ∀(rest:List Int) (k:Nat) (x:Vi) (w:Wa) (m:Int) (l:List Vi) (n:Nat),t.Stops.drop k=rest→k≤t.Stops.length→rest.length<n→InV p v k x→At p v w x m l→l.length=k→0≤m→m≤k*6400000 →
  match V6 p v (t.Stops.take k) rest x with
   | .inl z=> ∃w',iter (Jz F t) n (w,0,(k:Int))=some (w',0,((t.Stops.length:Nat):Int))∧At p v w' z.1 (m+Qbr p x.Node z.2) (l++z.2)
   | .inr q=> ∃w',iter (Jz F t) n (w,0,(k:Int))=some (w',q.1,((q.2:Nat):Int)):=by
 intro rest
 induction rest with
 | nil =>
  intro k x w m l n hd hk hn2 hx hw ho hm0 hm1;obtain ⟨n,rfl⟩: ∃f,n=f+1:=⟨n-1,by omega⟩
  have hk2:k=t.Stops.length:=by
   have:=congrArg List.length hd
   simp at this;omega
  refine ⟨w,?_,by simpa [Qbr] using hw⟩
  rw[iter]
  simp only[Jz,oun]
  rw[show decide ((k:Int)<((t.Stops.length:Nat):Int))=false by simp;omega]
  simp only[cond_false,Option.bind_some,Qy,hk2]
 | cons s rest ih =>
  intro k x w m l n hd hk hn2 hx hw ho hm0 hm1;obtain ⟨n,rfl⟩: ∃f,n=f+1:=⟨n-1,by omega⟩
  obtain ⟨h1,h2,h3⟩:=Qkl hd;have hkl:=Qp h1;have hst:=Qm2 hF hp hv hn h1 hx hw (by omega) hm0 hm1;have hk2:decide ((k:Int)<((t.Stops.length:Nat):Int))=true:=by simp;omega
  unfold V6;cases hs:Qa9 p v (t.Stops.take k) x s with
  | inr e =>
   rw[hs] at hst
   obtain ⟨w',hw'⟩:=hst;refine ⟨w',?_⟩
   rw[iter]
   simp only[Jz,oun,hk2,cond_true,hw',Option.bind_some]
   rw[show decide (e=0)=false by simpa using Qkk hs]
   simp only[Bool.not_false,cond_true,Option.bind_some,Qy]
   rw[Yf (Nat.le_of_lt hkl)]
  | inl y =>
   rw[hs] at hst
   obtain ⟨w',hw',hat⟩:=hst;have hin:=Qfi hp hv hx hs;have hlb:=J2 hp ⟨hx.n0,hx.n1⟩ ⟨hin.1.n0,hin.1.n1⟩;have:=ih (k+1) y w' (m+(Zf p x.Node y.Node).Meters) (l++[y]) n h3 (by omega) (by simp only[List.length_cons] at hn2;omega) hin.1 hat (by simp;omega) (by omega) (by omega)
   rw[h2] at this
   have hb:iter (Jz F t) (n+1) (w,0,(k:Int))=iter (Jz F t) n (w',0,((k+1:Nat):Int)):=by
    rw[iter]
    simp only[Jz,oun,hk2,cond_true,hw',Option.bind_some,decide_true,Bool.not_true,cond_false,Qy]
    rw[VE (by omega)]
   rw[hb]
   simp only[]
   cases hf:V6 p v (t.Stops.take k++[s]) rest y with
   | inl z =>
    rw[hf] at this
    obtain ⟨w2,g1,g2⟩:=this;refine ⟨w2,g1,?_⟩
    simp only[Qbr]
    rw[show m+((Zf p x.Node y.Node).Meters+Qbr p y.Node z.2)=m+(Zf p x.Node y.Node).Meters+Qbr p y.Node z.2 by omega,show l++y::z.2=l++[y]++z.2 by simp]
    exact g2
   | inr q =>
    rw[hf] at this
    exact this
def Qbn (p:Pr) (v:Ve) (x:Vi):Vi⊕Int :=
 if (Zf p x.Node v.Depot).Secs<0 then .inr 22
 else if x.Load≠0 then .inr 20
 else if v.Shift.To≤x.Leave+(Zf p x.Node v.Depot).Secs then .inr 19
 else .inl ⟨-2,v.Depot,x.Leave+(Zf p x.Node v.Depot).Secs,x.Leave+(Zf p x.Node v.Depot).Secs,x.Leave+(Zf p x.Node v.Depot).Secs,0⟩
theorem Qhi {p:Pr} {v:Ve} {x:Vi} {e:Int} (hs:Qbn p v x= .inr e):e≠0:=by
 unfold Qbn at hs
 repeat' split at hs
 all_goals first | (cases hs;done) | (injection hs with hs;subst hs;decide)
theorem Qpz {p:Pr} {v:Ve} (hp:OkP p) (hv:OkV p.Road.Nodes v) {k:Nat} (hk:k≤1000) {x:Vi} (hx:InV p v k x):VJ p v x=match Qbn p v x with
  | .inl y=>some (y,0)
  | .inr e=>some (⟨0,0,0,0,0,0⟩,e):=by
 have h1:=hx.t0;have h2:=hx.t1;have h3:=hx.l0;have hl:=J2 hp ⟨hx.n0,hx.n1⟩ ⟨hv.d0,hv.d1⟩;unfold VJ Qbn
 rw[Qih hp ⟨hx.n0,hx.n1⟩ ⟨hv.d0,hv.d1⟩]
 simp only[Option.bind_some]
 by_cases c1:(Zf p x.Node v.Depot).Secs<0
 ·rw[if_pos c1];simp only[c1,decide_true,cond_true]
 ·rw[if_neg c1,Yb (n:=x.Leave+(Zf p x.Node v.Depot).Secs) (by omega) (by omega)]
  simp only[c1,decide_false,cond_false]
  by_cases c2:x.Load≠0
  ·rw[if_pos c2,show decide (0<x.Load)=true by simp;omega];rfl
  ·rw[if_neg c2,show decide (0<x.Load)=false by simp;omega]
   simp only[cond_false]
   by_cases c3:v.Shift.To≤x.Leave+(Zf p x.Node v.Depot).Secs
   ·rw[if_pos c3];simp only[c3,decide_true,cond_true]
   ·rw[if_neg c3];simp only[c3,decide_false,cond_false]
theorem Qpu {F:Nat} (hF:40000≤F) {p:Pr} {v:Ve} (hp:OkP p) (hv:OkV p.Road.Nodes v) {k:Nat} (hk:k≤1000) {x:Vi} (hx:InV p v k x) {w:Wa} {m:Int} {l:List Vi} (hw:At p v w x m l) (hl:l.length≤900) (hm0:0≤m) (hm1:m≤k*6400000):match Qbn p v x with
  | .inl y=> ∃w',VX F w=some (0,w')∧w'.visits=l++[y]∧w'.place.meters=m+(Zf p x.Node v.Depot).Meters
  | .inr e=> ∃w',VX F w=some (e,w'):=by
 obtain ⟨pl,wp,wv,wl,wvs⟩:=w;obtain ⟨e1,e2,e3,e4,e5⟩:=hw
 simp only at e1 e2 e3 e4 e5
 subst e1 e2 e3 e4;have h1:=hx.t0;have h2:=hx.t1;have h3:=hx.l0;have hlb:=J2 hp ⟨hx.n0,hx.n1⟩ ⟨hv.d0,hv.d1⟩;obtain ⟨c,hc1,hc2⟩:=QmE hF (w:=⟨⟨x.Node,x.Leave,x.Load,m⟩,wp,wv,wl,wvs⟩) hp e5 ⟨hx.n0,hx.n1⟩ ⟨hv.d0,hv.d1⟩;unfold VX Qbn
 simp only[hc1,Option.bind_some,oun]
 by_cases c1:(Zf wp x.Node wv.Depot).Secs<0
 ·rw[if_pos c1,show decide (0≤(Zf wp x.Node wv.Depot).Secs)=false by simp;omega]
  exact ⟨_,rfl⟩
 ·rw[if_neg c1,show decide (0≤(Zf wp x.Node wv.Depot).Secs)=true by simp;omega]
  simp only[Bool.not_true,cond_false]
  rw[Yb (n:=x.Leave+(Zf wp x.Node wv.Depot).Secs) (by omega) (by omega),Yb (n:=m+(Zf wp x.Node wv.Depot).Meters) (by omega) (by omega)]
  by_cases c2:x.Load≠0
  ·rw[if_pos c2,show decide (x.Load=0)=false by simpa using c2]
   exact ⟨_,rfl⟩
  ·rw[if_neg c2]
   simp only[ne_eq,Decidable.not_not] at c2
   simp only[c2,decide_true,Bool.not_true,cond_false]
   by_cases c3:wv.Shift.To≤x.Leave+(Zf wp x.Node wv.Depot).Secs
   ·rw[if_pos c3];simp only[c3,decide_true,cond_true];exact ⟨_,rfl⟩
   ·rw[if_neg c3];simp only[c3,decide_false,cond_false]
    rw[QkO (by simp only[];omega)]
    exact ⟨_,rfl,rfl,rfl⟩
end Go.Proofs.YtoojkdejnbnniaaGreat
namespace Go.Proofs.YtoojkdejnbnniaaGreat
open Go.RowKit
set_option linter.unusedSimpArgs false
set_option linter.unusedVariables false
def x0 (v:Ve):Vi:=⟨0,v.Depot,0,0,v.Shift.From,0⟩
theorem QhU {p:Pr} {v:Ve} (hv:OkV p.Road.Nodes v):InV p v 0 (x0 v):=by
 have h1:=hv.s0;have h2:=hv.s1;have h3:=hv.s2;have h4:=hv.g0;exact ⟨hv.d0,hv.d1,h1,by simp only[x0];omega,Int.le_refl _,by simp only[x0];omega⟩
def Vd (p:Pr) (t:Qb):(Vi×List Vi×Ve)⊕(Int×Int) :=
 if t.Vehicle<0∨((p.Vehicles.length:Nat):Int)≤t.Vehicle then .inr (7,0)
 else if 40<t.Stops.length then .inr (8,0)
 else match p.Vehicles[t.Vehicle.toNat]? with
  | none=> .inr (7,0)
  | some v=>match V6 p v [] t.Stops (x0 v) with
   | .inr q=> .inr (q.1,((q.2:Nat):Int))
   | .inl z=>match Qbn p v z.1 with
    | .inr e=> .inr (e,((t.Stops.length:Nat):Int))
    | .inl y=> .inl (z.1,z.2++[y],v)
def QfT (p:Pr) (t:Qb):List Vi×Int×Int:=match Vd p t with
 | .inl z=>(z.2.1,0,0)
 | .inr q=>([],q.1,q.2)
def Y4 (p:Pr) (t:Qb):Int×Int:=match Vd p t with
 | .inl z=>(Qbr p z.2.2.Depot z.2.1,0)
 | .inr q=>(0,q.1)
theorem Qbq {p:Pr} {t:Qb} {q:Int×Int} (h:Vd p t= .inr q):q.1≠0:=by
 unfold Vd at h
 split at h
 ·injection h with h;subst h;decide
 ·split at h
  ·injection h with h;subst h;decide
  ·split at h
   ·injection h with h;subst h;decide
   ·split at h
    ·rename_i q' hq
     injection h with h;subst h
     exact QgK _ _ _ _ hq
    ·split at h
     ·rename_i e he
      injection h with h;subst h
      exact Qhi he
     ·cases h
theorem Qhn {p:Pr} {v:Ve} (y:Vi): ∀(rest pre:List Int) (x:Vi) (z:Vi×List Vi),V6 p v pre rest x= .inl z→Qbr p x.Node (z.2++[y])=Qbr p x.Node z.2+(Zf p z.1.Node y.Node).Meters
 | [],pre,x,z,h=>by
  injection h with h;subst h
  simp[Qbr]
 | s::rest,pre,x,z,h=>by
  unfold V6 at h
  split at h
  ·cases h
  ·split at h
   ·rename_i y' _ z' hz
    injection h with h;subst h
    have:=Qhn y rest _ _ _ hz
    simp only[List.cons_append,Qbr] at this ⊢
    omega
   ·cases h
theorem Qi9 {p:Pr} (hp:OkP p) (hc:Qq p=some 0) (t:Qb):WB p t=some (QfT p t):=by
 unfold WB QfT Vd
 rw[hc]
 simp only[Option.bind_some,decide_true,Bool.not_true,cond_false,YO]
 by_cases h1:t.Vehicle<0∨((p.Vehicles.length:Nat):Int)≤t.Vehicle
 ·rw[if_pos h1,show (decide (t.Vehicle<0)||decide (((p.Vehicles.length:Nat):Int)≤t.Vehicle))=true by simpa using h1]
  rfl
 ·rw[if_neg h1,show (decide (t.Vehicle<0)||decide (((p.Vehicles.length:Nat):Int)≤t.Vehicle))=false by simpa using h1]
  simp only[cond_false]
  by_cases h2:40<t.Stops.length
  ·rw[if_pos h2,show decide ((40:Int)<((t.Stops.length:Nat):Int))=true by simp;omega]
   rfl
  ·rw[if_neg h2,show decide ((40:Int)<((t.Stops.length:Nat):Int))=false by simp;omega]
   simp only[cond_false]
   obtain ⟨i,hi⟩: ∃i:Nat,t.Vehicle=i:=⟨t.Vehicle.toNat,by omega⟩
   have hd:p.Vehicles[i]? =some p.Vehicles[i]:=List.getElem?_eq_getElem (by omega)
   generalize p.Vehicles[i]=v at hd
   have hv:=hp.ve v (List.mem_of_getElem? hd)
   rw[hi]
   simp only[Qm,hd,Option.bind_some,Int.toNat_natCast]
   have hl:=QpB hp hv (t:=t) (by omega) t.Stops 0 (x0 v) [] (t.Stops.length+1) rfl (Nat.zero_le _) (by simp) (QhU hv) rfl
   rw[List.take_zero] at hl
   have hl2:iter (ZA p t v) (t.Stops.length+1) (0,v.Depot,0,0,v.Shift.From,0,[],0)=_:=hl
   rw[hl2]
   cases hf:V6 p v [] t.Stops (x0 v) with
   | inr q=>rfl
   | inl z =>
    have hz:=Qec hp hv t.Stops [] _ _ (QhU hv) hf
    simp only[List.length_nil,Nat.zero_add] at hz
    simp only[Option.bind_some,Qy,oun,List.nil_append]
    have hh:VJ p v ⟨z.1.Stop,z.1.Node,z.1.Arrive,z.1.Start,z.1.Leave,z.1.Load⟩=_:=Qpz hp hv (k:=t.Stops.length) (by omega) hz.1
    rw[hh]
    cases hm:Qbn p v z.1 with
    | inr e =>
     simp only[Option.bind_some,oun]
     rw[show decide (e=0)=false by simpa using Qhi hm]
     rfl
    | inl y =>
     simp only[Option.bind_some,oun,decide_true,Bool.not_true,cond_false]
     rw[Yi (by simp;omega)]
     rfl
theorem Qgi {F:Nat} (hF:40000≤F) {p:Pr} (hp:OkP p) (t:Qb):match Vd p t with
  | .inl z=> ∃w,V0 F p t=some (some w,0,0)∧w.visits=z.2.1∧w.place.meters=Qbr p z.2.2.Depot z.2.1
  | .inr q=>V0 F p t=some (none,q.1,q.2):=by
 unfold V0 Vd
 simp only[Option.bind_some,YO]
 by_cases h1:t.Vehicle<0∨((p.Vehicles.length:Nat):Int)≤t.Vehicle
 ·rw[if_pos h1,show (decide (t.Vehicle<0)||decide (((p.Vehicles.length:Nat):Int)≤t.Vehicle))=true by simpa using h1]
  rfl
 ·rw[if_neg h1,show (decide (t.Vehicle<0)||decide (((p.Vehicles.length:Nat):Int)≤t.Vehicle))=false by simpa using h1]
  simp only[cond_false]
  by_cases h2:40<t.Stops.length
  ·rw[if_pos h2,show decide ((40:Int)<((t.Stops.length:Nat):Int))=true by simp;omega]
   rfl
  ·rw[if_neg h2,show decide ((40:Int)<((t.Stops.length:Nat):Int))=false by simp;omega]
   simp only[cond_false]
   obtain ⟨i,hi⟩: ∃i:Nat,t.Vehicle=i:=⟨t.Vehicle.toNat,by omega⟩
   have hd:p.Vehicles[i]? =some p.Vehicles[i]:=List.getElem?_eq_getElem (by omega)
   generalize p.Vehicles[i]=v at hd
   have hv:=hp.ve v (List.mem_of_getElem? hd)
   rw[hi]
   simp only[Qm,hd,Option.bind_some,Int.toNat_natCast]
   have hl:=Qpv hF hp hv (t:=t) (by omega) t.Stops 0 (x0 v) ⟨⟨v.Depot,v.Shift.From,0,0⟩,p,v,[],[]⟩ 0 [] (t.Stops.length+1) rfl (Nat.zero_le _) (by simp) (QhU hv) ⟨rfl,rfl,rfl,rfl,fun n L h=>by cases h⟩ rfl (Int.le_refl _) (by simp)
   rw[List.take_zero] at hl
   cases hf:V6 p v [] t.Stops (x0 v) with
   | inr q =>
    rw[hf] at hl
    obtain ⟨w',hw'⟩:=hl
    rw[show ((0:Nat):Int)=(0:Int) from rfl] at hw'
    simp only[hw',Option.bind_some,oun]
    rw[show decide (q.1=0)=false by simpa using QgK _ _ _ _ hf]
    simp only[cond_false,Option.bind_some,oun]
    rw[show decide (q.1=0)=false by simpa using QgK _ _ _ _ hf]
    rfl
   | inl z =>
    rw[hf] at hl
    obtain ⟨w',hw',hat⟩:=hl
    rw[show ((0:Nat):Int)=(0:Int) from rfl] at hw'
    have hz:=Qec hp hv t.Stops [] _ _ (QhU hv) hf
    simp only[List.length_nil,Nat.zero_add] at hz
    simp only[hw',Option.bind_some,oun,decide_true,cond_true]
    have hb:=Qpu hF hp hv (k:=t.Stops.length) (by omega) hz.1 hat (by simp;omega) (by omega) (by omega);cases hm:Qbn p v z.1 with
    | inr e =>
     rw[hm] at hb
     obtain ⟨w2,hw2⟩:=hb
     simp only[hw2,Option.bind_some,oun]
     rw[show decide (e=0)=false by simpa using Qhi hm]
     rfl
    | inl y =>
     rw[hm] at hb
     obtain ⟨w2,hw2,g1,g2⟩:=hb
     simp only[hw2,Option.bind_some,oun,decide_true,Bool.not_true,cond_false]
     refine ⟨w2,rfl,by simpa using g1,?_⟩
     rw[g2]
     have h5:=Qhn y _ _ _ _ hf;have h6:y.Node=v.Depot:=by
      unfold Qbn at hm
      repeat' split at hm
      all_goals first | (cases hm;done) | (injection hm with hm;subst hm;rfl)
     rw[h6] at h5
     show 0+Qbr p (x0 v).Node z.2+_=Qbr p (x0 v).Node (z.2++[y])
     omega
theorem Qc9 (p:Pr) (hn:p.Road.Edges.length≤600):(Qq p=some 0∧OkP p)∨ ∃e,e≠0∧Qq p=some e:=by
 obtain ⟨e,he⟩:=QmT p hn
 by_cases h:e=0
 ·subst h;exact .inl ⟨he,OkP.of hn he⟩
 ·exact .inr ⟨e,h,he⟩
theorem Qp2 {F:Nat} (hF:40000≤F) {p:Pr} (hp:OkP p) (hc:Qq p=some 0) (hn:p.Road.Edges.length≤600) (t:Qb):QdX F p t=some (QfT p t):=by
 unfold QdX QfT
 rw[Zy (by omega) p hn,hc]
 simp only[Option.bind_some,decide_true,Bool.not_true,cond_false]
 have:=Qgi hF hp t;cases h:Vd p t with
 | inr q =>
  rw[h] at this
  simp only[this,Option.bind_some,oun]
  rw[show decide (q.1=0)=false by simpa using Qbq h]
  rfl
 | inl z =>
  rw[h] at this
  obtain ⟨w,h1,h2,_⟩:=this
  simp only[h1,Option.bind_some,oun,decide_true,Bool.not_true,cond_false,h2]
theorem QpY {F:Nat} (hF:40000≤F) {p:Pr} (hp:OkP p) (hc:Qq p=some 0) (hn:p.Road.Edges.length≤600) (t:Qb):QdV F p t=some (Y4 p t):=by
 unfold QdV Y4
 rw[Zy (by omega) p hn,hc]
 simp only[Option.bind_some,decide_true,Bool.not_true,cond_false]
 have:=Qgi hF hp t;cases h:Vd p t with
 | inr q =>
  rw[h] at this
  simp only[this,Option.bind_some,oun]
  rw[show decide (q.1=0)=false by simpa using Qbq h]
  rfl
 | inl z =>
  rw[h] at this
  obtain ⟨w,h1,_,h3⟩:=this
  simp only[h1,Option.bind_some,oun,decide_true,Bool.not_true,cond_false,h3]
theorem QiJ {p:Pr} {v:Ve} (hp:OkP p) (hv:OkV p.Road.Nodes v): ∀(rest pre:List Int) (x:Vi) (z:Vi×List Vi),InV p v pre.length x→V6 p v pre rest x= .inl z→ ∀y∈z.2,0≤y.Node∧y.Node<p.Road.Nodes
 | [],pre,x,z,hx,h=>by
  injection h with h;subst h
  intro y hy;cases hy
 | s::rest,pre,x,z,hx,h=>by
  unfold V6 at h
  split at h
  ·cases h
  ·rename_i y hy
   obtain ⟨h1,_,_⟩:=Qfi hp hv hx hy
   split at h
   ·rename_i z' hz
    injection h with h;subst h
    have h3:=QiJ hp hv rest (pre++[s]) y z' (by simpa using h1) hz;intro u hu;rcases List.mem_cons.1 hu with h4 | h4
    ·subst h4;exact ⟨h1.n0,h1.n1⟩
    ·exact h3 u h4
   ·cases h
theorem QmO {p:Pr} (hp:OkP p) (L:List Vi) (hL:L.length≤100) (hnd: ∀y∈L,0≤y.Node∧y.Node<p.Road.Nodes): ∀(rest:List Vi) (k:Nat) (sum a:Int) (n:Nat),L.drop k=rest→k≤L.length→rest.length<n→0≤a∧a<p.Road.Nodes→0≤sum→sum≤k*6400000 →
  iter (Ju p L) n (sum,a,(k:Int))=some (sum+Qbr p a rest):=by
 intro rest
 induction rest with
 | nil =>
  intro k sum a n hd hk hn ha hs0 hs1;obtain ⟨n,rfl⟩: ∃f,n=f+1:=⟨n-1,by omega⟩
  have hk2:k=L.length:=by
   have:=congrArg List.length hd
   simp at this;omega
  rw[iter]
  simp only[Ju,oun]
  rw[show decide ((k:Int)<((L.length:Nat):Int))=false by simp;omega]
  simp[Qbr,Qy]
 | cons y rest ih =>
  intro k sum a n hd hk hn ha hs0 hs1;obtain ⟨n,rfl⟩: ∃f,n=f+1:=⟨n-1,by omega⟩
  have h1:L[k]? =some y:=by
   have:(L.drop k)[0]? =some y:=by rw[hd];rfl
   rw[List.getElem?_drop] at this
   simpa using this
  have h3:L.drop (k+1)=rest:=by rw[←List.drop_drop,hd];rfl
  have hkl:=Qp h1;have hy:=hnd y (List.mem_of_getElem? h1);have hl:=J2 hp ha hy
  rw[iter]
  simp only[Ju,oun]
  rw[show decide ((k:Int)<((L.length:Nat):Int))=true by simp;omega]
  simp only[cond_true,Qm,h1,Option.bind_some,Qih hp ha hy,Qy]
  rw[VE (by omega),Yb (by omega) (by omega)]
  rw[ih (k+1) _ _ n h3 (by omega) (by simp only[List.length_cons] at hn;omega) hy (by omega) (by omega)]
  simp only[Qbr]
  congr 1
  omega
theorem QgW {p:Pr} (hp:OkP p) (hc:Qq p=some 0) (t:Qb):Zd p t=some (Y4 p t):=by
 unfold Zd
 rw[Qi9 hp hc]
 unfold QfT Y4;cases h:Vd p t with
 | inr q =>
  simp only[Option.bind_some,oun]
  rw[show decide (q.1=0)=false by simpa using Qbq h]
  rfl
 | inl z =>
  simp only[Option.bind_some,oun,decide_true,Bool.not_true,cond_false]
  unfold Vd at h
  split at h
  ·cases h
  ·rename_i h1
   split at h
   ·cases h
   ·rename_i h2
    obtain ⟨i,hi⟩: ∃i:Nat,t.Vehicle=i:=⟨t.Vehicle.toNat,by omega⟩
    have hd:p.Vehicles[i]? =some p.Vehicles[i]:=List.getElem?_eq_getElem (by omega)
    generalize p.Vehicles[i]=v at hd
    have hv:=hp.ve v (List.mem_of_getElem? hd)
    rw[hi] at h ⊢
    simp only[Qm,hd,Option.bind_some,Int.toNat_natCast] at h ⊢
    cases hf:V6 p v [] t.Stops (x0 v) with
    | inr q=>rw[hf] at h;cases h
    | inl w =>
     rw[hf] at h
     simp only[] at h
     cases hm:Qbn p v w.1 with
     | inr e=>rw[hm] at h;cases h
     | inl y =>
      rw[hm] at h
      injection h with h;subst h
      have hz:=Qec hp hv t.Stops [] _ _ (QhU hv) hf;have hnn:=QiJ hp hv t.Stops [] _ _ (QhU hv) hf
      simp only[List.length_nil,Nat.zero_add] at hz
      have h6:y.Node=v.Depot:=by
       unfold Qbn at hm
       repeat' split at hm
       all_goals first | (cases hm;done) | (injection hm with hm;subst hm;rfl)
      have:=QmO hp (w.2++[y]) (by simp;omega) (fun u hu=>by
       rcases List.mem_append.1 hu with h7 | h7
       ·exact hnn u h7
       ·rw[List.mem_singleton.1 h7,h6];exact ⟨hv.d0,hv.d1⟩) (w.2++[y]) 0 0 v.Depot ((w.2++[y]).length+1) rfl (Nat.zero_le _) (by simp) ⟨hv.d0,hv.d1⟩ (Int.le_refl _) (by simp)
      rw[show ((0:Nat):Int)=(0:Int) from rfl,Int.zero_add] at this
      show Option.bind (iter (Ju p (w.2++[y])) ((w.2++[y]).length+1) (0,v.Depot,0)) _=_
      rw[this]
      rfl
end Go.Proofs.YtoojkdejnbnniaaGreat
namespace Go.Proofs.YtoojkdejnbnniaaGreat
open Go.RowKit
set_option linter.unusedSimpArgs false
set_option linter.unusedVariables false
structure Fol (p:Pr) (t:Qb) (v:Ve) (z:Vi×List Vi) (y:Vi):Prop where
 t0:0≤t.Vehicle
 t1:t.Vehicle<((p.Vehicles.length:Nat):Int)
 sl:t.Stops.length≤40
 hv:getI p.Vehicles t.Vehicle=some v
 fol:V6 p v [] t.Stops (x0 v)= .inl z
 hom:Qbn p v z.1= .inl y
theorem Qg2 {p:Pr} {t:Qb} {u:Vi×List Vi×Ve} (h:Vd p t= .inl u): ∃z y,Fol p t u.2.2 z y∧u.1=z.1∧u.2.1=z.2++[y]:=by
 unfold Vd at h
 split at h
 ·cases h
 ·rename_i h1
  split at h
  ·cases h
  ·rename_i h2
   split at h
   ·cases h
   ·rename_i v hv
    split at h
    ·cases h
    ·rename_i z hf
     split at h
     ·cases h
     ·rename_i y hm
      injection h with h;subst h
      exact ⟨z,y,⟨by omega,by omega,by omega,by unfold getI;rw[if_pos (by omega)];exact hv,hf,hm⟩,rfl,rfl⟩
end Go.Proofs.YtoojkdejnbnniaaGreat
namespace Go.Proofs.YtoojkdejnbnniaaGreat
open Go.RowKit
set_option linter.unusedSimpArgs false
set_option linter.unusedVariables false
def vec (n:Nat) (f:Nat→Nat):List Int:=(List.range n).map fun d=>((f d:Nat):Int)
theorem VD (n:Nat) (f:Nat→Nat):(vec n f).length=n:=by simp[vec]
theorem QfF {n i:Nat} (f:Nat→Nat) (h:i<n):(vec n f)[i]? =some ((f i:Nat):Int):=by simp[vec,h]
theorem Qax {n:Nat} {f g:Nat→Nat} (h: ∀d,d<n→f d=g d):vec n f=vec n g:=by
 unfold vec;apply List.map_congr_left;intro d hd
 rw[h d (List.mem_range.1 hd)]
theorem Qqu {n i:Nat} (f:Nat→Nat) (h:i<n) (hb:f i<1000000):Yk (vec n f) (i:Int) (w64 (((f i:Nat):Int)+1))=vec n (fun d=>f d+if d=i then 1 else 0):=by
 rw[Yb (by omega) (by omega)]
 apply List.ext_getElem?;intro j;unfold Yk
 rw[Int.toNat_natCast,List.getElem?_set]
 rcases Nat.lt_or_ge j n with hj | hj
 ·rw[QfF _ hj,QfF _ hj,VD]
  by_cases hij:i=j
  ·subst hij;simp[h]
  ·have: ¬j=i:=fun e=>hij e.symm
   simp[hij,this]
 ·rw[List.getElem?_eq_none (by rw[VD];exact hj),List.getElem?_eq_none (by rw[VD];exact hj)]
  split
  ·omega
  ·rfl
theorem QdM (n:Nat) (h:n≤1000):Qca (0:Int) ((n:Nat):Int)=some (vec n fun _=>0):=by
 unfold Qca
 rw[if_pos (by omega)]
 congr 1
 apply List.ext_getElem?;intro j
 rw[Int.toNat_natCast]
 rcases Nat.lt_or_ge j n with hj | hj
 ·rw[QfF _ hj,List.getElem?_replicate,if_pos hj];rfl
 ·rw[List.getElem?_eq_none (by simp;exact hj),List.getElem?_eq_none (by rw[VD];exact hj)]
def cn (L:List Int) (d:Nat):Nat:=L.count (d:Int)
theorem Qnm (L:List Int) (s:Int) (d:Nat):cn (L++[s]) d=cn L d+if s=(d:Int) then 1 else 0:=by
 unfold cn
 rw[List.count_append,List.count_singleton]
 simp
theorem QjO (L:List Int) (d:Nat):cn L d≤L.length:=List.count_le_length
def okS (n:Nat) (s:Int):Prop:=s= -1∨(0≤s∧s<(n:Int))
theorem Qd0 {n:Nat} {L:List Int} {k:Nat} {s:Int} (f:Nat→Nat) (hs:L[k]? =some s) (h0:0≤s) (h1:s<(n:Int)) (hb:f s.toNat+L.length<1000000) :
  getI (vec n fun d=>f d+cn (L.take k) d) s=some ((f s.toNat+cn (L.take k) s.toNat:Nat):Int)∧Yk (vec n fun d=>f d+cn (L.take k) d) s (w64 (((f s.toNat+cn (L.take k) s.toNat:Nat):Int)+1))=vec n fun d=>f d+cn (L.take (k+1)) d:=by
 obtain ⟨i,rfl⟩: ∃i:Nat,s=i:=⟨s.toNat,by omega⟩
 have hc:=QjO (L.take k) i;have hk:=Qp hs
 rw[Yf (Nat.le_of_lt hk)] at hc
 rw[Int.toNat_natCast] at *
 refine ⟨by rw[Qm,QfF _ (by omega)],?_⟩
 rw[Qqu (fun d=>f d+cn (L.take k) d) (by omega) (by show f i+cn (L.take k) i<1000000;omega)]
 refine Qax fun d _=> ?_
 rw[YF hs,Qnm]
 by_cases h:d=i
 ·subst h;simp;omega
 ·have: ¬((i:Int)=(d:Int)):=by omega
  simp[h,this]
theorem Qky {L:List Int} {k:Nat} {s:Int} (hs:L[k]? =some s) (h0:s<0) (f:Nat→Nat) (n:Nat):(vec n fun d=>f d+cn (L.take (k+1)) d)=vec n fun d=>f d+cn (L.take k) d:=by
 refine Qax fun d _=> ?_
 rw[YF hs,Qnm,if_neg (by omega)]
 rfl
theorem Qm9 {n:Nat} (t:Qb) (f:Nat→Nat) (hn:t.Stops.length≤1000) (hf: ∀d,f d≤900000) (ho: ∀s∈t.Stops,okS n s) :
  iter (QaT t) (((t.Stops.length:Nat):Int).toNat+1) (vec n f,0)=some (vec n fun d=>f d+cn t.Stops d) ∧
  iter (ZT t) (((t.Stops.length:Nat):Int).toNat+1) (vec n f,0)=some (vec n fun d=>f d+cn t.Stops d):=by
 have hz:(vec n fun d=>f d+cn (t.Stops.take 0) d)=vec n f:=Qax fun d _=>by simp[cn]
 have hx:(vec n fun d=>f d+cn (t.Stops.take t.Stops.length) d)=vec n fun d=>f d+cn t.Stops d:=by rw[List.take_length]
 constructor
 ·have:=YD (body:=QaT t) t.Stops (fun k=>vec n fun d=>f d+cn (t.Stops.take k) d) (fun m k=>(m,k)) (fun _ _=>none) (vec n fun d=>f d+cn t.Stops d) (by omega) (fun k s hs _=> ?_) (fun _=>by simp only[QaT,oun,hx];simp) (((t.Stops.length:Nat):Int).toNat+1) (by simp)
  ·rw[QK _ _ (fun _ _ _=>rfl),hz] at this
   exact this
  ·have hk:=Qp hs;have hk2:((k:Int)<(t.Stops.length:Nat)):=by omega
   simp only[QaT,oun,hk2,decide_true,cond_true,Qm,hs,Option.bind_some,ZL]
   rcases ho s (List.mem_of_getElem? hs) with h1 | ⟨h1,h2⟩
   ·simp only[h1,decide_true,Bool.not_true,cond_false,Option.bind_some]
    rw[Qky hs (by omega)]
   ·rw[show decide (s= -1)=false by simp;omega]
    obtain ⟨g1,g2⟩:=Qd0 f hs h1 h2 (by have:=hf s.toNat;omega)
    simp only[Bool.not_false,cond_true,g1,Option.bind_some,g2]
 ·have:=YD (body:=ZT t) t.Stops (fun k=>vec n fun d=>f d+cn (t.Stops.take k) d) (fun m k=>(m,k)) (fun _ _=>none) (vec n fun d=>f d+cn t.Stops d) (by omega) (fun k s hs _=> ?_) (fun _=>by simp only[ZT,oun,hx];simp) (((t.Stops.length:Nat):Int).toNat+1) (by simp)
  ·rw[QK _ _ (fun _ _ _=>rfl),hz] at this
   exact this
  ·have hk:=Qp hs;have hk2:((k:Int)<(t.Stops.length:Nat)):=by omega
   simp only[ZT,oun,hk2,decide_true,cond_true,Qm,hs,Option.bind_some,ZL]
   rcases ho s (List.mem_of_getElem? hs) with h1 | ⟨h1,h2⟩
   ·rw[show decide (0≤s)=false by simp;omega]
    simp only[cond_false,Option.bind_some]
    rw[Qky hs (by omega)]
   ·rw[show decide (0≤s)=true by simpa using h1]
    obtain ⟨g1,g2⟩:=Qd0 f hs h1 h2 (by have:=hf s.toNat;omega)
    simp only[cond_true,g1,Option.bind_some,g2]
end Go.Proofs.YtoojkdejnbnniaaGreat
namespace Go.Proofs.YtoojkdejnbnniaaGreat
open Go.RowKit
set_option linter.unusedSimpArgs false
set_option linter.unusedVariables false
abbrev To:=Qb
def tn (ts:List To) (d:Nat):Nat:=(ts.map fun t=>cn t.Stops d).sum
theorem QnN (ts:List To) (t:To) (d:Nat):tn (ts++[t]) d=tn ts d+cn t.Stops d:=by simp[tn]
theorem QnM {ts:List To} (h: ∀t∈ts,t.Stops.length≤1000) (d:Nat):tn ts d≤ts.length*1000:=by
 induction ts with
 | nil=>simp[tn]
 | cons t ts ih =>
  have h1:=ih fun u hu=>h u (List.mem_cons_of_mem _ hu);have h2:=QjO t.Stops d;have h3:=h t List.mem_cons_self
  simp only[tn,List.map_cons,List.sum_cons,List.length_cons] at h1 ⊢
  omega
theorem Qc1 {n:Nat} (x:Qh) (f:Nat→Nat) (hn:x.Tours.length≤100) (hf: ∀d,f d≤1000) (hl: ∀t∈x.Tours,t.Stops.length≤1000) (ho: ∀t∈x.Tours,∀s∈t.Stops,okS n s) :
  iter (QaU x) (((x.Tours.length:Nat):Int).toNat+1) (vec n f,0)=some (vec n fun d=>f d+tn x.Tours d) ∧
  iter (ZU x) (((x.Tours.length:Nat):Int).toNat+1) (vec n f,0)=some (vec n fun d=>f d+tn x.Tours d):=by
 have hz:(vec n fun d=>f d+tn (x.Tours.take 0) d)=vec n f:=Qax fun d _=>by simp[tn]
 have hx:(vec n fun d=>f d+tn (x.Tours.take x.Tours.length) d)=vec n fun d=>f d+tn x.Tours d:=by rw[List.take_length]
 have hstep: ∀(k:Nat) (t:To),x.Tours[k]? =some t→_:=fun k t ht=>Qm9 (n:=n) t (fun d=>f d+tn (x.Tours.take k) d) (hl t (List.mem_of_getElem? ht)) (fun d=>by
  have h1:=hf d;have h2:=QnM (ts:=x.Tours.take k) (fun u hu=>hl u (List.mem_of_mem_take hu)) d;have h3:=Yf (Nat.le_of_lt (Qp ht));have h4:=Qp ht
  omega) (ho t (List.mem_of_getElem? ht))
 have hnext: ∀(k:Nat) (t:To),x.Tours[k]? =some t→(vec n fun d=>f d+tn (x.Tours.take k) d+cn t.Stops d)=vec n fun d=>f d+tn (x.Tours.take (k+1)) d:=fun k t ht=>Qax fun d _=>by
  rw[YF ht,QnN];omega
 constructor
 ·have:=YD (body:=QaU x) x.Tours (fun k=>vec n fun d=>f d+tn (x.Tours.take k) d) (fun m k=>(m,k)) (fun _ _=>none) (vec n fun d=>f d+tn x.Tours d) (by omega) (fun k t ht _=> ?_) (fun _=>by simp only[QaU,oun,hx];simp) (((x.Tours.length:Nat):Int).toNat+1) (by simp)
  ·rw[QK _ _ (fun _ _ _=>rfl),hz] at this
   exact this
  ·have hk:=Qp ht;have hk2:((k:Int)<(x.Tours.length:Nat)):=by omega
   simp only[QaU,oun,hk2,decide_true,cond_true,Qm,ht,Option.bind_some,ZL]
   rw[(hstep k t ht).1]
   simp only[Option.bind_some,hnext k t ht]
 ·have:=YD (body:=ZU x) x.Tours (fun k=>vec n fun d=>f d+tn (x.Tours.take k) d) (fun m k=>(m,k)) (fun _ _=>none) (vec n fun d=>f d+tn x.Tours d) (by omega) (fun k t ht _=> ?_) (fun _=>by simp only[ZU,oun,hx];simp) (((x.Tours.length:Nat):Int).toNat+1) (by simp)
  ·rw[QK _ _ (fun _ _ _=>rfl),hz] at this
   exact this
  ·have hk:=Qp ht;have hk2:((k:Int)<(x.Tours.length:Nat)):=by omega
   simp only[ZU,oun,hk2,decide_true,cond_true,Qm,ht,Option.bind_some,ZL]
   rw[(hstep k t ht).2]
   simp only[Option.bind_some,hnext k t ht]
def QfY (n:Nat) (L:List Int):Bool:=L.any fun s=>decide (s<0)||decide ((n:Int)≤s)
theorem QdK {n:Nat} (x:Qh) (f:Nat→Nat) (hn:x.Left.length≤1000) (hf: ∀d,f d≤500000) :
  iter (QaS x) (((x.Left.length:Nat):Int).toNat+1) (vec n f,0)=some (bif QfY n x.Left then .inr (0,7) else .inl (vec n fun d=>f d+cn x.Left d)) ∧
  iter (ZV x) (((x.Left.length:Nat):Int).toNat+1) (vec n f,0)=some (bif QfY n x.Left then .inr ([],7) else .inl (vec n fun d=>f d+cn x.Left d)):=by
 have hz:(vec n fun d=>f d+cn (x.Left.take 0) d)=vec n f:=Qax fun d _=>by simp[cn]
 have hx:(vec n fun d=>f d+cn (x.Left.take x.Left.length) d)=vec n fun d=>f d+cn x.Left d:=by rw[List.take_length]
 constructor
 ·have:=YD (body:=QaS x) x.Left (fun k=>vec n fun d=>f d+cn (x.Left.take k) d) (fun m k=>(m,k)) (fun _ s=>bif decide (s<0)||decide ((n:Int)≤s) then some (.inr (0,7)) else none) (.inl (vec n fun d=>f d+cn x.Left d)) (by omega) (fun k s hs _=> ?_) (fun _=>by simp only[QaS,oun,hx];simp) (((x.Left.length:Nat):Int).toNat+1) (by simp)
  ·rw[Qle,hz] at this
   exact this
  ·have hk:=Qp hs;have hk2:((k:Int)<(x.Left.length:Nat)):=by omega
   simp only[QaS,oun,hk2,decide_true,cond_true,Qm,hs,Option.bind_some,YO,VD]
   cases hb:(decide (s<0)||decide ((n:Int)≤s)) with
   | true=>rfl
   | false =>
    simp only[Bool.or_eq_false_iff,decide_eq_false_iff_not] at hb
    obtain ⟨g1,g2⟩:=Qd0 (n:=n) f hs (by omega) (by omega) (by have:=hf s.toNat;omega)
    simp only[cond_false,g1,Option.bind_some,g2,ZL]
 ·have:=YD (body:=ZV x) x.Left (fun k=>vec n fun d=>f d+cn (x.Left.take k) d) (fun m k=>(m,k)) (fun _ s=>bif decide (s<0)||decide ((n:Int)≤s) then some (.inr ([],7)) else none) (.inl (vec n fun d=>f d+cn x.Left d)) (by omega) (fun k s hs _=> ?_) (fun _=>by simp only[ZV,oun,hx];simp) (((x.Left.length:Nat):Int).toNat+1) (by simp)
  ·rw[Qle,hz] at this
   exact this
  ·have hk:=Qp hs;have hk2:((k:Int)<(x.Left.length:Nat)):=by omega
   simp only[ZV,oun,hk2,decide_true,cond_true,Qm,hs,Option.bind_some,YO,VD]
   cases hb:(decide (s<0)||decide ((n:Int)≤s)) with
   | true=>rfl
   | false =>
    simp only[Bool.or_eq_false_iff,decide_eq_false_iff_not] at hb
    obtain ⟨g1,g2⟩:=Qd0 (n:=n) f hs (by omega) (by omega) (by have:=hf s.toNat;omega)
    simp only[cond_false,g1,Option.bind_some,g2,ZL]
def QhV (L:List Int):Int:=bif L.any (fun c=>decide (1<c)) then 6 else bif L.any (fun c=>decide (c=0)) then 38 else 0
theorem Qid (L:List Int) (hn:L.length≤1000):Zj L=some (L.any fun c=>decide (1<c)):=by
 unfold Zj J8;have:=YL (body:=Zl L) L (fun k y=>bif decide (1<y) then some (.inr (k:Int)) else none) (.inl ():Unit⊕Int) (by omega) (fun k y hy=> ?_) (by simp[Zl]) (((L.length:Nat):Int).toNat+1) (by simp)
 ·rw[this]
  rcases Qlf (fun y:Int=>decide (1<y)) L 0 with ⟨h1,h2⟩ | ⟨j,h1,h2⟩
  ·rw[h1,h2];rfl
  ·rw[h1,h2]
   simp only[Option.bind_some,Qy]
   simp
 ·have hk:=Qp hy;have hk2:((k:Int)<(L.length:Nat)):=by omega
  simp only[Zl,hk2,decide_true,cond_true,Qm,hy,Option.bind_some,Qdo]
  cases decide (1<y)<;>rfl
theorem Qij (L:List Int) (hn:L.length≤1000):YC L 0=some (L.any fun c=>decide (c=0)):=by
 rw[Qdb L hn]
 congr 1
 rw[Bool.eq_iff_iff]
 simp only[List.any_eq_true,decide_eq_true_eq]
 exact ⟨fun h=>⟨0,h,rfl⟩,fun ⟨y,h1,h2⟩=>h2▸h1⟩
theorem Qoh (L:List Int) (hn:L.length≤1000):iter (Zt L) (((L.length:Nat):Int).toNat+1) (false,0)=some (bif L.any (fun c=>decide (1<c)) then .inr 6 else .inl (L.any fun c=>decide (c=0))):=by
 have:=YD (body:=Zt L) L (fun k=>(L.take k).any fun c=>decide (c=0)) (fun m k=>(m,k)) (fun _ c=>bif decide (1<c) then some (.inr 6) else none) (.inl (L.any fun c=>decide (c=0))) (by omega) (fun k c hc _=> ?_) (fun _=>by simp only[Zt,oun,List.take_length];simp) (((L.length:Nat):Int).toNat+1) (by simp)
 ·rw[Qle] at this
  simpa using this
 ·have hk:=Qp hc;have hk2:((k:Int)<(L.length:Nat)):=by omega
  simp only[Zt,oun,hk2,decide_true,cond_true,Qm,hc,Option.bind_some]
  rw[YF hc,List.any_append]
  cases h1:decide (1<c) with
  | true=>rfl
  | false =>
   simp only[cond_false]
   cases (L.take k).any fun c=>decide (c=0)
   ·simp[Qy,ZL]
   ·simp[Qy,ZL]
end Go.Proofs.YtoojkdejnbnniaaGreat
namespace Go.Proofs.YtoojkdejnbnniaaGreat
open Go.RowKit
set_option linter.unusedSimpArgs false
set_option linter.unusedVariables false
theorem Qm8 {p:Pr} {v:Ve} {pre:List Int} {x y:Vi} {s:Int} (hs:Qa9 p v pre x s= .inl y):okS p.Demands.length s:=by
 unfold Qa9 at hs;unfold okS
 split at hs
 ·exact .inl (by assumption)
 ·split at hs
  ·cases hs
  ·exact .inr (by omega)
theorem QiK {p:Pr} {v:Ve}: ∀(rest pre:List Int) (x:Vi) (z:Vi×List Vi),V6 p v pre rest x= .inl z→ ∀s∈rest,okS p.Demands.length s
 | [],_,_,_,_,s,hs=>by cases hs
 | a::rest,pre,x,z,h,s,hs=>by
  unfold V6 at h
  split at h
  ·cases h
  ·rename_i y hy
   split at h
   ·rename_i z' hz
    rcases List.mem_cons.1 hs with h1 | h1
    ·subst h1;exact Qm8 hy
    ·exact QiK rest _ _ _ hz s h1
   ·cases h
theorem V4 {p:Pr} (hp:OkP p) {t:Qb} {u:Vi×List Vi×Ve} (h:Vd p t= .inl u):0≤Qbr p u.2.2.Depot u.2.1∧Qbr p u.2.2.Depot u.2.1≤262400000∧(∀s∈t.Stops,okS p.Demands.length s)∧t.Stops.length≤40:=by
 obtain ⟨z,y,hf,_,e2⟩:=Qg2 h;have hv:=hp.ve u.2.2 (by
  have:=hf.hv;unfold getI at this
  rw[if_pos hf.t0] at this
  exact List.mem_of_getElem? this)
 have hz:=Qec hp hv t.Stops [] _ _ (QhU hv) hf.fol;have hm:=Qhn y _ _ _ _ hf.fol;have hsl:=hf.sl;have h6:y.Node=u.2.2.Depot:=by
  have hom:=hf.hom;unfold Qbn at hom
  repeat' split at hom
  all_goals first | (cases hom;done) | (injection hom with hom;subst hom;rfl)
 have hlb:=J2 hp ⟨hz.1.n0,hz.1.n1⟩ ⟨hv.d0,hv.d1⟩
 rw[h6] at hm
 rw[e2]
 refine ⟨?_,?_,QiK _ _ _ _ hf.fol,hf.sl⟩
 ·show 0≤Qbr p (x0 u.2.2).Node (z.2++[y])
  omega
 ·show Qbr p (x0 u.2.2).Node (z.2++[y])≤262400000
  omega
def QdB (p:Pr) (ts:List To) (k:Nat) (t:To):Option Int:=bif (ts.take k).any (fun u=>decide (u.Vehicle=t.Vehicle)) then some 6 else match Vd p t with
 | .inl _=>none
 | .inr q=>some q.1
def Zr (p:Pr) (ts:List To):Int:=QbU (fun t=>(Y4 p t).1) ts
theorem QjH (L:List To) (hn:L.length≤1000) (x:To):Y6 L x=some (L.any fun y=>decide (y.Vehicle=x.Vehicle)):=by
 unfold Y6 JO;have:=YL (body:=Y7 L x) L (fun k y=>bif decide (y.Vehicle=x.Vehicle) then some (.inr (k:Int)) else none) (.inl ():Unit⊕Int) (by omega) (fun k y hy=> ?_) (by simp[Y7]) (((L.length:Nat):Int).toNat+1) (by simp)
 ·rw[this]
  rcases Qlf (fun y:To=>decide (y.Vehicle=x.Vehicle)) L 0 with ⟨h1,h2⟩ | ⟨j,h1,h2⟩
  ·rw[h1,h2];rfl
  ·rw[h1,h2]
   simp only[Option.bind_some,Qy]
   simp
 ·have hk:=Qp hy;have hk2:((k:Int)<(L.length:Nat)):=by omega
  simp only[Y7,hk2,decide_true,cond_true,Qm,hy,Option.bind_some,Qdn]
  cases decide (y.Vehicle=x.Vehicle)<;>rfl
theorem QdC {p:Pr} {ts:List To} {k:Nat} {t:To} (h:QdB p ts k t=none): ∃u,Vd p t= .inl u:=by
 unfold QdB at h;cases hb:(ts.take k).any (fun u=>decide (u.Vehicle=t.Vehicle)) with
 | true=>rw[hb] at h;cases h
 | false =>
  rw[hb] at h
  cases hr:Vd p t with
  | inl u=>exact ⟨u,rfl⟩
  | inr q=>rw[hr] at h;cases h
theorem Qf3 {p:Pr} (hp:OkP p) {ts:List To}: ∀(k:Nat),k≤ts.length→(∀(j:Nat) (y:To),j<k→ts[j]? =some y→QdB p ts j y=none)→0≤Zr p (ts.take k)∧Zr p (ts.take k)≤k*262400000
 | 0,_,_=>by simp[Zr,QbU]
 | k+1,hk,h=>by
  have h1:=Qf3 hp k (by omega) fun j y hj=>h j y (by omega);have hx:ts[k]? =some ts[k]:=List.getElem?_eq_getElem (by omega);obtain ⟨u,hu⟩:=QdC (h k _ (by omega) hx);have h2:=V4 hp hu;have h3:(Y4 p ts[k]).1=Qbr p u.2.2.Depot u.2.1:=by unfold Y4;rw[hu]
  rw[YF hx]
  unfold Zr at h1 ⊢
  rw[QcD]
  have h4:QbU (fun t=>(Y4 p t).1) [ts[k]]=(Y4 p ts[k]).1:=by simp[QbU]
  rw[h4]
  omega
theorem Qfy {F:Nat} (hF:40000≤F) {p:Pr} (hp:OkP p) (x:Qh) (hn:x.Tours.length≤30) :
  iter (QaR F p x) (((x.Tours.length:Nat):Int).toNat+1) (0,0)=some (YI (fun k t=>(QdB p x.Tours k t).map fun c=> .inr (0,c)) (.inl (Zr p x.Tours)) 0 x.Tours):=by
 have:=YD (body:=QaR F p x) x.Tours (fun k=>Zr p (x.Tours.take k)) (fun m k=>(m,k)) (fun k t=>(QdB p x.Tours k t).map fun c=> .inr (0,c)) (.inl (Zr p x.Tours)) (by omega) (fun k t ht hno=> ?_) (fun _=>by simp[QaR,oun]) (((x.Tours.length:Nat):Int).toNat+1) (by simp)
 ·exact this
 ·have hk:=Qp ht;have hk2:((k:Int)<(x.Tours.length:Nat)):=by omega
  have hb:=Qf3 hp k (Nat.le_of_lt hk) (fun j y hj hy=>by
   have:=hno j y hj hy;cases h:QdB p x.Tours j y with
   | none=>rfl
   | some c=>rw[h] at this;cases this)
  simp only[QaR,oun,hk2,decide_true,cond_true,Qm,ht,Option.bind_some,Qan (Nat.le_of_lt hk)]
  rw[QjH _ (by simp;omega)]
  simp only[Option.bind_some]
  unfold QdB;cases (x.Tours.take k).any (fun u=>decide (u.Vehicle=t.Vehicle)) with
  | true=>rfl
  | false =>
   simp only[cond_false]
   have hfo:=Qgi hF hp t;cases hr:Vd p t with
   | inr q =>
    rw[hr] at hfo
    simp only[hfo,Option.bind_some]
    rw[show decide (q.1=0)=false by simpa using Qbq hr]
    rfl
   | inl u =>
    rw[hr] at hfo
    obtain ⟨w,h1,_,h3⟩:=hfo;have h2:=V4 hp hr;have h4:(Y4 p t).1=Qbr p u.2.2.Depot u.2.1:=by unfold Y4;rw[hr]
    simp only[h1,Option.bind_some,decide_true,Bool.not_true,cond_false,h3,Option.map_none,ZL]
    rw[Yb (n:=Zr p (x.Tours.take k)+Qbr p u.2.2.Depot u.2.1) (by omega) (by omega),YF ht]
    unfold Zr
    rw[QcD]
    have h5:QbU (fun t=>(Y4 p t).1) [t]=(Y4 p t).1:=by simp[QbU]
    rw[h5,h4]
theorem Qnp {p:Pr} (hp:OkP p) (hc:Qq p=some 0) (x:Qh) (hn:x.Tours.length≤30) :
  iter (Zs p x) (((x.Tours.length:Nat):Int).toNat+1) 0=some (YI (fun k t=>(QdB p x.Tours k t).map fun c=> .inr c) (.inl ()) 0 x.Tours):=by
 refine YL (body:=Zs p x) x.Tours (fun k t=>(QdB p x.Tours k t).map fun c=> .inr c) (.inl ()) (by omega) (fun k t ht=> ?_) (by simp[Zs]) (((x.Tours.length:Nat):Int).toNat+1) (by simp);have hk:=Qp ht;have hk2:((k:Int)<(x.Tours.length:Nat)):=by omega
 have hin:=YL (body:=Jv x (k:Int) t) (x.Tours.take k) (fun _ u=>bif decide (u.Vehicle=t.Vehicle) then some (.inr 6) else none) (.inl ():Unit⊕Int) (by simp;omega) (fun j u hu=>by
  have hj:=Qp hu
  rw[Yf (Nat.le_of_lt hk)] at hj
  rw[List.getElem?_take,if_pos hj] at hu
  have hj2:((j:Int)<(k:Int)):=by omega
  simp only[Jv,hj2,decide_true,cond_true,Qm,hu,Option.bind_some]
  cases decide (u.Vehicle=t.Vehicle)<;>rfl) (by rw[Yf (Nat.le_of_lt hk)];simp[Jv]) ((k:Int).toNat+1) (by rw[Yf (Nat.le_of_lt hk)];omega)
 rw[Qle] at hin
 simp only[Zs,hk2,decide_true,cond_true,Qm,ht,Option.bind_some]
 rw[hin]
 unfold QdB;cases (x.Tours.take k).any (fun u=>decide (u.Vehicle=t.Vehicle)) with
 | true=>rfl
 | false =>
  simp only[cond_false,Option.bind_some,Qy,Qi9 hp hc]
  unfold QfT;cases hr:Vd p t with
  | inr q =>
   simp only[oun]
   rw[show decide (q.1=0)=false by simpa using Qbq hr]
   rfl
  | inl u=>rfl
end Go.Proofs.YtoojkdejnbnniaaGreat
namespace Go.Proofs.YtoojkdejnbnniaaGreat
open Go.RowKit
set_option linter.unusedSimpArgs false
set_option linter.unusedVariables false
theorem Qgb {α γ:Type} (g:Nat→α→Option γ): ∀(l:List α) (k:Nat),(∀(i:Nat) (x:α),l[i]? =some x→g (k+i) x=none) ∨
  ∃(c:γ) (i:Nat) (x:α),g i x=some c∧ ∀{ρ:Type} (h:γ→ρ) (fin:ρ),YI (fun k t=>(g k t).map h) fin k l=h c
 | [],k=> .inl fun i x h=>by simp at h
 | y::l,k=>by
  cases hg:g k y with
  | some c=>exact .inr ⟨c,k,y,hg,fun h fin=>by simp only[YI,hg,Option.map_some]⟩
  | none =>
   rcases Qgb g l (k+1) with h1 | ⟨c,i,x,h1,h2⟩
   ·refine .inl fun i x hx=> ?_;cases i with
    | zero=>simp at hx;subst hx;exact hg
    | succ i=>have:=h1 i x (by simpa using hx);rwa [show k+(i+1)=k+1+i by omega]
   ·exact .inr ⟨c,i,x,h1,fun h fin=>by simp only[YI,hg,Option.map_none];exact h2 h fin⟩
theorem Qlj {p:Pr} {ts:List To} {k:Nat} {t:To} {c:Int} (h:QdB p ts k t=some c):c≠0:=by
 unfold QdB at h;cases hb:(ts.take k).any (fun u=>decide (u.Vehicle=t.Vehicle)) with
 | true=>rw[hb] at h;injection h with h;subst h;decide
 | false =>
  rw[hb] at h
  simp only[cond_false] at h
  cases hr:Vd p t with
  | inl u=>rw[hr] at h;cases h
  | inr q=>rw[hr] at h;injection h with h;subst h;exact Qbq hr
theorem Qol {F:Nat} (hF:40000≤F) {p:Pr} (hn:p.Road.Edges.length≤600) (x:Qh) (hx:x.Tours.length≤30) (hl:x.Left.length≤100) :
  ∃s e,Zc F p x=some (s,e)∧QO p x=some e∧Yg p x=some (s,e):=by
 rcases Qc9 p hn with ⟨g1,g2⟩ | ⟨e,g1,g2⟩
 ·have hdl:=g2.dl;have ht: ∀e,QO p x=some e→e≠0→Yg p x=some (0,e):=fun e he h0=>by
   unfold Yg
   rw[he]
   simp only[Option.bind_some]
   rw[show decide (e=0)=false by simpa using h0]
   rfl
  rcases Qgb (QdB p x.Tours) x.Tours 0 with h1 | ⟨c,i,t,h1,h2⟩
  ·simp only[Nat.zero_add] at h1
   have hall: ∀t∈x.Tours,(∀s∈t.Stops,okS p.Demands.length s)∧t.Stops.length≤40:=fun t htm=>by
    obtain ⟨i,hi⟩:=List.getElem?_of_mem htm;obtain ⟨u,hu⟩:=QdC (h1 i t hi);exact (V4 g2 hu).2.2
   have q1:=Qfy hF g2 x hx
   rw[QK _ _ (fun i t hi=>by rw[Nat.zero_add,h1 i t hi];rfl)] at q1
   have q2:=Qnp g2 g1 x hx
   rw[QK _ _ (fun i t hi=>by rw[Nat.zero_add,h1 i t hi];rfl)] at q2
   have q3:=(QdK (n:=p.Demands.length) x (fun _=>0) (by omega) (fun _=>Nat.zero_le _)).1;have q4:=(Qc1 (n:=p.Demands.length) x (fun d=>0+cn x.Left d) (by omega) (fun d=>by have:=QjO x.Left d;omega) (fun t htm=>by have:=(hall t htm).2;omega) (fun t htm=>(hall t htm).1)).1;have q5:=(Qc1 (n:=p.Demands.length) x (fun _=>0) (by omega) (fun d=>by omega) (fun t htm=>by have:=(hall t htm).2;omega) (fun t htm=>(hall t htm).1)).2;have q6:=(QdK (n:=p.Demands.length) x (fun d=>0+tn x.Tours d) (by omega) (fun d=>by have:=QnM (ts:=x.Tours) (fun t htm=>by have:=(hall t htm).2;omega) d;omega)).2;have q7:(vec p.Demands.length fun d=>0+tn x.Tours d+cn x.Left d)=vec p.Demands.length fun d=>0+cn x.Left d+tn x.Tours d:=Qax fun d _=>by omega
   rw[q7] at q6
   have hfe:QO p x=some (bif QfY p.Demands.length x.Left then 7 else QhV (vec p.Demands.length fun d=>0+cn x.Left d+tn x.Tours d)):=by
    unfold QO QbS
    rw[g1]
    simp only[Option.bind_some,decide_true,Bool.not_true,cond_false]
    rw[q2]
    simp only[Option.bind_some,Qy]
    rw[QdM _ (by omega)]
    simp only[Option.bind_some]
    rw[q5]
    simp only[Option.bind_some]
    rw[q6]
    cases QfY p.Demands.length x.Left with
    | true=>rfl
    | false =>
     simp only[cond_false,Option.bind_some,Qy,oun,decide_true,Bool.not_true]
     rw[Qoh _ (by rw[VD];omega)]
     unfold QhV
     generalize (vec p.Demands.length fun d=>0+cn x.Left d+tn x.Tours d).any (fun c=>decide (1<c))=a
     generalize (vec p.Demands.length fun d=>0+cn x.Left d+tn x.Tours d).any (fun c=>decide (c=0))=b
     cases a<;>cases b<;>rfl
   have hpl:Zc F p x=some (bif QfY p.Demands.length x.Left then (0,7) else (bif decide (QhV (vec p.Demands.length fun d=>0+cn x.Left d+tn x.Tours d)=0) then Zr p x.Tours else 0,QhV (vec p.Demands.length fun d=>0+cn x.Left d+tn x.Tours d))):=by
    unfold Zc
    rw[Zy (by omega) _ hn,g1]
    simp only[Option.bind_some,decide_true,Bool.not_true,cond_false]
    rw[q1]
    simp only[Option.bind_some,Qy]
    rw[QdM _ (by omega)]
    simp only[Option.bind_some]
    rw[q3]
    cases QfY p.Demands.length x.Left with
    | true=>rfl
    | false =>
     simp only[cond_false,Option.bind_some,Qy]
     rw[q4]
     simp only[Option.bind_some]
     rw[Qid _ (by rw[VD];omega),Qij _ (by rw[VD];omega)]
     unfold QhV
     simp only[Option.bind_some]
     generalize (vec p.Demands.length fun d=>0+cn x.Left d+tn x.Tours d).any (fun c=>decide (1<c))=a
     generalize (vec p.Demands.length fun d=>0+cn x.Left d+tn x.Tours d).any (fun c=>decide (c=0))=b
     cases a<;>cases b<;>rfl
   cases hbl:QfY p.Demands.length x.Left with
   | true =>
    rw[hbl] at hfe hpl
    exact ⟨0,7,hpl,hfe,ht 7 hfe (by decide)⟩
   | false =>
    rw[hbl] at hfe hpl
    simp only[cond_false] at hfe hpl
    by_cases h0:QhV (vec p.Demands.length fun d=>0+cn x.Left d+tn x.Tours d)=0
    ·rw[h0] at hfe hpl
     refine ⟨Zr p x.Tours,0,by simpa using hpl,hfe,?_⟩;unfold Yg
     rw[hfe]
     simp only[Option.bind_some,decide_true,Bool.not_true,cond_false]
     have:=YD (body:=Wm p x) x.Tours (fun k=>Zr p (x.Tours.take k)) (fun m k=>(m,k)) (fun _ _=>none) (Zr p x.Tours) (by omega) (fun k t htk _=> ?_) (fun _=>by simp[Wm,oun]) (((x.Tours.length:Nat):Int).toNat+1) (by simp)
     ·rw[QK _ _ (fun _ _ _=>rfl)] at this
      have e0:Zr p (x.Tours.take 0)=0:=by simp[Zr,QbU]
      rw[e0] at this
      rw[this]
      rfl
     ·have hk:=Qp htk;have hk2:((k:Int)<(x.Tours.length:Nat)):=by omega
      have hb:=Qf3 g2 k (Nat.le_of_lt hk) (fun j y _ hy=>h1 j y hy);obtain ⟨u,hu⟩:=QdC (h1 k t htk);have h3:=V4 g2 hu;have h4:(Y4 p t).1=Qbr p u.2.2.Depot u.2.1:=by unfold Y4;rw[hu]
      simp only[Wm,oun,hk2,decide_true,cond_true,Qm,htk,Option.bind_some,QgW g2 g1,ZL]
      rw[Yb (n:=Zr p (x.Tours.take k)+(Y4 p t).1) (by omega) (by omega),YF htk]
      unfold Zr
      rw[QcD]
      have h5:QbU (fun t=>(Y4 p t).1) [t]=(Y4 p t).1:=by simp[QbU]
      rw[h5]
    ·rw[show decide (QhV (vec p.Demands.length fun d=>0+cn x.Left d+tn x.Tours d)=0)=false by simpa using h0] at hpl
     exact ⟨0,_,hpl,hfe,ht _ hfe h0⟩
  ·have hc0:=Qlj h1;have q1:=Qfy hF g2 x hx
   rw[h2] at q1
   have q2:=Qnp g2 g1 x hx
   rw[h2] at q2
   have hfe:QO p x=some c:=by
    unfold QO
    rw[g1]
    simp only[Option.bind_some,decide_true,Bool.not_true,cond_false]
    rw[q2]
    rfl
   refine ⟨0,c,?_,hfe,ht c hfe hc0⟩;unfold Zc
   rw[Zy (by omega) _ hn,g1]
   simp only[Option.bind_some,decide_true,Bool.not_true,cond_false]
   rw[q1]
   rfl
 ·refine ⟨0,e,?_,?_,?_⟩
  ·unfold Zc
   rw[Zy (by omega) _ hn,g2]
   simp only[Option.bind_some]
   rw[show decide (e=0)=false by simpa using g1]
   rfl
  ·unfold QO
   rw[g2]
   simp only[Option.bind_some]
   rw[show decide (e=0)=false by simpa using g1]
   rfl
  ·unfold Yg QO
   rw[g2]
   simp only[Option.bind_some]
   rw[show decide (e=0)=false by simpa using g1]
   simp only[Bool.not_false,cond_true,Option.bind_some]
   rw[show decide (e=0)=false by simpa using g1]
   rfl
end Go.Proofs.YtoojkdejnbnniaaGreat
