/- ExactServes: for every input the given law returns true, and its arguments read as before. No condition. -/
import Derived.Test.YtilbengnjgglhaaGreatc2x1
import Derived.Sort.OwnSortedInts
import Derived.Laws.MakeOwn
import Derived.Laws.Entries
import Derived.Scope
import Derived.Laws.StructEq
namespace Go.Proofs.YtilbengnjgglhaaGreat
open Go.RowKit
set_option linter.unusedSimpArgs false
set_option linter.unusedVariables false
theorem Qf {α β:Type} {m:Option α} {f:α→Option β} {r:β} (h:m.bind f=some r): ∃x,m=some x∧f x=some r:=by
 cases m with
 | none=>cases h
 | some x=>exact ⟨x,rfl,h⟩
def QQ {α β γ:Type} (o:α⊕β) (f:α→γ) (g:β→γ):γ:=match o with
 | .inl a=>f a
 | .inr b=>g b
theorem Zc {α β γ:Type} {a:α} {f:α→γ} {g:β→γ} {r:γ} (h:QQ (.inl a) f g=r):f a=r:=h
theorem YE {α β γ:Type} {b:β} {f:α→γ} {g:β→γ} {r:γ} (h:QQ (.inr b) f g=r):g b=r:=h
def oun {α β γ:Type} (j:α×β) (f:α→β→γ):γ:=f j.1 j.2
abbrev JT {α β:Type} (j:α×β) (f:α→β→Prop):Prop:=f j.1 j.2
theorem Qh {α β γ:Type} {a:α} {b:β} {f:α→β→γ} {r:γ} (h:oun (a,b) f=r):f a b=r:=h
def iter {σ ρ:Type} (body:σ→Option (σ⊕ρ)):Nat→σ→Option ρ
 | 0,_=>none
 | n+1,s=>(body s).bind fun q=>QQ q (fun s'=>iter body n s') fun r=>some r
def QJ {α:Type} (xs:List α) (k:Int):Option α:=if 0≤k then xs[k.toNat]? else none
def Z2 {α:Type} (xs:List α) (k:Int) (x:α):List α:=xs.set k.toNat x
theorem ZT {α:Type} (xs:List α) (k:Int) (x:α):(Z2 xs k x).length=xs.length:=by simp[Z2]
def Wh {α:Type} (xs ys:List α):Option (List α):=if xs.length+ys.length≤1000000 then some (xs++ys) else none
def W5 (p:Prop) [Decidable p]:Option Unit:=if p then some () else none
theorem JE {p:Prop} [Decidable p] {u:Unit} (h:W5 p=some u):p:=by
 unfold W5 at h;split at h
 ·assumption
 ·cases h
theorem Zr {α:Type} {xs:List α} {k:Int} {x:α} (h:QJ xs k=some x):0≤k∧k<(xs.length:Nat)∧xs[k.toNat]? =some x:=by
 unfold QJ at h
 split at h
 ·refine ⟨by omega,?_,h⟩;rcases Nat.lt_or_ge k.toNat xs.length with h1 | h1
  ·omega
  ·rw[List.getElem?_eq_none h1] at h;cases h
 ·cases h
theorem Qe0 {α:Type} {xs ys zs:List α} (h:Wh xs ys=some zs):xs.length+ys.length≤1000000∧zs=xs++ys:=by
 unfold Wh at h
 split at h
 ·injection h with h;exact ⟨by assumption,h.symm⟩
 ·cases h
def Wv {β:Type} (k:Int):List (Int×β)→Option β
 | []=>none
 | p::r=>if p.1=k then some p.2 else Wv k r
def Qaq {β:Type} (k:Int) (v:β):List (Int×β)→List (Int×β)
 | []=>[(k,v)]
 | p::r=>if p.1=k then (k,v)::r else p::Qaq k v r
structure Rp (α:Type) where
 sz:Nat
 rep:Gh→α→List Value→Prop
 len: ∀{μ x cs},rep μ x cs→cs.length=sz
 mono: ∀{μ μ':Gh} {x cs},μ.le μ'→rep μ x cs→rep μ' x cs
 one: ∀{μ x cs},rep μ x cs→ ∀u∈cs,u.oneCell'=true
def rI (k:IntKind):Rp Int:=⟨1,fun _ n cs=>cs=[.int k n],fun h=>by rw[h];rfl,fun _ h=>h,fun h u hu=>by subst h;simp only[List.mem_singleton] at hu;subst hu;rfl⟩
def QD:Rp Int:=rI .i64
def W0:Rp Bool:=⟨1,fun _ n cs=>cs=[.bool n],fun h=>by rw[h];rfl,fun _ h=>h,fun h u hu=>by subst h;simp only[List.mem_singleton] at hu;subst hu;rfl⟩
def QlO:Rp ByteArray:=⟨1,fun _ n cs=>cs=[.string n],fun h=>by rw[h];rfl,fun _ h=>h,fun h u hu=>by subst h;simp only[List.mem_singleton] at hu;subst hu;rfl⟩
def Qdu {α:Type} (sz:Nat) (enc:α→List Value) (hl: ∀x,(enc x).length=sz) (h1: ∀x,∀u∈enc x,u.oneCell'=true):Rp α :=
 ⟨sz,fun _ x cs=>cs=enc x,fun h=>by rw[h];exact hl _,fun _ h=>h,fun h u hu=>by subst h;exact h1 _ u hu⟩
def wfI (k:IntKind) (n:Int):Prop:=(Lit.int k n).wf=true
def All2 {α β:Type} (R:α→β→Prop) (xs:List α) (ys:List β):Prop:=xs.length=ys.length∧ ∀(i:Nat) (x:α) (y:β),xs[i]? =some x→ys[i]? =some y→R x y
section
variable {α β:Type} {R:α→β→Prop} {xs:List α} {ys:List β}
theorem All2.nil:All2 R [] []:=⟨rfl,fun i x y h=>by simp at h⟩
theorem All2.mono {R':α→β→Prop} (h:All2 R xs ys) (hr: ∀x y,R x y→R' x y):All2 R' xs ys:=⟨h.1,fun i x y h1 h2=>hr _ _ (h.2 i x y h1 h2)⟩
theorem All2.get (h:All2 R xs ys) {i:Nat} {x:α} (hi:xs[i]? =some x): ∃y,ys[i]? =some y∧R x y:=by
 have hlt:i<xs.length:=by
  rcases Nat.lt_or_ge i xs.length with h | h
  ·exact h
  ·rw[List.getElem?_eq_none h] at hi;cases hi
 have hy:ys[i]? =some (ys[i]'(by rw[←h.1];exact hlt)):=by simp
 exact ⟨_,hy,h.2 i x _ hi hy⟩
theorem All2.get' (h:All2 R xs ys) {y:β} (hy:y∈ys): ∃x,R x y:=by
 obtain ⟨i,hi⟩:=List.getElem?_of_mem hy;have hlt:i<ys.length:=by
  rcases Nat.lt_or_ge i ys.length with h | h
  ·exact h
  ·rw[List.getElem?_eq_none h] at hi;cases hi
 exact ⟨_,h.2 i (xs[i]'(by rw[h.1];exact hlt)) y (by simp) hi⟩
theorem All2.append {us:List α} {vs:List β} (h:All2 R xs ys) (k:All2 R us vs):All2 R (xs++us) (ys++vs):=by
 refine ⟨by simp[h.1,k.1],fun i x y h1 h2=> ?_⟩;rcases Nat.lt_or_ge i xs.length with hi | hi
 ·rw[List.getElem?_append_left hi] at h1
  rw[List.getElem?_append_left (by rw[←h.1];exact hi)] at h2
  exact h.2 i x y h1 h2
 ·rw[List.getElem?_append_right hi] at h1
  rw[List.getElem?_append_right (by rw[←h.1];exact hi),←h.1] at h2
  exact k.2 _ x y h1 h2
theorem All2.cons {x:α} {y:β} (h:R x y) (k:All2 R xs ys):All2 R (x::xs) (y::ys):=by
 refine ⟨by simp[k.1],fun i a b h1 h2=> ?_⟩;cases i with
 | zero=>simp at h1 h2;subst h1 h2;exact h
 | succ i=>exact k.2 i a b (by simpa using h1) (by simpa using h2)
theorem All2.set (h:All2 R xs ys) (i:Nat) {x:α} {y:β} (hr:R x y):All2 R (xs.set i x) (ys.set i y):=by
 refine ⟨by simp[h.1],fun j a b h1 h2=> ?_⟩
 rw[List.getElem?_set] at h1 h2
 by_cases hij:i=j
 ·subst hij
  by_cases hl:i<xs.length
  ·have hl2:i<ys.length:=by rw[←h.1];exact hl
   simp[hl] at h1
   simp[hl2] at h2
   subst h1 h2;exact hr
  ·simp[hl] at h1
 ·rw[if_neg hij] at h1 h2
  exact h.2 j a b h1 h2
theorem All2.take (h:All2 R xs ys) (n:Nat):All2 R (xs.take n) (ys.take n):=by
 refine ⟨by simp[h.1],fun i x y h1 h2=> ?_⟩
 rw[List.getElem?_take] at h1 h2
 split at h1
 ·rename_i hlt;rw[if_pos hlt] at h2;exact h.2 i x y h1 h2
 ·cases h1
theorem All2.drop (h:All2 R xs ys) (n:Nat):All2 R (xs.drop n) (ys.drop n):=by
 refine ⟨by simp[h.1],fun i x y h1 h2=> ?_⟩
 rw[List.getElem?_drop] at h1 h2
 exact h.2 _ x y h1 h2
end
section
variable {α:Type} {r:Rp α} {e:TypeId} {μ μ':Gh} {L:List Seg} {A:Option Addr} {n c:Nat} {v:Value} {xs:List α} {ch:Seg} {k:Int} {x:α}
def Qj (r:Rp α) (μ:Gh) (A:Option Addr) (xs:List α):Prop:= ∃css,Arr μ A r.sz css∧All2 (r.rep μ) xs css
def Rds (r:Rp α) (μ:Gh) (L:List Seg) (A:Option Addr) (xs:List α):Prop:= ∃css,Rd μ L A r.sz css∧All2 (r.rep μ) xs css
def Own (r:Rp α) (e:TypeId) (μ:Gh) (v:Value) (xs:List α) (ch:Seg):Prop:= ∃css,JD e r.sz v css ch∧All2 (r.rep μ) xs css
theorem Qj.mono (h:Qj r μ A xs) (hm:μ.le μ'):Qj r μ' A xs:=by
 obtain ⟨css,h1,h2⟩:=h;exact ⟨css,h1.mono hm,h2.mono fun _ _=>r.mono hm⟩
theorem Qj.nil:Qj r μ A []:=⟨[],Arr.nil,All2.nil⟩
theorem Qj.rds (h:Qj r μ A xs) (L:List Seg):Rds r μ L A xs:=by
 obtain ⟨css,h1,h2⟩:=h;exact ⟨css,h1.rd,h2⟩
theorem Rds.mono (h:Rds r μ L A xs) (hm:μ.le μ'):Rds r μ' L A xs:=by
 obtain ⟨css,h1,h2⟩:=h;exact ⟨css,h1.mono hm fun _ h=>h,h2.mono fun _ _=>r.mono hm⟩
theorem Rds.push {s:Seg} (h:Rds r μ L A xs):Rds r μ (s::L) A xs:=by
 obtain ⟨css,h1,h2⟩:=h;exact ⟨css,h1.cons,h2⟩
theorem Rds.nil:Rds r μ L A []:=⟨[],Rd.nil,All2.nil⟩
theorem Own.mono (h:Own r e μ v xs ch) (hm:μ.le μ'):Own r e μ' v xs ch:=by
 obtain ⟨css,h1,h2⟩:=h;exact ⟨css,h1,h2.mono fun _ _=>r.mono hm⟩
theorem Own.nil:Own r e μ (.slice none 0 0) [] []:=⟨[],JD.nil,All2.nil⟩
theorem Own.form (h:Own r e μ v xs ch): ∃A c,v= .slice A xs.length c∧xs.length≤c∧c≤maxLen:=by
 obtain ⟨css,h1,h2⟩:=h;obtain ⟨A,c,h3,h4,h5⟩:=h1.form
 rw[←h2.1] at h3 h4
 exact ⟨A,c,h3,h4,h5⟩
theorem Own.rds (h:Own r e μ (.slice A n c) xs ch) (i:Nat) (hi:L[i]? =some ch):Rds r μ L A xs:=by
 obtain ⟨css,h1,h2⟩:=h;exact ⟨css,h1.rd i hi,h2⟩
theorem Own.le (h:Own r e μ v xs ch):xs.length≤9223372036854775807:=by
 obtain ⟨A,c,_,h1,h2⟩:=h.form;exact Nat.le_trans h1 h2
theorem Qhj {α:Type} {xs:List α} {c:Nat} (h:xs.length=c) (hb:Nat.ble c 1000000=true):xs.length≤c∧c≤maxLen:=by
 have:=Nat.le_of_ble_eq_true hb;exact ⟨by omega,by unfold maxLen;omega⟩
theorem Own.lenOk (h:Own r e μ (.slice A n c) xs ch):xs.length≤c∧c≤maxLen:=by
 obtain ⟨A',c',h1,h2,h3⟩:=h.form;injection h1 with _ _ h1
 subst h1;exact ⟨h2,h3⟩
theorem Zo.sub {a:Addr} {vs us:List Value} (h:Zo μ L a vs) (o:Nat) (hu:(vs.drop o).take us.length=us):Zo μ L (a.add o) us:=by
 intro j v hj
 rw[Addr.add_add']
 refine h _ _ ?_
 rw[←hu,List.getElem?_take] at hj
 split at hj
 ·rwa [List.getElem?_drop] at hj
 ·cases hj
theorem Wf.push {s:Seg} {b:Nat} {o:Obj} (h:Wf μ L b o):Wf μ (s::L) b o:=Wf.mono h (Gh.le.refl _) (by intro c hc;simp only[List.flatten_cons,List.mem_append];exact .inr hc)
theorem Rds.getI (h:Rds r μ L A xs) (hx:Go.Proofs.YtilbengnjgglhaaGreat.QJ xs k=some x): ∃a cs,A=some a∧r.rep μ x cs∧cs.length=r.sz∧Zo μ L (a.add (k.toNat*r.sz)) cs:=by
 obtain ⟨css,h1,h2⟩:=h;obtain ⟨_,_,h3⟩:=Zr hx;obtain ⟨cs,h4,h5⟩:=h2.get h3;obtain ⟨a,h6,h7⟩:=h1.at_ h4;exact ⟨a,cs,h6,h5,r.len h5,h7⟩
theorem Zo.push {a:Addr} {vs:List Value} {s:Seg} (h:Zo μ L a vs):Zo μ (s::L) a vs:=h.mono (Gh.le.refl _) (by intro c hc;simp only[List.flatten_cons,List.mem_append];exact .inr hc)
theorem Zo.any {a:Addr} {vs:List Value} (h:Zo μ [] a vs) (L:List Seg):Zo μ L a vs:=h.mono (Gh.le.refl _) (by simp)
theorem Zo.lift {a:Addr} {vs:List Value} (h:Zo μ L a vs) (hm:μ.le μ'):Zo μ' L a vs:=h.mono hm fun _ h=>h
def Qbv (r:Rp α):Rp (List α) where
 sz:=1
 rep μ xs cs:= ∃A c,cs=[.slice A xs.length c]∧xs.length≤c∧c≤maxLen∧Qj r μ A xs
 len:=by rintro μ x cs ⟨A,c,rfl,_⟩;rfl
 mono:=by rintro μ μ' x cs hm ⟨A,c,h1,h2,h3,h4⟩;exact ⟨A,c,h1,h2,h3,h4.mono hm⟩
 one:=by rintro μ x cs ⟨A,c,rfl,_⟩ u hu;simp only[List.mem_singleton] at hu;subst hu;rfl
theorem Rds.lit (i:Nat) {g:Nat} {cs:List Value} {f:Nat×Nat} {css:List (List Value)} (hi:L[i]? =some [(g,.cells cs.toArray e f)]) (hc:cs=css.flatten) (ha:All2 (r.rep μ) xs css):Rds r μ L (some ⟨g,0,none⟩) xs :=
 ⟨css,Rd.chunk i hi (fun c hc=>by obtain ⟨x,hx⟩:=ha.get' hc;exact r.len hx) hc,ha⟩
theorem Own.lit {g:Nat} {cs:List Value} {css:List (List Value)} (hc:cs=css.flatten) (ha:All2 (r.rep μ) xs css) (hn:Nat.ble xs.length 1000=true) (hl:xs.length=n):Own r e μ (.slice (some ⟨g,0,none⟩) n n) xs [(g,.cells cs.toArray e (0,0))]:=by
 have h1: ∀c∈css,c.length=r.sz:=fun c hc=>by obtain ⟨x,hx⟩:=ha.get' hc;exact r.len hx
 have h2:=Nat.le_of_ble_eq_true hn;refine ⟨css,⟨h1,.inr ⟨g,n,cs.toArray,by rw[←ha.1,hl],rfl,by rw[←ha.1,hl];exact Nat.le_refl _,by unfold maxLen;omega,?_,?_⟩⟩,ha⟩
 ·rw[List.size_toArray,hc,Yq h1,←ha.1,hl]
 ·rw[List.toList_toArray,hc,←Yq h1,List.take_length]
theorem Own.empty {g:Nat}:Own r e μ (.slice (some ⟨g,0,none⟩) 0 0) ([]:List α) [(g,.cells #[] e (0,0))]:=Own.lit (css:=[]) rfl All2.nil rfl rfl
theorem Upd.frzOwn {K:Gh→List Seg→Prop} (i:Nat) (hi:L[i]? =some ch) (h:Own r e μ (.slice A n c) xs ch) (hk: ∀μ',μ.le μ'→Qj r μ' A xs→Upd μ' (L.set i []) K):Upd μ L K:=by
 obtain ⟨css,h1,h2⟩:=h;refine Upd.arr i hi h1 fun A' c' μ' hv _ _ hm ha=> ?_;injection hv with hv _ _
 subst hv;exact hk μ' hm ⟨css,ha,h2.mono fun _ _=>r.mono hm⟩
theorem WP.frzOwn {P:Program} {N:NN} {cd:Code} {K:QW} {B:Nat→QW} {Rk:QW} {fr:Fr} (i:Nat) (hi:L[i]? =some ch) (h:Own r e μ (.slice A n c) xs ch)
  (hk: ∀μ',μ.le μ'→Qj r μ' A xs→WP P N cd K B Rk fr μ' (L.set i [])):WP P N cd K B Rk fr μ L :=
 WP.upd (Upd.frzOwn i hi h fun μ' hm ha=>Upd.done (hk μ' hm ha))
theorem Fn.pre {P:Program} {f:FuncId} {args:List Value} {R:Value→Gh→List Seg→Prop} {fn:Func} (hf:P.funcs[f]? =some fn) (hnm:(fn.name== "runtime.NumGoroutine")=false) (hb:fn.body.isNone=false)
  (h:Upd μ L fun μ' L'=>Fn P f args μ' L' R):Fn P f args μ L R:=by
 refine .inl ⟨⟨fn,hf,hnm,hb⟩,fun w hw=> ?_⟩;obtain ⟨μ1,L1,h1,h2,h3⟩:=h w hw;rcases h3 with ⟨_,h3⟩ | ⟨fn',_,hf',_,hb',_⟩
 ·exact (h3 w h2).mono fun _ w' ⟨v,μ',L',he,hm,hi,hR⟩=>⟨v,μ',L',he,h1.trans hm,hi,hR⟩
 ·rw[hf] at hf'
  injection hf' with hf'
  subst hf'
  rw[hb] at hb';cases hb'
end
def QS:List (Option Nat)→Nat→List Seg→List Seg
 | [],k,L=>L.drop k
 | none::r,k,L=>[]::QS r k L
 | some i::r,k,L=>(L[i]?.getD [])::QS r k (L.set i [])
def Qc (L2 L:List Seg):Prop:= ∀w μ,Inv w μ L→Inv w μ L2
theorem Qc.sel (L:List Seg): ∀(idx:List (Option Nat)) (k:Nat),Qc (QS idx k L) L:=by
 intro idx
 induction idx generalizing L with
 | nil=>exact fun k w μ h=>h.sub (by
   simp only[QS]
   conv=>rhs;rw[←List.take_append_drop k L,List.flatten_append]
   exact List.sublist_append_right _ _)
 | cons o r ih =>
  intro k w μ h;cases o with
  | none =>
   have:=ih L k w μ h;exact this.perm (by simp[QS])
  | some i =>
   simp only[QS]
   cases hi:L[i]? with
   | none =>
    have hs:L.set i []=L:=by
     rw[List.set_eq_of_length_le]
     rcases Nat.lt_or_ge i L.length with h | h
     ·rw[List.getElem?_eq_getElem h] at hi;cases hi
     ·exact h
    rw[hs]
    have:=ih L k w μ h;exact this.perm (by simp)
   | some s =>
    have hp:=h.perm (Zz hi);have key: ∀(idx:List (Option Nat)) (L:List Seg),∃M,L.flatten.Perm ((QS idx k L).flatten++M):=by
     intro idx
     induction idx with
     | nil =>
      intro L;refine ⟨(L.take k).flatten,?_⟩
      simp only[QS]
      conv=>lhs;rw[←List.take_append_drop k L,List.flatten_append]
      exact List.perm_append_comm
     | cons o r ih2 =>
      intro L;cases o with
      | none =>
       obtain ⟨M,hM⟩:=ih2 L;exact ⟨M,by simpa [QS] using hM⟩
      | some j =>
       simp only[QS]
       cases hj:L[j]? with
       | none =>
        have hs:L.set j []=L:=by
         rw[List.set_eq_of_length_le]
         rcases Nat.lt_or_ge j L.length with h | h
         ·rw[List.getElem?_eq_getElem h] at hj;cases hj
         ·exact h
        obtain ⟨M,hM⟩:=ih2 L;exact ⟨M,by rw[hs];simpa using hM⟩
       | some t =>
        obtain ⟨M,hM⟩:=ih2 (L.set j []);refine ⟨M,(Zz hj).trans ?_⟩
        simp only[List.flatten_cons,Option.getD_some,List.append_assoc]
        exact hM.append_left t
    obtain ⟨M,hM⟩:=key r (L.set i []);have h2:(s::L.set i []).flatten.Perm ((s::QS r k (L.set i [])).flatten++M):=by
     simp only[List.flatten_cons,List.append_assoc]
     exact hM.append_left s
    refine (hp.perm (L':=[(s::QS r k (L.set i [])).flatten,M]) (by simpa using h2)).sub ?_
    simp only[Option.getD_some,List.flatten_cons,List.flatten_nil,List.append_nil,List.append_assoc]
    rw[←List.append_assoc]
    exact List.sublist_append_left _ _
def Qg (F fr:Fr):Prop:= ∀t v,JZ F t=some v→JZ fr t=some v
theorem Qg.trans {F fr fr2:Fr} (h:Qg F fr) (h2:Qg fr fr2):Qg F fr2:=fun t v hv=>h2 t v (h t v hv)
theorem Qc.trans {A M B:List Seg} (h:Qc A M) (h2:Qc M B):Qc A B:=fun w μ hw=>h w μ (h2 w μ hw)
theorem Qg.of {F fr:Fr} (h:Qif F fr):Qg F fr:=h.look
section
variable {P:Program} {T:TT} {N:NN} {K:QW} {B:Nat→QW} {R:QW} {fr:Fr} {μ:Gh} {L:List Seg}
theorem WP.at {c:Code} {F:Fr} {L2:List Seg} (hF:Qg F fr) (hL:Qc L2 L) (h:WP P N c K B R F μ L2):WP P N c K B R fr μ L:=fun a w ha hw=>h a w (ha.sub hF) (hL w μ hw)
theorem WP.cut {x y:Code} (M:QW) (h1:WP P N x M B R fr μ L) (h2: ∀fr' μ' L',μ.le μ'→M fr' μ' L'→WP P N y K B R fr' μ' L'):WP P N (.seq x y) K B R fr μ L :=
 WP.seq (h1.mono (fun fr' μ' L' hm h=>h2 fr' μ' L' hm h) (fun _ _ _ _ _ h=>h) fun _ _ _ _ h=>h)
theorem WP.cutK {x:Code} (M:QW) (h1:WP P N x M B R fr μ L) (h2: ∀fr' μ' L',μ.le μ'→M fr' μ' L'→K fr' μ' L'):WP P N x K B R fr μ L :=
 h1.mono (fun fr' μ' L' hm h=>h2 fr' μ' L' hm h) (fun _ _ _ _ _ h=>h) fun _ _ _ _ h=>h
theorem WP.iter {σ ρ:Type} {body:σ→Option (σ⊕ρ)} {n:Nat} {s0:σ} {o:ρ} {c:Code} (h:Go.Proofs.YtilbengnjgglhaaGreat.iter body n s0=some o) (I:σ→Fr→Gh→List Seg→Prop) (h0:I s0 fr μ L)
  (round: ∀s q fr' μ' L',μ.le μ'→I s fr' μ' L'→body s=some q→(∀r,q= .inr r→r=o)→WP P N c (fun fr2 μ2 L2=> ∃s',q= .inl s'∧I s' fr2 μ2 L2) B R fr' μ' L'):WP P N (.loop c) K B R fr μ L:=by
 refine WP.loop (fun n fr μ L=> ∃s,Go.Proofs.YtilbengnjgglhaaGreat.iter body n s=some o∧I s fr μ L) (n:=n) ⟨s0,h,h0⟩ ?_;rintro n fr1 μ1 L1 hm ⟨s,h1,h2⟩;cases n with
 | zero=>cases h1
 | succ n =>
  obtain ⟨q,hq,h3⟩:=Qf h1;refine (round s q fr1 μ1 L1 hm h2 hq (fun r e=>by subst e;exact Option.some.inj h3)).mono (fun fr2 μ2 L2 _ ⟨s',e,h4⟩=>⟨n,Nat.lt_succ_self n,s',by subst e;exact h3,h4⟩) (fun _ _ _ _ _ h=>h) (fun _ _ _ _ h=>h)
theorem Vh {g g':Nat} (h:Value.pointer (some ⟨g,0,none⟩)= .pointer (some ⟨g',0,none⟩)):g=g':=by
 injection h with h;injection h with h;injection h with h
theorem WP.seg {c:Code} {L2:List Seg} (hL:Qc L2 L) (h:WP P N c K B R fr μ L2):WP P N c K B R fr μ L:=fun a w ha hw=>h a w ha (hL w μ hw)
theorem Upd.seg {L2:List Seg} {k:Gh→List Seg→Prop} (hL:Qc L2 L) (h:Upd μ L2 k):Upd μ L k:=fun w hw=>h w (hL w μ hw)
theorem Fn.seg {f:FuncId} {args:List Value} {L2:List Seg} {R:Value→Gh→List Seg→Prop} (hL:Qc L2 L) (h:Fn P f args μ L2 R):Fn P f args μ L R:=by
 rcases h with ⟨h1,h2⟩ | ⟨fn,e,h1,h2,h3,h4,h5,h6⟩
 ·exact .inl ⟨h1,fun w hw=>h2 w (hL w μ hw)⟩
 ·exact .inr ⟨fn,e,h1,h2,h3,h4,h5,fun w hw=>h6 w (hL w μ hw)⟩
theorem Upd.selS {k:Gh→List Seg→Prop} (idx:List (Option Nat)) (n:Nat) (h:Upd μ (Go.Proofs.YtilbengnjgglhaaGreat.QS idx n L) k):Upd μ L k:=fun w hw=>h w (Qc.sel L idx n w μ hw)
theorem QI.of {keep L:List Seg} (h: ∀s∈keep,s∈L):QI keep L:=fun c hc=>by
 obtain ⟨s,h1,h2⟩:=List.mem_flatten.1 hc;exact List.mem_flatten.2 ⟨s,h s h1,h2⟩
variable {k:Value→Prop}
section
variable {t yt:TypeId} {x y:Operand} {kd:IntKind} {a b:Int}
theorem Qkv (h:evV fr x=some (.int kd a)) (h2:evV fr y=some (.int kd b)) (hk:k (.bool (decide (a=b)))):vcR P T (.binOp .eql t x y yt) fr μ L k:=QiI h h2 (fun e=>by rw[decide_eq_true e] at hk;exact hk) (fun e=>by rw[decide_eq_false e] at hk;exact hk)
theorem QkL (h:evV fr x=some (.int kd a)) (h2:evV fr y=some (.int kd b)) (hk:k (.bool (!decide (a=b)))):vcR P T (.binOp .neq t x y yt) fr μ L k:=Qlp h h2 (fun e=>by rw[decide_eq_false e] at hk;exact hk) (fun e=>by rw[decide_eq_true e] at hk;exact hk)
theorem QkD (h:evV fr x=some (.int kd a)) (h2:evV fr y=some (.int kd b)) (hk:k (.bool (decide (a<b)))):vcR P T (.binOp .lss t x y yt) fr μ L k:=Qlj h h2 (fun e=>by rw[decide_eq_true e] at hk;exact hk) (fun e=>by rw[decide_eq_false e] at hk;exact hk)
theorem QkB (h:evV fr x=some (.int kd a)) (h2:evV fr y=some (.int kd b)) (hk:k (.bool (decide (a≤b)))):vcR P T (.binOp .leq t x y yt) fr μ L k:=Qli h h2 (fun e=>by rw[decide_eq_true e] at hk;exact hk) (fun e=>by rw[decide_eq_false e] at hk;exact hk)
theorem Qky (h:evV fr x=some (.int kd a)) (h2:evV fr y=some (.int kd b)) (hk:k (.bool (decide (b<a)))):vcR P T (.binOp .gtr t x y yt) fr μ L k:=Qlh h h2 (fun e=>by rw[decide_eq_true e] at hk;exact hk) (fun e=>by rw[decide_eq_false e] at hk;exact hk)
theorem Qkx (h:evV fr x=some (.int kd a)) (h2:evV fr y=some (.int kd b)) (hk:k (.bool (decide (b≤a)))):vcR P T (.binOp .geq t x y yt) fr μ L k:=Qlg h h2 (fun e=>by rw[decide_eq_true e] at hk;exact hk) (fun e=>by rw[decide_eq_false e] at hk;exact hk)
theorem Qkt {i:TyI} {a b:Bool} (h:evV fr x=some (.bool a)) (h2:evV fr y=some (.bool b)) (hT:T t=some i) (hf:Qhh i.u=true) (hk:k (.bool (a==b))):vcR P T (.binOp .eql t x y yt) fr μ L k :=
 QiH h h2 hT hf (fun e=>by subst e;simpa using hk) (fun e=>by
                                   have:(a==b)=false:=by simpa using e
                                   rw[this] at hk;exact hk)
theorem QkI {i:TyI} {a b:Bool} (h:evV fr x=some (.bool a)) (h2:evV fr y=some (.bool b)) (hT:T t=some i) (hf:Qhh i.u=true) (hk:k (.bool (!(a==b)))):vcR P T (.binOp .neq t x y yt) fr μ L k :=
 Qln h h2 hT hf (fun e=>by
                have:(a==b)=false:=by simpa using e
                rw[this] at hk;exact hk) (fun e=>by subst e;simpa using hk)
theorem QkH {args:Array Operand} {tys:Array TypeId} {kd kd':IntKind} {x y:Int} (h:Vw fr args.toList=some [.int kd x,.int kd' y]) (hk:k (.int kd (min x y))):vcR P T (.call ⟨.builtin .min,args,tys⟩) fr μ L k :=
 QkG h (n:=min x y) (by rw[Int.min_def];split<;>split<;>omega) hk
theorem QkF {args:Array Operand} {tys:Array TypeId} {kd kd':IntKind} {x y:Int} (h:Vw fr args.toList=some [.int kd x,.int kd' y]) (hk:k (.int kd (max x y))):vcR P T (.call ⟨.builtin .max,args,tys⟩) fr μ L k :=
 QkE h (n:=max x y) (by rw[Int.max_def];split<;>split<;>omega) hk
end
theorem Qcu {t e:TypeId} {x n:Operand} {A:Option Addr} {len c:Nat} {kd:IntKind} {ix:Int} {i j:TyI} {sz:Nat} {a:Addr} (h:evV fr x=some (.slice A len c)) (h2:evV fr n=some (.int kd ix)) (hT:T t=some i) (hu:i.u= .slice e) (he:T e=some j) (hs:j.size=sz)
  (hb:0≤ix∧ix<(len:Nat)) (hA:A=some a) (hk:k (.pointer (some (a.add (ix.toNat*sz))))):vcR P T (.indexAddr t x n) fr μ L k:=QlL h h2 hT hu he hs ⟨hb.1,hb.2,a,hA,hk⟩
end
section
variable {P:Program} {T:TT} {μ:Gh} {L:List Seg} {α:Type} {r:Rp α}
theorem YX (hT:TOk P T) {t ty e:TypeId} {it ie:TyI} {k:Value→Gh→List Seg→Prop} (ht:T t=some it) (hu:it.u= .slice e) (he:T e=some ie) (hz:ie.zero.cells.size=ie.size) (hsz:0<ie.size) (hsr:ie.size=r.sz) (hby:Nat.ble ie.bytes 10000=true)
  {v:Value} {xs ys zs:List α} {ch:Seg} (i:Nat) (hi:L[i]? =some ch) (hown:Own r e μ v xs ch) {A:Option Addr} {m c:Nat} (hm:ys.length=m) (hr:Rds r μ L A ys) (hz2:Wh xs ys=some zs)
  (hk: ∀A' c' ch',Own r e μ (.slice A' zs.length c') zs ch'→k (.slice A' zs.length c') μ (L.set i ch')):YV P (Builtin.append_ #[t,t] ty #[v,.slice A m c]) μ L k:=by
 obtain ⟨css,h1,h2⟩:=hown;obtain ⟨nss,h3,h4⟩:=hr;obtain ⟨hb,rfl⟩:=Qe0 hz2;have hby:=Nat.le_of_ble_eq_true hby
 rw[←hsr] at h1 h3
 have hlen:css.length+m≤1000000:=by rw[←h2.1,←hm];exact hb
 refine Qh3 hT ht hu he hz hsz i hi h1 (news:=nss) (by rw[←h4.1,hm]) h3 (fun cs hc u hu=> ?_) (by omega) ?_ fun v' ch' hv _=> ?_
 ·obtain ⟨x,hx⟩:=h4.get' hc;exact r.one hx u hu
 ·exact Nat.le_trans (Nat.mul_le_mul hlen hby) (by decide)
 ·rw[hsr] at hv
  have ho:Own r e μ v' (xs++ys) ch':=⟨_,hv,h2.append h4⟩
  obtain ⟨A',c',rfl,_,_⟩:=ho.form;exact hk A' c' ch' ho
theorem Qgv {sz:Nat}: ∀{css:List (List Value)} {i o:Nat} {cs vs:List Value},(∀c∈css,c.length=sz)→css[i]? =some cs→o+vs.length≤sz→ ∀tl,WY (css.flatten++tl) (i*sz+o) vs=(css.set i (WY cs o vs)).flatten++tl
 | [],i,o,cs,vs,_,hi,_,tl=>by simp at hi
 | c::rs,0,o,cs,vs,h,hi,hl,tl=>by
  simp only[List.getElem?_cons_zero,Option.some.injEq] at hi
  subst hi;have hc:=h c (by simp)
  simp only[List.set_cons_zero,List.flatten_cons,Nat.zero_mul,Nat.zero_add,List.append_assoc]
  rw[V2 vs o (c++(rs.flatten++tl)) (by simp;omega),V2 vs o c (by omega)]
  rw[List.take_append_of_le_length (by omega),List.drop_append_of_le_length (by omega)]
  simp
 | c::rs,i+1,o,cs,vs,h,hi,hl,tl=>by
  have hc:=h c (by simp);have hi':rs[i]? =some cs:=by simpa using hi
  have hlt:i<rs.length:=by
   rcases Nat.lt_or_ge i rs.length with h | h
   ·exact h
   ·rw[List.getElem?_eq_none h] at hi';cases hi'
  have ih:=Qgv (o:=o) (vs:=vs) (fun c hc=>h c (by simp[hc])) hi' hl tl;have hfl:rs.flatten.length=rs.length*sz:=Yq fun c hc=>h c (by simp[hc]);have hb:i*sz+sz≤rs.length*sz:=by rw[←Nat.succ_mul];exact Nat.mul_le_mul_right _ hlt
  have e:(i+1)*sz+o=c.length+(i*sz+o):=by rw[hc,Nat.succ_mul];omega
  simp only[List.set_cons_succ,List.flatten_cons,List.append_assoc]
  rw[←ih,e,V2 vs _ _ (by simp only[List.length_append];omega),V2 vs (i*sz+o) _ (by simp only[List.length_append];omega)]
  rw[List.take_append,List.drop_append]
  have e1:c.length+(i*sz+o)-c.length=i*sz+o:=by omega
  have e2:c.length+(i*sz+o)+vs.length-c.length=i*sz+o+vs.length:=by omega
  rw[e1,e2,List.take_of_length_le (by omega),List.drop_of_length_le (by omega)]
  simp
theorem Own.store {e:TypeId} {A:Option Addr} {n c:Nat} {xs:List α} {ch:Seg} {a:Addr} {kx:Int} {x x':α} {vs:List Value} {o sz:Nat} {k:List Seg→Prop} (i:Nat) (hi:L[i]? =some ch) (h:Own r e μ (.slice A n c) xs ch) (hA:A=some a) (hx:QJ xs kx=some x) (hsz:r.sz=sz) (hl:Nat.ble (o+vs.length) sz=true)
  (hc: ∀y,r.rep μ x y→r.rep μ x' (WY y o vs)) (hk: ∀ch',Own r e μ (.slice A n c) (Z2 xs kx x') ch'→k (L.set i ch')):Ex (QaG L ((a.add (kx.toNat*sz)).add o) vs) k:=by
 obtain ⟨css,h1,h2⟩:=h;subst hsz;obtain ⟨_,_,hxn⟩:=Zr hx;obtain ⟨y,hy1,hy2⟩:=h2.get hxn;have hr:=hc y hy2;obtain ⟨cs',hcs'⟩: ∃z,WY y o vs=z:=⟨_,rfl⟩
 rw[hcs'] at hr
 have hl:=Nat.le_of_ble_eq_true hl;rcases h1.2 with ⟨_,rfl,_⟩ | ⟨g,cap,cur,hv,rfl,q1,q2,q3,q4⟩
 ·simp at hy1
 ·injection hv with hv1 hv2 hv3
  subst hA;injection hv1 with hv1
  subst hv1 hv2 hv3;have hlt:kx.toNat<css.length:=by
   rcases Nat.lt_or_ge kx.toNat css.length with h | h
   ·exact h
   ·rw[List.getElem?_eq_none h] at hy1;cases hy1
  have hcur:cur.toList=css.flatten++cur.toList.drop (css.length*r.sz):=by
   conv=>lhs;rw[←List.take_append_drop (css.length*r.sz) cur.toList,q4]
  have hfl:=Yq h1.1;have hb:kx.toNat*r.sz+r.sz≤css.length*r.sz:=by rw[←Nat.succ_mul];exact Nat.mul_le_mul_right _ hlt
  have hcl:css.length*r.sz≤cur.size:=by rw[q3];exact Nat.mul_le_mul_right _ q1
  have hst:=Qgv (o:=o) (vs:=vs) h1.1 hy1 hl (cur.toList.drop (css.length*r.sz))
  rw[←hcur,hcs'] at hst
  rw[Wm,Wm,Nat.zero_add]
  have hsa:=QaG.at (L:=L) (g:=g) (off:=kx.toNat*r.sz+o) (l:=cur.toList) (vs:=vs) (e:=e) i (by simpa using hi) hst (by simp only[Array.length_toList];omega);refine Ex.mk _ hsa (hk _ ⟨css.set kx.toNat cs',⟨?_,.inr ⟨g,c,_,by simp,rfl,by simpa using q1,q2,?_,?_⟩⟩,h2.set kx.toNat hr⟩)
  ·intro d hd;rcases List.mem_or_eq_of_mem_set hd with hd | rfl
   ·exact h1.1 d hd
   ·exact r.len hr
  ·have: ∀d∈css.set kx.toNat cs',d.length=r.sz:=by
    intro d hd;rcases List.mem_or_eq_of_mem_set hd with hd | rfl
    ·exact h1.1 d hd
    ·exact r.len hr
   simp only[List.size_toArray,List.length_append,Yq this,List.length_set,List.length_drop,Array.length_toList]
   omega
  ·have: ∀d∈css.set kx.toNat cs',d.length=r.sz:=by
    intro d hd;rcases List.mem_or_eq_of_mem_set hd with hd | rfl
    ·exact h1.1 d hd
    ·exact r.len hr
   have hle:=Yq this
   simp only[List.length_set] at hle
   simp only[List.toList_toArray,List.length_set,←hle,List.take_left]
def Qd7 (xs:List α):Option (List α):=if xs.length≤1000000 then some xs else none
theorem QkR {P:Program} {f:FuncId} {e:TypeId} {sz:Nat}
  (hC: ∀{μ:Gh} {L:List Seg} {A:Option Addr} {n c:Nat} {css:List (List Value)} (_:Rd μ L A sz css) (_:css.length=n) (_: ∀cs∈css,∀u∈cs,u.oneCell'=true) (_:n≤1000000)
   {R:Value→Gh→List Seg→Prop} (_: ∀v ch,JD e sz v css ch→R v μ (ch::L)),Fn P f [.slice A n c] μ L R)
  (hsz:r.sz=sz) {A:Option Addr} {c n:Nat} {xs ys:List α} (hn:xs.length=n) (hr:Rds r μ L A xs) (hz:Qd7 xs=some ys) {R:Value→Gh→List Seg→Prop}
  (hR: ∀A' c' ch',Own r e μ (.slice A' ys.length c') ys ch'→R (.slice A' ys.length c') μ (ch'::L)):Fn P f [.slice A n c] μ L R:=by
 subst hsz hn;unfold Qd7 at hz
 split at hz
 case isFalse=>cases hz
 rename_i hb
 injection hz with hz
 subst hz;obtain ⟨css,h1,h2⟩:=hr
 rw[h2.1] at hb ⊢
 refine hC h1 rfl (fun cs hc u hu=> ?_) hb fun v ch hv=> ?_
 ·obtain ⟨x,hx⟩:=h2.get' hc;exact r.one hx u hu
 ·have ho:Own r e μ v xs ch:=⟨css,hv,h2⟩
  obtain ⟨A',c',rfl,_,_⟩:=ho.form;exact hR A' c' ch ho
def QcT {β:Type} (enc:β→Value) (es:Array MapEntry) (c:Nat) (m:List (Int×β)):Prop:=VR .i64 es c (m.map fun p=>(p.1,enc p.2))
theorem Qfh {β:Type} (enc:β→Value) (n:Int): ∀(m:List (Int×β)),V0 n (m.map fun p=>(p.1,enc p.2))=(Wv n m).map enc
 | []=>rfl
 | p::m=>by
  simp only[List.map_cons,V0,Wv,Qfh enc n m]
  split<;>rfl
theorem QgG {β:Type} (enc:β→Value) (n:Int) (v:β): ∀(m:List (Int×β)),QdJ n (enc v) (m.map fun p=>(p.1,enc p.2))=(Qaq n v m).map fun p=>(p.1,enc p.2)
 | []=>rfl
 | p::m=>by
  simp only[List.map_cons,QdJ,Qaq,QgG enc n v m]
  split<;>rfl
section
variable {β:Type} {enc:β→Value} {es:Array MapEntry} {c:Nat} {m:List (Int×β)}
theorem QcT.nil:QcT enc #[] 0 []:=VR.nil
theorem QcT.look (h:QcT enc es c m) {g:Nat} (ho:Wf μ L g (.map es c)) {z:Value} {zb:β} (hz:z=enc zb) (n:Int) :
  ∃es c,Wf μ L g (.map es c)∧QaL .i64 es.toList∧(enc ((Wv n m).getD zb),(Wv n m).isSome)=(match Qa2 n es.toList with | some v=>(v,true) | none=>(z,false)):=by
 refine ⟨es,c,ho,h.keys,?_⟩
 rw[h.find,Qfh]
 cases Wv n m<;>simp[hz]
theorem QcT.size (h:QcT enc es c m):es.size=m.length:=by rw[VR.size h,List.length_map]
theorem Qiw (hT:TOk P T) {t kt et:TypeId} {it ik:TyI} (ht:T t=some it) (hu:it.u= .map kt et) (hkt:T kt=some ik) (hku:ik.u= .int .i64)
  (i:Nat) {g:Nat} {n:Int} {b:β} {v:Value} {k:Gh→List Seg→Prop} (hi:L[i]? =some [(g,.map es c)]) (hm:QcT enc es c m) (hv:v=enc b)
  (hk: ∀es' c',QcT enc es' c' (Qaq n b m)→k μ (L.set i [(g,.map es' c')])):WH P (Instr.mapUpdate t (.map (some g)) (.int .i64 n) v) μ L k:=by
 subst hv;refine QgQ hT ht hu hkt hku i 0 hi rfl hm fun es' c' hm'=> ?_
 rw[QgG] at hm'
 exact hk es' c' hm'
end
end
end Go.Proofs.YtilbengnjgglhaaGreat
namespace Go.Proofs.YtilbengnjgglhaaGreat
open Go.RowKit
set_option linter.unusedSimpArgs false
set_option linter.unusedVariables false
def Qhg (x:Int):List Int→List Int
 | []=>[x]
 | y::r=>if x≤y then x::y::r else y::Qhg x r
def ZS:List Int→List Int
 | []=>[]
 | x::r=>Qhg x (ZS r)
def Qft (xs:List Int):Option (List Int):=if xs.length≤1000000 then some (ZS xs) else none
theorem Qc3 (x:Int): ∀l,(Qhg x l).Perm (x::l)
 | []=>List.Perm.refl _
 | y::r=>by
  simp only[Qhg]
  split
  ·exact List.Perm.refl _
  ·exact ((Qc3 x r).cons y).trans (List.Perm.swap x y r)
theorem JG: ∀l,(ZS l).Perm l
 | []=>List.Perm.refl _
 | x::r=>(Qc3 x _).trans ((JG r).cons x)
theorem Qdq (x:Int): ∀l,l.Pairwise (· ≤ ·)→(Qhg x l).Pairwise (· ≤ ·)
 | [],_=>by simp[Qhg]
 | y::r,h=>by
  simp only[Qhg]
  rw[List.pairwise_cons] at h
  split
  ·rename_i hxy
   rw[List.pairwise_cons,List.pairwise_cons]
   exact ⟨fun z hz=>by
    rcases List.mem_cons.1 hz with rfl | hz
    ·exact hxy
    ·exact Int.le_trans hxy (h.1 z hz),h⟩
  ·rw[List.pairwise_cons]
   refine ⟨fun z hz=> ?_,Qdq x r h.2⟩;rcases List.mem_cons.1 ((Qc3 x r).mem_iff.1 hz) with rfl | hz
   ·omega
   ·exact h.1 z hz
theorem QaM: ∀l,(ZS l).Pairwise (· ≤ ·)
 | []=>List.Pairwise.nil
 | x::r=>Qdq x _ (QaM r)
theorem QaO (l:List Int):(ZS l).length=l.length:=(JG l).length_eq
theorem QfS {xs ys:List Int} (h:Qft xs=some ys):xs.length=ys.length:=by
 unfold Qft at h
 split at h
 ·injection h with h;rw[←h,QaO]
 ·cases h
theorem Qah: ∀{a b:List Int},a.Perm b→a.Pairwise (· ≤ ·)→b.Pairwise (· ≤ ·)→a=b
 | [],b,hp,_,_=>by have:=hp.length_eq;cases b with
  | nil=>rfl
  | cons y r=>simp at this
 | x::a,[],hp,_,_=>by have:=hp.length_eq;simp at this
 | x::a,y::b,hp,ha,hb=>by
  rw[List.pairwise_cons] at ha hb
  have hxy:x=y:=by
   have h1:x∈y::b:=hp.mem_iff.1 (by simp);have h2:y∈x::a:=hp.mem_iff.2 (by simp);have h3:y≤x:=by
    rcases List.mem_cons.1 h1 with rfl | h
    ·exact Int.le_refl _
    ·exact hb.1 x h
   have h4:x≤y:=by
    rcases List.mem_cons.1 h2 with rfl | h
    ·exact Int.le_refl _
    ·exact ha.1 y h
   omega
  subst hxy
  rw[Qah (List.Perm.cons_inv hp) ha.2 hb.2]
theorem Qi3 (l:List Int):l.mergeSort (fun x y=>decide (x≤y))=ZS l:=by
 refine Qah ((List.mergeSort_perm l _).trans (JG l).symm) ?_ (QaM l);have:=List.pairwise_mergeSort (le:=fun x y:Int=>decide (x≤y)) (fun a b c h1 h2=>by simp at *;omega) (fun a b=>by simp;omega) l;exact this.imp fun h=>by simpa using h
section
variable {P:Program} {μ:Gh} {L:List Seg} {R:Value→Gh→List Seg→Prop}
theorem Qfa: ∀{xs:List Int} {css:List (List Value)},All2 (QD.rep μ) xs css→css=xs.map fun x=>[Value.int .i64 x]
 | [],css,h=>by
  have:=h.1;cases css with
  | nil=>rfl
  | cons a b=>simp at this
 | x::xs,css,h=>by
  cases css with
  | nil=>have:=h.1;simp at this
  | cons a b =>
   have h0:=h.2 0 x a rfl rfl;have h1:All2 (QD.rep μ) xs b:=⟨by have:=h.1;simpa using this,fun i u v hu hv=>h.2 (i+1) u v (by simpa using hu) (by simpa using hv)⟩
   rw[Qfa h1,List.map_cons]
   congr 1
theorem QcC (xs:List Int):(xs.map fun x=>[Value.int .i64 x]).flatten=xs.map (Value.int .i64):=by
 induction xs with
 | nil=>rfl
 | cons x xs ih=>simp[ih]
theorem QjG {f:FuncId} {fn:Func} (hf:P.funcs[f]? =some fn) (hnm:(fn.name== "runtime.NumGoroutine")=false) (hbd:fn.body.isNone=false) {e:TypeId}
  (hS: ∀(blk off cap:Nat) (zs:List Int) (w:World),Go.Sort.Holds (Value.int .i64) w blk off zs.toArray→blk<w.heap.size→zs.length<4611686018427387904→Calls P f #[.slice (some ⟨blk,off,none⟩) zs.length cap] w fun e w' =>
   e= .returned (.tuple #[])∧ ∃n os,w'=Go.Sort.grow (Go.Sort.putRow (Value.int .i64) (Go.Sort.ahead w n) blk off (zs.mergeSort fun x y=>decide (x≤y)).toArray) os)
  (h0: ∀(p:Option Addr) (cap:Nat) (w:World),Calls P f #[.slice p 0 cap] w fun e w'=>e= .returned (.tuple #[])∧w'=w)
  (i:Nat) {ch:Seg} {A:Option Addr} {n c:Nat} {xs ys:List Int} (hi:L[i]? =some ch) (hown:Own QD e μ (.slice A n c) xs ch) (hs:Qft xs=some ys)
  (hR: ∀ch',Own QD e μ (.slice A ys.length c) ys ch'→R (.tuple #[]) μ (L.set i ch')):Fn P f [.slice A n c] μ L R:=by
 unfold Qft at hs
 split at hs
 case isFalse=>cases hs
 rename_i hb
 injection hs with hs
 subst hs;refine .inl ⟨⟨fn,hf,hnm,hbd⟩,fun w hw=> ?_⟩;obtain ⟨css,h1,h2⟩:=hown;have hcss:=Qfa h2;rcases h1.2 with ⟨hv,hnil,hch⟩ | ⟨g,cap,cur,hv,rfl,q1,q2,q3,q4⟩
 ·injection hv with hv1 hv2 hv3
  subst hv1 hv2 hv3 hch;have hx:xs=[]:=by have:=h2.1;rw[hnil] at this;exact List.eq_nil_of_length_eq_zero (by simpa using this)
  subst hx;refine (h0 none 0 w).mono ?_;rintro e' w' ⟨rfl,rfl⟩;refine ⟨_,μ,L,rfl,Gh.le.refl _,hw,?_⟩;have:=hR [] Own.nil
  rwa [QjF hi] at this
 ·injection hv with hv1 hv2 hv3
  have hlen:css.length=xs.length:=h2.1.symm;subst hv1 hv3
  rw[hlen] at hv2
  subst hv2;have hbk:=hw.own (g,.cells cur e (0,0)) (List.mem_flatten.2 ⟨_,List.mem_of_getElem? hi,by simp⟩)
  simp only at hbk
  have hz:QD.sz=1:=rfl
  rw[hz,Nat.mul_one,hcss,QcC,List.length_map] at q4
  rw[hz] at q3
  have q1':xs.length≤c:=by rw[←hlen];exact q1
  refine (hS g 0 c xs w (holds_of_blockI hbk q4) (Zt hbk) (by omega)).mono ?_;rintro e' w' ⟨rfl,m,os,rfl⟩
  rw[Qi3]
  have hg:=grownBy_sortedI (w:=w) (g:=g) (n:=m) (os:=os) (ZS xs).toArray;have hlt:=Zt hbk;have hnew:=heap_sortedI (n:=m) (os:=os) (ZS xs).toArray hbk;refine ⟨_,μ,L.set i [(g,.cells (Go.Sort.putCells (Value.int .i64) 0 (ZS xs).toArray cur) e (0,0))],rfl,Gh.le.refl _,?_,?_⟩
  ·have hw1:=hw.perm (Zz hi);have hsub:(L.set i []).flatten.Sublist ([(g,Obj.cells cur e (0,0))]::L.set i []).flatten:=by simp
   have hne: ∀c'∈(L.set i []).flatten,c'.1≠g:=by
    intro c' hc';have hnd:=hw1.nd
    simp only[List.flatten_cons,List.map_append,List.nodup_append,List.map_cons,List.map_nil] at hnd
    exact fun e=>hnd.2.2 g (by simp) c'.1 (List.mem_map.2 ⟨c',hc',rfl⟩) e.symm
   have hfin:Inv (Go.Sort.grow (Go.Sort.putRow (Value.int .i64) (Go.Sort.ahead w m) g 0 (ZS xs).toArray) os) μ ([(g,.cells (Go.Sort.putCells (Value.int .i64) 0 (ZS xs).toArray cur) e (0,0))]::L.set i []):=by
    refine ⟨hg.os.trans hw.os,hg.output.trans hw.out,hg.tape.trans hw.tape,fun b o hb'=> ?_,fun c' hc'=> ?_,fun c' hc'=> ?_,?_⟩
    ·have h6:=hw.mem b o hb'
     rw[hg.block b (Zt h6) ?_];exact h6
     intro he1;injection he1 with he1
     subst he1;have:=hw1.sep (b,.cells cur e (0,0)) (by simp)
     rw[hb'] at this;cases this
    ·simp only[List.flatten_cons,List.singleton_append,List.mem_cons] at hc'
     rcases hc' with rfl | hc'
     ·exact hnew
     ·have h7:=hw1.own c' (hsub.subset hc')
      rw[hg.block c'.1 (Zt h7) (fun e=>hne c' hc' (by injection e))]
      exact h7
    ·simp only[List.flatten_cons,List.singleton_append,List.mem_cons] at hc'
     rcases hc' with rfl | hc'
     ·exact hw1.sep (g,.cells cur e (0,0)) (by simp)
     ·exact hw1.sep c' (hsub.subset hc')
    ·have:=hw1.nd
     simpa using this
   have hi':(L.set i [(g,Obj.cells (Go.Sort.putCells (Value.int .i64) 0 (ZS xs).toArray cur) e (0,0))])[i]? =some [(g,.cells (Go.Sort.putCells (Value.int .i64) 0 (ZS xs).toArray cur) e (0,0))]:=Qke _ hi;have hp:=Zz hi'
   rw[List.set_set] at hp
   exact hfin.perm hp.symm
  ·refine hR _ ⟨(ZS xs).map fun x=>[Value.int .i64 x],⟨?_,.inr ⟨g,c,_,?_,rfl,?_,q2,?_,?_⟩⟩,?_⟩
   ·intro cs hc;obtain ⟨x,_,rfl⟩:=List.mem_map.1 hc
    rfl
   ·simp
   ·simp only[List.length_map,QaO];exact q1'
   ·simp only[Go.Sort.putCells,Array.size_mapIdx,hz];exact q3
   ·rw[hz,Nat.mul_one,List.length_map,QcC]
    exact take_putCellsI cur (ZS xs) (by rw[QaO];omega)
   ·refine ⟨by simp,fun j x y hx hy=> ?_⟩
    rw[List.getElem?_map,hx] at hy
    simp only[Option.map_some,Option.some.injEq] at hy
    exact hy.symm
end
end Go.Proofs.YtilbengnjgglhaaGreat
namespace Go.Proofs.YtilbengnjgglhaaGreat
open Go.RowKit
set_option linter.unusedSimpArgs false
set_option linter.unusedVariables false
section
variable {P:Program} {T:TT} {fr:Fr} {μ:Gh} {L:List Seg} {t yt:TypeId} {x y:Operand} {kd kd':IntKind} {a b:Int} {k:Value→Prop}
theorem QfA (h:evV fr x=some (.int kd a)) (h2:evV fr y=some (.int kd' b)) (hw:kd.bits=64) (hg:0≤b∧b≤64) (hk:k (.int kd (kd.wrap (a*2^b.toNat)))):vcR P T (.binOp .shl t x y yt) fr μ L k :=
 Qlt h h2 (Ex.mk _ (fun w=>by rw[shift_shl kd kd' a b hg.1 (by rw[hw];exact hg.2)];rfl) hk)
theorem QfB (h:evV fr x=some (.int kd a)) (h2:evV fr y=some (.int kd' b)) (hw:kd.bits=64) (hg:0≤b∧b≤64) (hk:k (.int kd (a/2^b.toNat))):vcR P T (.binOp .shr t x y yt) fr μ L k :=
 Qlu h h2 (Ex.mk _ (fun w=>by rw[shift_shr kd kd' a b hg.1 (by rw[hw];exact hg.2)];rfl) hk)
end
section
variable {P:Program} {T:TT} {μ:Gh} {L:List Seg} {α:Type} {r:Rp α}
theorem Qff (z:Array Value) (n:Nat):madeCells z (n*z.size)=Builtin.zeroCells z n:=rfl
theorem Qdy (z:Array Value) (m:Nat):(Builtin.zeroCells z m).toList=(List.replicate m z.toList).flatten:=by
 have h1:=Qhb z m;have h2: ∀(z:List Value) m,cyc z m=(List.replicate m z).flatten:=by
  intro z m
  induction m with
  | zero=>simp[cyc]
  | succ m ih=>rw[cyc,ih,List.replicate_succ,List.flatten_cons]
 rw[show Builtin.zeroCells z m=(cyc z.toList m).toArray from h1,List.toList_toArray,h2]
def WO {α:Type} (z:α) (n:Int):Option (List α):=if 0≤n∧n≤1000000 then some (List.replicate n.toNat z) else none
theorem QdV (hT:TOk P T) {t e:TypeId} {it ie:TyI} (ht:T t=some it) (hu:it.u= .slice e) (he:T e=some ie) {z:α} {zc:List Value} (hz:ie.zero.cells.toList=zc) (hs:ie.size=r.sz) (hrep:r.rep μ z zc) (hb:Nat.ble ie.bytes 100000=true)
  {kl kc:IntKind} {n:Int} {xs:List α} (hn:WO z n=some xs) {k:Value→Gh→List Seg→Prop}
  (hk: ∀(A:Option Addr) (c:Nat) (ch:Seg),Own r e μ (.slice A xs.length c) xs ch→k (.slice A xs.length c) μ (ch::L)):YV P (Instr.makeSlice t (.int kl n) (.int kc n)) μ L k:=by
 intro w hw;unfold WO at hn
 split at hn
 ·rename_i hn2
  injection hn with hn
  subst hn;obtain ⟨j,hj1,hj2,hj3,hj4⟩:=QbQ hT he;have hut:=QeI hT ht hu (by simp);have hb:=Nat.le_of_ble_eq_true hb;have hsz:ie.zero.cells.size=ie.size:=by
   have h1:=r.len hrep
   rw[←hz] at h1
   rw[hs,←h1];simp
  have hbm:(j.bytes:Int)*n≤281474976710656:=by
   have:(j.bytes:Int)*n≤100000*1000000:=by
    rw[hj2]
    exact Int.mul_le_mul (by omega) hn2.2 hn2.1 (by omega)
   omega
  have hrun:=run_make (P:=P) w t e j ie.zero hut hj1 hj4 kl kc n n hn2.1 (Int.le_refl _) hbm (by omega);have hlen:(List.replicate n.toNat z).length=n.toNat:=List.length_replicate;refine ⟨_,_,μ,_,hrun,Gh.le.refl _,hw.alloc _,?_⟩;have hO:Own r e μ (.slice (some ⟨w.heap.size,0,none⟩) (List.replicate n.toNat z).length n.toNat) (List.replicate n.toNat z) [(w.heap.size,.cells (madeCells ie.zero.cells (n.toNat*j.size)) e)]:=by
   refine ⟨List.replicate n.toNat zc,⟨fun cs hcs=> ?_,.inr ⟨w.heap.size,n.toNat,_,?_,rfl,?_,?_,?_,?_⟩⟩,?_⟩
   ·rw[List.eq_of_mem_replicate hcs];exact r.len hrep
   ·simp
   ·simp
   ·unfold maxLen;omega
   ·rw[size_madeCells,hj3,hs]
   ·rw[hj3,←hsz,Qff,Qdy,hz,List.length_replicate]
    have hl:((List.replicate n.toNat zc).flatten).length=n.toNat*r.sz:=by
     have h1:=r.len hrep
     simp[h1]
    rw[←hl,List.take_length]
   ·refine ⟨by simp,fun i a b ha hb=> ?_⟩
    rw[List.getElem?_replicate] at ha hb
    split at ha
    ·rename_i hi
     rw[if_pos hi] at hb
     injection ha with ha;injection hb with hb
     rw[←ha,←hb];exact hrep
    ·cases ha
  have:=hk _ _ _ hO
  rw[hlen] at this
  exact this
 ·cases hn
end
def J0 {α:Type} (xs:List α) (lo hi:Int):Option (List α):=if 0≤lo∧lo≤hi∧hi≤xs.length then some ((xs.take hi.toNat).drop lo.toNat) else none
theorem VQ {α:Type} {xs ys:List α} {lo hi:Int} (h:J0 xs lo hi=some ys):0≤lo∧lo≤hi∧hi≤xs.length∧ys=(xs.take hi.toNat).drop lo.toNat∧ys.length=hi.toNat-lo.toNat:=by
 unfold J0 at h
 split at h
 ·rename_i hc
  injection h with h
  refine ⟨hc.1,hc.2.1,hc.2.2,h.symm,?_⟩
  rw[←h,List.length_drop,List.length_take]
  omega
 ·cases h
section
variable {α:Type} {r:Rp α} {μ:Gh} {L:List Seg} {A:Option Addr} {xs ys:List α} {lo hi:Int}
theorem Qj.pre (h:Qj r μ A xs) (hs:J0 xs 0 hi=some ys):Qj r μ A ys:=by
 obtain ⟨css,h1,h2⟩:=h;obtain ⟨_,_,_,e,_⟩:=VQ hs;subst e;refine ⟨css.take hi.toNat,fun i cs hi'=> ?_,by simpa using h2.take hi.toNat⟩
 rw[List.getElem?_take] at hi'
 split at hi'
 ·exact h1 i cs hi'
 ·cases hi'
theorem Rds.pre (h:Rds r μ L A xs) (hs:J0 xs 0 hi=some ys):Rds r μ L A ys:=by
 obtain ⟨css,h1,h2⟩:=h;obtain ⟨_,_,_,e,_⟩:=VQ hs;subst e;exact ⟨css.take hi.toNat,h1.take _,by simpa using h2.take hi.toNat⟩
theorem Rds.sub {A':Option Addr} {cap:Nat} (h:Rds r μ L A xs) (hc:xs.length≤cap) (hs:J0 xs lo hi=some ys) (hA:A'=(if cap=lo.toNat then A else A.map (·.add (lo.toNat*r.sz)))):Rds r μ L A' ys:=by
 obtain ⟨css,h1,h2⟩:=h;obtain ⟨k1,k2,k3,e,k4⟩:=VQ hs;subst e;have h1:=h1.take hi.toNat;have h2:=h2.take hi.toNat;refine ⟨(css.take hi.toNat).drop lo.toNat,⟨fun cs hcs=>h1.1 cs (List.mem_of_mem_drop hcs),fun hne=> ?_⟩,h2.drop _⟩;have hlt:lo.toNat<(css.take hi.toNat).length:=by
  rcases Nat.lt_or_ge lo.toNat (css.take hi.toNat).length with h | h
  ·exact h
  ·exact absurd (List.drop_of_length_le h) hne
 have hl:=h2.1
 rw[List.length_take] at hl
 obtain ⟨a,ha,hcell⟩:=h1.drop hlt;refine ⟨a.add (lo.toNat*r.sz),?_,hcell⟩
 rw[hA,if_neg (by omega),ha]
 rfl
theorem Qj.sub {A':Option Addr} {cap:Nat} (h:Qj r μ A xs) (hc:xs.length≤cap) (hs:J0 xs lo hi=some ys) (hA:A'=(if cap=lo.toNat then A else A.map (·.add (lo.toNat*r.sz)))):Qj r μ A' ys:=by
 obtain ⟨css,h1,h2⟩:=h;obtain ⟨k1,k2,k3,e,k4⟩:=VQ hs;subst e;refine ⟨(css.take hi.toNat).drop lo.toNat,fun i cs hi'=> ?_,(h2.take hi.toNat).drop _⟩
 rw[List.getElem?_drop,List.getElem?_take] at hi'
 split at hi'
 ·rename_i hlt
  obtain ⟨g1,a,g2,g3⟩:=h1 _ cs hi';have hl:lo.toNat+i<css.length:=by
   rcases Nat.lt_or_ge (lo.toNat+i) css.length with h | h
   ·exact h
   ·rw[List.getElem?_eq_none h] at hi';cases hi'
  have hx:=h2.1;refine ⟨g1,a.add (lo.toNat*r.sz),?_,?_⟩
  ·rw[hA,if_neg (by omega),g2];rfl
  ·rw[Addr.add_add',←Nat.add_mul];exact g3
 ·cases hi'
variable {P:Program} {T:TT} {fr:Fr} {t e:TypeId} {x:Operand} {n cap:Nat} {i j:TyI} {sz:Nat} {k:Value→Prop}
theorem QaE {hi_:Operand} {kd:IntKind} (h1:evV fr x=some (.slice A n cap)) (h2:evV fr hi_=some (.int kd hi)) (hT:T t=some i) (hu:i.u= .slice e) (he:T e=some j) (hn:xs.length=n) (hc:xs.length≤cap) (hs:J0 xs 0 hi=some ys)
  (hk:k (.slice A ys.length cap)):vcR P T (.slice t x none (some hi_) none) fr μ L k:=by
 obtain ⟨k1,k2,k3,_,k4⟩:=VQ hs;refine QkN h1 h2 hT hu he ⟨k2,by omega,?_⟩
 rw[show hi.toNat=ys.length by rw[k4];simp];exact hk
theorem QhL {lo_:Operand} {kd:IntKind} (h1:evV fr x=some (.slice A n cap)) (h2:evV fr lo_=some (.int kd lo)) (hT:T t=some i) (hu:i.u= .slice e) (he:T e=some j) (hz:j.size=r.sz) (hn:xs.length=n) (hc:xs.length≤cap) (hs:J0 xs lo (xs.length:Nat)=some ys)
  (hk: ∀A',A'=(if cap=lo.toNat then A else A.map (·.add (lo.toNat*r.sz)))→k (.slice A' ys.length (cap-lo.toNat))):vcR P T (.slice t x (some lo_) none none) fr μ L k:=by
 obtain ⟨k1,k2,k3,_,k4⟩:=VQ hs;refine QkO h1 h2 hT hu he hz ⟨k1,by omega,?_⟩
 rw[show n-lo.toNat=ys.length by rw[k4];omega];exact hk _ rfl
theorem QiM {hi_ mx_:Operand} {kd kd':IntKind} (h1:evV fr x=some (.slice A n cap)) (h2:evV fr hi_=some (.int kd hi)) (h3:evV fr mx_=some (.int kd' hi)) (hT:T t=some i) (hu:i.u= .slice e) (he:T e=some j) (hn:xs.length=n) (hc:xs.length≤cap) (hs:J0 xs 0 hi=some ys)
  (hk:k (.slice A ys.length ys.length)):vcR P T (.slice t x none (some hi_) (some mx_)) fr μ L k:=by
 obtain ⟨k1,k2,k3,_,k4⟩:=VQ hs;refine QjU h1 h2 h3 hT hu he ⟨k2,by omega,?_⟩
 rw[show hi.toNat=ys.length by rw[k4];simp];exact hk
theorem QjH {c:Nat} (h:xs.length≤c∧c≤maxLen) (hs:J0 xs lo hi=some ys):ys.length≤c-lo.toNat∧c-lo.toNat≤maxLen:=by
 obtain ⟨k1,k2,k3,_,k4⟩:=VQ hs
 omega
theorem Qbu {c:Nat} (h:xs.length≤c∧c≤maxLen) (hs:J0 xs 0 hi=some ys):ys.length≤c∧c≤maxLen:=by
 obtain ⟨k1,k2,k3,_,k4⟩:=VQ hs
 omega
theorem Qj1 {c:Nat} (h:xs.length≤c∧c≤maxLen) (hs:J0 xs 0 hi=some ys):ys.length≤ys.length∧ys.length≤maxLen:=⟨Nat.le_refl _,Nat.le_trans (Qbu h hs).1 h.2⟩
end
section
variable {P:Program} {T:TT} {α:Type} {r:Rp α} {μ:Gh} {L:List Seg} {k:Value→Gh→List Seg→Prop}
theorem QjC (hT:TOk P T) {t ty e:TypeId} {it ie:TyI} (ht:T t=some it) (hu:it.u= .slice e) (he:T e=some ie) (hz:ie.zero.cells.size=ie.size) (hsz:0<ie.size) (hsr:ie.size=r.sz) (hby:Nat.ble ie.bytes 10000=true)
  {xs ys zs:List α} {A B:Option Addr} {m d:Nat} (hx:Rds r μ L B xs) (hm:ys.length=m) (hr:Rds r μ L A ys) (hm0:0<m) (hz2:Wh xs ys=some zs)
  (hk: ∀A' c' ch',Own r e μ (.slice A' zs.length c') zs ch'→k (.slice A' zs.length c') μ (ch'::L)):YV P (Builtin.append_ #[t,t] ty #[.slice B xs.length xs.length,.slice A m d]) μ L k:=by
 obtain ⟨css,h1,h2⟩:=hx;obtain ⟨nss,h3,h4⟩:=hr;obtain ⟨hb,rfl⟩:=Qe0 hz2;have hby:=Nat.le_of_ble_eq_true hby
 rw[←hsr] at h1 h3
 have hlen:xs.length+m≤1000000:=by rw[←hm];exact hb
 refine QeW hT ht hu he hz hsz (css:=css) (news:=nss) (by rw[h2.1]) h1 (by rw[←h4.1,hm]) h3 hm0 (by omega) ?_ (by omega) fun v' ch' hv=> ?_
 ·exact Nat.le_trans (Nat.mul_le_mul hlen hby) (by decide)
 ·rw[hsr] at hv
  have ho:Own r e μ v' (xs++ys) ch':=⟨_,hv,h2.append h4⟩
  obtain ⟨A',c',rfl,_,_⟩:=ho.form;exact hk A' c' ch' ho
end
theorem Qeu {α β:Type} (f:α→β): ∀(l:List α) (j:Nat),(l.eraseIdx j).map f=(l.map f).eraseIdx j
 | [],_=>rfl
 | x::l,0=>rfl
 | x::l,j+1=>by simp[Qeu f l j]
theorem VR.erase {kd:IntKind} {es:Array MapEntry} {c:Nat} {m:List (Int×Value)} (h:VR kd es c m) {j:Nat} (hj:j<es.size):VR kd (es.eraseIdxIfInBounds j) c (m.eraseIdx j):=by
 have hsub:(es.eraseIdxIfInBounds j).toList=es.toList.eraseIdx j:=by
  unfold Array.eraseIdxIfInBounds
  rw[dif_pos hj]
  simp
 have hs:(es.toList.eraseIdx j).Sublist es.toList:=List.eraseIdx_sublist _ _;refine ⟨?_,?_,?_,?_⟩
 ·rw[hsub,Qeu,Qeu,h.ps]
 ·exact h.nd.sublist ((List.eraseIdx_sublist _ _).map _)
 ·rw[hsub];exact h.born.sublist (hs.map _)
 ·intro e he
  rw[hsub] at he
  exact h.lt e (hs.subset he)
def Qh8 {β:Type} (enc:β→Value) (v:Value) (so:Seg):Option (List (Int×β))→Prop
 | none=>v= .map none∧so=[]
 | some m=> ∃(g:Nat) (es:Array MapEntry) (cn:Nat),v= .map (some g)∧so=[(g,.map es cn)]∧QcT enc es cn m
theorem Qh8.nil {β:Type} {enc:β→Value}:Qh8 enc (.map none) [] none:=⟨rfl,rfl⟩
theorem Qh8.some {β:Type} {enc:β→Value} {g:Nat} {es:Array MapEntry} {cn:Nat} {m:List (Int×β)} (h:QcT enc es cn m):Qh8 enc (.map (some g)) [(g,.map es cn)] (some m):=⟨g,es,cn,rfl,rfl,h⟩
theorem Qh8.get {β:Type} {enc:β→Value} {v:Value} {so:Seg} {o:Option (List (Int×β))} {m:List (Int×β)} (h:Qh8 enc v so o) (ho:o=Option.some m): ∃(g:Nat) (es:Array MapEntry) (cn:Nat),v= .map (Option.some g)∧so=[(g,.map es cn)]∧QcT enc es cn m:=by
 subst ho;exact h
end Go.Proofs.YtilbengnjgglhaaGreat
namespace Go.Proofs.YtilbengnjgglhaaGreat
open Go.RowKit
set_option linter.unusedSimpArgs false
set_option linter.unusedVariables false
theorem Qg8 (a b:ByteArray):(a==b)=decide (a=b):=by
 rw[beq_toListBytes,Bool.eq_iff_iff,decide_eq_true_iff,beq_iff_eq]
 refine ⟨fun h=> ?_,fun h=>by rw[h]⟩
 rw[ByteArray.toList_eq,ByteArray.toList_eq] at h
 cases a;cases b
 congr 1
 exact Array.toList_inj.1 h
theorem QhP (a:ByteArray):(a==a)=true:=by rw[Qg8];simp
def QeT (s:ByteArray) (n:Int):Option Int:=if 0≤n then (s[n.toNat]?).map fun b=>((b.toNat:Nat):Int) else none
section
variable {P:Program} {T:TT} {N:NN} {K:QW} {B:Nat→QW} {R:QW} {fr:Fr} {μ:Gh} {L:List Seg}
theorem V3 {b:Frame} {a:Act} {k:List Item} {cs:List Frame} {w:World} {c:Code}:step P (lone (b.atR a (.code (.scope c)::k)) cs w)= .next (lone (b.atR a (.code c:: .inScope c::k)) cs w) :=
 step_lone_go (by simp[stepG,stepG.exec,Frame.atR])
theorem QeY {b:Frame} {a:Act} {k:List Item} {cs:List Frame} {w:World} {c:Code}:step P (lone (b.atR a (.inScope c::k)) cs w)= .next (lone (b.atR a k) cs w) :=
 step_lone_go (by simp[stepG,stepG.exec,Frame.atR])
theorem WP.scope {c:Code} (h:WP P N c K B R fr μ L):WP P N (.scope c) K B R fr μ L:=fun a w ha hw=>by
 intro b k cs hro hb hr;obtain ⟨e,a₁,w₁,hq,harr⟩:=h a w ha hw b (.inScope c::k) cs hro hb hr;have h0:=fenced_calm (P:=P) (fr:=b.atR a (.code (.scope c)::k)) (w:=w) hb hr rfl;cases e with
 | normal=>exact ⟨.normal,a₁,w₁,hq,.head h0 V3 (StepsIn.trans harr (.one (fenced_calm (fr:=b.atR a₁ (.inScope c::k)) hb hr rfl) QeY))⟩
 | exit id =>
  have hx:exitTo id (.inScope c::k)=exitTo id k:=by simp[exitTo]
  exact ⟨.exit id,a₁,w₁,hq,fun k' hk=> .head h0 V3 (harr.1 k' (by rw[hx];exact hk)),
   fun hr' hk=>let ⟨k₁,h1,h2⟩:=harr.2 hr' (by rw[hx];exact hk);⟨k₁,h1,.head h0 V3 h2⟩⟩
 | ret=>exact ⟨_,a₁,w₁,hq,.of_steps (.one h0 V3) harr⟩
 | _=>exact hq.elim
theorem WP.label {l:Nat} (h:K fr μ L):WP P N (.label l) K B R fr μ L:=fun a w ha hw=>wpIn_label ⟨fr,μ,L,ha,Gh.le.refl _,hw,h⟩
end
section
variable {P:Program} {T:TT} {fr:Fr} {μ:Gh} {L:List Seg} {k:Value→Prop} {t yt:TypeId} {x y:Operand} {i:TyI}
theorem Qfz (hT:TOk P T) {s:ByteArray} {kd:IntKind} {n b:Int} (h:evV fr x=some (.string s)) (h2:evV fr y=some (.int kd n)) (ht:T t=some i) (hu:i.u= .string) (hb:QeT s n=some b) (hk:k (.int .u8 b)):vcR P T (.index t x y) fr μ L k:=by
 refine ev_of (k:=fun v=>ev fr y fun n=>Ex (Ji P (Instr.index t v n)) k) h (ev_of (k:=fun n=>Ex (Ji P (Instr.index t (.string s) n)) k) h2 ⟨_,fun w=> ?_,hk⟩);unfold QeT at hb
 split at hb
 ·rename_i h0
  cases hx:s[n.toNat]? with
  | none=>rw[hx] at hb;cases hb
  | some c =>
   rw[hx] at hb
   simp only[Option.map_some,Option.some.injEq] at hb
   subst hb
   simp[Instr.index,asIntOf,Q8 hT ht hu (by simp),h0,hx]
 ·cases hb
theorem Qku (hT:TOk P T) {a b:ByteArray} (h:evV fr x=some (.string a)) (h2:evV fr y=some (.string b)) (ht:T t=some i) (hu:i.u= .string) (hk:k (.bool (decide (a=b)))):vcR P T (.binOp .eql t x y yt) fr μ L k:=by
 refine ev_of (k:=fun v=>ev fr y fun u=>Wn P T .eql t v u k) h (ev_of (k:=fun u=>Wn P T .eql t (.string a) u k) h2 ⟨_,fun w=> ?_,hk⟩)
 simp[eqGuard,binOp,Op.stringOp]
 exact (beq_toListBytes a b).symm.trans (Qg8 a b)
theorem Qld (hT:TOk P T) {f:Go.Fn} {fi ca:Array Value} {p r:Array TypeId} {vr:Bool} (h:evV fr x=some (.func f fi ca)) (h2:evV fr y=some .nilFunc) (ht:T t=some i) (hu:i.u= .func p r vr) (hk:k (.bool false)):vcR P T (.binOp .eql t x y yt) fr μ L k:=by
 refine ev_of (k:=fun v=>ev fr y fun u=>Wn P T .eql t v u k) h (ev_of (k:=fun u=>Wn P T .eql t (.func f fi ca) u k) h2 ⟨_,fun w=> ?_,hk⟩);have hq: ∀d,(Op.equalIn (d+1) t (.func f fi ca) .nilFunc).run P w= .ok false w:=fun d=>by
  rw[Op.equalIn]
  simp[Q8 hT ht hu (by simp)]
 have hq:=hq 9999;have h3:binOp .eql t (.func f fi ca) .nilFunc=(do pure (.bool (←Op.equal t (.func f fi ca) .nilFunc))):=rfl;have h4:Op.equal t (.func f fi ca) .nilFunc=Op.equalIn (9999+1) t (.func f fi ca) .nilFunc:=rfl;have hg:(eqGuard .eql t (.tmp 0) (.tmp 0) (.func f fi ca) .nilFunc)=pure ():=rfl
 rw[h3,h4,hg,Sem.run_bind,Sem.run_pure,Result.andThen_ok,Sem.run_bind,hq,Result.andThen_ok,Sem.run_pure]
end
theorem Qb3 {P:Program} {T:TT} (hT:TOk P T) {t:TypeId} {i:TyI} (hi:T t=some i) (hu:i.u= .string) (b:Bool) (n:Nat) (v:Value) (w:World) :
  (Instr.checkKey b (n+1) t v).run P w= .ok () w:=by
 simp only[Instr.checkKey,Sem.run_bind,Q8 hT hi hu (by simp),Result.andThen_ok]
 cases v<;>rfl
structure MapS (es:Array MapEntry) (c:Nat) (m:List (ByteArray×Value)):Prop where
 ps:es.toList.map (fun e=>(e.key,e.val))=m.map (fun p=>(Value.string p.1,p.2))
 nd:(m.map (·.1)).Nodup
 born:(es.toList.map (·.born)).Nodup
 lt: ∀e∈es.toList,e.born<c
def Qbz (n:ByteArray):List (ByteArray×Value)→Option Value
 | []=>none
 | p::r=>if p.1=n then some p.2 else Qbz n r
def QdP (n:ByteArray) (v:Value):List (ByteArray×Value)→List (ByteArray×Value)
 | []=>[(n,v)]
 | p::r=>if p.1=n then (n,v)::r else p::QdP n v r
theorem MapS.nil:MapS #[] 0 []:=⟨rfl,List.nodup_nil,List.nodup_nil,by simp⟩
theorem MapS.size {es:Array MapEntry} {c:Nat} {m:List (ByteArray×Value)} (h:MapS es c m):es.size=m.length:=by
 have:=congrArg List.length h.ps
 simpa using this
theorem Qbi (n:ByteArray): ∀(es:List MapEntry) (i:Nat) {m:List (ByteArray×Value)},es.map (fun e=>(e.key,e.val))=m.map (fun p=>(Value.string p.1,p.2)) →
  (Instr.findNow .string (.string n) es i=some none∧Qbz n m=none) ∨
  ∃j v,Instr.findNow .string (.string n) es i=some (some (i+j,v))∧Qbz n m=some v∧j<es.length∧(es[j]?).map (·.key)=some (.string n) ∧
   ∀u,QdP n u m=m.set j (n,u)
 | [],i,[],_=> .inl ⟨rfl,rfl⟩
 | [],i,p::m,h=>by simp at h
 | e::es,i,[],h=>by simp at h
 | e::es,i,p::m,h=>by
  simp only[List.map_cons,List.cons.injEq,Prod.mk.injEq] at h
  obtain ⟨⟨h1,h2⟩,h3⟩:=h
  by_cases hn:p.1=n
  ·refine .inr ⟨0,e.val,?_,by simp[Qbz,hn,h2],by simp,by simp[h1,hn],fun u=>by simp[QdP,hn]⟩
   simp[Instr.findNow,Instr.sameNow,h1,hn,QhP]
  ·have hne:(n==p.1)=false:=by rw[Qg8,decide_eq_false_iff_not];exact fun e=>hn e.symm
   rcases Qbi n es (i+1) h3 with ⟨h4,h5⟩ | ⟨j,v,h4,h5,h6,h7,h8⟩
   ·exact .inl ⟨by simp[Instr.findNow,Instr.sameNow,h1,hne,h4],by simp[Qbz,hn,h5]⟩
   ·refine .inr ⟨j+1,v,?_,by simp[Qbz,hn,h5],by simp;omega,by simpa using h7,fun u=>by simp[QdP,hn,h8 u]⟩
    simp only[Instr.findNow,Instr.sameNow,h1,if_true,hne,h4]
    congr 3
    omega
theorem QgV (n:ByteArray) (u:Value): ∀{m:List (ByteArray×Value)},Qbz n m=none→QdP n u m=m++[(n,u)]∧n∉m.map (·.1)
 | [],_=>⟨rfl,by simp⟩
 | p::m,h=>by
  simp only[Qbz] at h
  by_cases hn:p.1=n
  ·rw[if_pos hn] at h;cases h
  ·rw[if_neg hn] at h
   obtain ⟨h1,h2⟩:=QgV n u h;refine ⟨by simp[QdP,hn,h1],?_⟩
   simp only[List.map_cons,List.mem_cons,not_or]
   exact ⟨fun e=>hn e.symm,h2⟩
theorem MapS.push {es:Array MapEntry} {c:Nat} {m:List (ByteArray×Value)} (h:MapS es c m) {n:ByteArray} {v:Value} (hn:Qbz n m=none) :
  MapS (es.push { key:= .string n,val:=v,born:=c }) (c+1) (QdP n v m):=by
 obtain ⟨h1,h2⟩:=QgV n v hn;refine ⟨by rw[h1];simp[h.ps],by rw[h1];simp[List.nodup_append];exact ⟨h.nd,fun a b hb e=>h2 (by subst e;simp;exact ⟨b,hb⟩)⟩,?_,?_⟩
 ·simp[List.nodup_append]
  refine ⟨h.born,fun e he hb=> ?_⟩;have:=h.lt e (by simpa using he)
  omega
 ·intro e he
  simp at he
  rcases he with he | rfl
  ·have:=h.lt e (by simpa using he);omega
  ·simp
theorem MapS.put {es:Array MapEntry} {c:Nat} {m:List (ByteArray×Value)} (h:MapS es c m) {n:ByteArray} {v:Value} {j:Nat}
  (hj:(es.toList[j]?).map (·.key)=some (.string n)) (hs:QdP n v m=m.set j (n,v)) (hjl:j<es.size) :
  MapS (es.modify j fun e=>{ e with key:= .string n,val:=v }) c (QdP n v m):=by
 have hl:=h.size;refine ⟨?_,?_,?_,?_⟩
 ·have h1:=Qbn (fun e:MapEntry=>(e.key,e.val)) (fun e=>{ e with key:= .string n,val:=v }) es.toList j (Value.string n,v) (fun x _=>rfl)
  rw[Array.toList_modify,h1,h.ps,hs,List.map_set]
 ·have hk:(m.set j (n,v)).map (·.1)=m.map (·.1):=by
   apply List.ext_getElem?;intro i
   simp only[List.getElem?_map,List.getElem?_set]
   by_cases hij:j=i
   ·subst hij;have h1:=congrArg (fun l=>l[j]?) h.ps
    simp only[List.getElem?_map] at h1
    have hjm:j<m.length:=by omega
    cases hx:es.toList[j]? with
    | none=>rw[hx] at hj;cases hj
    | some x =>
     rw[hx] at hj h1
     simp only[Option.map_some,Option.some.injEq] at hj
     rw[List.getElem?_eq_getElem hjm] at h1 ⊢
     simp only[Option.map_some,Option.some.injEq,Prod.mk.injEq,hj,Value.string.injEq,true_and] at h1
     simp[hjm,h1.1]
   ·simp[hij]
  rw[hs,hk];exact h.nd
 ·have h1:=Qa5 (fun e:MapEntry=>e.born) (fun e=>{ e with key:= .string n,val:=v }) es.toList j (fun x _=>rfl)
  rw[Array.toList_modify,h1];exact h.born
 ·intro e he
  rw[Array.toList_modify] at he
  obtain ⟨i,hi⟩:=List.getElem?_of_mem he
  rw[List.getElem?_modify] at hi
  cases hx:es.toList[i]? with
  | none=>rw[hx] at hi;cases hi
  | some x =>
   rw[hx] at hi
   have:=h.lt x (List.mem_of_getElem? hx)
   by_cases hji:j=i
   ·simp[hji] at hi;subst hi;exact this
   ·simp[hji] at hi;subst hi;exact this
section
variable {P:Program} {T:TT} {μ:Gh} {L:List Seg}
theorem Qf6 (hT:TOk P T) {t kt et:TypeId} {it ik:TyI} (ht:T t=some it) (hu:it.u= .map kt et) (hkt:T kt=some ik) (hku:ik.u= .string)
  (i j:Nat) {s:Seg} {r:Nat} {es:Array MapEntry} {c:Nat} {m:List (ByteArray×Value)} (hi:L[i]? =some s) (hj:s[j]? =some (r,.map es c)) (hm:MapS es c m) {n:ByteArray} {v:Value} {k:Gh→List Seg→Prop}
  (hk: ∀es' c',MapS es' c' (QdP n v m)→k μ (L.set i (s.set j (r,.map es' c')))):WH P (Instr.mapUpdate t (.map (some r)) (.string n) v) μ L k:=by
 intro w hw;have hb:w.heap[r]? =some (.map es c):=hw.own (r,_) (List.mem_flatten.2 ⟨s,List.mem_of_getElem? hi,List.mem_of_getElem? hj⟩);have hc: ∀b,(Instr.checkKey b 10000 kt (.string n)).run P w= .ok () w:=fun b=>Qb3 hT hkt hku b 9999 _ w;rcases Qbi n es.toList 0 hm.ps with ⟨h1,h2⟩ | ⟨jj,x,h1,h2,h3,h4,h5⟩
 ·refine ⟨_,μ,_,?_,Gh.le.refl _,hw.updObj hi hj (o':= .map (es.push { key:= .string n,val:=v,born:=c }) (c+1)),hk _ _ (hm.push h2)⟩
  simp only[Instr.mapUpdate,Sem.run_bind,Q8 hT ht hu (by simp),Result.andThen_ok,JJ w _ _ (by simp) hb,hc,Instr.findKey,Q8 hT hkt hku (by simp),h1,Sem.run_pure,QaW w r _ _ (by simp) hb]
 ·have hjl:jj<es.size:=by simpa using h3
  refine ⟨_,μ,_,?_,Gh.le.refl _,hw.updObj hi hj (o':= .map (es.modify jj fun e=>{ e with key:= .string n,val:=v }) c),hk _ _ (hm.put h4 (h5 v) hjl)⟩;have hold:((es[jj]?).map (·.key)).getD (.string n)= .string n:=by
   have:(es[jj]?).map (·.key)=some (.string n):=by rw[←h4];simp
   rw[this];rfl
  have hks:(Instr.keyThatStays (.string n) (.string n)).run P w= .ok (.string n) w:=by
   simp[Instr.keyThatStays,Instr.sameBits,QhP]
  simp only[Instr.mapUpdate,Sem.run_bind,Q8 hT ht hu (by simp),Result.andThen_ok,JJ w _ _ (by simp) hb,hc,Instr.findKey,Q8 hT hkt hku (by simp),h1,Sem.run_pure,Nat.zero_add,hold,hks,QaW w r _ _ (by simp) hb]
end
theorem WH.pre {P:Program} {μ:Gh} {L:List Seg} {s:Sem Unit} {R:Gh→List Seg→Prop} (h:Upd μ L fun μ' L'=>WH P s μ' L' R):WH P s μ L R:=fun w hw=>by
 obtain ⟨μ',L',h1,h2,h3⟩:=h w hw;obtain ⟨w',μ2,L2,k1,k2,k3,k4⟩:=h3 w h2;exact ⟨w',μ2,L2,k1,h1.trans k2,k3,k4⟩
def QaX {β:Type} (k:ByteArray):List (ByteArray×β)→Option β
 | []=>none
 | p::r=>if p.1=k then some p.2 else QaX k r
def QeX {β:Type} (k:ByteArray) (v:β):List (ByteArray×β)→List (ByteArray×β)
 | []=>[(k,v)]
 | p::r=>if p.1=k then (k,v)::r else p::QeX k v r
theorem Qfr {β:Type} (enc:β→Value) (n:ByteArray): ∀(m:List (ByteArray×β)),Qbz n (m.map fun p=>(p.1,enc p.2))=(QaX n m).map enc
 | []=>rfl
 | p::m=>by simp only[List.map_cons,Qbz,QaX];split<;>simp[Qfr enc n m]
theorem QgU {β:Type} (enc:β→Value) (n:ByteArray) (b:β): ∀(m:List (ByteArray×β)),QdP n (enc b) (m.map fun p=>(p.1,enc p.2))=(QeX n b m).map fun p=>(p.1,enc p.2)
 | []=>rfl
 | p::m=>by simp only[List.map_cons,QdP,QeX];split<;>simp[QgU enc n b m]
def Qcs {β:Type} (enc:β→Value) (es:Array MapEntry) (c:Nat) (m:List (ByteArray×β)):Prop:=MapS es c (m.map fun p=>(p.1,enc p.2))
section
variable {P:Program} {T:TT} {fr:Fr} {μ:Gh} {L:List Seg} {β:Type} {enc:β→Value} {es:Array MapEntry} {c:Nat} {m:List (ByteArray×β)}
theorem Qcs.nil:Qcs enc #[] 0 []:=MapS.nil
theorem Qcs.size (h:Qcs enc es c m):es.size=m.length:=by rw[MapS.size h,List.length_map]
theorem QjT (hT:TOk P T) {t kt et:TypeId} {mo x:Operand} {ok:Bool} {g:Nat} {s:ByteArray} {i ik ie:TyI} {zb:β} {k:Value→Prop} (h:evV fr mo=some (.map (some g))) (h2:evV fr x=some (.string s)) (ht:T t=some i) (hu:i.u= .map kt et) (hkt:T kt=some ik) (hku:ik.u= .string) (he:T et=some ie) (hz:ie.zero=enc zb)
  (ho:Wf μ L g (.map es c)) (hm:Qcs enc es c m) (hk:k (okK ok (enc ((QaX s m).getD zb)) (QaX s m).isSome)):vcR P T (.lookup t mo x ok) fr μ L k:=by
 refine ev_of (k:=fun v=>ev fr x fun n=>QcH P T t v n ok μ L k) h (ev_of (k:=fun n=>QcH P T t (.map (some g)) n ok μ L k) h2 ⟨_,fun w hw=> ?_,hk⟩);have hc:(Instr.checkKey es.isEmpty 10000 kt (.string s)).run P w= .ok () w:=Qb3 hT hkt hku es.isEmpty 9999 (.string s) w;have hs:=Qfr enc s m;rcases Qbi s es.toList 0 hm.ps with ⟨h1,h3⟩ | ⟨j,v,h1,h3,_⟩
 ·rw[hs] at h3
  have h4:QaX s m=none:=by cases hx:QaX s m with | none=>rfl | some y=>rw[hx] at h3;cases h3
  cases ok<;>simp[Instr.lookup,Q8 hT ht hu (by simp),JJ w _ _ (by simp) (hw.obj ho),hc,Instr.findKey,Q8 hT hkt hku (by simp),h1,VO hT he,okK,h4,hz]
 ·rw[hs] at h3
  obtain ⟨y,h4,h5⟩: ∃y,QaX s m=some y∧enc y=v:=by
   cases hx:QaX s m with
   | none=>rw[hx] at h3;cases h3
   | some y=>rw[hx] at h3;exact ⟨y,rfl,by simpa using h3⟩
  cases ok<;>simp[Instr.lookup,Q8 hT ht hu (by simp),JJ w _ _ (by simp) (hw.obj ho),hc,Instr.findKey,Q8 hT hkt hku (by simp),h1,okK,h4,h5]
theorem QhB (hT:TOk P T) {t kt et:TypeId} {it ik:TyI} (ht:T t=some it) (hu:it.u= .map kt et) (hkt:T kt=some ik) (hku:ik.u= .string)
  (i:Nat) {g:Nat} {n:ByteArray} {b:β} {v:Value} {k:Gh→List Seg→Prop} (hi:L[i]? =some [(g,.map es c)]) (hm:Qcs enc es c m) (hv:v=enc b)
  (hk: ∀es' c',Qcs enc es' c' (QeX n b m)→k μ (L.set i [(g,.map es' c')])):WH P (Instr.mapUpdate t (.map (some g)) (.string n) v) μ L k:=by
 subst hv;refine Qf6 hT ht hu hkt hku i 0 hi rfl hm fun es' c' hm'=> ?_
 rw[QgU] at hm'
 exact hk es' c' hm'
end
def Qkp {α:Type} (r:Rp α) (μ:Gh) (v:Value) (xs:List α):Prop:= ∃A cc,v= .slice A xs.length cc∧(xs.length≤cc∧cc≤maxLen)∧Qj r μ A xs
def Qb9 {α:Type} (r:Rp α) (μ:Gh) (es:Array MapEntry) (c:Nat) (m:List (Int×List α)):Prop :=
 ∃mv:List (Int×Value),QcT (fun v=>v) es c mv∧All2 (fun (p:Int×List α) (q:Int×Value)=>p.1=q.1∧Qkp r μ q.2 p.2) m mv
section
variable {P:Program} {T:TT} {fr:Fr} {μ μ':Gh} {L:List Seg} {α:Type} {r:Rp α} {es:Array MapEntry} {c:Nat} {m:List (Int×List α)}
theorem Qb9.nil:Qb9 r μ #[] 0 []:=⟨[],QcT.nil,All2.nil⟩
theorem Qb9.mono (h:Qb9 r μ es c m) (hm:μ.le μ'):Qb9 r μ' es c m:=by
 obtain ⟨mv,h1,h2⟩:=h;exact ⟨mv,h1,h2.mono fun p q ⟨e,A,cc,hv,hl,ha⟩=>⟨e,A,cc,hv,hl,ha.mono hm⟩⟩
theorem Qfi {R:List α→Value→Prop} (n:Int): ∀{m:List (Int×List α)} {mv:List (Int×Value)},All2 (fun (p:Int×List α) (q:Int×Value)=>p.1=q.1∧R p.2 q.2) m mv →
  (Wv n m=none∧Wv n mv=none)∨ ∃xs v,Wv n m=some xs∧Wv n mv=some v∧R xs v
 | [],[],_=> .inl ⟨rfl,rfl⟩
 | [],q::mv,h=>by have:=h.1;simp at this
 | p::m,[],h=>by have:=h.1;simp at this
 | p::m,q::mv,h=>by
  have h0:=h.2 0 p q rfl rfl;have ht:All2 (fun (p:Int×List α) (q:Int×Value)=>p.1=q.1∧R p.2 q.2) m mv:=⟨by have:=h.1;simpa using this,fun i x y hx hy=>h.2 (i+1) x y (by simpa using hx) (by simpa using hy)⟩
  by_cases hn:p.1=n
  ·exact .inr ⟨p.2,q.2,by simp[Wv,hn],by simp[Wv,←h0.1,hn],h0.2⟩
  ·have hn2: ¬q.1=n:=by rw[←h0.1];exact hn
   simp only[Wv,hn,hn2,if_false]
   exact Qfi n ht
theorem Qfk {R:List α→Value→Prop} (n:Int) {xs:List α} {v:Value} (hr:R xs v): ∀{m:List (Int×List α)} {mv:List (Int×Value)},All2 (fun (p:Int×List α) (q:Int×Value)=>p.1=q.1∧R p.2 q.2) m mv →
  All2 (fun (p:Int×List α) (q:Int×Value)=>p.1=q.1∧R p.2 q.2) (Qaq n xs m) (Qaq n v mv)
 | [],[],_=>All2.cons ⟨rfl,hr⟩ All2.nil
 | [],q::mv,h=>by have:=h.1;simp at this
 | p::m,[],h=>by have:=h.1;simp at this
 | p::m,q::mv,h=>by
  have h0:=h.2 0 p q rfl rfl;have ht:All2 (fun (p:Int×List α) (q:Int×Value)=>p.1=q.1∧R p.2 q.2) m mv:=⟨by have:=h.1;simpa using this,fun i x y hx hy=>h.2 (i+1) x y (by simpa using hx) (by simpa using hy)⟩
  by_cases hn:p.1=n
  ·have hn2:q.1=n:=by rw[←h0.1];exact hn
   simp only[Qaq,hn,hn2,if_true]
   exact All2.cons ⟨rfl,hr⟩ ht
  ·have hn2: ¬q.1=n:=by rw[←h0.1];exact hn
   simp only[Qaq,hn,hn2,if_false]
   exact All2.cons h0 (Qfk n hr ht)
theorem Qb9.look (h:Qb9 r μ es c m) {g:Nat} (ho:Wf μ L g (.map es c)) (n:Int) :
  ∃A cc,(∃es' c',Wf μ L g (.map es' c')∧QaL .i64 es'.toList∧((.slice A ((Wv n m).getD []).length cc,(Wv n m).isSome):Value×Bool)=(match Qa2 n es'.toList with | some v=>(v,true) | none=>(.slice none 0 0,false))) ∧
   (((Wv n m).getD []).length≤cc∧cc≤maxLen)∧Qj r μ A ((Wv n m).getD []):=by
 obtain ⟨mv,h1,h2⟩:=h;obtain ⟨es',c',k1,k2,k3⟩:=h1.look ho (z:= .slice none 0 0) (zb:= .slice none 0 0) rfl n;rcases Qfi (R:=fun xs v=>Qkp r μ v xs) n h2 with ⟨e1,e2⟩ | ⟨xs,v,e1,e2,A,cc,hv,hl,ha⟩
 ·rw[e2] at k3
  rw[e1]
  exact ⟨none,0,⟨es',c',k1,k2,k3⟩,⟨Nat.le_refl _,Nat.zero_le _⟩,Qj.nil⟩
 ·rw[e2] at k3
  rw[e1]
  refine ⟨A,cc,⟨es',c',k1,k2,?_⟩,hl,ha⟩;refine Eq.trans ?_ k3
  simp[hv]
theorem Qix (hT:TOk P T) {t kt et:TypeId} {it ik:TyI} (ht:T t=some it) (hu:it.u= .map kt et) (hkt:T kt=some ik) (hku:ik.u= .int .i64)
  (i:Nat) {g:Nat} {n:Int} {xs:List α} {A:Option Addr} {cc nn:Nat} {k:Gh→List Seg→Prop} (hi:L[i]? =some [(g,.map es c)]) (hm:Qb9 r μ es c m) (hn:xs.length=nn) (hl:xs.length≤cc∧cc≤maxLen) (ha:Qj r μ A xs)
  (hk: ∀es' c',Qb9 r μ es' c' (Qaq n xs m)→k μ (L.set i [(g,.map es' c')])):WH P (Instr.mapUpdate t (.map (some g)) (.int .i64 n) (.slice A nn cc)) μ L k:=by
 obtain ⟨mv,h1,h2⟩:=hm;subst hn;refine Qiw (enc:=fun v=>v) hT ht hu hkt hku i hi h1 (b:= .slice A xs.length cc) rfl fun es' c' hm'=> ?_;exact hk es' c' ⟨_,hm',Qfk (R:=fun xs v=>Qkp r μ v xs) n ⟨A,cc,rfl,hl,ha⟩ h2⟩
theorem Qb9.size (h:Qb9 r μ es c m):es.size=m.length:=by
 obtain ⟨mv,h1,h2⟩:=h
 rw[h1.size,h2.1]
end
def QdC {α:Type} (R:Gh→Value→α→Seg→Prop) (μ:Gh) (v:Value) (o:Option α) (so:Seg):Prop:=match o with
 | none=>v= .pointer none∧so=[]
 | some x=>R μ v x so
theorem QdC.nil {α:Type} {R:Gh→Value→α→Seg→Prop} {μ:Gh}:QdC R μ (.pointer none) none []:=⟨rfl,rfl⟩
theorem QdC.get {α:Type} {R:Gh→Value→α→Seg→Prop} {μ:Gh} {v:Value} {o:Option α} {so:Seg} {x:α} (h:QdC R μ v o so) (ho:o=some x):R μ v x so:=by subst ho;exact h
theorem QdC.lift {α:Type} {R:Gh→Value→α→Seg→Prop} {μ μ':Gh} {v:Value} {o:Option α} {so:Seg} (h:QdC R μ v o so) (hR: ∀x,R μ v x so→R μ' v x so):QdC R μ' v o so:=by
 cases o with
 | none=>exact h
 | some x=>exact hR x h
theorem QgE {α:Type} {l:List α} {i:Nat} {x:α} (h:l[i]? =some x):i<l.length:=by
 rcases Nat.lt_or_ge i l.length with h1 | h1
 ·exact h1
 ·rw[List.getElem?_eq_none h1] at h;cases h
def Qd8 {α:Type} (xs:List α) (lo:Int) (z:α):List α:=xs.take lo.toNat++List.replicate (xs.length-lo.toNat) z
theorem Qds {α:Type} (xs:List α) (lo:Int) (z:α):(Qd8 xs lo z).length=xs.length:=by simp[Qd8];omega
section
variable {P:Program} {T:TT} {μ:Gh} {L:List Seg} {α:Type} {r:Rp α} {e:TypeId} {A:Option Addr} {n c:Nat} {xs ys:List α} {ch:Seg} {lo hi:Int}
theorem Own.cut (h:Own r e μ (.slice A n c) xs ch) (hs:J0 xs 0 hi=some ys):Own r e μ (.slice A ys.length c) ys ch:=by
 obtain ⟨_,h2,h3,rfl,h5⟩:=VQ hs;obtain ⟨css,⟨h6,h7⟩,h8⟩:=h;have hl:=h8.1;have hm:hi.toNat≤css.length:=by omega
 have hlen:((xs.take hi.toNat).drop (0:Int).toNat).length=hi.toNat:=by rw[h5];simp
 rcases h7 with ⟨hv,rfl,rfl⟩ | ⟨g,cap,cur,hv,rfl,q1,q2,q3,q4⟩
 ·injection hv with e1 e2 e3
  subst e1 e3;have:xs=[]:=List.eq_nil_of_length_eq_zero (by simpa using hl);subst this;exact ⟨[],⟨by simp,.inl ⟨by simp,rfl,rfl⟩⟩,by simpa using All2.nil⟩
 ·injection hv with e1 e2 e3
  subst e1 e3;refine ⟨css.take hi.toNat,⟨fun cs hc=>h6 cs (List.mem_of_mem_take hc),.inr ⟨g,c,cur,?_,rfl,by simp;omega,q2,q3,?_⟩⟩,by simpa using h8.take hi.toNat⟩
  ·rw[hlen];simp[hm]
  ·have:(css.take hi.toNat).flatten=css.flatten.take (hi.toNat*r.sz):=by
    have e4:css=css.take hi.toNat++css.drop hi.toNat:=(List.take_append_drop _ _).symm
    conv=>rhs;rw[e4,List.flatten_append]
    rw[List.take_left']
    rw[Yq (sz:=r.sz) fun cs hc=>h6 cs (List.mem_of_mem_take hc),List.length_take,Nat.min_eq_left hm]
   rw[this,←q4,List.take_take,List.length_take,Nat.min_eq_left hm,Nat.min_eq_left (Nat.mul_le_mul_right _ hm)]
theorem Qiu (hT:TOk P T) {t ty:TypeId} {it ie:TyI} (ht:T t=some it) (hu:it.u= .slice e) (he:T e=some ie) {z:α} {zc:List Value} (hz:ie.zero.cells.toList=zc) (hsz:ie.size=r.sz) (hrep:r.rep μ z zc)
  (i:Nat) (hi:L[i]? =some ch) (h:Own r e μ (.slice A n c) xs ch) (hs:J0 xs lo (xs.length:Nat)=some ys) {A':Option Addr} (hA:A'=(if c=lo.toNat then A else A.map (·.add (lo.toNat*r.sz)))) {c':Nat} {k:Value→Gh→List Seg→Prop}
  (hk: ∀ch',Own r e μ (.slice A n c) (Qd8 xs lo z) ch'→k (.tuple #[]) μ (L.set i ch')):YV P (Builtin.clear_ #[t] ty #[.slice A' ys.length c']) μ L k:=by
 obtain ⟨h1,h2,h3,hys,h5⟩:=VQ hs;obtain ⟨css,⟨h6,h7⟩,h8⟩:=h;have hl:=h8.1;have hut:=QeI hT ht hu (by simp);have hself:L.set i ch=L:=by
  apply List.ext_getElem?;intro j
  by_cases hj:i=j
  ·subst hj
   rw[List.getElem?_set_self (QgE hi),hi]
  ·simp[List.getElem?_set,hj]
 by_cases h0:ys.length=0
 ·intro w hw;have hrun:(Builtin.clear_ #[t] ty #[.slice A' ys.length c']).run P w= .ok (.tuple #[]) w:=by
   rw[h0]
   cases A'<;>simp[Builtin.clear_,run_underlying hut]
  refine ⟨_,w,μ,L,hrun,Gh.le.refl _,hw,?_⟩;have hx:Qd8 xs lo z=xs:=by
   unfold Qd8;have:xs.length-lo.toNat=0:=by omega
   rw[this,List.replicate_zero,List.append_nil,List.take_of_length_le (by omega)]
  have:=hk ch (by rw[hx];exact ⟨css,⟨h6,h7⟩,h8⟩)
  rwa [hself] at this
 ·rcases h7 with ⟨hv,rfl,rfl⟩ | ⟨g,cap,cur,hv,rfl,q1,q2,q3,q4⟩
  ·have:xs.length=0:=by rw[hl];rfl
   omega
  ·injection hv with e1 e2 e3
   subst e1 e2 e3;obtain ⟨m,hm⟩: ∃m,ys.length=m+1:=⟨ys.length-1,by omega⟩
   have hzl:=r.len hrep;obtain ⟨vs,hvs⟩: ∃vs,(List.replicate ys.length zc).flatten=vs:=⟨_,rfl⟩
   have hvl:vs.length=ys.length*r.sz:=by rw[←hvs];simp[hzl]
   have hcl:cur.toList.length=c*r.sz:=by simpa using q3
   have hle:lo.toNat+ys.length=css.length:=by omega
   have hfit:lo.toNat*r.sz+vs.length≤cur.toList.length:=by
    rw[hvl,←Nat.add_mul,hle,hcl]
    exact Nat.mul_le_mul_right _ q1
   have hcn: ¬c=lo.toNat:=by omega
   rw[if_neg hcn] at hA
   have hst:QaG L (⟨g,lo.toNat*r.sz,none⟩:Addr) vs (L.set i [(g,.cells (WY cur.toList (lo.toNat*r.sz) vs).toArray e (0,0))]):=⟨i,0,_,cur,e,hi,rfl,rfl,by simpa using hfit,rfl⟩
   intro w hw;have hone: ∀u∈vs,u.oneCell'=true:=by
    intro u hu
    rw[←hvs] at hu
    obtain ⟨l,hl1,hl2⟩:=List.mem_flatten.1 hu
    rw[List.eq_of_mem_replicate hl1] at hl2
    exact r.one hrep u hl2
   obtain ⟨w',hrun,hw'⟩:=Qb4 (P:=P) hst hone hw;have hzz:(Builtin.zeroCells ie.zero.cells ys.length).toList=vs:=by
    have h9:=Qhb ie.zero.cells ys.length;have h10: ∀(z:List Value) m,cyc z m=(List.replicate m z).flatten:=by
     intro z m
     induction m with
     | zero=>simp[cyc]
     | succ m ih=>rw[cyc,ih,List.replicate_succ,List.flatten_cons]
    rw[show Builtin.zeroCells ie.zero.cells ys.length=(cyc ie.zero.cells.toList ys.length).toArray from h9,List.toList_toArray,h10,hz,hvs]
   have hA2:A'=some ⟨g,lo.toNat*r.sz,none⟩:=by rw[hA];simp[Wm]
   have hrun2:(Builtin.clear_ #[t] ty #[.slice A' ys.length c']).run P w= .ok (.tuple #[]) w':=by
    rw[hA2,hm] at *
    rw[hm] at hzz
    simp[Builtin.clear_,run_underlying hut,VO hT he,hzz,hrun]
   refine ⟨_,w',μ,_,hrun2,Gh.le.refl _,hw',hk _ ⟨css.take lo.toNat++List.replicate ys.length zc,⟨?_,.inr ⟨g,c,_,?_,rfl,?_,q2,?_,?_⟩⟩,?_⟩⟩
   ·intro cs hc;rcases List.mem_append.1 hc with hc | hc
    ·exact h6 cs (List.mem_of_mem_take hc)
    ·rw[List.eq_of_mem_replicate hc];exact hzl
   ·congr 1
    simp
    omega
   ·simp;omega
   ·rw[V2 _ _ _ hfit]
    simp
    have:lo.toNat*r.sz≤cur.size:=by have:=hfit;simp at this;omega
    omega
   ·rw[V2 _ _ _ hfit]
    have hf1:(css.take lo.toNat++List.replicate ys.length zc).flatten=cur.toList.take (lo.toNat*r.sz)++vs:=by
     rw[List.flatten_append,hvs]
     congr 1
     have h11:(css.take lo.toNat).flatten=css.flatten.take (lo.toNat*r.sz):=by
      have e4:css=css.take lo.toNat++css.drop lo.toNat:=(List.take_append_drop _ _).symm
      conv=>rhs;rw[e4,List.flatten_append]
      rw[List.take_left']
      rw[Yq (sz:=r.sz) fun cs hc=>h6 cs (List.mem_of_mem_take hc),List.length_take,Nat.min_eq_left (by omega)]
     rw[h11,←q4,List.take_take,Nat.min_eq_left (Nat.mul_le_mul_right _ (by omega))]
    rw[hf1]
    have h12:((css.take lo.toNat++List.replicate ys.length zc).length)*r.sz=(cur.toList.take (lo.toNat*r.sz)++vs).length:=by
     rw[List.length_append,List.length_append,List.length_take,List.length_replicate,List.length_take,Nat.min_eq_left (by omega),hvl,Nat.min_eq_left (by rw[hcl];exact Nat.mul_le_mul_right _ (by omega)),Nat.add_mul]
    rw[h12]
    exact List.take_left
   ·have h13:Qd8 xs lo z=xs.take lo.toNat++List.replicate ys.length z:=by
     unfold Qd8
     rw[show xs.length-lo.toNat=ys.length by omega]
    rw[h13]
    refine (h8.take lo.toNat).append ⟨by simp,fun j a b ha hb=> ?_⟩
    rw[List.getElem?_replicate] at ha hb
    split at ha
    ·rename_i hj
     rw[if_pos hj] at hb
     injection ha with ha;injection hb with hb
     rw[←ha,←hb];exact hrep
    ·cases ha
end
theorem Qkf {α:Type} {r:Rp α} {P:Program} {T:TT} {μ:Gh} {L:List Seg} (hT:TOk P T) {t e:TypeId} {it ie:TyI} (ht:T t=some it) (hu:it.u= .slice e) (he:T e=some ie) {z:α} {zc:List Value} (hz:ie.zero.cells.toList=zc) (hs:ie.size=r.sz) (hrep:r.rep μ z zc) (hb:Nat.ble ie.bytes 100000=true)
  {kl kc:IntKind} {n:Int} {xs:List α} (hn:WO z n=some xs) {k:Value→Gh→List Seg→Prop}
  (hk: ∀(A:Option Addr) (c:Nat) (ch:Seg),Own r e μ (.slice A 0 c) [] ch→k (.slice A 0 c) μ (ch::L)):YV P (Instr.makeSlice t (.int kl 0) (.int kc n)) μ L k:=by
 intro w hw;unfold WO at hn
 split at hn
 ·rename_i hn2
  injection hn with hn
  subst hn;obtain ⟨j,hj1,hj2,hj3,hj4⟩:=QbQ hT he;have hut:=QeI hT ht hu (by simp);have hb:=Nat.le_of_ble_eq_true hb;have hsz:ie.zero.cells.size=ie.size:=by
   have h1:=r.len hrep
   rw[←hz] at h1
   rw[hs,←h1];simp
  have hbm:(j.bytes:Int)*n≤281474976710656:=by
   have:(j.bytes:Int)*n≤100000*1000000:=by
    rw[hj2]
    exact Int.mul_le_mul (by omega) hn2.2 hn2.1 (by omega)
   omega
  have hrun:=run_make (P:=P) w t e j ie.zero hut hj1 hj4 kl kc 0 n (Int.le_refl _) hn2.1 hbm (by omega);have hlen:(List.replicate n.toNat z).length=n.toNat:=List.length_replicate;refine ⟨_,_,μ,_,hrun,Gh.le.refl _,hw.alloc _,?_⟩;have hO:Own r e μ (.slice (some ⟨w.heap.size,0,none⟩) (List.replicate n.toNat z).length n.toNat) (List.replicate n.toNat z) [(w.heap.size,.cells (madeCells ie.zero.cells (n.toNat*j.size)) e)]:=by
   refine ⟨List.replicate n.toNat zc,⟨fun cs hcs=> ?_,.inr ⟨w.heap.size,n.toNat,_,?_,rfl,?_,?_,?_,?_⟩⟩,?_⟩
   ·rw[List.eq_of_mem_replicate hcs];exact r.len hrep
   ·simp
   ·simp
   ·unfold maxLen;omega
   ·rw[size_madeCells,hj3,hs]
   ·rw[hj3,←hsz,Qff,Qdy,hz,List.length_replicate]
    have hl:((List.replicate n.toNat zc).flatten).length=n.toNat*r.sz:=by
     have h1:=r.len hrep
     simp[h1]
    rw[←hl,List.take_length]
   ·refine ⟨by simp,fun i a b ha hb=> ?_⟩
    rw[List.getElem?_replicate] at ha hb
    split at ha
    ·rename_i hi
     rw[if_pos hi] at hb
     injection ha with ha;injection hb with hb
     rw[←ha,←hb];exact hrep
    ·cases ha
  have h0:=Own.cut hO (hi:=0) (ys:=[]) (by unfold J0;rw[if_pos ⟨Int.le_refl _,Int.le_refl _,by omega⟩];simp);exact hk _ _ _ h0
 ·cases hn
theorem Qj3 {n m:Nat} {i:Int} (h:n=m) (hi:i<(m:Nat)):i<(n:Nat):=h▸hi
def QeO (k:IntKind) (x y:Int):Int:=k.wrap ((BitVec.ofInt k.bits x &&& BitVec.ofInt k.bits y).toNat)
theorem Qcy {P:Program} (k:IntKind) (a b:Int):Ji P (Op.intBits .and k a b) (.int k (QeO k a b)):=by
 intro w
 rfl
section
variable {P:Program} {N:NN} {K:QW} {B:Nat→QW} {R:QW} {fr:Fr} {μ:Gh} {L:List Seg}
def QiF (N:NN) (K:QW):QW:=fun fr μ L=> ∀a w,Agr N fr a→Inv w μ L→ ∃fr' μ' L',Agr N fr' a∧μ.le μ'∧Inv w μ' L'∧K fr' μ' L'
theorem QiF.at {F:Fr} {L2:List Seg} (hF:Qg F fr) (hL:Qc L2 L) (h:QiF N K F μ L2):QiF N K fr μ L:=fun a w ha hw=>h a w (ha.sub hF) (hL w μ hw)
theorem QiF.done (h:K fr μ L):QiF N K fr μ L:=fun _ _ ha hw=>⟨fr,μ,L,ha,Gh.le.refl _,hw,h⟩
end
end Go.Proofs.YtilbengnjgglhaaGreat
