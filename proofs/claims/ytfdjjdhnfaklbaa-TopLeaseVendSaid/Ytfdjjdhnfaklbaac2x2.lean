/- TopLeaseVend: for every input the given law returns true, and its arguments read as before. No condition. -/
import Derived.Test.Ytfdjjdhnfaklbaac2x1
import Derived.Laws.MakeOwn
import Derived.Laws.Entries
import Derived.Scope
import Derived.Laws.StructEq
import Derived.Sort.OwnSortedInts
namespace Go.Proofs.Ytfdjjdhnfaklbaa
open Go.RowKit
set_option linter.unusedSimpArgs false
set_option linter.unusedVariables false
theorem Qj {α β:Type} {m:Option α} {f:α→Option β} {r:β} (h:m.bind f=some r): ∃x,m=some x∧f x=some r:=by
 cases m with
 | none=>cases h
 | some x=>exact ⟨x,rfl,h⟩
def ZE {α β γ:Type} (o:α⊕β) (f:α→γ) (g:β→γ):γ:=match o with
 | .inl a=>f a
 | .inr b=>g b
theorem YQ {α β γ:Type} {a:α} {f:α→γ} {g:β→γ} {r:γ} (h:ZE (.inl a) f g=r):f a=r:=h
theorem QD {α β γ:Type} {b:β} {f:α→γ} {g:β→γ} {r:γ} (h:ZE (.inr b) f g=r):g b=r:=h
def oun {α β γ:Type} (j:α×β) (f:α→β→γ):γ:=f j.1 j.2
abbrev VJ {α β:Type} (j:α×β) (f:α→β→Prop):Prop:=f j.1 j.2
theorem Ql {α β γ:Type} {a:α} {b:β} {f:α→β→γ} {r:γ} (h:oun (a,b) f=r):f a b=r:=h
def iter {σ ρ:Type} (body:σ→Option (σ⊕ρ)):Nat→σ→Option ρ
 | 0,_=>none
 | n+1,s=>(body s).bind fun q=>ZE q (fun s'=>iter body n s') fun r=>some r
def YN {α:Type} (xs:List α) (k:Int):Option α:=if 0≤k then xs[k.toNat]? else none
def Qee {α:Type} (xs:List α) (k:Int) (x:α):List α:=xs.set k.toNat x
theorem VZ {α:Type} (xs:List α) (k:Int) (x:α):(Qee xs k x).length=xs.length:=by simp[Qee]
def Vd {α:Type} (xs ys:List α):Option (List α):=if xs.length+ys.length≤1000000 then some (xs++ys) else none
def QaH (p:Prop) [Decidable p]:Option Unit:=if p then some () else none
theorem Qcy {p:Prop} [Decidable p] {u:Unit} (h:QaH p=some u):p:=by
 unfold QaH at h;split at h
 ·assumption
 ·cases h
theorem Qag {α:Type} {xs:List α} {k:Int} {x:α} (h:YN xs k=some x):0≤k∧k<(xs.length:Nat)∧xs[k.toNat]? =some x:=by
 unfold YN at h
 split at h
 ·refine ⟨by omega,?_,h⟩;rcases Nat.lt_or_ge k.toNat xs.length with h1 | h1
  ·omega
  ·rw[List.getElem?_eq_none h1] at h;cases h
 ·cases h
theorem QdS {α:Type} {xs ys zs:List α} (h:Vd xs ys=some zs):xs.length+ys.length≤1000000∧zs=xs++ys:=by
 unfold Vd at h
 split at h
 ·injection h with h;exact ⟨by assumption,h.symm⟩
 ·cases h
def Qq {β:Type} (k:Int):List (Int×β)→Option β
 | []=>none
 | p::r=>if p.1=k then some p.2 else Qq k r
def Q4 {β:Type} (k:Int) (v:β):List (Int×β)→List (Int×β)
 | []=>[(k,v)]
 | p::r=>if p.1=k then (k,v)::r else p::Q4 k v r
structure Rp (α:Type) where
 sz:Nat
 rep:Gh→α→List Value→Prop
 len: ∀{μ x cs},rep μ x cs→cs.length=sz
 mono: ∀{μ μ':Gh} {x cs},μ.le μ'→rep μ x cs→rep μ' x cs
 one: ∀{μ x cs},rep μ x cs→ ∀u∈cs,u.oneCell'=true
def rI (k:IntKind):Rp Int:=⟨1,fun _ n cs=>cs=[.int k n],fun h=>by rw[h];rfl,fun _ h=>h,fun h u hu=>by subst h;simp only[List.mem_singleton] at hu;subst hu;rfl⟩
def Zd:Rp Int:=rI .i64
def Qdx:Rp Bool:=⟨1,fun _ n cs=>cs=[.bool n],fun h=>by rw[h];rfl,fun _ h=>h,fun h u hu=>by subst h;simp only[List.mem_singleton] at hu;subst hu;rfl⟩
def QgT:Rp ByteArray:=⟨1,fun _ n cs=>cs=[.string n],fun h=>by rw[h];rfl,fun _ h=>h,fun h u hu=>by subst h;simp only[List.mem_singleton] at hu;subst hu;rfl⟩
def Qdy {α:Type} (sz:Nat) (enc:α→List Value) (hl: ∀x,(enc x).length=sz) (h1: ∀x,∀u∈enc x,u.oneCell'=true):Rp α :=
 ⟨sz,fun _ x cs=>cs=enc x,fun h=>by rw[h];exact hl _,fun _ h=>h,fun h u hu=>by subst h;exact h1 _ u hu⟩
def wfI (k:IntKind) (n:Int):Prop:=(Lit.int k n).wf=true
def QY {α β:Type} (R:α→β→Prop) (xs:List α) (ys:List β):Prop:=xs.length=ys.length∧ ∀(i:Nat) (x:α) (y:β),xs[i]? =some x→ys[i]? =some y→R x y
section
variable {α β:Type} {R:α→β→Prop} {xs:List α} {ys:List β}
theorem QY.nil:QY R [] []:=⟨rfl,fun i x y h=>by simp at h⟩
theorem QY.mono {R':α→β→Prop} (h:QY R xs ys) (hr: ∀x y,R x y→R' x y):QY R' xs ys:=⟨h.1,fun i x y h1 h2=>hr _ _ (h.2 i x y h1 h2)⟩
theorem QY.get (h:QY R xs ys) {i:Nat} {x:α} (hi:xs[i]? =some x): ∃y,ys[i]? =some y∧R x y:=by
 have hlt:i<xs.length:=by
  rcases Nat.lt_or_ge i xs.length with h | h
  ·exact h
  ·rw[List.getElem?_eq_none h] at hi;cases hi
 have hy:ys[i]? =some (ys[i]'(by rw[←h.1];exact hlt)):=by simp
 exact ⟨_,hy,h.2 i x _ hi hy⟩
theorem QY.get' (h:QY R xs ys) {y:β} (hy:y∈ys): ∃x,R x y:=by
 obtain ⟨i,hi⟩:=List.getElem?_of_mem hy;have hlt:i<ys.length:=by
  rcases Nat.lt_or_ge i ys.length with h | h
  ·exact h
  ·rw[List.getElem?_eq_none h] at hi;cases hi
 exact ⟨_,h.2 i (xs[i]'(by rw[h.1];exact hlt)) y (by simp) hi⟩
theorem QY.append {us:List α} {vs:List β} (h:QY R xs ys) (k:QY R us vs):QY R (xs++us) (ys++vs):=by
 refine ⟨by simp[h.1,k.1],fun i x y h1 h2=> ?_⟩;rcases Nat.lt_or_ge i xs.length with hi | hi
 ·rw[List.getElem?_append_left hi] at h1
  rw[List.getElem?_append_left (by rw[←h.1];exact hi)] at h2
  exact h.2 i x y h1 h2
 ·rw[List.getElem?_append_right hi] at h1
  rw[List.getElem?_append_right (by rw[←h.1];exact hi),←h.1] at h2
  exact k.2 _ x y h1 h2
theorem QY.cons {x:α} {y:β} (h:R x y) (k:QY R xs ys):QY R (x::xs) (y::ys):=by
 refine ⟨by simp[k.1],fun i a b h1 h2=> ?_⟩;cases i with
 | zero=>simp at h1 h2;subst h1 h2;exact h
 | succ i=>exact k.2 i a b (by simpa using h1) (by simpa using h2)
theorem QY.set (h:QY R xs ys) (i:Nat) {x:α} {y:β} (hr:R x y):QY R (xs.set i x) (ys.set i y):=by
 refine ⟨by simp[h.1],fun j a b h1 h2=> ?_⟩
 rw[List.getElem?_set] at h1 h2
 by_cases hij:i=j
 ·subst hij
  by_cases hl:i<xs.length
  ·have hl2:i<ys.length:=by rw[←h.1];exact hl
   simp[hl] at h1
   simp[hl2] at h2
   subst h1 h2;exact hr
  ·simp[hl] at h1
 ·rw[if_neg hij] at h1 h2
  exact h.2 j a b h1 h2
theorem QY.take (h:QY R xs ys) (n:Nat):QY R (xs.take n) (ys.take n):=by
 refine ⟨by simp[h.1],fun i x y h1 h2=> ?_⟩
 rw[List.getElem?_take] at h1 h2
 split at h1
 ·rename_i hlt;rw[if_pos hlt] at h2;exact h.2 i x y h1 h2
 ·cases h1
theorem QY.drop (h:QY R xs ys) (n:Nat):QY R (xs.drop n) (ys.drop n):=by
 refine ⟨by simp[h.1],fun i x y h1 h2=> ?_⟩
 rw[List.getElem?_drop] at h1 h2
 exact h.2 _ x y h1 h2
end
section
variable {α:Type} {r:Rp α} {e:TypeId} {μ μ':Gh} {L:List Seg} {A:Option Addr} {n c:Nat} {v:Value} {xs:List α} {ch:Seg} {k:Int} {x:α}
def Zc (r:Rp α) (μ:Gh) (A:Option Addr) (xs:List α):Prop:= ∃css,Arr μ A r.sz css∧QY (r.rep μ) xs css
def Rds (r:Rp α) (μ:Gh) (L:List Seg) (A:Option Addr) (xs:List α):Prop:= ∃css,Rd μ L A r.sz css∧QY (r.rep μ) xs css
def Own (r:Rp α) (e:TypeId) (μ:Gh) (v:Value) (xs:List α) (ch:Seg):Prop:= ∃css,Y0 e r.sz v css ch∧QY (r.rep μ) xs css
theorem Zc.mono (h:Zc r μ A xs) (hm:μ.le μ'):Zc r μ' A xs:=by
 obtain ⟨css,h1,h2⟩:=h;exact ⟨css,h1.mono hm,h2.mono fun _ _=>r.mono hm⟩
theorem Zc.nil:Zc r μ A []:=⟨[],Arr.nil,QY.nil⟩
theorem Zc.rds (h:Zc r μ A xs) (L:List Seg):Rds r μ L A xs:=by
 obtain ⟨css,h1,h2⟩:=h;exact ⟨css,h1.rd,h2⟩
theorem Rds.mono (h:Rds r μ L A xs) (hm:μ.le μ'):Rds r μ' L A xs:=by
 obtain ⟨css,h1,h2⟩:=h;exact ⟨css,h1.mono hm fun _ h=>h,h2.mono fun _ _=>r.mono hm⟩
theorem Rds.push {s:Seg} (h:Rds r μ L A xs):Rds r μ (s::L) A xs:=by
 obtain ⟨css,h1,h2⟩:=h;exact ⟨css,h1.cons,h2⟩
theorem Rds.nil:Rds r μ L A []:=⟨[],Rd.nil,QY.nil⟩
theorem Own.mono (h:Own r e μ v xs ch) (hm:μ.le μ'):Own r e μ' v xs ch:=by
 obtain ⟨css,h1,h2⟩:=h;exact ⟨css,h1,h2.mono fun _ _=>r.mono hm⟩
theorem Own.nil:Own r e μ (.slice none 0 0) [] []:=⟨[],Y0.nil,QY.nil⟩
theorem Own.form (h:Own r e μ v xs ch): ∃A c,v= .slice A xs.length c∧xs.length≤c∧c≤maxLen:=by
 obtain ⟨css,h1,h2⟩:=h;obtain ⟨A,c,h3,h4,h5⟩:=h1.form
 rw[←h2.1] at h3 h4
 exact ⟨A,c,h3,h4,h5⟩
theorem Own.rds (h:Own r e μ (.slice A n c) xs ch) (i:Nat) (hi:L[i]? =some ch):Rds r μ L A xs:=by
 obtain ⟨css,h1,h2⟩:=h;exact ⟨css,h1.rd i hi,h2⟩
theorem Own.le (h:Own r e μ v xs ch):xs.length≤9223372036854775807:=by
 obtain ⟨A,c,_,h1,h2⟩:=h.form;exact Nat.le_trans h1 h2
theorem VH {α:Type} {xs:List α} {c:Nat} (h:xs.length=c) (hb:Nat.ble c 1000000=true):xs.length≤c∧c≤maxLen:=by
 have:=Nat.le_of_ble_eq_true hb;exact ⟨by omega,by unfold maxLen;omega⟩
theorem Own.lenOk (h:Own r e μ (.slice A n c) xs ch):xs.length≤c∧c≤maxLen:=by
 obtain ⟨A',c',h1,h2,h3⟩:=h.form;injection h1 with _ _ h1
 subst h1;exact ⟨h2,h3⟩
theorem Yn.sub {a:Addr} {vs us:List Value} (h:Yn μ L a vs) (o:Nat) (hu:(vs.drop o).take us.length=us):Yn μ L (a.add o) us:=by
 intro j v hj
 rw[Addr.add_add']
 refine h _ _ ?_
 rw[←hu,List.getElem?_take] at hj
 split at hj
 ·rwa [List.getElem?_drop] at hj
 ·cases hj
theorem YV.push {s:Seg} {b:Nat} {o:Obj} (h:YV μ L b o):YV μ (s::L) b o:=YV.mono h (Gh.le.refl _) (by intro c hc;simp only[List.flatten_cons,List.mem_append];exact .inr hc)
theorem Rds.getI (h:Rds r μ L A xs) (hx:Go.Proofs.Ytfdjjdhnfaklbaa.YN xs k=some x): ∃a cs,A=some a∧r.rep μ x cs∧cs.length=r.sz∧Yn μ L (a.add (k.toNat*r.sz)) cs:=by
 obtain ⟨css,h1,h2⟩:=h;obtain ⟨_,_,h3⟩:=Qag hx;obtain ⟨cs,h4,h5⟩:=h2.get h3;obtain ⟨a,h6,h7⟩:=h1.at_ h4;exact ⟨a,cs,h6,h5,r.len h5,h7⟩
theorem Yn.push {a:Addr} {vs:List Value} {s:Seg} (h:Yn μ L a vs):Yn μ (s::L) a vs:=h.mono (Gh.le.refl _) (by intro c hc;simp only[List.flatten_cons,List.mem_append];exact .inr hc)
theorem Yn.any {a:Addr} {vs:List Value} (h:Yn μ [] a vs) (L:List Seg):Yn μ L a vs:=h.mono (Gh.le.refl _) (by simp)
theorem Yn.lift {a:Addr} {vs:List Value} (h:Yn μ L a vs) (hm:μ.le μ'):Yn μ' L a vs:=h.mono hm fun _ h=>h
def QgN (r:Rp α):Rp (List α) where
 sz:=1
 rep μ xs cs:= ∃A c,cs=[.slice A xs.length c]∧xs.length≤c∧c≤maxLen∧Zc r μ A xs
 len:=by rintro μ x cs ⟨A,c,rfl,_⟩;rfl
 mono:=by rintro μ μ' x cs hm ⟨A,c,h1,h2,h3,h4⟩;exact ⟨A,c,h1,h2,h3,h4.mono hm⟩
 one:=by rintro μ x cs ⟨A,c,rfl,_⟩ u hu;simp only[List.mem_singleton] at hu;subst hu;rfl
theorem Rds.lit (i:Nat) {g:Nat} {cs:List Value} {f:Nat×Nat} {css:List (List Value)} (hi:L[i]? =some [(g,.cells cs.toArray e f)]) (hc:cs=css.flatten) (ha:QY (r.rep μ) xs css):Rds r μ L (some ⟨g,0,none⟩) xs :=
 ⟨css,Rd.chunk i hi (fun c hc=>by obtain ⟨x,hx⟩:=ha.get' hc;exact r.len hx) hc,ha⟩
theorem Own.lit {g:Nat} {cs:List Value} {css:List (List Value)} (hc:cs=css.flatten) (ha:QY (r.rep μ) xs css) (hn:Nat.ble xs.length 1000=true) (hl:xs.length=n):Own r e μ (.slice (some ⟨g,0,none⟩) n n) xs [(g,.cells cs.toArray e (0,0))]:=by
 have h1: ∀c∈css,c.length=r.sz:=fun c hc=>by obtain ⟨x,hx⟩:=ha.get' hc;exact r.len hx
 have h2:=Nat.le_of_ble_eq_true hn;refine ⟨css,⟨h1,.inr ⟨g,n,cs.toArray,by rw[←ha.1,hl],rfl,by rw[←ha.1,hl];exact Nat.le_refl _,by unfold maxLen;omega,?_,?_⟩⟩,ha⟩
 ·rw[List.size_toArray,hc,Ys h1,←ha.1,hl]
 ·rw[List.toList_toArray,hc,←Ys h1,List.take_length]
theorem Upd.frzOwn {K:Gh→List Seg→Prop} (i:Nat) (hi:L[i]? =some ch) (h:Own r e μ (.slice A n c) xs ch) (hk: ∀μ',μ.le μ'→Zc r μ' A xs→Upd μ' (L.set i []) K):Upd μ L K:=by
 obtain ⟨css,h1,h2⟩:=h;refine Upd.arr i hi h1 fun A' c' μ' hv _ _ hm ha=> ?_;injection hv with hv _ _
 subst hv;exact hk μ' hm ⟨css,ha,h2.mono fun _ _=>r.mono hm⟩
theorem WP.frzOwn {P:Program} {N:NN} {cd:Code} {K:Qs} {B:Nat→Qs} {Rk:Qs} {fr:Fr} (i:Nat) (hi:L[i]? =some ch) (h:Own r e μ (.slice A n c) xs ch)
  (hk: ∀μ',μ.le μ'→Zc r μ' A xs→WP P N cd K B Rk fr μ' (L.set i [])):WP P N cd K B Rk fr μ L :=
 WP.upd (Upd.frzOwn i hi h fun μ' hm ha=>Upd.done (hk μ' hm ha))
theorem Fn.pre {P:Program} {f:FuncId} {args:List Value} {R:Value→Gh→List Seg→Prop} {fn:Func} (hf:P.funcs[f]? =some fn) (hnm:(fn.name== "runtime.NumGoroutine")=false) (hb:fn.body.isNone=false)
  (h:Upd μ L fun μ' L'=>Fn P f args μ' L' R):Fn P f args μ L R:=by
 refine .inl ⟨⟨fn,hf,hnm,hb⟩,fun w hw=> ?_⟩;obtain ⟨μ1,L1,h1,h2,h3⟩:=h w hw;rcases h3 with ⟨_,h3⟩ | ⟨fn',_,hf',_,hb',_⟩
 ·exact (h3 w h2).mono fun _ w' ⟨v,μ',L',he,hm,hi,hR⟩=>⟨v,μ',L',he,h1.trans hm,hi,hR⟩
 ·rw[hf] at hf'
  injection hf' with hf'
  subst hf'
  rw[hb] at hb';cases hb'
end
def YJ:List (Option Nat)→Nat→List Seg→List Seg
 | [],k,L=>L.drop k
 | none::r,k,L=>[]::YJ r k L
 | some i::r,k,L=>(L[i]?.getD [])::YJ r k (L.set i [])
def Qd (L2 L:List Seg):Prop:= ∀w μ,Inv w μ L→Inv w μ L2
theorem Qd.sel (L:List Seg): ∀(idx:List (Option Nat)) (k:Nat),Qd (YJ idx k L) L:=by
 intro idx
 induction idx generalizing L with
 | nil=>exact fun k w μ h=>h.sub (by
   simp only[YJ]
   conv=>rhs;rw[←List.take_append_drop k L,List.flatten_append]
   exact List.sublist_append_right _ _)
 | cons o r ih =>
  intro k w μ h;cases o with
  | none =>
   have:=ih L k w μ h;exact this.perm (by simp[YJ])
  | some i =>
   simp only[YJ]
   cases hi:L[i]? with
   | none =>
    have hs:L.set i []=L:=by
     rw[List.set_eq_of_length_le]
     rcases Nat.lt_or_ge i L.length with h | h
     ·rw[List.getElem?_eq_getElem h] at hi;cases hi
     ·exact h
    rw[hs]
    have:=ih L k w μ h;exact this.perm (by simp)
   | some s =>
    have hp:=h.perm (Yq hi);have key: ∀(idx:List (Option Nat)) (L:List Seg),∃M,L.flatten.Perm ((YJ idx k L).flatten++M):=by
     intro idx
     induction idx with
     | nil =>
      intro L;refine ⟨(L.take k).flatten,?_⟩
      simp only[YJ]
      conv=>lhs;rw[←List.take_append_drop k L,List.flatten_append]
      exact List.perm_append_comm
     | cons o r ih2 =>
      intro L;cases o with
      | none =>
       obtain ⟨M,hM⟩:=ih2 L;exact ⟨M,by simpa [YJ] using hM⟩
      | some j =>
       simp only[YJ]
       cases hj:L[j]? with
       | none =>
        have hs:L.set j []=L:=by
         rw[List.set_eq_of_length_le]
         rcases Nat.lt_or_ge j L.length with h | h
         ·rw[List.getElem?_eq_getElem h] at hj;cases hj
         ·exact h
        obtain ⟨M,hM⟩:=ih2 L;exact ⟨M,by rw[hs];simpa using hM⟩
       | some t =>
        obtain ⟨M,hM⟩:=ih2 (L.set j []);refine ⟨M,(Yq hj).trans ?_⟩
        simp only[List.flatten_cons,Option.getD_some,List.append_assoc]
        exact hM.append_left t
    obtain ⟨M,hM⟩:=key r (L.set i []);have h2:(s::L.set i []).flatten.Perm ((s::YJ r k (L.set i [])).flatten++M):=by
     simp only[List.flatten_cons,List.append_assoc]
     exact hM.append_left s
    refine (hp.perm (L':=[(s::YJ r k (L.set i [])).flatten,M]) (by simpa using h2)).sub ?_
    simp only[Option.getD_some,List.flatten_cons,List.flatten_nil,List.append_nil,List.append_assoc]
    rw[←List.append_assoc]
    exact List.sublist_append_left _ _
def Qi (F fr:Fr):Prop:= ∀t v,Zm F t=some v→Zm fr t=some v
theorem Qi.trans {F fr fr2:Fr} (h:Qi F fr) (h2:Qi fr fr2):Qi F fr2:=fun t v hv=>h2 t v (h t v hv)
theorem Qd.trans {A M B:List Seg} (h:Qd A M) (h2:Qd M B):Qd A B:=fun w μ hw=>h w μ (h2 w μ hw)
theorem Qi.of {F fr:Fr} (h:QdR F fr):Qi F fr:=h.look
section
variable {P:Program} {T:TT} {N:NN} {K:Qs} {B:Nat→Qs} {R:Qs} {fr:Fr} {μ:Gh} {L:List Seg}
theorem WP.at {c:Code} {F:Fr} {L2:List Seg} (hF:Qi F fr) (hL:Qd L2 L) (h:WP P N c K B R F μ L2):WP P N c K B R fr μ L:=fun a w ha hw=>h a w (ha.sub hF) (hL w μ hw)
theorem WP.cut {x y:Code} (M:Qs) (h1:WP P N x M B R fr μ L) (h2: ∀fr' μ' L',μ.le μ'→M fr' μ' L'→WP P N y K B R fr' μ' L'):WP P N (.seq x y) K B R fr μ L :=
 WP.seq (h1.mono (fun fr' μ' L' hm h=>h2 fr' μ' L' hm h) (fun _ _ _ _ _ h=>h) fun _ _ _ _ h=>h)
theorem WP.cutK {x:Code} (M:Qs) (h1:WP P N x M B R fr μ L) (h2: ∀fr' μ' L',μ.le μ'→M fr' μ' L'→K fr' μ' L'):WP P N x K B R fr μ L :=
 h1.mono (fun fr' μ' L' hm h=>h2 fr' μ' L' hm h) (fun _ _ _ _ _ h=>h) fun _ _ _ _ h=>h
theorem WP.iter {σ ρ:Type} {body:σ→Option (σ⊕ρ)} {n:Nat} {s0:σ} {o:ρ} {c:Code} (h:Go.Proofs.Ytfdjjdhnfaklbaa.iter body n s0=some o) (I:σ→Fr→Gh→List Seg→Prop) (h0:I s0 fr μ L)
  (round: ∀s q fr' μ' L',μ.le μ'→I s fr' μ' L'→body s=some q→(∀r,q= .inr r→r=o)→WP P N c (fun fr2 μ2 L2=> ∃s',q= .inl s'∧I s' fr2 μ2 L2) B R fr' μ' L'):WP P N (.loop c) K B R fr μ L:=by
 refine WP.loop (fun n fr μ L=> ∃s,Go.Proofs.Ytfdjjdhnfaklbaa.iter body n s=some o∧I s fr μ L) (n:=n) ⟨s0,h,h0⟩ ?_;rintro n fr1 μ1 L1 hm ⟨s,h1,h2⟩;cases n with
 | zero=>cases h1
 | succ n =>
  obtain ⟨q,hq,h3⟩:=Qj h1;refine (round s q fr1 μ1 L1 hm h2 hq (fun r e=>by subst e;exact Option.some.inj h3)).mono (fun fr2 μ2 L2 _ ⟨s',e,h4⟩=>⟨n,Nat.lt_succ_self n,s',by subst e;exact h3,h4⟩) (fun _ _ _ _ _ h=>h) (fun _ _ _ _ h=>h)
theorem Qai {g g':Nat} (h:Value.pointer (some ⟨g,0,none⟩)= .pointer (some ⟨g',0,none⟩)):g=g':=by
 injection h with h;injection h with h;injection h with h
theorem WP.seg {c:Code} {L2:List Seg} (hL:Qd L2 L) (h:WP P N c K B R fr μ L2):WP P N c K B R fr μ L:=fun a w ha hw=>h a w ha (hL w μ hw)
theorem Upd.seg {L2:List Seg} {k:Gh→List Seg→Prop} (hL:Qd L2 L) (h:Upd μ L2 k):Upd μ L k:=fun w hw=>h w (hL w μ hw)
theorem Fn.seg {f:FuncId} {args:List Value} {L2:List Seg} {R:Value→Gh→List Seg→Prop} (hL:Qd L2 L) (h:Fn P f args μ L2 R):Fn P f args μ L R:=by
 rcases h with ⟨h1,h2⟩ | ⟨fn,e,h1,h2,h3,h4,h5,h6⟩
 ·exact .inl ⟨h1,fun w hw=>h2 w (hL w μ hw)⟩
 ·exact .inr ⟨fn,e,h1,h2,h3,h4,h5,fun w hw=>h6 w (hL w μ hw)⟩
theorem Upd.selS {k:Gh→List Seg→Prop} (idx:List (Option Nat)) (n:Nat) (h:Upd μ (Go.Proofs.Ytfdjjdhnfaklbaa.YJ idx n L) k):Upd μ L k:=fun w hw=>h w (Qd.sel L idx n w μ hw)
theorem QP.of {keep L:List Seg} (h: ∀s∈keep,s∈L):QP keep L:=fun c hc=>by
 obtain ⟨s,h1,h2⟩:=List.mem_flatten.1 hc;exact List.mem_flatten.2 ⟨s,h s h1,h2⟩
variable {k:Value→Prop}
section
variable {t yt:TypeId} {x y:Operand} {kd:IntKind} {a b:Int}
theorem QfR (h:evV fr x=some (.int kd a)) (h2:evV fr y=some (.int kd b)) (hk:k (.bool (decide (a=b)))):vcR P T (.binOp .eql t x y yt) fr μ L k:=Qaq h h2 (fun e=>by rw[decide_eq_true e] at hk;exact hk) (fun e=>by rw[decide_eq_false e] at hk;exact hk)
theorem Qf1 (h:evV fr x=some (.int kd a)) (h2:evV fr y=some (.int kd b)) (hk:k (.bool (!decide (a=b)))):vcR P T (.binOp .neq t x y yt) fr μ L k:=QgC h h2 (fun e=>by rw[decide_eq_false e] at hk;exact hk) (fun e=>by rw[decide_eq_true e] at hk;exact hk)
theorem QfX (h:evV fr x=some (.int kd a)) (h2:evV fr y=some (.int kd b)) (hk:k (.bool (decide (a<b)))):vcR P T (.binOp .lss t x y yt) fr μ L k:=Qgx h h2 (fun e=>by rw[decide_eq_true e] at hk;exact hk) (fun e=>by rw[decide_eq_false e] at hk;exact hk)
theorem QfW (h:evV fr x=some (.int kd a)) (h2:evV fr y=some (.int kd b)) (hk:k (.bool (decide (a≤b)))):vcR P T (.binOp .leq t x y yt) fr μ L k:=Qgw h h2 (fun e=>by rw[decide_eq_true e] at hk;exact hk) (fun e=>by rw[decide_eq_false e] at hk;exact hk)
theorem QfT (h:evV fr x=some (.int kd a)) (h2:evV fr y=some (.int kd b)) (hk:k (.bool (decide (b<a)))):vcR P T (.binOp .gtr t x y yt) fr μ L k:=Qgt h h2 (fun e=>by rw[decide_eq_true e] at hk;exact hk) (fun e=>by rw[decide_eq_false e] at hk;exact hk)
theorem QfS (h:evV fr x=some (.int kd a)) (h2:evV fr y=some (.int kd b)) (hk:k (.bool (decide (b≤a)))):vcR P T (.binOp .geq t x y yt) fr μ L k:=Qgs h h2 (fun e=>by rw[decide_eq_true e] at hk;exact hk) (fun e=>by rw[decide_eq_false e] at hk;exact hk)
theorem QfQ {i:TyI} {a b:Bool} (h:evV fr x=some (.bool a)) (h2:evV fr y=some (.bool b)) (hT:T t=some i) (hf:Qc2 i.u=true) (hk:k (.bool (a==b))):vcR P T (.binOp .eql t x y yt) fr μ L k :=
 Qap h h2 hT hf (fun e=>by subst e;simpa using hk) (fun e=>by
                                   have:(a==b)=false:=by simpa using e
                                   rw[this] at hk;exact hk)
theorem Qf0 {i:TyI} {a b:Bool} (h:evV fr x=some (.bool a)) (h2:evV fr y=some (.bool b)) (hT:T t=some i) (hf:Qc2 i.u=true) (hk:k (.bool (!(a==b)))):vcR P T (.binOp .neq t x y yt) fr μ L k :=
 QgA h h2 hT hf (fun e=>by
                have:(a==b)=false:=by simpa using e
                rw[this] at hk;exact hk) (fun e=>by subst e;simpa using hk)
theorem QcU {args:Array Operand} {tys:Array TypeId} {kd kd':IntKind} {x y:Int} (h:JQ fr args.toList=some [.int kd x,.int kd' y]) (hk:k (.int kd (min x y))):vcR P T (.call ⟨.builtin .min,args,tys⟩) fr μ L k :=
 QfZ h (n:=min x y) (by rw[Int.min_def];split<;>split<;>omega) hk
theorem Qev {args:Array Operand} {tys:Array TypeId} {kd kd':IntKind} {x y:Int} (h:JQ fr args.toList=some [.int kd x,.int kd' y]) (hk:k (.int kd (max x y))):vcR P T (.call ⟨.builtin .max,args,tys⟩) fr μ L k :=
 QfY h (n:=max x y) (by rw[Int.max_def];split<;>split<;>omega) hk
end
theorem Qgv {t e:TypeId} {x n:Operand} {A:Option Addr} {len c:Nat} {kd:IntKind} {ix:Int} {i j:TyI} {sz:Nat} {a:Addr} (h:evV fr x=some (.slice A len c)) (h2:evV fr n=some (.int kd ix)) (hT:T t=some i) (hu:i.u= .slice e) (he:T e=some j) (hs:j.size=sz)
  (hb:0≤ix∧ix<(len:Nat)) (hA:A=some a) (hk:k (.pointer (some (a.add (ix.toNat*sz))))):vcR P T (.indexAddr t x n) fr μ L k:=QgR h h2 hT hu he hs ⟨hb.1,hb.2,a,hA,hk⟩
end
section
variable {P:Program} {T:TT} {μ:Gh} {L:List Seg} {α:Type} {r:Rp α}
theorem Jc (hT:TOk P T) {t ty e:TypeId} {it ie:TyI} {k:Value→Gh→List Seg→Prop} (ht:T t=some it) (hu:it.u= .slice e) (he:T e=some ie) (hz:ie.zero.cells.size=ie.size) (hsz:0<ie.size) (hsr:ie.size=r.sz) (hby:Nat.ble ie.bytes 10000=true)
  {v:Value} {xs ys zs:List α} {ch:Seg} (i:Nat) (hi:L[i]? =some ch) (hown:Own r e μ v xs ch) {A:Option Addr} {m c:Nat} (hm:ys.length=m) (hr:Rds r μ L A ys) (hz2:Vd xs ys=some zs)
  (hk: ∀A' c' ch',Own r e μ (.slice A' zs.length c') zs ch'→k (.slice A' zs.length c') μ (L.set i ch')):Q5 P (Builtin.append_ #[t,t] ty #[v,.slice A m c]) μ L k:=by
 obtain ⟨css,h1,h2⟩:=hown;obtain ⟨nss,h3,h4⟩:=hr;obtain ⟨hb,rfl⟩:=QdS hz2;have hby:=Nat.le_of_ble_eq_true hby
 rw[←hsr] at h1 h3
 have hlen:css.length+m≤1000000:=by rw[←h2.1,←hm];exact hb
 refine Qaj hT ht hu he hz hsz i hi h1 (news:=nss) (by rw[←h4.1,hm]) h3 (fun cs hc u hu=> ?_) (by omega) ?_ fun v' ch' hv _=> ?_
 ·obtain ⟨x,hx⟩:=h4.get' hc;exact r.one hx u hu
 ·exact Nat.le_trans (Nat.mul_le_mul hlen hby) (by decide)
 ·rw[hsr] at hv
  have ho:Own r e μ v' (xs++ys) ch':=⟨_,hv,h2.append h4⟩
  obtain ⟨A',c',rfl,_,_⟩:=ho.form;exact hk A' c' ch' ho
theorem Qcu {sz:Nat}: ∀{css:List (List Value)} {i o:Nat} {cs vs:List Value},(∀c∈css,c.length=sz)→css[i]? =some cs→o+vs.length≤sz→ ∀tl,Zq (css.flatten++tl) (i*sz+o) vs=(css.set i (Zq cs o vs)).flatten++tl
 | [],i,o,cs,vs,_,hi,_,tl=>by simp at hi
 | c::rs,0,o,cs,vs,h,hi,hl,tl=>by
  simp only[List.getElem?_cons_zero,Option.some.injEq] at hi
  subst hi;have hc:=h c (by simp)
  simp only[List.set_cons_zero,List.flatten_cons,Nat.zero_mul,Nat.zero_add,List.append_assoc]
  rw[W1 vs o (c++(rs.flatten++tl)) (by simp;omega),W1 vs o c (by omega)]
  rw[List.take_append_of_le_length (by omega),List.drop_append_of_le_length (by omega)]
  simp
 | c::rs,i+1,o,cs,vs,h,hi,hl,tl=>by
  have hc:=h c (by simp);have hi':rs[i]? =some cs:=by simpa using hi
  have hlt:i<rs.length:=by
   rcases Nat.lt_or_ge i rs.length with h | h
   ·exact h
   ·rw[List.getElem?_eq_none h] at hi';cases hi'
  have ih:=Qcu (o:=o) (vs:=vs) (fun c hc=>h c (by simp[hc])) hi' hl tl;have hfl:rs.flatten.length=rs.length*sz:=Ys fun c hc=>h c (by simp[hc]);have hb:i*sz+sz≤rs.length*sz:=by rw[←Nat.succ_mul];exact Nat.mul_le_mul_right _ hlt
  have e:(i+1)*sz+o=c.length+(i*sz+o):=by rw[hc,Nat.succ_mul];omega
  simp only[List.set_cons_succ,List.flatten_cons,List.append_assoc]
  rw[←ih,e,W1 vs _ _ (by simp only[List.length_append];omega),W1 vs (i*sz+o) _ (by simp only[List.length_append];omega)]
  rw[List.take_append,List.drop_append]
  have e1:c.length+(i*sz+o)-c.length=i*sz+o:=by omega
  have e2:c.length+(i*sz+o)+vs.length-c.length=i*sz+o+vs.length:=by omega
  rw[e1,e2,List.take_of_length_le (by omega),List.drop_of_length_le (by omega)]
  simp
theorem Own.store {e:TypeId} {A:Option Addr} {n c:Nat} {xs:List α} {ch:Seg} {a:Addr} {kx:Int} {x x':α} {vs:List Value} {o sz:Nat} {k:List Seg→Prop} (i:Nat) (hi:L[i]? =some ch) (h:Own r e μ (.slice A n c) xs ch) (hA:A=some a) (hx:YN xs kx=some x) (hsz:r.sz=sz) (hl:Nat.ble (o+vs.length) sz=true)
  (hc: ∀y,r.rep μ x y→r.rep μ x' (Zq y o vs)) (hk: ∀ch',Own r e μ (.slice A n c) (Qee xs kx x') ch'→k (L.set i ch')):Ex (WG L ((a.add (kx.toNat*sz)).add o) vs) k:=by
 obtain ⟨css,h1,h2⟩:=h;subst hsz;obtain ⟨_,_,hxn⟩:=Qag hx;obtain ⟨y,hy1,hy2⟩:=h2.get hxn;have hr:=hc y hy2;obtain ⟨cs',hcs'⟩: ∃z,Zq y o vs=z:=⟨_,rfl⟩
 rw[hcs'] at hr
 have hl:=Nat.le_of_ble_eq_true hl;rcases h1.2 with ⟨_,rfl,_⟩ | ⟨g,cap,cur,hv,rfl,q1,q2,q3,q4⟩
 ·simp at hy1
 ·injection hv with hv1 hv2 hv3
  subst hA;injection hv1 with hv1
  subst hv1 hv2 hv3;have hlt:kx.toNat<css.length:=by
   rcases Nat.lt_or_ge kx.toNat css.length with h | h
   ·exact h
   ·rw[List.getElem?_eq_none h] at hy1;cases hy1
  have hcur:cur.toList=css.flatten++cur.toList.drop (css.length*r.sz):=by
   conv=>lhs;rw[←List.take_append_drop (css.length*r.sz) cur.toList,q4]
  have hfl:=Ys h1.1;have hb:kx.toNat*r.sz+r.sz≤css.length*r.sz:=by rw[←Nat.succ_mul];exact Nat.mul_le_mul_right _ hlt
  have hcl:css.length*r.sz≤cur.size:=by rw[q3];exact Nat.mul_le_mul_right _ q1
  have hst:=Qcu (o:=o) (vs:=vs) h1.1 hy1 hl (cur.toList.drop (css.length*r.sz))
  rw[←hcur,hcs'] at hst
  rw[ZG,ZG,Nat.zero_add]
  have hsa:=WG.at (L:=L) (g:=g) (off:=kx.toNat*r.sz+o) (l:=cur.toList) (vs:=vs) (e:=e) i (by simpa using hi) hst (by simp only[Array.length_toList];omega);refine Ex.mk _ hsa (hk _ ⟨css.set kx.toNat cs',⟨?_,.inr ⟨g,c,_,by simp,rfl,by simpa using q1,q2,?_,?_⟩⟩,h2.set kx.toNat hr⟩)
  ·intro d hd;rcases List.mem_or_eq_of_mem_set hd with hd | rfl
   ·exact h1.1 d hd
   ·exact r.len hr
  ·have: ∀d∈css.set kx.toNat cs',d.length=r.sz:=by
    intro d hd;rcases List.mem_or_eq_of_mem_set hd with hd | rfl
    ·exact h1.1 d hd
    ·exact r.len hr
   simp only[List.size_toArray,List.length_append,Ys this,List.length_set,List.length_drop,Array.length_toList]
   omega
  ·have: ∀d∈css.set kx.toNat cs',d.length=r.sz:=by
    intro d hd;rcases List.mem_or_eq_of_mem_set hd with hd | rfl
    ·exact h1.1 d hd
    ·exact r.len hr
   have hle:=Ys this
   simp only[List.length_set] at hle
   simp only[List.toList_toArray,List.length_set,←hle,List.take_left]
def Wi (xs:List α):Option (List α):=if xs.length≤1000000 then some xs else none
theorem QbS {P:Program} {f:FuncId} {e:TypeId} {sz:Nat}
  (hC: ∀{μ:Gh} {L:List Seg} {A:Option Addr} {n c:Nat} {css:List (List Value)} (_:Rd μ L A sz css) (_:css.length=n) (_: ∀cs∈css,∀u∈cs,u.oneCell'=true) (_:n≤1000000)
   {R:Value→Gh→List Seg→Prop} (_: ∀v ch,Y0 e sz v css ch→R v μ (ch::L)),Fn P f [.slice A n c] μ L R)
  (hsz:r.sz=sz) {A:Option Addr} {c n:Nat} {xs ys:List α} (hn:xs.length=n) (hr:Rds r μ L A xs) (hz:Wi xs=some ys) {R:Value→Gh→List Seg→Prop}
  (hR: ∀A' c' ch',Own r e μ (.slice A' ys.length c') ys ch'→R (.slice A' ys.length c') μ (ch'::L)):Fn P f [.slice A n c] μ L R:=by
 subst hsz hn;unfold Wi at hz
 split at hz
 case isFalse=>cases hz
 rename_i hb
 injection hz with hz
 subst hz;obtain ⟨css,h1,h2⟩:=hr
 rw[h2.1] at hb ⊢
 refine hC h1 rfl (fun cs hc u hu=> ?_) hb fun v ch hv=> ?_
 ·obtain ⟨x,hx⟩:=h2.get' hc;exact r.one hx u hu
 ·have ho:Own r e μ v xs ch:=⟨css,hv,h2⟩
  obtain ⟨A',c',rfl,_,_⟩:=ho.form;exact hR A' c' ch ho
def YK {β:Type} (enc:β→Value) (es:Array MapEntry) (c:Nat) (m:List (Int×β)):Prop:=Jy .i64 es c (m.map fun p=>(p.1,enc p.2))
theorem Qbz {β:Type} (enc:β→Value) (n:Int): ∀(m:List (Int×β)),JS n (m.map fun p=>(p.1,enc p.2))=(Qq n m).map enc
 | []=>rfl
 | p::m=>by
  simp only[List.map_cons,JS,Qq,Qbz enc n m]
  split<;>rfl
theorem QaT {β:Type} (enc:β→Value) (n:Int) (v:β): ∀(m:List (Int×β)),V9 n (enc v) (m.map fun p=>(p.1,enc p.2))=(Q4 n v m).map fun p=>(p.1,enc p.2)
 | []=>rfl
 | p::m=>by
  simp only[List.map_cons,V9,Q4,QaT enc n v m]
  split<;>rfl
section
variable {β:Type} {enc:β→Value} {es:Array MapEntry} {c:Nat} {m:List (Int×β)}
theorem YK.nil:YK enc #[] 0 []:=Jy.nil
theorem YK.look (h:YK enc es c m) {g:Nat} (ho:YV μ L g (.map es c)) {z:Value} {zb:β} (hz:z=enc zb) (n:Int) :
  ∃es c,YV μ L g (.map es c)∧JE .i64 es.toList∧(enc ((Qq n m).getD zb),(Qq n m).isSome)=(match JR n es.toList with | some v=>(v,true) | none=>(z,false)):=by
 refine ⟨es,c,ho,h.keys,?_⟩
 rw[h.find,Qbz]
 cases Qq n m<;>simp[hz]
theorem YK.size (h:YK enc es c m):es.size=m.length:=by rw[Jy.size h,List.length_map]
theorem QbK (hT:TOk P T) {t kt et:TypeId} {it ik:TyI} (ht:T t=some it) (hu:it.u= .map kt et) (hkt:T kt=some ik) (hku:ik.u= .int .i64)
  (i:Nat) {g:Nat} {n:Int} {b:β} {v:Value} {k:Gh→List Seg→Prop} (hi:L[i]? =some [(g,.map es c)]) (hm:YK enc es c m) (hv:v=enc b)
  (hk: ∀es' c',YK enc es' c' (Q4 n b m)→k μ (L.set i [(g,.map es' c')])):Jz P (Instr.mapUpdate t (.map (some g)) (.int .i64 n) v) μ L k:=by
 subst hv;refine V3 hT ht hu hkt hku i 0 hi rfl hm fun es' c' hm'=> ?_
 rw[QaT] at hm'
 exact hk es' c' hm'
end
end
end Go.Proofs.Ytfdjjdhnfaklbaa
namespace Go.Proofs.Ytfdjjdhnfaklbaa
open Go.RowKit
set_option linter.unusedSimpArgs false
set_option linter.unusedVariables false
section
variable {P:Program} {T:TT} {fr:Fr} {μ:Gh} {L:List Seg} {t yt:TypeId} {x y:Operand} {kd kd':IntKind} {a b:Int} {k:Value→Prop}
theorem QfU {s e:TypeId} {g o o' len sz:Nat} {kd:IntKind} {ix:Int} {i j:TyI} (h:evV fr x=some (.pointer (some ⟨g,o,none⟩))) (h2:evV fr y=some (.int kd ix)) (hT:T s=some i) (hu:i.u= .array len e) (he:T e=some j) (hs:j.size=sz)
  (hg:0≤ix∧ix<len) (ho:o+ix.toNat*sz=o') (hk:k (.pointer (some ⟨g,o',none⟩))):vcR P T (.indexAddr s x y) fr μ L k :=
 Qgu h h2 hT hu he hs hg (by rw[ZG,ho];exact hk)
end
def Qde {α:Type} (xs:List α) (lo hi:Int):Option (List α):=if 0≤lo∧lo≤hi∧hi≤xs.length then some ((xs.take hi.toNat).drop lo.toNat) else none
theorem Qa4 {α:Type} {xs ys:List α} {lo hi:Int} (h:Qde xs lo hi=some ys):0≤lo∧lo≤hi∧hi≤xs.length∧ys=(xs.take hi.toNat).drop lo.toNat∧ys.length=hi.toNat-lo.toNat:=by
 unfold Qde at h
 split at h
 ·rename_i hc
  injection h with h
  refine ⟨hc.1,hc.2.1,hc.2.2,h.symm,?_⟩
  rw[←h,List.length_drop,List.length_take]
  omega
 ·cases h
section
variable {α:Type} {r:Rp α} {μ:Gh} {L:List Seg} {A:Option Addr} {xs ys:List α} {lo hi:Int}
theorem Zc.pre (h:Zc r μ A xs) (hs:Qde xs 0 hi=some ys):Zc r μ A ys:=by
 obtain ⟨css,h1,h2⟩:=h;obtain ⟨_,_,_,e,_⟩:=Qa4 hs;subst e;refine ⟨css.take hi.toNat,fun i cs hi'=> ?_,by simpa using h2.take hi.toNat⟩
 rw[List.getElem?_take] at hi'
 split at hi'
 ·exact h1 i cs hi'
 ·cases hi'
theorem Rds.pre (h:Rds r μ L A xs) (hs:Qde xs 0 hi=some ys):Rds r μ L A ys:=by
 obtain ⟨css,h1,h2⟩:=h;obtain ⟨_,_,_,e,_⟩:=Qa4 hs;subst e;exact ⟨css.take hi.toNat,h1.take _,by simpa using h2.take hi.toNat⟩
theorem Rds.sub {A':Option Addr} {cap:Nat} (h:Rds r μ L A xs) (hc:xs.length≤cap) (hs:Qde xs lo hi=some ys) (hA:A'=(if cap=lo.toNat then A else A.map (·.add (lo.toNat*r.sz)))):Rds r μ L A' ys:=by
 obtain ⟨css,h1,h2⟩:=h;obtain ⟨k1,k2,k3,e,k4⟩:=Qa4 hs;subst e;have h1:=h1.take hi.toNat;have h2:=h2.take hi.toNat;refine ⟨(css.take hi.toNat).drop lo.toNat,⟨fun cs hcs=>h1.1 cs (List.mem_of_mem_drop hcs),fun hne=> ?_⟩,h2.drop _⟩;have hlt:lo.toNat<(css.take hi.toNat).length:=by
  rcases Nat.lt_or_ge lo.toNat (css.take hi.toNat).length with h | h
  ·exact h
  ·exact absurd (List.drop_of_length_le h) hne
 have hl:=h2.1
 rw[List.length_take] at hl
 obtain ⟨a,ha,hcell⟩:=h1.drop hlt;refine ⟨a.add (lo.toNat*r.sz),?_,hcell⟩
 rw[hA,if_neg (by omega),ha]
 rfl
theorem Zc.sub {A':Option Addr} {cap:Nat} (h:Zc r μ A xs) (hc:xs.length≤cap) (hs:Qde xs lo hi=some ys) (hA:A'=(if cap=lo.toNat then A else A.map (·.add (lo.toNat*r.sz)))):Zc r μ A' ys:=by
 obtain ⟨css,h1,h2⟩:=h;obtain ⟨k1,k2,k3,e,k4⟩:=Qa4 hs;subst e;refine ⟨(css.take hi.toNat).drop lo.toNat,fun i cs hi'=> ?_,(h2.take hi.toNat).drop _⟩
 rw[List.getElem?_drop,List.getElem?_take] at hi'
 split at hi'
 ·rename_i hlt
  obtain ⟨g1,a,g2,g3⟩:=h1 _ cs hi';have hl:lo.toNat+i<css.length:=by
   rcases Nat.lt_or_ge (lo.toNat+i) css.length with h | h
   ·exact h
   ·rw[List.getElem?_eq_none h] at hi';cases hi'
  have hx:=h2.1;refine ⟨g1,a.add (lo.toNat*r.sz),?_,?_⟩
  ·rw[hA,if_neg (by omega),g2];rfl
  ·rw[Addr.add_add',←Nat.add_mul];exact g3
 ·cases hi'
variable {P:Program} {T:TT} {fr:Fr} {t e:TypeId} {x:Operand} {n cap:Nat} {i j:TyI} {sz:Nat} {k:Value→Prop}
end
def ZX {β:Type} (n:Int):List (Int×β)→List (Int×β)
 | []=>[]
 | p::r=>if p.1=n then r else p::ZX n r
theorem QaQ {β γ:Type} (f:β→γ) (n:Int): ∀(m:List (Int×β)),ZX n (m.map fun p=>(p.1,f p.2))=(ZX n m).map fun p=>(p.1,f p.2)
 | []=>rfl
 | p::m=>by simp only[List.map_cons,ZX];split<;>simp[QaQ f n m]
theorem VU (kd:IntKind) (n:Int): ∀(es:List MapEntry) (i:Nat) {m:List (Int×Value)},es.map (fun e=>(e.key,e.val))=m.map (fun p=>(Value.int kd p.1,p.2)) →
  (Instr.findNow (.int kd) (.int kd n) es i=some none∧ZX n m=m) ∨
  ∃j v,Instr.findNow (.int kd) (.int kd n) es i=some (some (i+j,v))∧j<es.length∧ZX n m=m.eraseIdx j
 | [],i,[],_=> .inl ⟨rfl,rfl⟩
 | [],i,p::m,h=>by simp at h
 | e::es,i,[],h=>by simp at h
 | e::es,i,p::m,h=>by
  simp only[List.map_cons,List.cons.injEq,Prod.mk.injEq] at h
  obtain ⟨⟨h1,h2⟩,h3⟩:=h
  by_cases hn:p.1=n
  ·exact .inr ⟨0,e.val,by simp[Instr.findNow,Instr.sameNow,h1,hn],by simp,by simp[ZX,hn]⟩
  ·have hne:(n==p.1)=false:=by simpa using fun e=>hn e.symm
   rcases VU kd n es (i+1) h3 with ⟨h4,h5⟩ | ⟨j,v,h4,h6,h8⟩
   ·exact .inl ⟨by simp[Instr.findNow,Instr.sameNow,h1,hne,h4],by simp[ZX,hn,h5]⟩
   ·refine .inr ⟨j+1,v,?_,by simp;omega,by simp[ZX,hn,h8]⟩
    simp only[Instr.findNow,Instr.sameNow,h1,if_true,hne,h4]
    congr 3
    omega
theorem QaP {α β:Type} (f:α→β): ∀(l:List α) (j:Nat),(l.eraseIdx j).map f=(l.map f).eraseIdx j
 | [],_=>rfl
 | x::l,0=>rfl
 | x::l,j+1=>by simp[QaP f l j]
theorem Jy.erase {kd:IntKind} {es:Array MapEntry} {c:Nat} {m:List (Int×Value)} (h:Jy kd es c m) {j:Nat} (hj:j<es.size):Jy kd (es.eraseIdxIfInBounds j) c (m.eraseIdx j):=by
 have hsub:(es.eraseIdxIfInBounds j).toList=es.toList.eraseIdx j:=by
  unfold Array.eraseIdxIfInBounds
  rw[dif_pos hj]
  simp
 have hs:(es.toList.eraseIdx j).Sublist es.toList:=List.eraseIdx_sublist _ _;refine ⟨?_,?_,?_,?_⟩
 ·rw[hsub,QaP,QaP,h.ps]
 ·exact h.nd.sublist ((List.eraseIdx_sublist _ _).map _)
 ·rw[hsub];exact h.born.sublist (hs.map _)
 ·intro e he
  rw[hsub] at he
  exact h.lt e (hs.subset he)
section
variable {P:Program} {T:TT} {μ:Gh} {L:List Seg} {β:Type} {enc:β→Value} {es:Array MapEntry} {c:Nat} {m:List (Int×β)}
theorem Qe9 (hT:TOk P T) {t kt et ty:TypeId} {it ik:TyI} (ht:T t=some it) (hu:it.u= .map kt et) (hkt:T kt=some ik) (hku:ik.u= .int .i64)
  (i:Nat) {g:Nat} {n:Int} {k:Value→Gh→List Seg→Prop} (hi:L[i]? =some [(g,.map es c)]) (hm:YK enc es c m)
  (hk: ∀es',YK enc es' c (ZX n m)→k (.tuple #[]) μ (L.set i [(g,.map es' c)])):Q5 P (Builtin.delete_ #[t,kt] ty #[.map (some g),.int .i64 n]) μ L k:=by
 intro w hw;have hj:[(g,Obj.map es c)][0]? =some (g,.map es c):=rfl;have hb:w.heap[g]? =some (.map es c):=hw.own (g,_) (List.mem_flatten.2 ⟨_,List.mem_of_getElem? hi,List.mem_of_getElem? hj⟩);have hc: ∀b,(Instr.checkKey b 10000 kt (.int .i64 n)).run P w= .ok () w:=fun b=>Ja hT hkt hku b 9999 _ w;have hut:=Qdf hT ht hu (by simp);have hkk:=Qdf hT hkt hku (by simp);rcases VU .i64 n es.toList 0 hm.ps with ⟨h1,h2⟩ | ⟨jj,x,h1,h3,h2⟩
 ·rw[QaQ] at h2
  have h4:YK enc es c (ZX n m):=by unfold YK;rw[h2];exact hm
  refine ⟨_,_,μ,_,?_,Gh.le.refl _,hw.updObj hi hj (o':= .map es c),hk es h4⟩
  simp[Builtin.delete_,run_underlying hut,ZT w _ _ (by simp) hb,hc,Instr.findKey,run_underlying hkk,h1,Wt w g _ _ (by simp) hb,Result.andThen]
 ·have hjs:jj<es.size:=by simpa using h3
  have h5:=Jy.erase hm hjs;have h4:YK enc (es.eraseIdxIfInBounds jj) c (ZX n m):=by unfold YK;rw[←QaQ,h2];exact h5
  refine ⟨_,_,μ,_,?_,Gh.le.refl _,hw.updObj hi hj (o':= .map (es.eraseIdxIfInBounds jj) c),hk _ h4⟩
  simp[Builtin.delete_,run_underlying hut,ZT w _ _ (by simp) hb,hc,Instr.findKey,run_underlying hkk,h1,Wt w g _ _ (by simp) hb,Result.andThen]
end
def QdP {β:Type} (enc:β→Value) (v:Value) (so:Seg):Option (List (Int×β))→Prop
 | none=>v= .map none∧so=[]
 | some m=> ∃(g:Nat) (es:Array MapEntry) (cn:Nat),v= .map (some g)∧so=[(g,.map es cn)]∧YK enc es cn m
theorem QdP.nil {β:Type} {enc:β→Value}:QdP enc (.map none) [] none:=⟨rfl,rfl⟩
theorem QdP.some {β:Type} {enc:β→Value} {g:Nat} {es:Array MapEntry} {cn:Nat} {m:List (Int×β)} (h:YK enc es cn m):QdP enc (.map (some g)) [(g,.map es cn)] (some m):=⟨g,es,cn,rfl,rfl,h⟩
theorem QdP.get {β:Type} {enc:β→Value} {v:Value} {so:Seg} {o:Option (List (Int×β))} {m:List (Int×β)} (h:QdP enc v so o) (ho:o=Option.some m): ∃(g:Nat) (es:Array MapEntry) (cn:Nat),v= .map (Option.some g)∧so=[(g,.map es cn)]∧YK enc es cn m:=by
 subst ho;exact h
end Go.Proofs.Ytfdjjdhnfaklbaa
namespace Go.Proofs.Ytfdjjdhnfaklbaa
open Go.RowKit
set_option linter.unusedSimpArgs false
set_option linter.unusedVariables false
theorem Qf4 (a b:ByteArray):(a==b)=decide (a=b):=by
 rw[beq_toListBytes,Bool.eq_iff_iff,decide_eq_true_iff,beq_iff_eq]
 refine ⟨fun h=> ?_,fun h=>by rw[h]⟩
 rw[ByteArray.toList_eq,ByteArray.toList_eq] at h
 cases a;cases b
 congr 1
 exact Array.toList_inj.1 h
def JV (s:ByteArray) (n:Int):Option Int:=if 0≤n then (s[n.toNat]?).map fun b=>((b.toNat:Nat):Int) else none
section
variable {P:Program} {T:TT} {N:NN} {K:Qs} {B:Nat→Qs} {R:Qs} {fr:Fr} {μ:Gh} {L:List Seg}
theorem JU {b:Frame} {a:Act} {k:List Item} {cs:List Frame} {w:World} {c:Code}:step P (lone (b.atR a (.code (.scope c)::k)) cs w)= .next (lone (b.atR a (.code c:: .inScope c::k)) cs w) :=
 step_lone_go (by simp[stepG,stepG.exec,Frame.atR])
theorem Qbd {b:Frame} {a:Act} {k:List Item} {cs:List Frame} {w:World} {c:Code}:step P (lone (b.atR a (.inScope c::k)) cs w)= .next (lone (b.atR a k) cs w) :=
 step_lone_go (by simp[stepG,stepG.exec,Frame.atR])
theorem WP.scope {c:Code} (h:WP P N c K B R fr μ L):WP P N (.scope c) K B R fr μ L:=fun a w ha hw=>by
 intro b k cs hro hb hr;obtain ⟨e,a₁,w₁,hq,harr⟩:=h a w ha hw b (.inScope c::k) cs hro hb hr;have h0:=fenced_calm (P:=P) (fr:=b.atR a (.code (.scope c)::k)) (w:=w) hb hr rfl;cases e with
 | normal=>exact ⟨.normal,a₁,w₁,hq,.head h0 JU (StepsIn.trans harr (.one (fenced_calm (fr:=b.atR a₁ (.inScope c::k)) hb hr rfl) Qbd))⟩
 | exit id =>
  have hx:exitTo id (.inScope c::k)=exitTo id k:=by simp[exitTo]
  exact ⟨.exit id,a₁,w₁,hq,fun k' hk=> .head h0 JU (harr.1 k' (by rw[hx];exact hk)),
   fun hr' hk=>let ⟨k₁,h1,h2⟩:=harr.2 hr' (by rw[hx];exact hk);⟨k₁,h1,.head h0 JU h2⟩⟩
 | ret=>exact ⟨_,a₁,w₁,hq,.of_steps (.one h0 JU) harr⟩
 | _=>exact hq.elim
theorem WP.label {l:Nat} (h:K fr μ L):WP P N (.label l) K B R fr μ L:=fun a w ha hw=>wpIn_label ⟨fr,μ,L,ha,Gh.le.refl _,hw,h⟩
end
section
variable {P:Program} {T:TT} {fr:Fr} {μ:Gh} {L:List Seg} {k:Value→Prop} {t yt:TypeId} {x y:Operand} {i:TyI}
theorem Va (hT:TOk P T) {s:ByteArray} {kd:IntKind} {n b:Int} (h:evV fr x=some (.string s)) (h2:evV fr y=some (.int kd n)) (ht:T t=some i) (hu:i.u= .string) (hb:JV s n=some b) (hk:k (.int .u8 b)):vcR P T (.index t x y) fr μ L k:=by
 refine ev_of (k:=fun v=>ev fr y fun n=>Ex (ZN P (Instr.index t v n)) k) h (ev_of (k:=fun n=>Ex (ZN P (Instr.index t (.string s) n)) k) h2 ⟨_,fun w=> ?_,hk⟩);unfold JV at hb
 split at hb
 ·rename_i h0
  cases hx:s[n.toNat]? with
  | none=>rw[hx] at hb;cases hb
  | some c =>
   rw[hx] at hb
   simp only[Option.map_some,Option.some.injEq] at hb
   subst hb
   simp[Instr.index,asIntOf,QL hT ht hu (by simp),h0,hx]
 ·cases hb
theorem Qes (hT:TOk P T) {a b:ByteArray} (h:evV fr x=some (.string a)) (h2:evV fr y=some (.string b)) (ht:T t=some i) (hu:i.u= .string) (hk:k (.bool (decide (a=b)))):vcR P T (.binOp .eql t x y yt) fr μ L k:=by
 refine ev_of (k:=fun v=>ev fr y fun u=>JD P T .eql t v u k) h (ev_of (k:=fun u=>JD P T .eql t (.string a) u k) h2 ⟨_,fun w=> ?_,hk⟩)
 simp[eqGuard,binOp,Op.stringOp]
 exact (beq_toListBytes a b).symm.trans (Qf4 a b)
end
structure MapS (es:Array MapEntry) (c:Nat) (m:List (ByteArray×Value)):Prop where
 ps:es.toList.map (fun e=>(e.key,e.val))=m.map (fun p=>(Value.string p.1,p.2))
 nd:(m.map (·.1)).Nodup
 born:(es.toList.map (·.born)).Nodup
 lt: ∀e∈es.toList,e.born<c
def QdE (n:ByteArray):List (ByteArray×Value)→Option Value
 | []=>none
 | p::r=>if p.1=n then some p.2 else QdE n r
def Qef (n:ByteArray) (v:Value):List (ByteArray×Value)→List (ByteArray×Value)
 | []=>[(n,v)]
 | p::r=>if p.1=n then (n,v)::r else p::Qef n v r
theorem MapS.nil:MapS #[] 0 []:=⟨rfl,List.nodup_nil,List.nodup_nil,by simp⟩
theorem MapS.size {es:Array MapEntry} {c:Nat} {m:List (ByteArray×Value)} (h:MapS es c m):es.size=m.length:=by
 have:=congrArg List.length h.ps
 simpa using this
theorem QcL (n:ByteArray) (u:Value): ∀{m:List (ByteArray×Value)},QdE n m=none→Qef n u m=m++[(n,u)]∧n∉m.map (·.1)
 | [],_=>⟨rfl,by simp⟩
 | p::m,h=>by
  simp only[QdE] at h
  by_cases hn:p.1=n
  ·rw[if_pos hn] at h;cases h
  ·rw[if_neg hn] at h
   obtain ⟨h1,h2⟩:=QcL n u h;refine ⟨by simp[Qef,hn,h1],?_⟩
   simp only[List.map_cons,List.mem_cons,not_or]
   exact ⟨fun e=>hn e.symm,h2⟩
theorem MapS.push {es:Array MapEntry} {c:Nat} {m:List (ByteArray×Value)} (h:MapS es c m) {n:ByteArray} {v:Value} (hn:QdE n m=none) :
  MapS (es.push { key:= .string n,val:=v,born:=c }) (c+1) (Qef n v m):=by
 obtain ⟨h1,h2⟩:=QcL n v hn;refine ⟨by rw[h1];simp[h.ps],by rw[h1];simp[List.nodup_append];exact ⟨h.nd,fun a b hb e=>h2 (by subst e;simp;exact ⟨b,hb⟩)⟩,?_,?_⟩
 ·simp[List.nodup_append]
  refine ⟨h.born,fun e he hb=> ?_⟩;have:=h.lt e (by simpa using he)
  omega
 ·intro e he
  simp at he
  rcases he with he | rfl
  ·have:=h.lt e (by simpa using he);omega
  ·simp
theorem MapS.put {es:Array MapEntry} {c:Nat} {m:List (ByteArray×Value)} (h:MapS es c m) {n:ByteArray} {v:Value} {j:Nat}
  (hj:(es.toList[j]?).map (·.key)=some (.string n)) (hs:Qef n v m=m.set j (n,v)) (hjl:j<es.size) :
  MapS (es.modify j fun e=>{ e with key:= .string n,val:=v }) c (Qef n v m):=by
 have hl:=h.size;refine ⟨?_,?_,?_,?_⟩
 ·have h1:=WM (fun e:MapEntry=>(e.key,e.val)) (fun e=>{ e with key:= .string n,val:=v }) es.toList j (Value.string n,v) (fun x _=>rfl)
  rw[Array.toList_modify,h1,h.ps,hs,List.map_set]
 ·have hk:(m.set j (n,v)).map (·.1)=m.map (·.1):=by
   apply List.ext_getElem?;intro i
   simp only[List.getElem?_map,List.getElem?_set]
   by_cases hij:j=i
   ·subst hij;have h1:=congrArg (fun l=>l[j]?) h.ps
    simp only[List.getElem?_map] at h1
    have hjm:j<m.length:=by omega
    cases hx:es.toList[j]? with
    | none=>rw[hx] at hj;cases hj
    | some x =>
     rw[hx] at hj h1
     simp only[Option.map_some,Option.some.injEq] at hj
     rw[List.getElem?_eq_getElem hjm] at h1 ⊢
     simp only[Option.map_some,Option.some.injEq,Prod.mk.injEq,hj,Value.string.injEq,true_and] at h1
     simp[hjm,h1.1]
   ·simp[hij]
  rw[hs,hk];exact h.nd
 ·have h1:=Wy (fun e:MapEntry=>e.born) (fun e=>{ e with key:= .string n,val:=v }) es.toList j (fun x _=>rfl)
  rw[Array.toList_modify,h1];exact h.born
 ·intro e he
  rw[Array.toList_modify] at he
  obtain ⟨i,hi⟩:=List.getElem?_of_mem he
  rw[List.getElem?_modify] at hi
  cases hx:es.toList[i]? with
  | none=>rw[hx] at hi;cases hi
  | some x =>
   rw[hx] at hi
   have:=h.lt x (List.mem_of_getElem? hx)
   by_cases hji:j=i
   ·simp[hji] at hi;subst hi;exact this
   ·simp[hji] at hi;subst hi;exact this
theorem Jz.pre {P:Program} {μ:Gh} {L:List Seg} {s:Sem Unit} {R:Gh→List Seg→Prop} (h:Upd μ L fun μ' L'=>Jz P s μ' L' R):Jz P s μ L R:=fun w hw=>by
 obtain ⟨μ',L',h1,h2,h3⟩:=h w hw;obtain ⟨w',μ2,L2,k1,k2,k3,k4⟩:=h3 w h2;exact ⟨w',μ2,L2,k1,h1.trans k2,k3,k4⟩
def Qdl {β:Type} (enc:β→Value) (es:Array MapEntry) (c:Nat) (m:List (ByteArray×β)):Prop:=MapS es c (m.map fun p=>(p.1,enc p.2))
section
variable {P:Program} {T:TT} {fr:Fr} {μ:Gh} {L:List Seg} {β:Type} {enc:β→Value} {es:Array MapEntry} {c:Nat} {m:List (ByteArray×β)}
theorem Qdl.nil:Qdl enc #[] 0 []:=MapS.nil
theorem Qdl.size (h:Qdl enc es c m):es.size=m.length:=by rw[MapS.size h,List.length_map]
end
def Qgo {α:Type} (r:Rp α) (μ:Gh) (v:Value) (xs:List α):Prop:= ∃A cc,v= .slice A xs.length cc∧(xs.length≤cc∧cc≤maxLen)∧Zc r μ A xs
def QbM {α:Type} (r:Rp α) (μ:Gh) (es:Array MapEntry) (c:Nat) (m:List (Int×List α)):Prop :=
 ∃mv:List (Int×Value),YK (fun v=>v) es c mv∧QY (fun (p:Int×List α) (q:Int×Value)=>p.1=q.1∧Qgo r μ q.2 p.2) m mv
section
variable {P:Program} {T:TT} {fr:Fr} {μ μ':Gh} {L:List Seg} {α:Type} {r:Rp α} {es:Array MapEntry} {c:Nat} {m:List (Int×List α)}
theorem QbM.nil:QbM r μ #[] 0 []:=⟨[],YK.nil,QY.nil⟩
theorem QbM.mono (h:QbM r μ es c m) (hm:μ.le μ'):QbM r μ' es c m:=by
 obtain ⟨mv,h1,h2⟩:=h;exact ⟨mv,h1,h2.mono fun p q ⟨e,A,cc,hv,hl,ha⟩=>⟨e,A,cc,hv,hl,ha.mono hm⟩⟩
theorem QbA {R:List α→Value→Prop} (n:Int): ∀{m:List (Int×List α)} {mv:List (Int×Value)},QY (fun (p:Int×List α) (q:Int×Value)=>p.1=q.1∧R p.2 q.2) m mv →
  (Qq n m=none∧Qq n mv=none)∨ ∃xs v,Qq n m=some xs∧Qq n mv=some v∧R xs v
 | [],[],_=> .inl ⟨rfl,rfl⟩
 | [],q::mv,h=>by have:=h.1;simp at this
 | p::m,[],h=>by have:=h.1;simp at this
 | p::m,q::mv,h=>by
  have h0:=h.2 0 p q rfl rfl;have ht:QY (fun (p:Int×List α) (q:Int×Value)=>p.1=q.1∧R p.2 q.2) m mv:=⟨by have:=h.1;simpa using this,fun i x y hx hy=>h.2 (i+1) x y (by simpa using hx) (by simpa using hy)⟩
  by_cases hn:p.1=n
  ·exact .inr ⟨p.2,q.2,by simp[Qq,hn],by simp[Qq,←h0.1,hn],h0.2⟩
  ·have hn2: ¬q.1=n:=by rw[←h0.1];exact hn
   simp only[Qq,hn,hn2,if_false]
   exact QbA n ht
theorem QbM.look (h:QbM r μ es c m) {g:Nat} (ho:YV μ L g (.map es c)) (n:Int) :
  ∃A cc,(∃es' c',YV μ L g (.map es' c')∧JE .i64 es'.toList∧((.slice A ((Qq n m).getD []).length cc,(Qq n m).isSome):Value×Bool)=(match JR n es'.toList with | some v=>(v,true) | none=>(.slice none 0 0,false))) ∧
   (((Qq n m).getD []).length≤cc∧cc≤maxLen)∧Zc r μ A ((Qq n m).getD []):=by
 obtain ⟨mv,h1,h2⟩:=h;obtain ⟨es',c',k1,k2,k3⟩:=h1.look ho (z:= .slice none 0 0) (zb:= .slice none 0 0) rfl n;rcases QbA (R:=fun xs v=>Qgo r μ v xs) n h2 with ⟨e1,e2⟩ | ⟨xs,v,e1,e2,A,cc,hv,hl,ha⟩
 ·rw[e2] at k3
  rw[e1]
  exact ⟨none,0,⟨es',c',k1,k2,k3⟩,⟨Nat.le_refl _,Nat.zero_le _⟩,Zc.nil⟩
 ·rw[e2] at k3
  rw[e1]
  refine ⟨A,cc,⟨es',c',k1,k2,?_⟩,hl,ha⟩;refine Eq.trans ?_ k3
  simp[hv]
theorem QbM.size (h:QbM r μ es c m):es.size=m.length:=by
 obtain ⟨mv,h1,h2⟩:=h
 rw[h1.size,h2.1]
end
def Wd {α:Type} (R:Gh→Value→α→Seg→Prop) (μ:Gh) (v:Value) (o:Option α) (so:Seg):Prop:=match o with
 | none=>v= .pointer none∧so=[]
 | some x=>R μ v x so
theorem Wd.nil {α:Type} {R:Gh→Value→α→Seg→Prop} {μ:Gh}:Wd R μ (.pointer none) none []:=⟨rfl,rfl⟩
theorem Wd.get {α:Type} {R:Gh→Value→α→Seg→Prop} {μ:Gh} {v:Value} {o:Option α} {so:Seg} {x:α} (h:Wd R μ v o so) (ho:o=some x):R μ v x so:=by subst ho;exact h
theorem Wd.lift {α:Type} {R:Gh→Value→α→Seg→Prop} {μ μ':Gh} {v:Value} {o:Option α} {so:Seg} (h:Wd R μ v o so) (hR: ∀x,R μ v x so→R μ' v x so):Wd R μ' v o so:=by
 cases o with
 | none=>exact h
 | some x=>exact hR x h
section
variable {P:Program} {T:TT} {μ:Gh} {L:List Seg} {α:Type} {r:Rp α} {e:TypeId} {A:Option Addr} {n c:Nat} {xs ys:List α} {ch:Seg} {lo hi:Int}
theorem Own.cut (h:Own r e μ (.slice A n c) xs ch) (hs:Qde xs 0 hi=some ys):Own r e μ (.slice A ys.length c) ys ch:=by
 obtain ⟨_,h2,h3,rfl,h5⟩:=Qa4 hs;obtain ⟨css,⟨h6,h7⟩,h8⟩:=h;have hl:=h8.1;have hm:hi.toNat≤css.length:=by omega
 have hlen:((xs.take hi.toNat).drop (0:Int).toNat).length=hi.toNat:=by rw[h5];simp
 rcases h7 with ⟨hv,rfl,rfl⟩ | ⟨g,cap,cur,hv,rfl,q1,q2,q3,q4⟩
 ·injection hv with e1 e2 e3
  subst e1 e3;have:xs=[]:=List.eq_nil_of_length_eq_zero (by simpa using hl);subst this;exact ⟨[],⟨by simp,.inl ⟨by simp,rfl,rfl⟩⟩,by simpa using QY.nil⟩
 ·injection hv with e1 e2 e3
  subst e1 e3;refine ⟨css.take hi.toNat,⟨fun cs hc=>h6 cs (List.mem_of_mem_take hc),.inr ⟨g,c,cur,?_,rfl,by simp;omega,q2,q3,?_⟩⟩,by simpa using h8.take hi.toNat⟩
  ·rw[hlen];simp[hm]
  ·have:(css.take hi.toNat).flatten=css.flatten.take (hi.toNat*r.sz):=by
    have e4:css=css.take hi.toNat++css.drop hi.toNat:=(List.take_append_drop _ _).symm
    conv=>rhs;rw[e4,List.flatten_append]
    rw[List.take_left']
    rw[Ys (sz:=r.sz) fun cs hc=>h6 cs (List.mem_of_mem_take hc),List.length_take,Nat.min_eq_left hm]
   rw[this,←q4,List.take_take,List.length_take,Nat.min_eq_left hm,Nat.min_eq_left (Nat.mul_le_mul_right _ hm)]
end
section
variable {P:Program} {N:NN} {K:Qs} {B:Nat→Qs} {R:Qs} {fr:Fr} {μ:Gh} {L:List Seg}
def Qep (N:NN) (K:Qs):Qs:=fun fr μ L=> ∀a w,Agr N fr a→Inv w μ L→ ∃fr' μ' L',Agr N fr' a∧μ.le μ'∧Inv w μ' L'∧K fr' μ' L'
theorem Qep.at {F:Fr} {L2:List Seg} (hF:Qi F fr) (hL:Qd L2 L) (h:Qep N K F μ L2):Qep N K fr μ L:=fun a w ha hw=>h a w (ha.sub hF) (hL w μ hw)
theorem Qep.done (h:K fr μ L):Qep N K fr μ L:=fun _ _ ha hw=>⟨fr,μ,L,ha,Gh.le.refl _,hw,h⟩
end
end Go.Proofs.Ytfdjjdhnfaklbaa
namespace Go.Proofs.Ytfdjjdhnfaklbaa
open Go.RowKit
set_option linter.unusedSimpArgs false
set_option linter.unusedVariables false
def Qca (s:ByteArray) (lo hi:Int):Option ByteArray:=if 0≤lo∧lo≤hi∧hi≤(s.size:Nat) then some (s.extract lo.toNat hi.toNat) else none
theorem Qgj {s z:ByteArray} {lo hi:Int} (h:Qca s lo hi=some z):0≤lo∧lo≤hi∧hi≤(s.size:Nat)∧z=s.extract lo.toNat hi.toNat:=by
 unfold Qca at h
 split at h
 ·rename_i hc
  injection h with h
  exact ⟨hc.1,hc.2.1,hc.2.2,h.symm⟩
 ·cases h
section
variable {P:Program} {T:TT} {fr:Fr} {μ:Gh} {L:List Seg} {k:Value→Prop} {t:TypeId} {i:TyI} {x:Operand} {s z:ByteArray} {kd:IntKind} {b:Int}
theorem Qez {hi_:Operand} (h1:evV fr x=some (.string s)) (h2:evV fr hi_=some (.int kd b)) (hT:T t=some i) (hu:i.u= .string) (hs:Qca s 0 b=some z) (hk:k (.string z)):vcR P T (.slice t x none (some hi_) none) fr μ L k :=
 ev_of (k:=fun v=>evo fr none fun l=>evo fr (some hi_) fun h=>evo fr none fun m=>Wu T t v l h m k) h1 (ev_of (k:=fun u=>Wu T t (.string s) none (some u) none k) h2 (by
  obtain ⟨h3,h4,h5,rfl⟩:=Qgj hs
  simp only[Wu,hT,hu]
  exact ⟨h4,h5,hk⟩))
end
structure QgU (P:Program) (kt:TypeId) {κ:Type} [DecidableEq κ] (ek:κ→Value):Prop where
 chk: ∀(b:Bool) (a:κ) (w:World),(Instr.checkKey b 10000 kt (ek a)).run P w= .ok () w
 eq: ∀(a b:κ) (w:World),(Op.equal kt (ek a) (ek b)).run P w= .ok (decide (a=b)) w
 und: ∃d,P.underlying kt=some d∧ ∀a b,Instr.sameNow d (ek a) (ek b)=none
 stay: ∀(a:κ) (w:World),(Instr.keyThatStays (ek a) (ek a)).run P w= .ok (ek a) w
 inj: ∀a b:κ,ek a=ek b→a=b
def Qfo {κ β:Type} [DecidableEq κ] (k:κ):List (κ×β)→Option β
 | []=>none
 | p::r=>if p.1=k then some p.2 else Qfo k r
def QdT {κ β:Type} [DecidableEq κ] (k:κ) (v:β):List (κ×β)→List (κ×β)
 | []=>[(k,v)]
 | p::r=>if p.1=k then (k,v)::r else p::QdT k v r
structure VB {κ:Type} (ek:κ→Value) (es:Array MapEntry) (c:Nat) (m:List (κ×Value)):Prop where
 ps:es.toList.map (fun e=>(e.key,e.val))=m.map (fun p=>(ek p.1,p.2))
 nd:(m.map (·.1)).Nodup
 born:(es.toList.map (·.born)).Nodup
 lt: ∀e∈es.toList,e.born<c
theorem VB.nil {κ:Type} {ek:κ→Value}:VB ek #[] 0 []:=⟨rfl,List.nodup_nil,List.nodup_nil,by simp⟩
theorem VB.size {κ:Type} {ek:κ→Value} {es:Array MapEntry} {c:Nat} {m:List (κ×Value)} (h:VB ek es c m):es.size=m.length:=by
 have:=congrArg List.length h.ps
 simpa using this
section
variable {κ:Type} [DecidableEq κ] {ek:κ→Value}
variable {P:Program} {kt:TypeId}
theorem Qci (n:κ) (u:Value): ∀{m:List (κ×Value)},Qfo n m=none→QdT n u m=m++[(n,u)]∧n∉m.map (·.1)
 | [],_=>⟨rfl,by simp⟩
 | p::m,h=>by
  simp only[Qfo] at h
  by_cases hn:p.1=n
  ·rw[if_pos hn] at h;cases h
  ·rw[if_neg hn] at h
   obtain ⟨h1,h2⟩:=Qci n u h;refine ⟨by simp[QdT,hn,h1],?_⟩
   simp only[List.map_cons,List.mem_cons,not_or]
   exact ⟨fun e=>hn e.symm,h2⟩
theorem VB.push {es:Array MapEntry} {c:Nat} {m:List (κ×Value)} (h:VB ek es c m) {n:κ} {v:Value} (hn:Qfo n m=none) :
  VB ek (es.push { key:=ek n,val:=v,born:=c }) (c+1) (QdT n v m):=by
 obtain ⟨h1,h2⟩:=Qci n v hn;refine ⟨by rw[h1];simp[h.ps],by rw[h1];simp[List.nodup_append];exact ⟨h.nd,fun a b hb e=>h2 (by subst e;simp;exact ⟨b,hb⟩)⟩,?_,?_⟩
 ·simp[List.nodup_append]
  refine ⟨h.born,fun e he hb=> ?_⟩;have:=h.lt e (by simpa using he)
  omega
 ·intro e he
  simp at he
  rcases he with he | rfl
  ·have:=h.lt e (by simpa using he);omega
  ·simp
theorem VB.put (hi: ∀a b:κ,ek a=ek b→a=b) {es:Array MapEntry} {c:Nat} {m:List (κ×Value)} (h:VB ek es c m) {n:κ} {v:Value} {j:Nat} {f:MapEntry→MapEntry} (hf: ∀x∈es.toList[j]?,(f x).key=ek n∧(f x).val=v∧(f x).born=x.born)
  (hj:(es.toList[j]?).map (·.key)=some (ek n)) (hs:QdT n v m=m.set j (n,v)) (hjl:j<es.size) :
  VB ek (es.modify j f) c (QdT n v m):=by
 have hl:=h.size;have hx: ∃x,es.toList[j]? =some x:=⟨es.toList[j]'(by simpa using hjl),by simp[hjl]⟩
 obtain ⟨x,hx⟩:=hx;obtain ⟨f1,f2,f3⟩:=hf x hx;refine ⟨?_,?_,?_,?_⟩
 ·apply List.ext_getElem?;intro i;have h0:=congrArg (fun l=>l[i]?) h.ps
  simp only[List.getElem?_map] at h0
  rw[Array.toList_modify,hs,List.getElem?_map,List.getElem?_map,List.getElem?_modify,List.getElem?_set]
  by_cases hij:j=i
  ·subst hij;have hjm:j<m.length:=by omega
   simp[hx,f1,f2,hjm]
  ·simp only[hij,if_false]
   cases hy:es.toList[i]? <;>rw[hy] at h0<;>simpa using h0
 ·have hk:(m.set j (n,v)).map (·.1)=m.map (·.1):=by
   apply List.ext_getElem?;intro i
   simp only[List.getElem?_map,List.getElem?_set]
   by_cases hij:j=i
   ·subst hij;have h1:=congrArg (fun l=>l[j]?) h.ps
    simp only[List.getElem?_map] at h1
    have hjm:j<m.length:=by omega
    rw[hx] at hj h1
    simp only[Option.map_some,Option.some.injEq] at hj
    rw[List.getElem?_eq_getElem hjm] at h1 ⊢
    simp only[Option.map_some,Option.some.injEq,Prod.mk.injEq] at h1
    have:=hi _ _ (hj.symm.trans h1.1)
    simp[hjm,this]
   ·simp[hij]
  rw[hs,hk];exact h.nd
 ·have:(es.modify j f).toList.map (·.born)=es.toList.map (·.born):=by
   apply List.ext_getElem?;intro i
   rw[Array.toList_modify,List.getElem?_map,List.getElem?_map,List.getElem?_modify]
   by_cases hij:j=i
   ·subst hij
    simp[hx,f3]
   ·simp[hij]
  rw[this];exact h.born
 ·intro e he
  rw[Array.toList_modify] at he
  obtain ⟨i,hi2⟩:=List.getElem?_of_mem he
  rw[List.getElem?_modify] at hi2
  cases hy:es.toList[i]? with
  | none=>rw[hy] at hi2;cases hi2
  | some y =>
   rw[hy] at hi2
   have:=h.lt y (List.mem_of_getElem? hy)
   by_cases hji:j=i
   ·subst hji
    rw[hx] at hy
    injection hy with hy
    subst hy
    simp at hi2
    subst hi2
    rw[f3];exact this
   ·simp[hji] at hi2;subst hi2;exact this
end
def Qdk {κ β:Type} (ek:κ→Value) (enc:β→Value) (es:Array MapEntry) (c:Nat) (m:List (κ×β)):Prop:=VB ek es c (m.map fun p=>(p.1,enc p.2))
theorem Qdk.nil {κ β:Type} {ek:κ→Value} {enc:β→Value}:Qdk ek enc #[] 0 ([]:List (κ×β)):=VB.nil
theorem Qdk.size {κ β:Type} {ek:κ→Value} {enc:β→Value} {es:Array MapEntry} {c:Nat} {m:List (κ×β)} (h:Qdk ek enc es c m):es.size=m.length:=by rw[VB.size h,List.length_map]
end Go.Proofs.Ytfdjjdhnfaklbaa
namespace Go.Proofs.Ytfdjjdhnfaklbaa
open Go.RowKit
set_option linter.unusedSimpArgs false
set_option linter.unusedVariables false
def Qc1 (x:Int):List Int→List Int
 | []=>[x]
 | y::r=>if x≤y then x::y::r else y::Qc1 x r
def YW:List Int→List Int
 | []=>[]
 | x::r=>Qc1 x (YW r)
def QbL (xs:List Int):Option (List Int):=if xs.length≤1000000 then some (YW xs) else none
theorem VF (x:Int): ∀l,(Qc1 x l).Perm (x::l)
 | []=>List.Perm.refl _
 | y::r=>by
  simp only[Qc1]
  split
  ·exact List.Perm.refl _
  ·exact ((VF x r).cons y).trans (List.Perm.swap x y r)
theorem ZS: ∀l,(YW l).Perm l
 | []=>List.Perm.refl _
 | x::r=>(VF x _).trans ((ZS r).cons x)
theorem VW (x:Int): ∀l,l.Pairwise (· ≤ ·)→(Qc1 x l).Pairwise (· ≤ ·)
 | [],_=>by simp[Qc1]
 | y::r,h=>by
  simp only[Qc1]
  rw[List.pairwise_cons] at h
  split
  ·rename_i hxy
   rw[List.pairwise_cons,List.pairwise_cons]
   exact ⟨fun z hz=>by
    rcases List.mem_cons.1 hz with rfl | hz
    ·exact hxy
    ·exact Int.le_trans hxy (h.1 z hz),h⟩
  ·rw[List.pairwise_cons]
   refine ⟨fun z hz=> ?_,VW x r h.2⟩;rcases List.mem_cons.1 ((VF x r).mem_iff.1 hz) with rfl | hz
   ·omega
   ·exact h.1 z hz
theorem JF: ∀l,(YW l).Pairwise (· ≤ ·)
 | []=>List.Pairwise.nil
 | x::r=>VW x _ (JF r)
theorem ZA (l:List Int):(YW l).length=l.length:=(ZS l).length_eq
theorem QbZ {xs ys:List Int} (h:QbL xs=some ys):xs.length=ys.length:=by
 unfold QbL at h
 split at h
 ·injection h with h;rw[←h,ZA]
 ·cases h
theorem sorted_unique: ∀{a b:List Int},a.Perm b→a.Pairwise (· ≤ ·)→b.Pairwise (· ≤ ·)→a=b
 | [],b,hp,_,_=>by have:=hp.length_eq;cases b with
  | nil=>rfl
  | cons y r=>simp at this
 | x::a,[],hp,_,_=>by have:=hp.length_eq;simp at this
 | x::a,y::b,hp,ha,hb=>by
  rw[List.pairwise_cons] at ha hb
  have hxy:x=y:=by
   have h1:x∈y::b:=hp.mem_iff.1 (by simp);have h2:y∈x::a:=hp.mem_iff.2 (by simp);have h3:y≤x:=by
    rcases List.mem_cons.1 h1 with rfl | h
    ·exact Int.le_refl _
    ·exact hb.1 x h
   have h4:x≤y:=by
    rcases List.mem_cons.1 h2 with rfl | h
    ·exact Int.le_refl _
    ·exact ha.1 y h
   omega
  subst hxy
  rw[sorted_unique (List.Perm.cons_inv hp) ha.2 hb.2]
theorem QcA (l:List Int):l.mergeSort (fun x y=>decide (x≤y))=YW l:=by
 refine sorted_unique ((List.mergeSort_perm l _).trans (ZS l).symm) ?_ (JF l);have:=List.pairwise_mergeSort (le:=fun x y:Int=>decide (x≤y)) (fun a b c h1 h2=>by simp at *;omega) (fun a b=>by simp;omega) l;exact this.imp fun h=>by simpa using h
section
variable {P:Program} {μ:Gh} {L:List Seg} {R:Value→Gh→List Seg→Prop}
theorem Qbs: ∀{xs:List Int} {css:List (List Value)},QY (Zd.rep μ) xs css→css=xs.map fun x=>[Value.int .i64 x]
 | [],css,h=>by
  have:=h.1;cases css with
  | nil=>rfl
  | cons a b=>simp at this
 | x::xs,css,h=>by
  cases css with
  | nil=>have:=h.1;simp at this
  | cons a b =>
   have h0:=h.2 0 x a rfl rfl;have h1:QY (Zd.rep μ) xs b:=⟨by have:=h.1;simpa using this,fun i u v hu hv=>h.2 (i+1) u v (by simpa using hu) (by simpa using hv)⟩
   rw[Qbs h1,List.map_cons]
   congr 1
theorem Wm (xs:List Int):(xs.map fun x=>[Value.int .i64 x]).flatten=xs.map (Value.int .i64):=by
 induction xs with
 | nil=>rfl
 | cons x xs ih=>simp[ih]
theorem Qfd {f:FuncId} {fn:Func} (hf:P.funcs[f]? =some fn) (hnm:(fn.name== "runtime.NumGoroutine")=false) (hbd:fn.body.isNone=false) {e:TypeId}
  (hS: ∀(blk off cap:Nat) (zs:List Int) (w:World),Go.Sort.Holds (Value.int .i64) w blk off zs.toArray→blk<w.heap.size→zs.length<4611686018427387904→Calls P f #[.slice (some ⟨blk,off,none⟩) zs.length cap] w fun e w' =>
   e= .returned (.tuple #[])∧ ∃n os,w'=Go.Sort.grow (Go.Sort.putRow (Value.int .i64) (Go.Sort.ahead w n) blk off (zs.mergeSort fun x y=>decide (x≤y)).toArray) os)
  (h0: ∀(p:Option Addr) (cap:Nat) (w:World),Calls P f #[.slice p 0 cap] w fun e w'=>e= .returned (.tuple #[])∧w'=w)
  (i:Nat) {ch:Seg} {A:Option Addr} {n c:Nat} {xs ys:List Int} (hi:L[i]? =some ch) (hown:Own Zd e μ (.slice A n c) xs ch) (hs:QbL xs=some ys)
  (hR: ∀ch',Own Zd e μ (.slice A ys.length c) ys ch'→R (.tuple #[]) μ (L.set i ch')):Fn P f [.slice A n c] μ L R:=by
 unfold QbL at hs
 split at hs
 case isFalse=>cases hs
 rename_i hb
 injection hs with hs
 subst hs;refine .inl ⟨⟨fn,hf,hnm,hbd⟩,fun w hw=> ?_⟩;obtain ⟨css,h1,h2⟩:=hown;have hcss:=Qbs h2;rcases h1.2 with ⟨hv,hnil,hch⟩ | ⟨g,cap,cur,hv,rfl,q1,q2,q3,q4⟩
 ·injection hv with hv1 hv2 hv3
  subst hv1 hv2 hv3 hch;have hx:xs=[]:=by have:=h2.1;rw[hnil] at this;exact List.eq_nil_of_length_eq_zero (by simpa using this)
  subst hx;refine (h0 none 0 w).mono ?_;rintro e' w' ⟨rfl,rfl⟩;refine ⟨_,μ,L,rfl,Gh.le.refl _,hw,?_⟩;have:=hR [] Own.nil
  rwa [Qfc hi] at this
 ·injection hv with hv1 hv2 hv3
  have hlen:css.length=xs.length:=h2.1.symm;subst hv1 hv3
  rw[hlen] at hv2
  subst hv2;have hbk:=hw.own (g,.cells cur e (0,0)) (List.mem_flatten.2 ⟨_,List.mem_of_getElem? hi,by simp⟩)
  simp only at hbk
  have hz:Zd.sz=1:=rfl
  rw[hz,Nat.mul_one,hcss,Wm,List.length_map] at q4
  rw[hz] at q3
  have q1':xs.length≤c:=by rw[←hlen];exact q1
  refine (hS g 0 c xs w (holds_of_blockI hbk q4) (QO hbk) (by omega)).mono ?_;rintro e' w' ⟨rfl,m,os,rfl⟩
  rw[QcA]
  have hg:=grownBy_sortedI (w:=w) (g:=g) (n:=m) (os:=os) (YW xs).toArray;have hlt:=QO hbk;have hnew:=heap_sortedI (n:=m) (os:=os) (YW xs).toArray hbk;refine ⟨_,μ,L.set i [(g,.cells (Go.Sort.putCells (Value.int .i64) 0 (YW xs).toArray cur) e (0,0))],rfl,Gh.le.refl _,?_,?_⟩
  ·have hw1:=hw.perm (Yq hi);have hsub:(L.set i []).flatten.Sublist ([(g,Obj.cells cur e (0,0))]::L.set i []).flatten:=by simp
   have hne: ∀c'∈(L.set i []).flatten,c'.1≠g:=by
    intro c' hc';have hnd:=hw1.nd
    simp only[List.flatten_cons,List.map_append,List.nodup_append,List.map_cons,List.map_nil] at hnd
    exact fun e=>hnd.2.2 g (by simp) c'.1 (List.mem_map.2 ⟨c',hc',rfl⟩) e.symm
   have hfin:Inv (Go.Sort.grow (Go.Sort.putRow (Value.int .i64) (Go.Sort.ahead w m) g 0 (YW xs).toArray) os) μ ([(g,.cells (Go.Sort.putCells (Value.int .i64) 0 (YW xs).toArray cur) e (0,0))]::L.set i []):=by
    refine ⟨hg.os.trans hw.os,hg.output.trans hw.out,hg.tape.trans hw.tape,fun b o hb'=> ?_,fun c' hc'=> ?_,fun c' hc'=> ?_,?_⟩
    ·have h6:=hw.mem b o hb'
     rw[hg.block b (QO h6) ?_];exact h6
     intro he1;injection he1 with he1
     subst he1;have:=hw1.sep (b,.cells cur e (0,0)) (by simp)
     rw[hb'] at this;cases this
    ·simp only[List.flatten_cons,List.singleton_append,List.mem_cons] at hc'
     rcases hc' with rfl | hc'
     ·exact hnew
     ·have h7:=hw1.own c' (hsub.subset hc')
      rw[hg.block c'.1 (QO h7) (fun e=>hne c' hc' (by injection e))]
      exact h7
    ·simp only[List.flatten_cons,List.singleton_append,List.mem_cons] at hc'
     rcases hc' with rfl | hc'
     ·exact hw1.sep (g,.cells cur e (0,0)) (by simp)
     ·exact hw1.sep c' (hsub.subset hc')
    ·have:=hw1.nd
     simpa using this
   have hi':(L.set i [(g,Obj.cells (Go.Sort.putCells (Value.int .i64) 0 (YW xs).toArray cur) e (0,0))])[i]? =some [(g,.cells (Go.Sort.putCells (Value.int .i64) 0 (YW xs).toArray cur) e (0,0))]:=QfG _ hi;have hp:=Yq hi'
   rw[List.set_set] at hp
   exact hfin.perm hp.symm
  ·refine hR _ ⟨(YW xs).map fun x=>[Value.int .i64 x],⟨?_,.inr ⟨g,c,_,?_,rfl,?_,q2,?_,?_⟩⟩,?_⟩
   ·intro cs hc;obtain ⟨x,_,rfl⟩:=List.mem_map.1 hc
    rfl
   ·simp
   ·simp only[List.length_map,ZA];exact q1'
   ·simp only[Go.Sort.putCells,Array.size_mapIdx,hz];exact q3
   ·rw[hz,Nat.mul_one,List.length_map,Wm]
    exact take_putCellsI cur (YW xs) (by rw[ZA];omega)
   ·refine ⟨by simp,fun j x y hx hy=> ?_⟩
    rw[List.getElem?_map,hx] at hy
    simp only[Option.map_some,Option.some.injEq] at hy
    exact hy.symm
end
end Go.Proofs.Ytfdjjdhnfaklbaa
namespace Go.Proofs.Ytfdjjdhnfaklbaa
open Go.RowKit
def V4 {α:Type} (k:Int) (m:List (Int×Option (List α))):Option (List α):=match Qq k m with
 | none=>some []
 | some x=>x
def Qej {α:Type} (k:Int):List (Int×Option (List α))→List (Int×Option (List α))
 | []=>[]
 | p::m=>if p.1=k then (k,none)::m else p::Qej k m
end Go.Proofs.Ytfdjjdhnfaklbaa
namespace Go.Proofs.Ytfdjjdhnfaklbaa
open Go.RowKit
set_option linter.unusedSimpArgs false
set_option linter.unusedVariables false
section
variable {P:Program} {ops:Array Oper} {Q:Exit→Act→World→Prop} {S S0:World→Prop} {b:List Nat}
def Qcf (P:Program) (ops:Array Oper) (Q:Exit→Act→World→Prop) (S S0:World→Prop) (b:List Nat):Nat→Array Bool→Act→World→Prop
 | 0,listed,a,w=>Region.ready .any ops listed=[]∧Q .normal a w
 | fuel+1,listed,a,w=>(Region.ready .any ops listed=[]→Q .normal a w) ∧
  ∀i∈Region.ready .any ops listed,wpOp P ops Q i (fun a' w'=>S0 w'∧(i∉b→S w→S w')∧Qcf P ops Q S S0 b fuel (listed.setIfInBounds i true) a' w') a w
theorem Qch: ∀(fuel:Nat) (listed:Array Bool) (a:Act) (w:World),Qcf P ops Q S S0 b fuel listed a w→wpAny P .any ops Q fuel listed a w
 | 0,_,_,_,h=>h
 | fuel+1,_,_,_,h=>⟨h.1,fun i hi=>wpOp_mono (fun a' w' h'=>Qch fuel _ a' w' h'.2.2) (h.2 i hi)⟩
def ZY (ops:Array Oper) (l:Array Bool):Prop:= ∀j oj,ops[j]? =some oj→l.getD j false=true→ ∀e∈oj.after,Region.binds .any e=true→l.getD e.on false=true
theorem ZY.start (n:Nat):ZY ops (List.replicate n false).toArray:=by
 intro j oj _ h;rcases Nat.lt_or_ge j n with h' | h'<;>simp[h'] at h
theorem ZY.set {l:Array Bool} {i:Nat} (h:ZY ops l) (hr:i∈Region.ready .any ops l):ZY ops (l.setIfInBounds i true):=by
 intro j oj hj hl e he hb
 by_cases hij:i=j
 ·subst hij;obtain ⟨_,o,ho,hall⟩:=mem_ready.1 hr
  rw[hj] at ho;injection ho with ho;subst ho
  exact getD_set_true (hall e he hb)
 ·rw[getD_set_ne false hij] at hl
  exact getD_set_true (h j oj hj hl e he hb)
def ZZ (ops:Array Oper) (b i:Nat):Prop:= ∀l:Array Bool,ZY ops l→(∃ob,ops[b]? =some ob∧ ∀e∈ob.after,Region.binds .any e=true→l.getD e.on false=true)→l.getD i false=true
theorem ZZ.trans {d c i:Nat} {oc:Oper} (h1:ZZ ops d c) (hc:ops[c]? =some oc) (h2:ZZ ops c i):ZZ ops d i:=fun l hl hd=>by
 have h3:=h1 l hl hd;exact h2 l hl ⟨oc,hc,fun e he hb=>hl c oc hc h3 e he hb⟩
theorem Vc {Sx:World→Prop} {i:Nat} {oi:Oper} {v:Value} (hi:ops[i]? =some oi) (hsel: ∀(j:Nat) (o:Oper) cs c,ops[j]? =some o→o.op≠ .select cs c)
  (hQ: ∀c a w,Q (.panic c) (a.put oi.dst v) w→Q (.panic c) a w) (hb:(∀w,S0 w→Sx w)∨(Sx=S∧ ∀d∈b,ZZ ops d i)) :
  ∀(fuel:Nat) (listed:Array Bool) (a:Act) (w:World),
   (∀j oj,ops[j]? =some oj→j≠i→listed.getD j true=false→(∀e∈oj.after,Region.binds .any e=true→e.on≠i)→oi.apart ops oj=true) →
   i∈Region.ready .any ops listed→ZY ops listed→YieldsIf P ops Sx oi v a→S0 w→Sx w →
   Qcf P ops Q S S0 b fuel (listed.setIfInBounds i true) (a.put oi.dst v) w→Qcf P ops Q S S0 b (fuel+1) listed a w:=by
 intro fuel
 induction fuel with
 | zero =>
  intro listed a w _ hr _ hy hS0 hS H;refine ⟨fun h=>(by rw[h] at hr;cases hr),fun j hj=> ?_⟩
  by_cases hji:j=i
  ·subst hji;exact hy.wpOp hi hS ⟨hS0,fun _ h=>h,H⟩
  ·have:=ready_mono hj hji
   rw[H.1] at this
   cases this
 | succ fuel ih =>
  intro listed a w hfree hr hcl hy hS0 hS H;refine ⟨fun h=>(by rw[h] at hr;cases hr),fun j hj=> ?_⟩
  by_cases hji:j=i
  ·subst hji;exact hy.wpOp hi hS ⟨hS0,fun _ h=>h,H⟩
  ·have h1:=H.2 j (ready_mono hj hji);obtain ⟨hjun,oj,hoj,hall⟩:=mem_ready.1 hj;have hnot: ∀e∈oj.after,Region.binds .any e=true→e.on≠i:=fun e he hb heq=>by
    have h1:=hall e he hb;have h0:=(mem_ready.1 hr).1
    rw[heq] at h1
    rcases Nat.lt_or_ge i listed.size with h' | h'
    ·simp[h'] at h0 h1;rw[h0] at h1;cases h1
    ·simp[Array.getElem?_eq_none h'] at h1
   have hSx: ∀w',S0 w'→(j∉b→S w→S w')→Sx w':=fun w' q0 q1=>by
    rcases hb with hb | ⟨rfl,hb⟩
    ·exact hb w' q0
    ·refine q1 (fun hjm=> ?_) hS;have h3:=hb j hjm listed hcl ⟨oj,hoj,hall⟩;have h0:=(mem_ready.1 hr).1;rcases Nat.lt_or_ge i listed.size with h' | h'
     ·simp[h'] at h0 h3;rw[h0] at h3;cases h3
     ·simp[Array.getElem?_eq_none h'] at h3
   have h2:=wpOp_putIf hoj (hfree j oj hoj hji hjun hnot) (fun cs c=>hsel i oi cs c hi) (fun cs c=>hsel j oj cs c hoj) hQ hy h1;have hfree': ∀k ok,ops[k]? =some ok→k≠i→(listed.setIfInBounds j true).getD k true=false →
     (∀e∈ok.after,Region.binds .any e=true→e.on≠i)→oi.apart ops ok=true:=fun k ok hk hki hun hno=>by
    refine hfree k ok hk hki ?_ hno
    by_cases hjk:j=k
    ·subst hjk;exact hjun
    ·rw[getD_set_ne true hjk] at hun;exact hun
   refine wpOp_mono (fun a' w' h3=>⟨h3.2.1,h3.2.2.1,ih (listed.setIfInBounds j true) a' w' hfree' (ready_mono hr (Ne.symm hji)) (hcl.set hj) h3.1 h3.2.1 (hSx w' h3.2.1 h3.2.2.1) ?_⟩) h2
   rw[Array.setIfInBounds_comm _ _ hji]
   exact h3.2.2.2
end
def Qe2:Op→Bool
 | .load _ _ | .lookup _ _ _ _ | .call _=>false
 | _=>true
theorem Qff {P:Program} {T:TT} {o:Op} {fr:Fr} {μ μ':Gh} {L L':List Seg} {k:Value→Prop} (hp:Qe2 o=true) (h:vcR P T o fr μ L k):vcR P T o fr μ' L' k:=by
 cases o<;>first | exact h | cases hp
def Qax (ops:List Oper) (b i:Nat):Bool:=match Ze ops b with
 | some o=>o.after.toList.any fun e=>Region.binds .any e&&e.on==i
 | none=>false
def VP (ops:List Oper):Nat→List Nat→Nat→Bool
 | b,[],i=>Qax ops b i
 | b,k::r,i=>Qax ops b k&&VP ops k r i
theorem Wj {ops:List Oper} {b i:Nat} (h:Qax ops b i=true): ∃ob,ops.toArray[b]? =some ob∧ ∃e∈ob.after,Region.binds .any e=true∧e.on=i:=by
 unfold Qax at h
 rw[JL] at h
 cases hob:ops[b]? with
 | none=>rw[hob] at h;cases h
 | some ob =>
  rw[hob] at h
  simp only[List.any_eq_true,Bool.and_eq_true,beq_iff_eq] at h
  obtain ⟨e,h10,h11,h12⟩:=h;exact ⟨ob,by simpa using hob,e,by simpa using h10,h11,h12⟩
theorem WW {ops:List Oper}: ∀{p:List Nat} {b i:Nat} (_:VP ops b p i=true),ZZ ops.toArray b i
 | [],b,i,h,l,hc,⟨ob,h1,h2⟩=>by
  obtain ⟨ob',h3,e,h4,h5,h6⟩:=Wj h
  rw[h1] at h3;injection h3 with h3;subst h3
  rw[←h6];exact h2 e h4 h5
 | k::r,b,i,h,l,hc,⟨ob,h1,h2⟩=>by
  unfold VP at h
  rw[Bool.and_eq_true] at h
  obtain ⟨ob',h3,e,h4,h5,h6⟩:=Wj h.1
  rw[h1] at h3;injection h3 with h3;subst h3
  have hk:l.getD k false=true:=by rw[←h6];exact h2 e h4 h5
  have hok: ∃ok,ops.toArray[k]? =some ok:=by
   cases r with
   | nil=>obtain ⟨o,h7,_⟩:=Wj (show Qax ops k i=true from h.2);exact ⟨o,h7⟩
   | cons k' r'=>obtain ⟨o,h7,_⟩:=Wj (Bool.and_eq_true _ _▸(show (Qax ops k k'&&VP ops k' r' i)=true from h.2):Qax ops k k'=true∧_).1;exact ⟨o,h7⟩
  obtain ⟨ok,h7⟩:=hok;exact WW h.2 l hc ⟨ok,h7,fun e he hb=>hc k ok h7 hk e he hb⟩
def QeZ (ps:List (Nat×List Nat)) (i:Nat):List Nat:=match ps with
 | []=>[]
 | p::r=>bif p.1==i then p.2 else QeZ r i
def WR (ops:List Oper) (ps:List (Nat×List Nat)) (b:Nat):List (Bool×Nat)→List Bool→Option (List Bool)
 | [],l=>some l
 | p::r,l=>match (match p.1 with
   | true=>Region.free .any ops.toArray l.toArray p.2&&(Region.ready .any ops.toArray l.toArray).contains p.2&&((match Ze ops p.2 with | some o=>Qe2 o.op | none=>false)||VP ops b (QeZ ps p.2) p.2)
   | false=>Region.ready .any ops.toArray l.toArray==[p.2]) with
  | true=>WR ops ps b r (l.set p.2 true)
  | false=>none
def QcC (ops:List Oper) (ps:List (Nat×List Nat)) (b:Nat):List Nat→Bool
 | []=>true
 | d::r=>VP ops d (QeZ ps d) b&&QcC ops ps b r
def Vn (ops:List Oper):List Nat→List Bool→Bool
 | [],l=>Region.ready .any ops.toArray l.toArray==[]
 | i::r,l=>(Region.ready .any ops.toArray l.toArray==[i])&&Vn ops r (l.set i true)
section
variable {P:Program} {T:TT} {N:NN} {ops:List Oper} {μ0:Gh} {keep:List Seg} {K:Qs} {fr:Fr} {μ:Gh} {L:List Seg} {fuel:Nat} {listed:List Bool} {b:Nat} {ds:List Nat} {ps:List (Nat×List Nat)}
def ANB (P:Program) (N:NN) (ops:List Oper) (μ0:Gh) (keep:List Seg) (ds:List Nat) (fuel:Nat) (listed:List Bool) (K:Qs) (fr:Fr) (μ:Gh) (L:List Seg):Prop :=
 μ0.le μ→QP keep L→ ∀(a:Act) (w:World) (Q:Exit→Act→World→Prop),Agr N fr a→Inv w μ L →
  (∀fr' μ' L' a' w',μ.le μ'→Agr N fr' a'→Inv w' μ' L'→K fr' μ' L'→Q .normal a' w') →
  (∀c a d v w,Q (.panic c) (Act.put a d v) w→Q (.panic c) a w)→Qcf P ops.toArray Q (fun w=>Y8 w μ0 keep) (fun w=>Y8 w μ0 []) ds fuel listed.toArray a w
def Qeh (P:Program) (T:TT) (N:NN) (ops:List Oper):List Nat→Qs→Qs
 | [],K=>K
 | i::r,K=>fun fr μ L=> ∃o,Ze ops i=some o∧o.guard=none∧vcO P T o.op o.type fr μ L fun v μ' L'=>Yx N o.dst v fr fun fr'=>Qeh P T N ops r K fr' μ' L'
theorem Qbx {dst:Option Tmp} {op:Op} {ty:TypeId} {pos:String} {aft:Array Edge} (hi:Ze ops b=some ⟨dst,op,ty,pos,aft,none⟩) (h:vcO P T op ty fr μ L fun v μ' L'=>Yx N dst v fr fun fr'=>K fr' μ' L'):Qeh P T N ops [b] K fr μ L :=
 ⟨_,hi,rfl,h⟩
theorem Qcg {S:World→Prop} {μ0:Gh} {Q:Exit→Act→World→Prop} (hT:TOk P T): ∀(r:List Nat) (listed:List Bool) (_: ∀i∈r,i∈ds) (_:Vn ops r listed=true) {fr:Fr} {μ:Gh} {L:List Seg} (_:Qeh P T N ops r K fr μ L) (_:μ0.le μ) (a:Act) (w:World) (_:Agr N fr a) (_:Inv w μ L)
  (_: ∀fr' μ' L' a' w',μ.le μ'→Agr N fr' a'→Inv w' μ' L'→K fr' μ' L'→Q .normal a' w'),Qcf P ops.toArray Q S (fun w=>Y8 w μ0 []) ds r.length listed.toArray a w
 | [],listed,_,hs,fr,μ,L,h,hm,a,w,ha,hw,hQ=>by
  simp only[Vn,beq_iff_eq] at hs
  exact ⟨hs,hQ fr μ L a w (Gh.le.refl _) ha hw h⟩
 | i::r,listed,hd,hs,fr,μ,L,h,hm,a,w,ha,hw,hQ=>by
  simp only[Vn,Bool.and_eq_true,beq_iff_eq] at hs
  obtain ⟨hr,hs⟩:=hs;obtain ⟨o,ho,hg,h⟩:=h
  rw[JL] at ho
  have ho':ops.toArray[i]? =some o:=by simpa using ho
  refine ⟨fun h0=>absurd (hr▸h0) (by simp),fun j hj=> ?_⟩
  rw[hr] at hj
  have hj':j=i:=by simpa using hj
  subst hj';unfold wpOp
  rw[ho']
  simp only
  have hwt:Region.wanted o (yielded ops.toArray a.tmps)=true:=by unfold Region.wanted;rw[hg]
  rw[if_pos hwt]
  refine .inl (Jl hT ha h hw fun v μ' L' w' hm' hw' hv=> ?_);obtain ⟨fr',hv',ha'⟩:=Q9 ha hv;refine ⟨YD (hm.trans hm') QP.nil hw',fun hne=>absurd (hd j (by simp)) hne,?_⟩
  rw[Yb]
  exact Qcg hT r _ (fun k hk=>hd k (by simp[hk])) hs hv' (hm.trans hm') _ _ ha' hw' fun fr2 μ2 L2 a2 w2 h2=>hQ fr2 μ2 L2 a2 w2 (hm'.trans h2)
theorem QaL: ∀{r:List Nat} (_:QcC ops ps b r=true),∀d∈r,ZZ ops.toArray d b
 | c::r,h,d,hd=>by
  simp only[QcC,Bool.and_eq_true] at h
  rcases List.mem_cons.1 hd with rfl | hd
  ·exact WW h.1
  ·exact QaL h.2 d hd
theorem ANB.steps (hT:TOk P T) (hs:Region.noSelect ops.toArray=true) {listed':List Bool} {r0:List Nat} (hsr:Vn ops (b::r0) listed'=true) (hlt:QcC ops ps b r0=true) :
  ∀(plan:List (Bool×Nat)) (listed:List Bool) (_:WR ops ps b plan listed=some listed') (_:ZY ops.toArray listed.toArray) {fr:Fr} {μ:Gh} {L:List Seg}
  (_:YA P T N ops μ0 keep plan fr μ L (Qeh P T N ops (b::r0) K)),ANB P N ops μ0 keep (b::r0) ((b::r0).length+plan.length) listed K fr μ L
 | [],listed,hp,_,fr,μ,L,h=>by
  simp only[WR,Option.some.injEq] at hp
  subst hp;intro hm hk a w Q ha hw hQ hQp;exact Qcg hT (b::r0) _ (fun i hi=>hi) hsr h hm a w ha hw hQ
 | (q,i)::r,listed,hp,hcl,fr,μ,L,h=>by
  intro hm hk a w Qx ha hw hQ hQp;unfold WR at hp
  split at hp
  ·rename_i hc
   unfold YA at h
   simp only[JL] at h hc
   cases ho:ops[i]? with
   | none=>rw[ho] at h;exact h.elim
   | some o =>
    rw[ho] at h
    have ho':ops.toArray[i]? =some o:=by simpa using ho
    show Qcf P ops.toArray Qx _ _ (b::r0) (((b::r0).length+r.length)+1) listed.toArray a w
    cases q with
    | true =>
     simp only[Bool.and_eq_true,Bool.or_eq_true,ho] at h hc
     have hri:i∈Region.ready .any ops.toArray listed.toArray:=by simpa using hc.1.2
     have hcl2:ZY ops.toArray (listed.set i true).toArray:=by rw[←Yb];exact hcl.set hri
     have hcont: ∀v,Yx N o.dst v fr (fun fr'=>YA P T N ops μ0 keep r fr' μ L (Qeh P T N ops (b::r0) K)) →
       Qcf P ops.toArray Qx (fun w=>Y8 w μ0 keep) (fun w=>Y8 w μ0 []) (b::r0) ((b::r0).length+r.length) (listed.toArray.setIfInBounds i true) (a.put o.dst v) w:=by
      intro v hv;obtain ⟨fr',hv',ha'⟩:=Q9 ha hv
      rw[Yb]
      exact ANB.steps hT hs hsr hlt r _ hp hcl2 hv' hm hk _ w Qx ha' hw hQ hQp
     have h00:Y8 w μ0 []:=YD hm QP.nil hw;rcases Y1 ha h with ⟨hg,h⟩ | ⟨hg,h⟩
     ·rcases hc.2 with hpu | hwt
      ·obtain ⟨v,hv,hrun⟩:=J9 hT ha (Qff (μ':=μ0) (L':=[]) hpu h);exact Vc (Sx:=fun w=>Y8 w μ0 []) ho' (Region.noSelect_spec hs) (fun c a w h=>hQp c a _ _ w h) (.inl fun _ h=>h) _ _ a w (Region.free_spec ho' hc.1.1) hri hcl (.inl ⟨hg,fun w hw=>hrun w hw⟩) h00 h00 (hcont v hv)
      ·have hw0:ZZ ops.toArray b i:=WW hwt;have hwb: ∀d∈b::r0,ZZ ops.toArray d i:=fun d hd=>by
        rcases List.mem_cons.1 hd with rfl | hd
        ·exact hw0
        ·simp only[Vn,Bool.and_eq_true,beq_iff_eq] at hsr
         obtain ⟨_,ob,hob,_⟩:=mem_ready.1 (show b∈Region.ready .any ops.toArray listed'.toArray by rw[hsr.1];simp);exact (QaL hlt d hd).trans hob hw0
       obtain ⟨v,hv,hrun⟩:=J9 hT ha h;exact Vc (Sx:=fun w=>Y8 w μ0 keep) ho' (Region.noSelect_spec hs) (fun c a w h=>hQp c a _ _ w h) (.inr ⟨rfl,hwb⟩) _ _ a w (Region.free_spec ho' hc.1.1) hri hcl (.inl ⟨hg,fun w hw=>hrun w hw⟩) h00 (YD hm hk hw) (hcont v hv)
     ·exact Vc (Sx:=fun w=>Y8 w μ0 []) ho' (Region.noSelect_spec hs) (fun c a w h=>hQp c a _ _ w h) (.inl fun _ h=>h) _ _ a w (Region.free_spec ho' hc.1.1) hri hcl (.inr ⟨hg,rfl⟩) h00 h00 (hcont undef h)
    | false =>
     simp only[beq_iff_eq] at h hc
     refine ⟨fun h0=>absurd (hc▸h0) (by simp),fun j hj=> ?_⟩
     rw[hc] at hj
     have hj':j=i:=by simpa using hj
     subst hj';have hcl2:ZY ops.toArray (listed.set j true).toArray:=by rw[←Yb];exact hcl.set (by rw[hc];simp)
     unfold wpOp
     rw[ho']
     simp only
     rcases Y1 ha h with ⟨hg,h⟩ | ⟨hg,h⟩
     ·rw[if_pos hg]
      refine .inl (Jl hT ha h hw fun v μ' L' w' hm' hw' hv=> ?_);obtain ⟨fr',hv',ha'⟩:=Q9 ha hv.2;refine ⟨YD (hm.trans hm') QP.nil hw',fun _ _=>YD (hm.trans hm') hv.1 hw',?_⟩
      rw[Yb]
      exact ANB.steps hT hs hsr hlt r _ hp hcl2 hv' (hm.trans hm') hv.1 _ w' Qx ha' hw' (fun fr2 μ2 L2 a2 w2 h2=>hQ fr2 μ2 L2 a2 w2 (hm'.trans h2)) hQp
     ·rw[if_neg (by rw[hg];exact Bool.false_ne_true)]
      obtain ⟨fr',hv',ha'⟩:=Q9 ha h;refine ⟨YD hm QP.nil hw,fun _ h=>h,?_⟩
      rw[Yb]
      exact ANB.steps hT hs hsr hlt r _ hp hcl2 hv' hm hk _ w Qx ha' hw hQ hQp
  ·cases hp
theorem WP.drawB {B:Nat→Qs} {R:Qs} (hx:P.follows .mixedOrders=true) (hT:TOk P T) {id:Nat} (keep:List Seg) (hk:QP keep L) (b:Nat) (ps:List (Nat×List Nat)) (plan:List (Bool×Nat)) {l':List Bool}
  (hs:Region.noSelect ops.toArray=true) (hp:WR ops ps b plan (List.replicate ops.length false)=some l') (r0:List Nat) (hl:plan.length+(b::r0).length=ops.length)
  (hsr:Vn ops (b::r0) l'=true) (hlt:QcC ops ps b r0=true)
  (h:YA P T N ops μ keep plan fr μ L (Qeh P T N ops (b::r0) K)) (hnd:N.rd=none∨WN ops=true:=by first | exact .inl rfl | exact .inr (by kernel_rfl)):WP P N (.region id ops.toArray true) K B R fr μ L:=by
 intro a w ha hw;refine QbG hx hnd Vv (Qch (S:=fun w=>Y8 w μ keep) (S0:=fun w=>Y8 w μ []) (b:=b::r0) _ _ _ _ ?_);have e1:ops.toArray.size=(b::r0).length+plan.length:=by simp at hl ⊢;omega
 have e2:Array.replicate ((b::r0).length+plan.length) false=(List.replicate ops.length false).toArray:=by simp at hl ⊢;omega
 rw[e1,e2]
 exact ANB.steps hT hs hsr hlt plan _ hp (ZY.start _) h (Gh.le.refl _) hk a _ _ ha hw.drew (fun fr' μ' L' a' w' hm ha' hw' hk'=>⟨fr',μ',L',ha',hm,hw',hk'⟩) (fun _ _ _ _ _ h=>h)
end
theorem E.{u} {α:Sort u} {a:α}:a=a:=rfl
section
variable {P:Program} {T:TT} {N:NN} {ops r:List Oper} {dst:Option Tmp} {op:Op} {ty:TypeId} {pos:String} {aft:Array Edge} {K:Qs} {d:Tmp} {fr:Fr} {μ:Gh} {L:List Seg} {v:Value}
theorem Pt {μ0:Gh} {keep:List Seg} {pl:List (Bool×Nat)} {i:Nat} (hd:Nat.blt d N.n=true) (hi:Ze ops i=some ⟨dst,op,ty,pos,aft,none⟩) (h:vcR P T op ((d,v)::fr) μ0 keep fun u=>Yx N dst u ((d,v)::fr) fun fr'=>YA P T N ops μ0 keep pl fr' μ L K) :
  Yx N (some d) v fr fun fr'=>YA P T N ops μ0 keep ((true,i)::pl) fr' μ L K:=QR hd (Vq hi h)
end
end Go.Proofs.Ytfdjjdhnfaklbaa
