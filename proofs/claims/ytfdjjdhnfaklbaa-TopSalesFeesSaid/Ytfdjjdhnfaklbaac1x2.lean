/- TopSalesFees: for every input the given law returns true, and its arguments read as before. No condition. -/
import Derived.Test.Ytfdjjdhnfaklbaac1x1
import Derived.Laws.MakeOwn
import Derived.Laws.Entries
import Derived.Scope
import Derived.Laws.StructEq
namespace Go.Proofs.Ytfdjjdhnfaklbaa
open Go.RowKit
set_option linter.unusedSimpArgs false
set_option linter.unusedVariables false
theorem Qi {α β:Type} {m:Option α} {f:α→Option β} {r:β} (h:m.bind f=some r): ∃x,m=some x∧f x=some r:=by
 cases m with
 | none=>cases h
 | some x=>exact ⟨x,rfl,h⟩
def Yl {α β γ:Type} (o:α⊕β) (f:α→γ) (g:β→γ):γ:=match o with
 | .inl a=>f a
 | .inr b=>g b
theorem Y9 {α β γ:Type} {a:α} {f:α→γ} {g:β→γ} {r:γ} (h:Yl (.inl a) f g=r):f a=r:=h
theorem Yb {α β γ:Type} {b:β} {f:α→γ} {g:β→γ} {r:γ} (h:Yl (.inr b) f g=r):g b=r:=h
def oun {α β γ:Type} (j:α×β) (f:α→β→γ):γ:=f j.1 j.2
abbrev Zs {α β:Type} (j:α×β) (f:α→β→Prop):Prop:=f j.1 j.2
theorem Qo {α β γ:Type} {a:α} {b:β} {f:α→β→γ} {r:γ} (h:oun (a,b) f=r):f a b=r:=h
def iter {σ ρ:Type} (body:σ→Option (σ⊕ρ)):Nat→σ→Option ρ
 | 0,_=>none
 | n+1,s=>(body s).bind fun q=>Yl q (fun s'=>iter body n s') fun r=>some r
def Qp {α:Type} (xs:List α) (k:Int):Option α:=if 0≤k then xs[k.toNat]? else none
def YV {α:Type} (xs:List α) (k:Int) (x:α):List α:=xs.set k.toNat x
theorem QM {α:Type} (xs:List α) (k:Int) (x:α):(YV xs k x).length=xs.length:=by simp[YV]
def QbQ {α:Type} (xs ys:List α):Option (List α):=if xs.length+ys.length≤1000000 then some (xs++ys) else none
def QP (p:Prop) [Decidable p]:Option Unit:=if p then some () else none
theorem Qw {p:Prop} [Decidable p] {u:Unit} (h:QP p=some u):p:=by
 unfold QP at h;split at h
 ·assumption
 ·cases h
theorem Qm {α:Type} {xs:List α} {k:Int} {x:α} (h:Qp xs k=some x):0≤k∧k<(xs.length:Nat)∧xs[k.toNat]? =some x:=by
 unfold Qp at h
 split at h
 ·refine ⟨by omega,?_,h⟩;rcases Nat.lt_or_ge k.toNat xs.length with h1 | h1
  ·omega
  ·rw[List.getElem?_eq_none h1] at h;cases h
 ·cases h
theorem QeX {α:Type} {xs ys zs:List α} (h:QbQ xs ys=some zs):xs.length+ys.length≤1000000∧zs=xs++ys:=by
 unfold QbQ at h
 split at h
 ·injection h with h;exact ⟨by assumption,h.symm⟩
 ·cases h
def YY {β:Type} (k:Int):List (Int×β)→Option β
 | []=>none
 | p::r=>if p.1=k then some p.2 else YY k r
def Wb {β:Type} (k:Int) (v:β):List (Int×β)→List (Int×β)
 | []=>[(k,v)]
 | p::r=>if p.1=k then (k,v)::r else p::Wb k v r
structure Rp (α:Type) where
 sz:Nat
 rep:Gh→α→List Value→Prop
 len: ∀{μ x cs},rep μ x cs→cs.length=sz
 mono: ∀{μ μ':Gh} {x cs},μ.le μ'→rep μ x cs→rep μ' x cs
 one: ∀{μ x cs},rep μ x cs→ ∀u∈cs,u.oneCell'=true
def rI (k:IntKind):Rp Int:=⟨1,fun _ n cs=>cs=[.int k n],fun h=>by rw[h];rfl,fun _ h=>h,fun h u hu=>by subst h;simp only[List.mem_singleton] at hu;subst hu;rfl⟩
def Qq:Rp Int:=rI .i64
def Qiz:Rp ByteArray:=⟨1,fun _ n cs=>cs=[.string n],fun h=>by rw[h];rfl,fun _ h=>h,fun h u hu=>by subst h;simp only[List.mem_singleton] at hu;subst hu;rfl⟩
def QeG {α:Type} (sz:Nat) (enc:α→List Value) (hl: ∀x,(enc x).length=sz) (h1: ∀x,∀u∈enc x,u.oneCell'=true):Rp α :=
 ⟨sz,fun _ x cs=>cs=enc x,fun h=>by rw[h];exact hl _,fun _ h=>h,fun h u hu=>by subst h;exact h1 _ u hu⟩
def wfI (k:IntKind) (n:Int):Prop:=(Lit.int k n).wf=true
def YA {α β:Type} (R:α→β→Prop) (xs:List α) (ys:List β):Prop:=xs.length=ys.length∧ ∀(i:Nat) (x:α) (y:β),xs[i]? =some x→ys[i]? =some y→R x y
section
variable {α β:Type} {R:α→β→Prop} {xs:List α} {ys:List β}
theorem YA.nil:YA R [] []:=⟨rfl,fun i x y h=>by simp at h⟩
theorem YA.mono {R':α→β→Prop} (h:YA R xs ys) (hr: ∀x y,R x y→R' x y):YA R' xs ys:=⟨h.1,fun i x y h1 h2=>hr _ _ (h.2 i x y h1 h2)⟩
theorem YA.get (h:YA R xs ys) {i:Nat} {x:α} (hi:xs[i]? =some x): ∃y,ys[i]? =some y∧R x y:=by
 have hlt:i<xs.length:=by
  rcases Nat.lt_or_ge i xs.length with h | h
  ·exact h
  ·rw[List.getElem?_eq_none h] at hi;cases hi
 have hy:ys[i]? =some (ys[i]'(by rw[←h.1];exact hlt)):=by simp
 exact ⟨_,hy,h.2 i x _ hi hy⟩
theorem YA.get' (h:YA R xs ys) {y:β} (hy:y∈ys): ∃x,R x y:=by
 obtain ⟨i,hi⟩:=List.getElem?_of_mem hy;have hlt:i<ys.length:=by
  rcases Nat.lt_or_ge i ys.length with h | h
  ·exact h
  ·rw[List.getElem?_eq_none h] at hi;cases hi
 exact ⟨_,h.2 i (xs[i]'(by rw[h.1];exact hlt)) y (by simp) hi⟩
theorem YA.append {us:List α} {vs:List β} (h:YA R xs ys) (k:YA R us vs):YA R (xs++us) (ys++vs):=by
 refine ⟨by simp[h.1,k.1],fun i x y h1 h2=> ?_⟩;rcases Nat.lt_or_ge i xs.length with hi | hi
 ·rw[List.getElem?_append_left hi] at h1
  rw[List.getElem?_append_left (by rw[←h.1];exact hi)] at h2
  exact h.2 i x y h1 h2
 ·rw[List.getElem?_append_right hi] at h1
  rw[List.getElem?_append_right (by rw[←h.1];exact hi),←h.1] at h2
  exact k.2 _ x y h1 h2
theorem YA.cons {x:α} {y:β} (h:R x y) (k:YA R xs ys):YA R (x::xs) (y::ys):=by
 refine ⟨by simp[k.1],fun i a b h1 h2=> ?_⟩;cases i with
 | zero=>simp at h1 h2;subst h1 h2;exact h
 | succ i=>exact k.2 i a b (by simpa using h1) (by simpa using h2)
theorem YA.set (h:YA R xs ys) (i:Nat) {x:α} {y:β} (hr:R x y):YA R (xs.set i x) (ys.set i y):=by
 refine ⟨by simp[h.1],fun j a b h1 h2=> ?_⟩
 rw[List.getElem?_set] at h1 h2
 by_cases hij:i=j
 ·subst hij
  by_cases hl:i<xs.length
  ·have hl2:i<ys.length:=by rw[←h.1];exact hl
   simp[hl] at h1
   simp[hl2] at h2
   subst h1 h2;exact hr
  ·simp[hl] at h1
 ·rw[if_neg hij] at h1 h2
  exact h.2 j a b h1 h2
theorem YA.take (h:YA R xs ys) (n:Nat):YA R (xs.take n) (ys.take n):=by
 refine ⟨by simp[h.1],fun i x y h1 h2=> ?_⟩
 rw[List.getElem?_take] at h1 h2
 split at h1
 ·rename_i hlt;rw[if_pos hlt] at h2;exact h.2 i x y h1 h2
 ·cases h1
theorem YA.drop (h:YA R xs ys) (n:Nat):YA R (xs.drop n) (ys.drop n):=by
 refine ⟨by simp[h.1],fun i x y h1 h2=> ?_⟩
 rw[List.getElem?_drop] at h1 h2
 exact h.2 _ x y h1 h2
end
section
variable {α:Type} {r:Rp α} {e:TypeId} {μ μ':Gh} {L:List Seg} {A:Option Addr} {n c:Nat} {v:Value} {xs:List α} {ch:Seg} {k:Int} {x:α}
def W0 (r:Rp α) (μ:Gh) (A:Option Addr) (xs:List α):Prop:= ∃css,Arr μ A r.sz css∧YA (r.rep μ) xs css
def Rds (r:Rp α) (μ:Gh) (L:List Seg) (A:Option Addr) (xs:List α):Prop:= ∃css,Rd μ L A r.sz css∧YA (r.rep μ) xs css
def Own (r:Rp α) (e:TypeId) (μ:Gh) (v:Value) (xs:List α) (ch:Seg):Prop:= ∃css,Z6 e r.sz v css ch∧YA (r.rep μ) xs css
theorem W0.mono (h:W0 r μ A xs) (hm:μ.le μ'):W0 r μ' A xs:=by
 obtain ⟨css,h1,h2⟩:=h;exact ⟨css,h1.mono hm,h2.mono fun _ _=>r.mono hm⟩
theorem W0.nil:W0 r μ A []:=⟨[],Arr.nil,YA.nil⟩
theorem W0.rds (h:W0 r μ A xs) (L:List Seg):Rds r μ L A xs:=by
 obtain ⟨css,h1,h2⟩:=h;exact ⟨css,h1.rd,h2⟩
theorem Rds.mono (h:Rds r μ L A xs) (hm:μ.le μ'):Rds r μ' L A xs:=by
 obtain ⟨css,h1,h2⟩:=h;exact ⟨css,h1.mono hm fun _ h=>h,h2.mono fun _ _=>r.mono hm⟩
theorem Rds.push {s:Seg} (h:Rds r μ L A xs):Rds r μ (s::L) A xs:=by
 obtain ⟨css,h1,h2⟩:=h;exact ⟨css,h1.cons,h2⟩
theorem Rds.nil:Rds r μ L A []:=⟨[],Rd.nil,YA.nil⟩
theorem Own.mono (h:Own r e μ v xs ch) (hm:μ.le μ'):Own r e μ' v xs ch:=by
 obtain ⟨css,h1,h2⟩:=h;exact ⟨css,h1,h2.mono fun _ _=>r.mono hm⟩
theorem Own.nil:Own r e μ (.slice none 0 0) [] []:=⟨[],Z6.nil,YA.nil⟩
theorem Own.form (h:Own r e μ v xs ch): ∃A c,v= .slice A xs.length c∧xs.length≤c∧c≤maxLen:=by
 obtain ⟨css,h1,h2⟩:=h;obtain ⟨A,c,h3,h4,h5⟩:=h1.form
 rw[←h2.1] at h3 h4
 exact ⟨A,c,h3,h4,h5⟩
theorem Own.rds (h:Own r e μ (.slice A n c) xs ch) (i:Nat) (hi:L[i]? =some ch):Rds r μ L A xs:=by
 obtain ⟨css,h1,h2⟩:=h;exact ⟨css,h1.rd i hi,h2⟩
theorem Own.le (h:Own r e μ v xs ch):xs.length≤9223372036854775807:=by
 obtain ⟨A,c,_,h1,h2⟩:=h.form;exact Nat.le_trans h1 h2
theorem Qbw {α:Type} {xs:List α} {c:Nat} (h:xs.length=c) (hb:Nat.ble c 1000000=true):xs.length≤c∧c≤maxLen:=by
 have:=Nat.le_of_ble_eq_true hb;exact ⟨by omega,by unfold maxLen;omega⟩
theorem Own.lenOk (h:Own r e μ (.slice A n c) xs ch):xs.length≤c∧c≤maxLen:=by
 obtain ⟨A',c',h1,h2,h3⟩:=h.form;injection h1 with _ _ h1
 subst h1;exact ⟨h2,h3⟩
theorem Yp.sub {a:Addr} {vs us:List Value} (h:Yp μ L a vs) (o:Nat) (hu:(vs.drop o).take us.length=us):Yp μ L (a.add o) us:=by
 intro j v hj
 rw[Addr.add_add']
 refine h _ _ ?_
 rw[←hu,List.getElem?_take] at hj
 split at hj
 ·rwa [List.getElem?_drop] at hj
 ·cases hj
theorem Zn.push {s:Seg} {b:Nat} {o:Obj} (h:Zn μ L b o):Zn μ (s::L) b o:=Zn.mono h (Gh.le.refl _) (by intro c hc;simp only[List.flatten_cons,List.mem_append];exact .inr hc)
theorem Rds.getI (h:Rds r μ L A xs) (hx:Go.Proofs.Ytfdjjdhnfaklbaa.Qp xs k=some x): ∃a cs,A=some a∧r.rep μ x cs∧cs.length=r.sz∧Yp μ L (a.add (k.toNat*r.sz)) cs:=by
 obtain ⟨css,h1,h2⟩:=h;obtain ⟨_,_,h3⟩:=Qm hx;obtain ⟨cs,h4,h5⟩:=h2.get h3;obtain ⟨a,h6,h7⟩:=h1.at_ h4;exact ⟨a,cs,h6,h5,r.len h5,h7⟩
theorem Yp.push {a:Addr} {vs:List Value} {s:Seg} (h:Yp μ L a vs):Yp μ (s::L) a vs:=h.mono (Gh.le.refl _) (by intro c hc;simp only[List.flatten_cons,List.mem_append];exact .inr hc)
theorem Yp.any {a:Addr} {vs:List Value} (h:Yp μ [] a vs) (L:List Seg):Yp μ L a vs:=h.mono (Gh.le.refl _) (by simp)
theorem Yp.lift {a:Addr} {vs:List Value} (h:Yp μ L a vs) (hm:μ.le μ'):Yp μ' L a vs:=h.mono hm fun _ h=>h
def Qir (r:Rp α):Rp (List α) where
 sz:=1
 rep μ xs cs:= ∃A c,cs=[.slice A xs.length c]∧xs.length≤c∧c≤maxLen∧W0 r μ A xs
 len:=by rintro μ x cs ⟨A,c,rfl,_⟩;rfl
 mono:=by rintro μ μ' x cs hm ⟨A,c,h1,h2,h3,h4⟩;exact ⟨A,c,h1,h2,h3,h4.mono hm⟩
 one:=by rintro μ x cs ⟨A,c,rfl,_⟩ u hu;simp only[List.mem_singleton] at hu;subst hu;rfl
theorem Rds.lit (i:Nat) {g:Nat} {cs:List Value} {f:Nat×Nat} {css:List (List Value)} (hi:L[i]? =some [(g,.cells cs.toArray e f)]) (hc:cs=css.flatten) (ha:YA (r.rep μ) xs css):Rds r μ L (some ⟨g,0,none⟩) xs :=
 ⟨css,Rd.chunk i hi (fun c hc=>by obtain ⟨x,hx⟩:=ha.get' hc;exact r.len hx) hc,ha⟩
theorem Own.lit {g:Nat} {cs:List Value} {css:List (List Value)} (hc:cs=css.flatten) (ha:YA (r.rep μ) xs css) (hn:Nat.ble xs.length 1000=true) (hl:xs.length=n):Own r e μ (.slice (some ⟨g,0,none⟩) n n) xs [(g,.cells cs.toArray e (0,0))]:=by
 have h1: ∀c∈css,c.length=r.sz:=fun c hc=>by obtain ⟨x,hx⟩:=ha.get' hc;exact r.len hx
 have h2:=Nat.le_of_ble_eq_true hn;refine ⟨css,⟨h1,.inr ⟨g,n,cs.toArray,by rw[←ha.1,hl],rfl,by rw[←ha.1,hl];exact Nat.le_refl _,by unfold maxLen;omega,?_,?_⟩⟩,ha⟩
 ·rw[List.size_toArray,hc,YI h1,←ha.1,hl]
 ·rw[List.toList_toArray,hc,←YI h1,List.take_length]
theorem Fn.pre {P:Program} {f:FuncId} {args:List Value} {R:Value→Gh→List Seg→Prop} {fn:Func} (hf:P.funcs[f]? =some fn) (hnm:(fn.name== "runtime.NumGoroutine")=false) (hb:fn.body.isNone=false)
  (h:Upd μ L fun μ' L'=>Fn P f args μ' L' R):Fn P f args μ L R:=by
 refine .inl ⟨⟨fn,hf,hnm,hb⟩,fun w hw=> ?_⟩;obtain ⟨μ1,L1,h1,h2,h3⟩:=h w hw;rcases h3 with ⟨_,h3⟩ | ⟨fn',_,hf',_,hb',_⟩
 ·exact (h3 w h2).mono fun _ w' ⟨v,μ',L',he,hm,hi,hR⟩=>⟨v,μ',L',he,h1.trans hm,hi,hR⟩
 ·rw[hf] at hf'
  injection hf' with hf'
  subst hf'
  rw[hb] at hb';cases hb'
end
def QL:List (Option Nat)→Nat→List Seg→List Seg
 | [],k,L=>L.drop k
 | none::r,k,L=>[]::QL r k L
 | some i::r,k,L=>(L[i]?.getD [])::QL r k (L.set i [])
def Qc (L2 L:List Seg):Prop:= ∀w μ,Inv w μ L→Inv w μ L2
theorem Qc.sel (L:List Seg): ∀(idx:List (Option Nat)) (k:Nat),Qc (QL idx k L) L:=by
 intro idx
 induction idx generalizing L with
 | nil=>exact fun k w μ h=>h.sub (by
   simp only[QL]
   conv=>rhs;rw[←List.take_append_drop k L,List.flatten_append]
   exact List.sublist_append_right _ _)
 | cons o r ih =>
  intro k w μ h;cases o with
  | none =>
   have:=ih L k w μ h;exact this.perm (by simp[QL])
  | some i =>
   simp only[QL]
   cases hi:L[i]? with
   | none =>
    have hs:L.set i []=L:=by
     rw[List.set_eq_of_length_le]
     rcases Nat.lt_or_ge i L.length with h | h
     ·rw[List.getElem?_eq_getElem h] at hi;cases hi
     ·exact h
    rw[hs]
    have:=ih L k w μ h;exact this.perm (by simp)
   | some s =>
    have hp:=h.perm (ZF hi);have key: ∀(idx:List (Option Nat)) (L:List Seg),∃M,L.flatten.Perm ((QL idx k L).flatten++M):=by
     intro idx
     induction idx with
     | nil =>
      intro L;refine ⟨(L.take k).flatten,?_⟩
      simp only[QL]
      conv=>lhs;rw[←List.take_append_drop k L,List.flatten_append]
      exact List.perm_append_comm
     | cons o r ih2 =>
      intro L;cases o with
      | none =>
       obtain ⟨M,hM⟩:=ih2 L;exact ⟨M,by simpa [QL] using hM⟩
      | some j =>
       simp only[QL]
       cases hj:L[j]? with
       | none =>
        have hs:L.set j []=L:=by
         rw[List.set_eq_of_length_le]
         rcases Nat.lt_or_ge j L.length with h | h
         ·rw[List.getElem?_eq_getElem h] at hj;cases hj
         ·exact h
        obtain ⟨M,hM⟩:=ih2 L;exact ⟨M,by rw[hs];simpa using hM⟩
       | some t =>
        obtain ⟨M,hM⟩:=ih2 (L.set j []);refine ⟨M,(ZF hj).trans ?_⟩
        simp only[List.flatten_cons,Option.getD_some,List.append_assoc]
        exact hM.append_left t
    obtain ⟨M,hM⟩:=key r (L.set i []);have h2:(s::L.set i []).flatten.Perm ((s::QL r k (L.set i [])).flatten++M):=by
     simp only[List.flatten_cons,List.append_assoc]
     exact hM.append_left s
    refine (hp.perm (L':=[(s::QL r k (L.set i [])).flatten,M]) (by simpa using h2)).sub ?_
    simp only[Option.getD_some,List.flatten_cons,List.flatten_nil,List.append_nil,List.append_assoc]
    rw[←List.append_assoc]
    exact List.sublist_append_left _ _
def Qe (F fr:Fr):Prop:= ∀t v,ZP F t=some v→ZP fr t=some v
theorem Qe.trans {F fr fr2:Fr} (h:Qe F fr) (h2:Qe fr fr2):Qe F fr2:=fun t v hv=>h2 t v (h t v hv)
theorem Qc.trans {A M B:List Seg} (h:Qc A M) (h2:Qc M B):Qc A B:=fun w μ hw=>h w μ (h2 w μ hw)
theorem Qe.of {F fr:Fr} (h:QeV F fr):Qe F fr:=h.look
section
variable {P:Program} {T:TT} {N:NN} {K:QH} {B:Nat→QH} {R:QH} {fr:Fr} {μ:Gh} {L:List Seg}
theorem WP.at {c:Code} {F:Fr} {L2:List Seg} (hF:Qe F fr) (hL:Qc L2 L) (h:WP P N c K B R F μ L2):WP P N c K B R fr μ L:=fun a w ha hw=>h a w (ha.sub hF) (hL w μ hw)
theorem WP.cut {x y:Code} (M:QH) (h1:WP P N x M B R fr μ L) (h2: ∀fr' μ' L',μ.le μ'→M fr' μ' L'→WP P N y K B R fr' μ' L'):WP P N (.seq x y) K B R fr μ L :=
 WP.seq (h1.mono (fun fr' μ' L' hm h=>h2 fr' μ' L' hm h) (fun _ _ _ _ _ h=>h) fun _ _ _ _ h=>h)
theorem WP.cutK {x:Code} (M:QH) (h1:WP P N x M B R fr μ L) (h2: ∀fr' μ' L',μ.le μ'→M fr' μ' L'→K fr' μ' L'):WP P N x K B R fr μ L :=
 h1.mono (fun fr' μ' L' hm h=>h2 fr' μ' L' hm h) (fun _ _ _ _ _ h=>h) fun _ _ _ _ h=>h
theorem WP.iter {σ ρ:Type} {body:σ→Option (σ⊕ρ)} {n:Nat} {s0:σ} {o:ρ} {c:Code} (h:Go.Proofs.Ytfdjjdhnfaklbaa.iter body n s0=some o) (I:σ→Fr→Gh→List Seg→Prop) (h0:I s0 fr μ L)
  (round: ∀s q fr' μ' L',μ.le μ'→I s fr' μ' L'→body s=some q→(∀r,q= .inr r→r=o)→WP P N c (fun fr2 μ2 L2=> ∃s',q= .inl s'∧I s' fr2 μ2 L2) B R fr' μ' L'):WP P N (.loop c) K B R fr μ L:=by
 refine WP.loop (fun n fr μ L=> ∃s,Go.Proofs.Ytfdjjdhnfaklbaa.iter body n s=some o∧I s fr μ L) (n:=n) ⟨s0,h,h0⟩ ?_;rintro n fr1 μ1 L1 hm ⟨s,h1,h2⟩;cases n with
 | zero=>cases h1
 | succ n =>
  obtain ⟨q,hq,h3⟩:=Qi h1;refine (round s q fr1 μ1 L1 hm h2 hq (fun r e=>by subst e;exact Option.some.inj h3)).mono (fun fr2 μ2 L2 _ ⟨s',e,h4⟩=>⟨n,Nat.lt_succ_self n,s',by subst e;exact h3,h4⟩) (fun _ _ _ _ _ h=>h) (fun _ _ _ _ h=>h)
theorem WP.seg {c:Code} {L2:List Seg} (hL:Qc L2 L) (h:WP P N c K B R fr μ L2):WP P N c K B R fr μ L:=fun a w ha hw=>h a w ha (hL w μ hw)
theorem Upd.seg {L2:List Seg} {k:Gh→List Seg→Prop} (hL:Qc L2 L) (h:Upd μ L2 k):Upd μ L k:=fun w hw=>h w (hL w μ hw)
theorem Fn.seg {f:FuncId} {args:List Value} {L2:List Seg} {R:Value→Gh→List Seg→Prop} (hL:Qc L2 L) (h:Fn P f args μ L2 R):Fn P f args μ L R:=by
 rcases h with ⟨h1,h2⟩ | ⟨fn,e,h1,h2,h3,h4,h5,h6⟩
 ·exact .inl ⟨h1,fun w hw=>h2 w (hL w μ hw)⟩
 ·exact .inr ⟨fn,e,h1,h2,h3,h4,h5,fun w hw=>h6 w (hL w μ hw)⟩
theorem Upd.selS {k:Gh→List Seg→Prop} (idx:List (Option Nat)) (n:Nat) (h:Upd μ (Go.Proofs.Ytfdjjdhnfaklbaa.QL idx n L) k):Upd μ L k:=fun w hw=>h w (Qc.sel L idx n w μ hw)
theorem Qb.of {keep L:List Seg} (h: ∀s∈keep,s∈L):Qb keep L:=fun c hc=>by
 obtain ⟨s,h1,h2⟩:=List.mem_flatten.1 hc;exact List.mem_flatten.2 ⟨s,h s h1,h2⟩
variable {k:Value→Prop}
section
variable {t yt:TypeId} {x y:Operand} {kd:IntKind} {a b:Int}
theorem Qhg (h:evV fr x=some (.int kd a)) (h2:evV fr y=some (.int kd b)) (hk:k (.bool (decide (a=b)))):vcR P T (.binOp .eql t x y yt) fr μ L k:=Qfw h h2 (fun e=>by rw[decide_eq_true e] at hk;exact hk) (fun e=>by rw[decide_eq_false e] at hk;exact hk)
theorem Qhu (h:evV fr x=some (.int kd a)) (h2:evV fr y=some (.int kd b)) (hk:k (.bool (!decide (a=b)))):vcR P T (.binOp .neq t x y yt) fr μ L k:=Qia h h2 (fun e=>by rw[decide_eq_false e] at hk;exact hk) (fun e=>by rw[decide_eq_true e] at hk;exact hk)
theorem Qhm (h:evV fr x=some (.int kd a)) (h2:evV fr y=some (.int kd b)) (hk:k (.bool (decide (a<b)))):vcR P T (.binOp .lss t x y yt) fr μ L k:=Qh5 h h2 (fun e=>by rw[decide_eq_true e] at hk;exact hk) (fun e=>by rw[decide_eq_false e] at hk;exact hk)
theorem Qhl (h:evV fr x=some (.int kd a)) (h2:evV fr y=some (.int kd b)) (hk:k (.bool (decide (a≤b)))):vcR P T (.binOp .leq t x y yt) fr μ L k:=Qh4 h h2 (fun e=>by rw[decide_eq_true e] at hk;exact hk) (fun e=>by rw[decide_eq_false e] at hk;exact hk)
theorem Qhj (h:evV fr x=some (.int kd a)) (h2:evV fr y=some (.int kd b)) (hk:k (.bool (decide (b<a)))):vcR P T (.binOp .gtr t x y yt) fr μ L k:=Qh3 h h2 (fun e=>by rw[decide_eq_true e] at hk;exact hk) (fun e=>by rw[decide_eq_false e] at hk;exact hk)
theorem Qhi (h:evV fr x=some (.int kd a)) (h2:evV fr y=some (.int kd b)) (hk:k (.bool (decide (b≤a)))):vcR P T (.binOp .geq t x y yt) fr μ L k:=Qh2 h h2 (fun e=>by rw[decide_eq_true e] at hk;exact hk) (fun e=>by rw[decide_eq_false e] at hk;exact hk)
theorem Qhe {i:TyI} {a b:Bool} (h:evV fr x=some (.bool a)) (h2:evV fr y=some (.bool b)) (hT:T t=some i) (hf:Qd3 i.u=true) (hk:k (.bool (a==b))):vcR P T (.binOp .eql t x y yt) fr μ L k :=
 Qfv h h2 hT hf (fun e=>by subst e;simpa using hk) (fun e=>by
                                   have:(a==b)=false:=by simpa using e
                                   rw[this] at hk;exact hk)
theorem Qhr {i:TyI} {a b:Bool} (h:evV fr x=some (.bool a)) (h2:evV fr y=some (.bool b)) (hT:T t=some i) (hf:Qd3 i.u=true) (hk:k (.bool (!(a==b)))):vcR P T (.binOp .neq t x y yt) fr μ L k :=
 Qh8 h h2 hT hf (fun e=>by
                have:(a==b)=false:=by simpa using e
                rw[this] at hk;exact hk) (fun e=>by subst e;simpa using hk)
theorem Qhq {args:Array Operand} {tys:Array TypeId} {kd kd':IntKind} {x y:Int} (h:Wl fr args.toList=some [.int kd x,.int kd' y]) (hk:k (.int kd (min x y))):vcR P T (.call ⟨.builtin .min,args,tys⟩) fr μ L k :=
 Qhp h (n:=min x y) (by rw[Int.min_def];split<;>split<;>omega) hk
theorem Qho {args:Array Operand} {tys:Array TypeId} {kd kd':IntKind} {x y:Int} (h:Wl fr args.toList=some [.int kd x,.int kd' y]) (hk:k (.int kd (max x y))):vcR P T (.call ⟨.builtin .max,args,tys⟩) fr μ L k :=
 Qhn h (n:=max x y) (by rw[Int.max_def];split<;>split<;>omega) hk
end
theorem Y3 {t e:TypeId} {x n:Operand} {A:Option Addr} {len c:Nat} {kd:IntKind} {ix:Int} {i j:TyI} {sz:Nat} {a:Addr} (h:evV fr x=some (.slice A len c)) (h2:evV fr n=some (.int kd ix)) (hT:T t=some i) (hu:i.u= .slice e) (he:T e=some j) (hs:j.size=sz)
  (hb:0≤ix∧ix<(len:Nat)) (hA:A=some a) (hk:k (.pointer (some (a.add (ix.toNat*sz))))):vcR P T (.indexAddr t x n) fr μ L k:=Qiw h h2 hT hu he hs ⟨hb.1,hb.2,a,hA,hk⟩
end
section
variable {P:Program} {T:TT} {μ:Gh} {L:List Seg} {α:Type} {r:Rp α}
theorem Vj (hT:TOk P T) {t ty e:TypeId} {it ie:TyI} {k:Value→Gh→List Seg→Prop} (ht:T t=some it) (hu:it.u= .slice e) (he:T e=some ie) (hz:ie.zero.cells.size=ie.size) (hsz:0<ie.size) (hsr:ie.size=r.sz) (hby:Nat.ble ie.bytes 10000=true)
  {v:Value} {xs ys zs:List α} {ch:Seg} (i:Nat) (hi:L[i]? =some ch) (hown:Own r e μ v xs ch) {A:Option Addr} {m c:Nat} (hm:ys.length=m) (hr:Rds r μ L A ys) (hz2:QbQ xs ys=some zs)
  (hk: ∀A' c' ch',Own r e μ (.slice A' zs.length c') zs ch'→k (.slice A' zs.length c') μ (L.set i ch')):QW P (Builtin.append_ #[t,t] ty #[v,.slice A m c]) μ L k:=by
 obtain ⟨css,h1,h2⟩:=hown;obtain ⟨nss,h3,h4⟩:=hr;obtain ⟨hb,rfl⟩:=QeX hz2;have hby:=Nat.le_of_ble_eq_true hby
 rw[←hsr] at h1 h3
 have hlen:css.length+m≤1000000:=by rw[←h2.1,←hm];exact hb
 refine QeK hT ht hu he hz hsz i hi h1 (news:=nss) (by rw[←h4.1,hm]) h3 (fun cs hc u hu=> ?_) (by omega) ?_ fun v' ch' hv _=> ?_
 ·obtain ⟨x,hx⟩:=h4.get' hc;exact r.one hx u hu
 ·exact Nat.le_trans (Nat.mul_le_mul hlen hby) (by decide)
 ·rw[hsr] at hv
  have ho:Own r e μ v' (xs++ys) ch':=⟨_,hv,h2.append h4⟩
  obtain ⟨A',c',rfl,_,_⟩:=ho.form;exact hk A' c' ch' ho
theorem Qdh {sz:Nat}: ∀{css:List (List Value)} {i o:Nat} {cs vs:List Value},(∀c∈css,c.length=sz)→css[i]? =some cs→o+vs.length≤sz→ ∀tl,JG (css.flatten++tl) (i*sz+o) vs=(css.set i (JG cs o vs)).flatten++tl
 | [],i,o,cs,vs,_,hi,_,tl=>by simp at hi
 | c::rs,0,o,cs,vs,h,hi,hl,tl=>by
  simp only[List.getElem?_cons_zero,Option.some.injEq] at hi
  subst hi;have hc:=h c (by simp)
  simp only[List.set_cons_zero,List.flatten_cons,Nat.zero_mul,Nat.zero_add,List.append_assoc]
  rw[Vu vs o (c++(rs.flatten++tl)) (by simp;omega),Vu vs o c (by omega)]
  rw[List.take_append_of_le_length (by omega),List.drop_append_of_le_length (by omega)]
  simp
 | c::rs,i+1,o,cs,vs,h,hi,hl,tl=>by
  have hc:=h c (by simp);have hi':rs[i]? =some cs:=by simpa using hi
  have hlt:i<rs.length:=by
   rcases Nat.lt_or_ge i rs.length with h | h
   ·exact h
   ·rw[List.getElem?_eq_none h] at hi';cases hi'
  have ih:=Qdh (o:=o) (vs:=vs) (fun c hc=>h c (by simp[hc])) hi' hl tl;have hfl:rs.flatten.length=rs.length*sz:=YI fun c hc=>h c (by simp[hc]);have hb:i*sz+sz≤rs.length*sz:=by rw[←Nat.succ_mul];exact Nat.mul_le_mul_right _ hlt
  have e:(i+1)*sz+o=c.length+(i*sz+o):=by rw[hc,Nat.succ_mul];omega
  simp only[List.set_cons_succ,List.flatten_cons,List.append_assoc]
  rw[←ih,e,Vu vs _ _ (by simp only[List.length_append];omega),Vu vs (i*sz+o) _ (by simp only[List.length_append];omega)]
  rw[List.take_append,List.drop_append]
  have e1:c.length+(i*sz+o)-c.length=i*sz+o:=by omega
  have e2:c.length+(i*sz+o)+vs.length-c.length=i*sz+o+vs.length:=by omega
  rw[e1,e2,List.take_of_length_le (by omega),List.drop_of_length_le (by omega)]
  simp
theorem Own.store {e:TypeId} {A:Option Addr} {n c:Nat} {xs:List α} {ch:Seg} {a:Addr} {kx:Int} {x x':α} {vs:List Value} {o sz:Nat} {k:List Seg→Prop} (i:Nat) (hi:L[i]? =some ch) (h:Own r e μ (.slice A n c) xs ch) (hA:A=some a) (hx:Qp xs kx=some x) (hsz:r.sz=sz) (hl:Nat.ble (o+vs.length) sz=true)
  (hc: ∀y,r.rep μ x y→r.rep μ x' (JG y o vs)) (hk: ∀ch',Own r e μ (.slice A n c) (YV xs kx x') ch'→k (L.set i ch')):Ex (Vw L ((a.add (kx.toNat*sz)).add o) vs) k:=by
 obtain ⟨css,h1,h2⟩:=h;subst hsz;obtain ⟨_,_,hxn⟩:=Qm hx;obtain ⟨y,hy1,hy2⟩:=h2.get hxn;have hr:=hc y hy2;obtain ⟨cs',hcs'⟩: ∃z,JG y o vs=z:=⟨_,rfl⟩
 rw[hcs'] at hr
 have hl:=Nat.le_of_ble_eq_true hl;rcases h1.2 with ⟨_,rfl,_⟩ | ⟨g,cap,cur,hv,rfl,q1,q2,q3,q4⟩
 ·simp at hy1
 ·injection hv with hv1 hv2 hv3
  subst hA;injection hv1 with hv1
  subst hv1 hv2 hv3;have hlt:kx.toNat<css.length:=by
   rcases Nat.lt_or_ge kx.toNat css.length with h | h
   ·exact h
   ·rw[List.getElem?_eq_none h] at hy1;cases hy1
  have hcur:cur.toList=css.flatten++cur.toList.drop (css.length*r.sz):=by
   conv=>lhs;rw[←List.take_append_drop (css.length*r.sz) cur.toList,q4]
  have hfl:=YI h1.1;have hb:kx.toNat*r.sz+r.sz≤css.length*r.sz:=by rw[←Nat.succ_mul];exact Nat.mul_le_mul_right _ hlt
  have hcl:css.length*r.sz≤cur.size:=by rw[q3];exact Nat.mul_le_mul_right _ q1
  have hst:=Qdh (o:=o) (vs:=vs) h1.1 hy1 hl (cur.toList.drop (css.length*r.sz))
  rw[←hcur,hcs'] at hst
  rw[J1,J1,Nat.zero_add]
  have hsa:=Vw.at (L:=L) (g:=g) (off:=kx.toNat*r.sz+o) (l:=cur.toList) (vs:=vs) (e:=e) i (by simpa using hi) hst (by simp only[Array.length_toList];omega);refine Ex.mk _ hsa (hk _ ⟨css.set kx.toNat cs',⟨?_,.inr ⟨g,c,_,by simp,rfl,by simpa using q1,q2,?_,?_⟩⟩,h2.set kx.toNat hr⟩)
  ·intro d hd;rcases List.mem_or_eq_of_mem_set hd with hd | rfl
   ·exact h1.1 d hd
   ·exact r.len hr
  ·have: ∀d∈css.set kx.toNat cs',d.length=r.sz:=by
    intro d hd;rcases List.mem_or_eq_of_mem_set hd with hd | rfl
    ·exact h1.1 d hd
    ·exact r.len hr
   simp only[List.size_toArray,List.length_append,YI this,List.length_set,List.length_drop,Array.length_toList]
   omega
  ·have: ∀d∈css.set kx.toNat cs',d.length=r.sz:=by
    intro d hd;rcases List.mem_or_eq_of_mem_set hd with hd | rfl
    ·exact h1.1 d hd
    ·exact r.len hr
   have hle:=YI this
   simp only[List.length_set] at hle
   simp only[List.toList_toArray,List.length_set,←hle,List.take_left]
def Qa8 (xs:List α):Option (List α):=if xs.length≤1000000 then some xs else none
theorem QhC {P:Program} {f:FuncId} {e:TypeId} {sz:Nat}
  (hC: ∀{μ:Gh} {L:List Seg} {A:Option Addr} {n c:Nat} {css:List (List Value)} (_:Rd μ L A sz css) (_:css.length=n) (_: ∀cs∈css,∀u∈cs,u.oneCell'=true) (_:n≤1000000)
   {R:Value→Gh→List Seg→Prop} (_: ∀v ch,Z6 e sz v css ch→R v μ (ch::L)),Fn P f [.slice A n c] μ L R)
  (hsz:r.sz=sz) {A:Option Addr} {c n:Nat} {xs ys:List α} (hn:xs.length=n) (hr:Rds r μ L A xs) (hz:Qa8 xs=some ys) {R:Value→Gh→List Seg→Prop}
  (hR: ∀A' c' ch',Own r e μ (.slice A' ys.length c') ys ch'→R (.slice A' ys.length c') μ (ch'::L)):Fn P f [.slice A n c] μ L R:=by
 subst hsz hn;unfold Qa8 at hz
 split at hz
 case isFalse=>cases hz
 rename_i hb
 injection hz with hz
 subst hz;obtain ⟨css,h1,h2⟩:=hr
 rw[h2.1] at hb ⊢
 refine hC h1 rfl (fun cs hc u hu=> ?_) hb fun v ch hv=> ?_
 ·obtain ⟨x,hx⟩:=h2.get' hc;exact r.one hx u hu
 ·have ho:Own r e μ v xs ch:=⟨css,hv,h2⟩
  obtain ⟨A',c',rfl,_,_⟩:=ho.form;exact hR A' c' ch ho
def Vv {β:Type} (enc:β→Value) (es:Array MapEntry) (c:Nat) (m:List (Int×β)):Prop:=JZ .i64 es c (m.map fun p=>(p.1,enc p.2))
theorem Qcg {β:Type} (enc:β→Value) (n:Int): ∀(m:List (Int×β)),Wi n (m.map fun p=>(p.1,enc p.2))=(YY n m).map enc
 | []=>rfl
 | p::m=>by
  simp only[List.map_cons,Wi,YY,Qcg enc n m]
  split<;>rfl
theorem Qdu {β:Type} (enc:β→Value) (n:Int) (v:β): ∀(m:List (Int×β)),Qap n (enc v) (m.map fun p=>(p.1,enc p.2))=(Wb n v m).map fun p=>(p.1,enc p.2)
 | []=>rfl
 | p::m=>by
  simp only[List.map_cons,Qap,Wb,Qdu enc n v m]
  split<;>rfl
section
variable {β:Type} {enc:β→Value} {es:Array MapEntry} {c:Nat} {m:List (Int×β)}
theorem Vv.nil:Vv enc #[] 0 []:=JZ.nil
theorem Vv.look (h:Vv enc es c m) {g:Nat} (ho:Zn μ L g (.map es c)) {z:Value} {zb:β} (hz:z=enc zb) (n:Int) :
  ∃es c,Zn μ L g (.map es c)∧Wg .i64 es.toList∧(enc ((YY n m).getD zb),(YY n m).isSome)=(match Wu n es.toList with | some v=>(v,true) | none=>(z,false)):=by
 refine ⟨es,c,ho,h.keys,?_⟩
 rw[h.find,Qcg]
 cases YY n m<;>simp[hz]
theorem Vv.size (h:Vv enc es c m):es.size=m.length:=by rw[JZ.size h,List.length_map]
end
end
end Go.Proofs.Ytfdjjdhnfaklbaa
namespace Go.Proofs.Ytfdjjdhnfaklbaa
open Go.RowKit
set_option linter.unusedSimpArgs false
set_option linter.unusedVariables false
section
variable {P:Program} {T:TT} {fr:Fr} {μ:Gh} {L:List Seg} {t yt:TypeId} {x y:Operand} {kd kd':IntKind} {a b:Int} {k:Value→Prop}
theorem QcA (h:evV fr x=some (.int kd a)) (h2:evV fr y=some (.int kd' b)) (hw:kd.bits=64) (hg:0≤b∧b≤64) (hk:k (.int kd (kd.wrap (a*2^b.toNat)))):vcR P T (.binOp .shl t x y yt) fr μ L k :=
 Qic h h2 (Ex.mk _ (fun w=>by rw[shift_shl kd kd' a b hg.1 (by rw[hw];exact hg.2)];rfl) hk)
theorem ZM (h:evV fr x=some (.int kd a)) (h2:evV fr y=some (.int kd' b)) (hw:kd.bits=64) (hg:0≤b∧b≤64) (hk:k (.int kd (a/2^b.toNat))):vcR P T (.binOp .shr t x y yt) fr μ L k :=
 Qid h h2 (Ex.mk _ (fun w=>by rw[shift_shr kd kd' a b hg.1 (by rw[hw];exact hg.2)];rfl) hk)
end
section
variable {P:Program} {T:TT} {μ:Gh} {L:List Seg} {α:Type} {r:Rp α}
theorem Qe5 (z:Array Value) (n:Nat):madeCells z (n*z.size)=Builtin.zeroCells z n:=rfl
theorem QdO (z:Array Value) (m:Nat):(Builtin.zeroCells z m).toList=(List.replicate m z.toList).flatten:=by
 have h1:=QfJ z m;have h2: ∀(z:List Value) m,cyc z m=(List.replicate m z).flatten:=by
  intro z m
  induction m with
  | zero=>simp[cyc]
  | succ m ih=>rw[cyc,ih,List.replicate_succ,List.flatten_cons]
 rw[show Builtin.zeroCells z m=(cyc z.toList m).toArray from h1,List.toList_toArray,h2]
def VC {α:Type} (z:α) (n:Int):Option (List α):=if 0≤n∧n≤1000000 then some (List.replicate n.toNat z) else none
theorem Qt (hT:TOk P T) {t e:TypeId} {it ie:TyI} (ht:T t=some it) (hu:it.u= .slice e) (he:T e=some ie) {z:α} {zc:List Value} (hz:ie.zero.cells.toList=zc) (hs:ie.size=r.sz) (hrep:r.rep μ z zc) (hb:Nat.ble ie.bytes 100000=true)
  {kl kc:IntKind} {n:Int} {xs:List α} (hn:VC z n=some xs) {k:Value→Gh→List Seg→Prop}
  (hk: ∀(A:Option Addr) (c:Nat) (ch:Seg),Own r e μ (.slice A xs.length c) xs ch→k (.slice A xs.length c) μ (ch::L)):QW P (Instr.makeSlice t (.int kl n) (.int kc n)) μ L k:=by
 intro w hw;unfold VC at hn
 split at hn
 ·rename_i hn2
  injection hn with hn
  subst hn;obtain ⟨j,hj1,hj2,hj3,hj4⟩:=Qcn hT he;have hut:=Qgq hT ht hu (by simp);have hb:=Nat.le_of_ble_eq_true hb;have hsz:ie.zero.cells.size=ie.size:=by
   have h1:=r.len hrep
   rw[←hz] at h1
   rw[hs,←h1];simp
  have hbm:(j.bytes:Int)*n≤281474976710656:=by
   have:(j.bytes:Int)*n≤100000*1000000:=by
    rw[hj2]
    exact Int.mul_le_mul (by omega) hn2.2 hn2.1 (by omega)
   omega
  have hrun:=run_make (P:=P) w t e j ie.zero hut hj1 hj4 kl kc n n hn2.1 (Int.le_refl _) hbm (by omega);have hlen:(List.replicate n.toNat z).length=n.toNat:=List.length_replicate;refine ⟨_,_,μ,_,hrun,Gh.le.refl _,hw.alloc _,?_⟩;have hO:Own r e μ (.slice (some ⟨w.heap.size,0,none⟩) (List.replicate n.toNat z).length n.toNat) (List.replicate n.toNat z) [(w.heap.size,.cells (madeCells ie.zero.cells (n.toNat*j.size)) e)]:=by
   refine ⟨List.replicate n.toNat zc,⟨fun cs hcs=> ?_,.inr ⟨w.heap.size,n.toNat,_,?_,rfl,?_,?_,?_,?_⟩⟩,?_⟩
   ·rw[List.eq_of_mem_replicate hcs];exact r.len hrep
   ·simp
   ·simp
   ·unfold maxLen;omega
   ·rw[size_madeCells,hj3,hs]
   ·rw[hj3,←hsz,Qe5,QdO,hz,List.length_replicate]
    have hl:((List.replicate n.toNat zc).flatten).length=n.toNat*r.sz:=by
     have h1:=r.len hrep
     simp[h1]
    rw[←hl,List.take_length]
   ·refine ⟨by simp,fun i a b ha hb=> ?_⟩
    rw[List.getElem?_replicate] at ha hb
    split at ha
    ·rename_i hi
     rw[if_pos hi] at hb
     injection ha with ha;injection hb with hb
     rw[←ha,←hb];exact hrep
    ·cases ha
  have:=hk _ _ _ hO
  rw[hlen] at this
  exact this
 ·cases hn
end
def QaS {α:Type} (xs:List α) (lo hi:Int):Option (List α):=if 0≤lo∧lo≤hi∧hi≤xs.length then some ((xs.take hi.toNat).drop lo.toNat) else none
theorem VT {α:Type} {xs ys:List α} {lo hi:Int} (h:QaS xs lo hi=some ys):0≤lo∧lo≤hi∧hi≤xs.length∧ys=(xs.take hi.toNat).drop lo.toNat∧ys.length=hi.toNat-lo.toNat:=by
 unfold QaS at h
 split at h
 ·rename_i hc
  injection h with h
  refine ⟨hc.1,hc.2.1,hc.2.2,h.symm,?_⟩
  rw[←h,List.length_drop,List.length_take]
  omega
 ·cases h
section
variable {α:Type} {r:Rp α} {μ:Gh} {L:List Seg} {A:Option Addr} {xs ys:List α} {lo hi:Int}
theorem W0.pre (h:W0 r μ A xs) (hs:QaS xs 0 hi=some ys):W0 r μ A ys:=by
 obtain ⟨css,h1,h2⟩:=h;obtain ⟨_,_,_,e,_⟩:=VT hs;subst e;refine ⟨css.take hi.toNat,fun i cs hi'=> ?_,by simpa using h2.take hi.toNat⟩
 rw[List.getElem?_take] at hi'
 split at hi'
 ·exact h1 i cs hi'
 ·cases hi'
theorem Rds.pre (h:Rds r μ L A xs) (hs:QaS xs 0 hi=some ys):Rds r μ L A ys:=by
 obtain ⟨css,h1,h2⟩:=h;obtain ⟨_,_,_,e,_⟩:=VT hs;subst e;exact ⟨css.take hi.toNat,h1.take _,by simpa using h2.take hi.toNat⟩
theorem Rds.sub {A':Option Addr} {cap:Nat} (h:Rds r μ L A xs) (hc:xs.length≤cap) (hs:QaS xs lo hi=some ys) (hA:A'=(if cap=lo.toNat then A else A.map (·.add (lo.toNat*r.sz)))):Rds r μ L A' ys:=by
 obtain ⟨css,h1,h2⟩:=h;obtain ⟨k1,k2,k3,e,k4⟩:=VT hs;subst e;have h1:=h1.take hi.toNat;have h2:=h2.take hi.toNat;refine ⟨(css.take hi.toNat).drop lo.toNat,⟨fun cs hcs=>h1.1 cs (List.mem_of_mem_drop hcs),fun hne=> ?_⟩,h2.drop _⟩;have hlt:lo.toNat<(css.take hi.toNat).length:=by
  rcases Nat.lt_or_ge lo.toNat (css.take hi.toNat).length with h | h
  ·exact h
  ·exact absurd (List.drop_of_length_le h) hne
 have hl:=h2.1
 rw[List.length_take] at hl
 obtain ⟨a,ha,hcell⟩:=h1.drop hlt;refine ⟨a.add (lo.toNat*r.sz),?_,hcell⟩
 rw[hA,if_neg (by omega),ha]
 rfl
theorem W0.sub {A':Option Addr} {cap:Nat} (h:W0 r μ A xs) (hc:xs.length≤cap) (hs:QaS xs lo hi=some ys) (hA:A'=(if cap=lo.toNat then A else A.map (·.add (lo.toNat*r.sz)))):W0 r μ A' ys:=by
 obtain ⟨css,h1,h2⟩:=h;obtain ⟨k1,k2,k3,e,k4⟩:=VT hs;subst e;refine ⟨(css.take hi.toNat).drop lo.toNat,fun i cs hi'=> ?_,(h2.take hi.toNat).drop _⟩
 rw[List.getElem?_drop,List.getElem?_take] at hi'
 split at hi'
 ·rename_i hlt
  obtain ⟨g1,a,g2,g3⟩:=h1 _ cs hi';have hl:lo.toNat+i<css.length:=by
   rcases Nat.lt_or_ge (lo.toNat+i) css.length with h | h
   ·exact h
   ·rw[List.getElem?_eq_none h] at hi';cases hi'
  have hx:=h2.1;refine ⟨g1,a.add (lo.toNat*r.sz),?_,?_⟩
  ·rw[hA,if_neg (by omega),g2];rfl
  ·rw[Addr.add_add',←Nat.add_mul];exact g3
 ·cases hi'
variable {P:Program} {T:TT} {fr:Fr} {t e:TypeId} {x:Operand} {n cap:Nat} {i j:TyI} {sz:Nat} {k:Value→Prop}
theorem Qgy {hi_:Operand} {kd:IntKind} (h1:evV fr x=some (.slice A n cap)) (h2:evV fr hi_=some (.int kd hi)) (hT:T t=some i) (hu:i.u= .slice e) (he:T e=some j) (hn:xs.length=n) (hc:xs.length≤cap) (hs:QaS xs 0 hi=some ys)
  (hk:k (.slice A ys.length cap)):vcR P T (.slice t x none (some hi_) none) fr μ L k:=by
 obtain ⟨k1,k2,k3,_,k4⟩:=VT hs;refine Qhx h1 h2 hT hu he ⟨k2,by omega,?_⟩
 rw[show hi.toNat=ys.length by rw[k4];simp];exact hk
theorem QhO {c:Nat} (h:xs.length≤c∧c≤maxLen) (hs:QaS xs 0 hi=some ys):ys.length≤c∧c≤maxLen:=by
 obtain ⟨k1,k2,k3,_,k4⟩:=VT hs
 omega
end
theorem Qby {α β:Type} (f:α→β): ∀(l:List α) (j:Nat),(l.eraseIdx j).map f=(l.map f).eraseIdx j
 | [],_=>rfl
 | x::l,0=>rfl
 | x::l,j+1=>by simp[Qby f l j]
theorem JZ.erase {kd:IntKind} {es:Array MapEntry} {c:Nat} {m:List (Int×Value)} (h:JZ kd es c m) {j:Nat} (hj:j<es.size):JZ kd (es.eraseIdxIfInBounds j) c (m.eraseIdx j):=by
 have hsub:(es.eraseIdxIfInBounds j).toList=es.toList.eraseIdx j:=by
  unfold Array.eraseIdxIfInBounds
  rw[dif_pos hj]
  simp
 have hs:(es.toList.eraseIdx j).Sublist es.toList:=List.eraseIdx_sublist _ _;refine ⟨?_,?_,?_,?_⟩
 ·rw[hsub,Qby,Qby,h.ps]
 ·exact h.nd.sublist ((List.eraseIdx_sublist _ _).map _)
 ·rw[hsub];exact h.born.sublist (hs.map _)
 ·intro e he
  rw[hsub] at he
  exact h.lt e (hs.subset he)
def QeT {β:Type} (enc:β→Value) (v:Value) (so:Seg):Option (List (Int×β))→Prop
 | none=>v= .map none∧so=[]
 | some m=> ∃(g:Nat) (es:Array MapEntry) (cn:Nat),v= .map (some g)∧so=[(g,.map es cn)]∧Vv enc es cn m
theorem QeT.nil {β:Type} {enc:β→Value}:QeT enc (.map none) [] none:=⟨rfl,rfl⟩
theorem QeT.some {β:Type} {enc:β→Value} {g:Nat} {es:Array MapEntry} {cn:Nat} {m:List (Int×β)} (h:Vv enc es cn m):QeT enc (.map (some g)) [(g,.map es cn)] (some m):=⟨g,es,cn,rfl,rfl,h⟩
theorem QeT.get {β:Type} {enc:β→Value} {v:Value} {so:Seg} {o:Option (List (Int×β))} {m:List (Int×β)} (h:QeT enc v so o) (ho:o=Option.some m): ∃(g:Nat) (es:Array MapEntry) (cn:Nat),v= .map (Option.some g)∧so=[(g,.map es cn)]∧Vv enc es cn m:=by
 subst ho;exact h
end Go.Proofs.Ytfdjjdhnfaklbaa
namespace Go.Proofs.Ytfdjjdhnfaklbaa
open Go.RowKit
set_option linter.unusedSimpArgs false
set_option linter.unusedVariables false
theorem Qhz (a b:ByteArray):(a==b)=decide (a=b):=by
 rw[beq_toListBytes,Bool.eq_iff_iff,decide_eq_true_iff,beq_iff_eq]
 refine ⟨fun h=> ?_,fun h=>by rw[h]⟩
 rw[ByteArray.toList_eq,ByteArray.toList_eq] at h
 cases a;cases b
 congr 1
 exact Array.toList_inj.1 h
def VK (s:ByteArray) (n:Int):Option Int:=if 0≤n then (s[n.toNat]?).map fun b=>((b.toNat:Nat):Int) else none
section
variable {P:Program} {T:TT} {N:NN} {K:QH} {B:Nat→QH} {R:QH} {fr:Fr} {μ:Gh} {L:List Seg}
theorem Wk {b:Frame} {a:Act} {k:List Item} {cs:List Frame} {w:World} {c:Code}:step P (lone (b.atR a (.code (.scope c)::k)) cs w)= .next (lone (b.atR a (.code c:: .inScope c::k)) cs w) :=
 step_lone_go (by simp[stepG,stepG.exec,Frame.atR])
theorem QbX {b:Frame} {a:Act} {k:List Item} {cs:List Frame} {w:World} {c:Code}:step P (lone (b.atR a (.inScope c::k)) cs w)= .next (lone (b.atR a k) cs w) :=
 step_lone_go (by simp[stepG,stepG.exec,Frame.atR])
theorem WP.scope {c:Code} (h:WP P N c K B R fr μ L):WP P N (.scope c) K B R fr μ L:=fun a w ha hw=>by
 intro b k cs hro hb hr;obtain ⟨e,a₁,w₁,hq,harr⟩:=h a w ha hw b (.inScope c::k) cs hro hb hr;have h0:=fenced_calm (P:=P) (fr:=b.atR a (.code (.scope c)::k)) (w:=w) hb hr rfl;cases e with
 | normal=>exact ⟨.normal,a₁,w₁,hq,.head h0 Wk (StepsIn.trans harr (.one (fenced_calm (fr:=b.atR a₁ (.inScope c::k)) hb hr rfl) QbX))⟩
 | exit id =>
  have hx:exitTo id (.inScope c::k)=exitTo id k:=by simp[exitTo]
  exact ⟨.exit id,a₁,w₁,hq,fun k' hk=> .head h0 Wk (harr.1 k' (by rw[hx];exact hk)),
   fun hr' hk=>let ⟨k₁,h1,h2⟩:=harr.2 hr' (by rw[hx];exact hk);⟨k₁,h1,.head h0 Wk h2⟩⟩
 | ret=>exact ⟨_,a₁,w₁,hq,.of_steps (.one h0 Wk) harr⟩
 | _=>exact hq.elim
theorem WP.label {l:Nat} (h:K fr μ L):WP P N (.label l) K B R fr μ L:=fun a w ha hw=>wpIn_label ⟨fr,μ,L,ha,Gh.le.refl _,hw,h⟩
end
section
variable {P:Program} {T:TT} {fr:Fr} {μ:Gh} {L:List Seg} {k:Value→Prop} {t yt:TypeId} {x y:Operand} {i:TyI}
theorem QaZ (hT:TOk P T) {s:ByteArray} {kd:IntKind} {n b:Int} (h:evV fr x=some (.string s)) (h2:evV fr y=some (.int kd n)) (ht:T t=some i) (hu:i.u= .string) (hb:VK s n=some b) (hk:k (.int .u8 b)):vcR P T (.index t x y) fr μ L k:=by
 refine ev_of (k:=fun v=>ev fr y fun n=>Ex (Zt P (Instr.index t v n)) k) h (ev_of (k:=fun n=>Ex (Zt P (Instr.index t (.string s) n)) k) h2 ⟨_,fun w=> ?_,hk⟩);unfold VK at hb
 split at hb
 ·rename_i h0
  cases hx:s[n.toNat]? with
  | none=>rw[hx] at hb;cases hb
  | some c =>
   rw[hx] at hb
   simp only[Option.map_some,Option.some.injEq] at hb
   subst hb
   simp[Instr.index,asIntOf,QN hT ht hu (by simp),h0,hx]
 ·cases hb
theorem Qhf (hT:TOk P T) {a b:ByteArray} (h:evV fr x=some (.string a)) (h2:evV fr y=some (.string b)) (ht:T t=some i) (hu:i.u= .string) (hk:k (.bool (decide (a=b)))):vcR P T (.binOp .eql t x y yt) fr μ L k:=by
 refine ev_of (k:=fun v=>ev fr y fun u=>Jq P T .eql t v u k) h (ev_of (k:=fun u=>Jq P T .eql t (.string a) u k) h2 ⟨_,fun w=> ?_,hk⟩)
 simp[eqGuard,binOp,Op.stringOp]
 exact (beq_toListBytes a b).symm.trans (Qhz a b)
end
structure MapS (es:Array MapEntry) (c:Nat) (m:List (ByteArray×Value)):Prop where
 ps:es.toList.map (fun e=>(e.key,e.val))=m.map (fun p=>(Value.string p.1,p.2))
 nd:(m.map (·.1)).Nodup
 born:(es.toList.map (·.born)).Nodup
 lt: ∀e∈es.toList,e.born<c
def QeL (n:ByteArray):List (ByteArray×Value)→Option Value
 | []=>none
 | p::r=>if p.1=n then some p.2 else QeL n r
def Qfh (n:ByteArray) (v:Value):List (ByteArray×Value)→List (ByteArray×Value)
 | []=>[(n,v)]
 | p::r=>if p.1=n then (n,v)::r else p::Qfh n v r
theorem MapS.nil:MapS #[] 0 []:=⟨rfl,List.nodup_nil,List.nodup_nil,by simp⟩
theorem MapS.size {es:Array MapEntry} {c:Nat} {m:List (ByteArray×Value)} (h:MapS es c m):es.size=m.length:=by
 have:=congrArg List.length h.ps
 simpa using this
theorem QdG (n:ByteArray) (u:Value): ∀{m:List (ByteArray×Value)},QeL n m=none→Qfh n u m=m++[(n,u)]∧n∉m.map (·.1)
 | [],_=>⟨rfl,by simp⟩
 | p::m,h=>by
  simp only[QeL] at h
  by_cases hn:p.1=n
  ·rw[if_pos hn] at h;cases h
  ·rw[if_neg hn] at h
   obtain ⟨h1,h2⟩:=QdG n u h;refine ⟨by simp[Qfh,hn,h1],?_⟩
   simp only[List.map_cons,List.mem_cons,not_or]
   exact ⟨fun e=>hn e.symm,h2⟩
theorem MapS.push {es:Array MapEntry} {c:Nat} {m:List (ByteArray×Value)} (h:MapS es c m) {n:ByteArray} {v:Value} (hn:QeL n m=none) :
  MapS (es.push { key:= .string n,val:=v,born:=c }) (c+1) (Qfh n v m):=by
 obtain ⟨h1,h2⟩:=QdG n v hn;refine ⟨by rw[h1];simp[h.ps],by rw[h1];simp[List.nodup_append];exact ⟨h.nd,fun a b hb e=>h2 (by subst e;simp;exact ⟨b,hb⟩)⟩,?_,?_⟩
 ·simp[List.nodup_append]
  refine ⟨h.born,fun e he hb=> ?_⟩;have:=h.lt e (by simpa using he)
  omega
 ·intro e he
  simp at he
  rcases he with he | rfl
  ·have:=h.lt e (by simpa using he);omega
  ·simp
theorem MapS.put {es:Array MapEntry} {c:Nat} {m:List (ByteArray×Value)} (h:MapS es c m) {n:ByteArray} {v:Value} {j:Nat}
  (hj:(es.toList[j]?).map (·.key)=some (.string n)) (hs:Qfh n v m=m.set j (n,v)) (hjl:j<es.size) :
  MapS (es.modify j fun e=>{ e with key:= .string n,val:=v }) c (Qfh n v m):=by
 have hl:=h.size;refine ⟨?_,?_,?_,?_⟩
 ·have h1:=Vc (fun e:MapEntry=>(e.key,e.val)) (fun e=>{ e with key:= .string n,val:=v }) es.toList j (Value.string n,v) (fun x _=>rfl)
  rw[Array.toList_modify,h1,h.ps,hs,List.map_set]
 ·have hk:(m.set j (n,v)).map (·.1)=m.map (·.1):=by
   apply List.ext_getElem?;intro i
   simp only[List.getElem?_map,List.getElem?_set]
   by_cases hij:j=i
   ·subst hij;have h1:=congrArg (fun l=>l[j]?) h.ps
    simp only[List.getElem?_map] at h1
    have hjm:j<m.length:=by omega
    cases hx:es.toList[j]? with
    | none=>rw[hx] at hj;cases hj
    | some x =>
     rw[hx] at hj h1
     simp only[Option.map_some,Option.some.injEq] at hj
     rw[List.getElem?_eq_getElem hjm] at h1 ⊢
     simp only[Option.map_some,Option.some.injEq,Prod.mk.injEq,hj,Value.string.injEq,true_and] at h1
     simp[hjm,h1.1]
   ·simp[hij]
  rw[hs,hk];exact h.nd
 ·have h1:=WZ (fun e:MapEntry=>e.born) (fun e=>{ e with key:= .string n,val:=v }) es.toList j (fun x _=>rfl)
  rw[Array.toList_modify,h1];exact h.born
 ·intro e he
  rw[Array.toList_modify] at he
  obtain ⟨i,hi⟩:=List.getElem?_of_mem he
  rw[List.getElem?_modify] at hi
  cases hx:es.toList[i]? with
  | none=>rw[hx] at hi;cases hi
  | some x =>
   rw[hx] at hi
   have:=h.lt x (List.mem_of_getElem? hx)
   by_cases hji:j=i
   ·simp[hji] at hi;subst hi;exact this
   ·simp[hji] at hi;subst hi;exact this
theorem Ji.pre {P:Program} {μ:Gh} {L:List Seg} {s:Sem Unit} {R:Gh→List Seg→Prop} (h:Upd μ L fun μ' L'=>Ji P s μ' L' R):Ji P s μ L R:=fun w hw=>by
 obtain ⟨μ',L',h1,h2,h3⟩:=h w hw;obtain ⟨w',μ2,L2,k1,k2,k3,k4⟩:=h3 w h2;exact ⟨w',μ2,L2,k1,h1.trans k2,k3,k4⟩
def Qem {β:Type} (enc:β→Value) (es:Array MapEntry) (c:Nat) (m:List (ByteArray×β)):Prop:=MapS es c (m.map fun p=>(p.1,enc p.2))
section
variable {P:Program} {T:TT} {fr:Fr} {μ:Gh} {L:List Seg} {β:Type} {enc:β→Value} {es:Array MapEntry} {c:Nat} {m:List (ByteArray×β)}
theorem Qem.nil:Qem enc #[] 0 []:=MapS.nil
theorem Qem.size (h:Qem enc es c m):es.size=m.length:=by rw[MapS.size h,List.length_map]
end
def QhX {α:Type} (r:Rp α) (μ:Gh) (v:Value) (xs:List α):Prop:= ∃A cc,v= .slice A xs.length cc∧(xs.length≤cc∧cc≤maxLen)∧W0 r μ A xs
def Qcx {α:Type} (r:Rp α) (μ:Gh) (es:Array MapEntry) (c:Nat) (m:List (Int×List α)):Prop :=
 ∃mv:List (Int×Value),Vv (fun v=>v) es c mv∧YA (fun (p:Int×List α) (q:Int×Value)=>p.1=q.1∧QhX r μ q.2 p.2) m mv
section
variable {P:Program} {T:TT} {fr:Fr} {μ μ':Gh} {L:List Seg} {α:Type} {r:Rp α} {es:Array MapEntry} {c:Nat} {m:List (Int×List α)}
theorem Qcx.nil:Qcx r μ #[] 0 []:=⟨[],Vv.nil,YA.nil⟩
theorem Qcx.mono (h:Qcx r μ es c m) (hm:μ.le μ'):Qcx r μ' es c m:=by
 obtain ⟨mv,h1,h2⟩:=h;exact ⟨mv,h1,h2.mono fun p q ⟨e,A,cc,hv,hl,ha⟩=>⟨e,A,cc,hv,hl,ha.mono hm⟩⟩
theorem Qch {R:List α→Value→Prop} (n:Int): ∀{m:List (Int×List α)} {mv:List (Int×Value)},YA (fun (p:Int×List α) (q:Int×Value)=>p.1=q.1∧R p.2 q.2) m mv →
  (YY n m=none∧YY n mv=none)∨ ∃xs v,YY n m=some xs∧YY n mv=some v∧R xs v
 | [],[],_=> .inl ⟨rfl,rfl⟩
 | [],q::mv,h=>by have:=h.1;simp at this
 | p::m,[],h=>by have:=h.1;simp at this
 | p::m,q::mv,h=>by
  have h0:=h.2 0 p q rfl rfl;have ht:YA (fun (p:Int×List α) (q:Int×Value)=>p.1=q.1∧R p.2 q.2) m mv:=⟨by have:=h.1;simpa using this,fun i x y hx hy=>h.2 (i+1) x y (by simpa using hx) (by simpa using hy)⟩
  by_cases hn:p.1=n
  ·exact .inr ⟨p.2,q.2,by simp[YY,hn],by simp[YY,←h0.1,hn],h0.2⟩
  ·have hn2: ¬q.1=n:=by rw[←h0.1];exact hn
   simp only[YY,hn,hn2,if_false]
   exact Qch n ht
theorem Qcx.look (h:Qcx r μ es c m) {g:Nat} (ho:Zn μ L g (.map es c)) (n:Int) :
  ∃A cc,(∃es' c',Zn μ L g (.map es' c')∧Wg .i64 es'.toList∧((.slice A ((YY n m).getD []).length cc,(YY n m).isSome):Value×Bool)=(match Wu n es'.toList with | some v=>(v,true) | none=>(.slice none 0 0,false))) ∧
   (((YY n m).getD []).length≤cc∧cc≤maxLen)∧W0 r μ A ((YY n m).getD []):=by
 obtain ⟨mv,h1,h2⟩:=h;obtain ⟨es',c',k1,k2,k3⟩:=h1.look ho (z:= .slice none 0 0) (zb:= .slice none 0 0) rfl n;rcases Qch (R:=fun xs v=>QhX r μ v xs) n h2 with ⟨e1,e2⟩ | ⟨xs,v,e1,e2,A,cc,hv,hl,ha⟩
 ·rw[e2] at k3
  rw[e1]
  exact ⟨none,0,⟨es',c',k1,k2,k3⟩,⟨Nat.le_refl _,Nat.zero_le _⟩,W0.nil⟩
 ·rw[e2] at k3
  rw[e1]
  refine ⟨A,cc,⟨es',c',k1,k2,?_⟩,hl,ha⟩;refine Eq.trans ?_ k3
  simp[hv]
theorem Qcx.size (h:Qcx r μ es c m):es.size=m.length:=by
 obtain ⟨mv,h1,h2⟩:=h
 rw[h1.size,h2.1]
end
def QdS {α:Type} (R:Gh→Value→α→Seg→Prop) (μ:Gh) (v:Value) (o:Option α) (so:Seg):Prop:=match o with
 | none=>v= .pointer none∧so=[]
 | some x=>R μ v x so
theorem QdS.nil {α:Type} {R:Gh→Value→α→Seg→Prop} {μ:Gh}:QdS R μ (.pointer none) none []:=⟨rfl,rfl⟩
theorem QdS.get {α:Type} {R:Gh→Value→α→Seg→Prop} {μ:Gh} {v:Value} {o:Option α} {so:Seg} {x:α} (h:QdS R μ v o so) (ho:o=some x):R μ v x so:=by subst ho;exact h
theorem QdS.lift {α:Type} {R:Gh→Value→α→Seg→Prop} {μ μ':Gh} {v:Value} {o:Option α} {so:Seg} (h:QdS R μ v o so) (hR: ∀x,R μ v x so→R μ' v x so):QdS R μ' v o so:=by
 cases o with
 | none=>exact h
 | some x=>exact hR x h
theorem Qds {α:Type} {l:List α} {i:Nat} {x:α} (h:l[i]? =some x):i<l.length:=by
 rcases Nat.lt_or_ge i l.length with h1 | h1
 ·exact h1
 ·rw[List.getElem?_eq_none h1] at h;cases h
section
variable {P:Program} {T:TT} {μ:Gh} {L:List Seg} {α:Type} {r:Rp α} {e:TypeId} {A:Option Addr} {n c:Nat} {xs ys:List α} {ch:Seg} {lo hi:Int}
theorem Own.cut (h:Own r e μ (.slice A n c) xs ch) (hs:QaS xs 0 hi=some ys):Own r e μ (.slice A ys.length c) ys ch:=by
 obtain ⟨_,h2,h3,rfl,h5⟩:=VT hs;obtain ⟨css,⟨h6,h7⟩,h8⟩:=h;have hl:=h8.1;have hm:hi.toNat≤css.length:=by omega
 have hlen:((xs.take hi.toNat).drop (0:Int).toNat).length=hi.toNat:=by rw[h5];simp
 rcases h7 with ⟨hv,rfl,rfl⟩ | ⟨g,cap,cur,hv,rfl,q1,q2,q3,q4⟩
 ·injection hv with e1 e2 e3
  subst e1 e3;have:xs=[]:=List.eq_nil_of_length_eq_zero (by simpa using hl);subst this;exact ⟨[],⟨by simp,.inl ⟨by simp,rfl,rfl⟩⟩,by simpa using YA.nil⟩
 ·injection hv with e1 e2 e3
  subst e1 e3;refine ⟨css.take hi.toNat,⟨fun cs hc=>h6 cs (List.mem_of_mem_take hc),.inr ⟨g,c,cur,?_,rfl,by simp;omega,q2,q3,?_⟩⟩,by simpa using h8.take hi.toNat⟩
  ·rw[hlen];simp[hm]
  ·have:(css.take hi.toNat).flatten=css.flatten.take (hi.toNat*r.sz):=by
    have e4:css=css.take hi.toNat++css.drop hi.toNat:=(List.take_append_drop _ _).symm
    conv=>rhs;rw[e4,List.flatten_append]
    rw[List.take_left']
    rw[YI (sz:=r.sz) fun cs hc=>h6 cs (List.mem_of_mem_take hc),List.length_take,Nat.min_eq_left hm]
   rw[this,←q4,List.take_take,List.length_take,Nat.min_eq_left hm,Nat.min_eq_left (Nat.mul_le_mul_right _ hm)]
end
theorem Jw {n m:Nat} {i:Int} (h:n=m) (hi:i<(m:Nat)):i<(n:Nat):=h▸hi
def WG (k:IntKind) (x y:Int):Int:=k.wrap ((BitVec.ofInt k.bits x &&& BitVec.ofInt k.bits y).toNat)
theorem J2 {P:Program} (k:IntKind) (a b:Int):Zt P (Op.intBits .and k a b) (.int k (WG k a b)):=by
 intro w
 rfl
section
variable {P:Program} {N:NN} {K:QH} {B:Nat→QH} {R:QH} {fr:Fr} {μ:Gh} {L:List Seg}
def Qfp (N:NN) (K:QH):QH:=fun fr μ L=> ∀a w,Agr N fr a→Inv w μ L→ ∃fr' μ' L',Agr N fr' a∧μ.le μ'∧Inv w μ' L'∧K fr' μ' L'
theorem Qfp.at {F:Fr} {L2:List Seg} (hF:Qe F fr) (hL:Qc L2 L) (h:Qfp N K F μ L2):Qfp N K fr μ L:=fun a w ha hw=>h a w (ha.sub hF) (hL w μ hw)
theorem Qfp.done (h:K fr μ L):Qfp N K fr μ L:=fun _ _ ha hw=>⟨fr,μ,L,ha,Gh.le.refl _,hw,h⟩
end
end Go.Proofs.Ytfdjjdhnfaklbaa
namespace Go.Proofs.Ytfdjjdhnfaklbaa
open Go.RowKit
set_option linter.unusedSimpArgs false
set_option linter.unusedVariables false
def Qfi (s:ByteArray) (lo hi:Int):Option ByteArray:=if 0≤lo∧lo≤hi∧hi≤(s.size:Nat) then some (s.extract lo.toNat hi.toNat) else none
theorem QhR {s z:ByteArray} {lo hi:Int} (h:Qfi s lo hi=some z):0≤lo∧lo≤hi∧hi≤(s.size:Nat)∧z=s.extract lo.toNat hi.toNat:=by
 unfold Qfi at h
 split at h
 ·rename_i hc
  injection h with h
  exact ⟨hc.1,hc.2.1,hc.2.2,h.symm⟩
 ·cases h
section
variable {P:Program} {T:TT} {fr:Fr} {μ:Gh} {L:List Seg} {k:Value→Prop} {t:TypeId} {i:TyI} {x:Operand} {s z:ByteArray} {kd:IntKind} {b:Int}
theorem Qhy {hi_:Operand} (h1:evV fr x=some (.string s)) (h2:evV fr hi_=some (.int kd b)) (hT:T t=some i) (hu:i.u= .string) (hs:Qfi s 0 b=some z) (hk:k (.string z)):vcR P T (.slice t x none (some hi_) none) fr μ L k :=
 ev_of (k:=fun v=>evo fr none fun l=>evo fr (some hi_) fun h=>evo fr none fun m=>J9 T t v l h m k) h1 (ev_of (k:=fun u=>J9 T t (.string s) none (some u) none k) h2 (by
  obtain ⟨h3,h4,h5,rfl⟩:=QhR hs
  simp only[J9,hT,hu]
  exact ⟨h4,h5,hk⟩))
end
structure WT (P:Program) (kt:TypeId) {κ:Type} [DecidableEq κ] (ek:κ→Value):Prop where
 chk: ∀(b:Bool) (a:κ) (w:World),(Instr.checkKey b 10000 kt (ek a)).run P w= .ok () w
 eq: ∀(a b:κ) (w:World),(Op.equal kt (ek a) (ek b)).run P w= .ok (decide (a=b)) w
 und: ∃d,P.underlying kt=some d∧ ∀a b,Instr.sameNow d (ek a) (ek b)=none
 stay: ∀(a:κ) (w:World),(Instr.keyThatStays (ek a) (ek a)).run P w= .ok (ek a) w
 inj: ∀a b:κ,ek a=ek b→a=b
def ZJ {κ β:Type} [DecidableEq κ] (k:κ):List (κ×β)→Option β
 | []=>none
 | p::r=>if p.1=k then some p.2 else ZJ k r
def Zp {κ β:Type} [DecidableEq κ] (k:κ) (v:β):List (κ×β)→List (κ×β)
 | []=>[(k,v)]
 | p::r=>if p.1=k then (k,v)::r else p::Zp k v r
structure JV {κ:Type} (ek:κ→Value) (es:Array MapEntry) (c:Nat) (m:List (κ×Value)):Prop where
 ps:es.toList.map (fun e=>(e.key,e.val))=m.map (fun p=>(ek p.1,p.2))
 nd:(m.map (·.1)).Nodup
 born:(es.toList.map (·.born)).Nodup
 lt: ∀e∈es.toList,e.born<c
theorem JV.nil {κ:Type} {ek:κ→Value}:JV ek #[] 0 []:=⟨rfl,List.nodup_nil,List.nodup_nil,by simp⟩
theorem JV.size {κ:Type} {ek:κ→Value} {es:Array MapEntry} {c:Nat} {m:List (κ×Value)} (h:JV ek es c m):es.size=m.length:=by
 have:=congrArg List.length h.ps
 simpa using this
section
variable {κ:Type} [DecidableEq κ] {ek:κ→Value}
variable {P:Program} {kt:TypeId}
theorem Qew (hK:WT P kt ek) (n:κ) (w:World): ∀(es:List MapEntry) (i:Nat) {m:List (κ×Value)},es.map (fun e=>(e.key,e.val))=m.map (fun p=>(ek p.1,p.2)) →
  ((Instr.findAsking kt (ek n) es i).run P w= .ok none w∧ZJ n m=none) ∨
  ∃j v,(Instr.findAsking kt (ek n) es i).run P w= .ok (some (i+j,v)) w∧ZJ n m=some v∧j<es.length∧(es[j]?).map (·.key)=some (ek n)∧ ∀u,Zp n u m=m.set j (n,u)
 | [],i,[],_=> .inl ⟨by simp[Instr.findAsking],rfl⟩
 | [],i,p::m,h=>by simp at h
 | e::es,i,[],h=>by simp at h
 | e::es,i,p::m,h=>by
  simp only[List.map_cons,List.cons.injEq,Prod.mk.injEq] at h
  obtain ⟨⟨h1,h2⟩,h3⟩:=h;have he:=hK.eq n p.1 w
  by_cases hn:p.1=n
  ·refine .inr ⟨0,e.val,?_,by simp[ZJ,hn,h2],by simp,by simp[h1,hn],fun u=>by simp[Zp,hn]⟩
   rw[hn] at he
   simp[Instr.findAsking,h1,hn,he]
  ·have hne:decide (n=p.1)=false:=by simpa using fun e:n=p.1=>hn e.symm
   rw[hne] at he
   rcases Qew hK n w es (i+1) h3 with ⟨h4,h5⟩ | ⟨j,v,h4,h5,h6,h7,h8⟩
   ·exact .inl ⟨by simp[Instr.findAsking,h1,he,h4],by simp[ZJ,hn,h5]⟩
   ·refine .inr ⟨j+1,v,?_,by simp[ZJ,hn,h5],by simp;omega,by simpa using h7,fun u=>by simp[Zp,hn,h8 u]⟩
    rw[show i+(j+1)=i+1+j by omega]
    simp[Instr.findAsking,h1,he,h4]
theorem Qal (hK:WT P kt ek) (n:κ) (w:World) {es:List MapEntry} {m:List (κ×Value)} (h:es.map (fun e=>(e.key,e.val))=m.map (fun p=>(ek p.1,p.2))) :
  ((Instr.findKey kt (ek n) es).run P w= .ok none w∧ZJ n m=none) ∨
  ∃j v,(Instr.findKey kt (ek n) es).run P w= .ok (some (j,v)) w∧ZJ n m=some v∧j<es.length∧(es[j]?).map (·.key)=some (ek n)∧ ∀u,Zp n u m=m.set j (n,u):=by
 obtain ⟨d,hd,hno⟩:=hK.und;cases es with
 | nil =>
  cases m with
  | nil=>exact .inl ⟨by simp[Instr.findKey,run_underlying hd,Instr.findNow],rfl⟩
  | cons p m=>simp at h
 | cons e es =>
  cases m with
  | nil=>simp at h
  | cons p m =>
   have h1:e.key=ek p.1:=by
    simp only[List.map_cons,List.cons.injEq,Prod.mk.injEq] at h
    exact h.1.1
   have hf:(Instr.findKey kt (ek n) (e::es)).run P w=(Instr.findAsking kt (ek n) (e::es) 0).run P w:=by
    simp[Instr.findKey,run_underlying hd,Instr.findNow,h1,hno]
   rw[hf]
   have:=Qew hK n w (e::es) 0 h
   simpa using this
theorem V3 (n:κ) (u:Value): ∀{m:List (κ×Value)},ZJ n m=none→Zp n u m=m++[(n,u)]∧n∉m.map (·.1)
 | [],_=>⟨rfl,by simp⟩
 | p::m,h=>by
  simp only[ZJ] at h
  by_cases hn:p.1=n
  ·rw[if_pos hn] at h;cases h
  ·rw[if_neg hn] at h
   obtain ⟨h1,h2⟩:=V3 n u h;refine ⟨by simp[Zp,hn,h1],?_⟩
   simp only[List.map_cons,List.mem_cons,not_or]
   exact ⟨fun e=>hn e.symm,h2⟩
theorem JV.push {es:Array MapEntry} {c:Nat} {m:List (κ×Value)} (h:JV ek es c m) {n:κ} {v:Value} (hn:ZJ n m=none) :
  JV ek (es.push { key:=ek n,val:=v,born:=c }) (c+1) (Zp n v m):=by
 obtain ⟨h1,h2⟩:=V3 n v hn;refine ⟨by rw[h1];simp[h.ps],by rw[h1];simp[List.nodup_append];exact ⟨h.nd,fun a b hb e=>h2 (by subst e;simp;exact ⟨b,hb⟩)⟩,?_,?_⟩
 ·simp[List.nodup_append]
  refine ⟨h.born,fun e he hb=> ?_⟩;have:=h.lt e (by simpa using he)
  omega
 ·intro e he
  simp at he
  rcases he with he | rfl
  ·have:=h.lt e (by simpa using he);omega
  ·simp
theorem JV.put (hi: ∀a b:κ,ek a=ek b→a=b) {es:Array MapEntry} {c:Nat} {m:List (κ×Value)} (h:JV ek es c m) {n:κ} {v:Value} {j:Nat} {f:MapEntry→MapEntry} (hf: ∀x∈es.toList[j]?,(f x).key=ek n∧(f x).val=v∧(f x).born=x.born)
  (hj:(es.toList[j]?).map (·.key)=some (ek n)) (hs:Zp n v m=m.set j (n,v)) (hjl:j<es.size) :
  JV ek (es.modify j f) c (Zp n v m):=by
 have hl:=h.size;have hx: ∃x,es.toList[j]? =some x:=⟨es.toList[j]'(by simpa using hjl),by simp[hjl]⟩
 obtain ⟨x,hx⟩:=hx;obtain ⟨f1,f2,f3⟩:=hf x hx;refine ⟨?_,?_,?_,?_⟩
 ·apply List.ext_getElem?;intro i;have h0:=congrArg (fun l=>l[i]?) h.ps
  simp only[List.getElem?_map] at h0
  rw[Array.toList_modify,hs,List.getElem?_map,List.getElem?_map,List.getElem?_modify,List.getElem?_set]
  by_cases hij:j=i
  ·subst hij;have hjm:j<m.length:=by omega
   simp[hx,f1,f2,hjm]
  ·simp only[hij,if_false]
   cases hy:es.toList[i]? <;>rw[hy] at h0<;>simpa using h0
 ·have hk:(m.set j (n,v)).map (·.1)=m.map (·.1):=by
   apply List.ext_getElem?;intro i
   simp only[List.getElem?_map,List.getElem?_set]
   by_cases hij:j=i
   ·subst hij;have h1:=congrArg (fun l=>l[j]?) h.ps
    simp only[List.getElem?_map] at h1
    have hjm:j<m.length:=by omega
    rw[hx] at hj h1
    simp only[Option.map_some,Option.some.injEq] at hj
    rw[List.getElem?_eq_getElem hjm] at h1 ⊢
    simp only[Option.map_some,Option.some.injEq,Prod.mk.injEq] at h1
    have:=hi _ _ (hj.symm.trans h1.1)
    simp[hjm,this]
   ·simp[hij]
  rw[hs,hk];exact h.nd
 ·have:(es.modify j f).toList.map (·.born)=es.toList.map (·.born):=by
   apply List.ext_getElem?;intro i
   rw[Array.toList_modify,List.getElem?_map,List.getElem?_map,List.getElem?_modify]
   by_cases hij:j=i
   ·subst hij
    simp[hx,f3]
   ·simp[hij]
  rw[this];exact h.born
 ·intro e he
  rw[Array.toList_modify] at he
  obtain ⟨i,hi2⟩:=List.getElem?_of_mem he
  rw[List.getElem?_modify] at hi2
  cases hy:es.toList[i]? with
  | none=>rw[hy] at hi2;cases hi2
  | some y =>
   rw[hy] at hi2
   have:=h.lt y (List.mem_of_getElem? hy)
   by_cases hji:j=i
   ·subst hji
    rw[hx] at hy
    injection hy with hy
    subst hy
    simp at hi2
    subst hi2
    rw[f3];exact this
   ·simp[hji] at hi2;subst hi2;exact this
end
section
variable {P:Program} {T:TT} {μ:Gh} {L:List Seg} {κ:Type} [DecidableEq κ] {ek:κ→Value} {t kt et:TypeId} {it ie:TyI} {es:Array MapEntry} {c:Nat} {m:List (κ×Value)}
theorem Qco (hT:TOk P T) (hK:WT P kt ek) (ht:T t=some it) (hu:it.u= .map kt et) (he:T et=some ie) {g:Nat} (hm:JV ek es c m) (n:κ) (ok:Bool) {w:World} (hw:w.heap[g]? =some (.map es c)) :
  (Instr.lookup t (.map (some g)) (ek n) ok).run P w= .ok (okK ok ((ZJ n m).getD ie.zero) (ZJ n m).isSome) w:=by
 have hc:=hK.chk es.isEmpty n w;rcases Qal hK n w hm.ps with ⟨h1,h3⟩ | ⟨j,v,h1,h3,_⟩
 ·cases ok<;>simp[Instr.lookup,QN hT ht hu (by simp),YZ w _ _ (by simp) hw,hc,h1,J8 hT he,okK,h3]
 ·cases ok<;>simp[Instr.lookup,QN hT ht hu (by simp),YZ w _ _ (by simp) hw,hc,h1,okK,h3]
theorem Qff (hT:TOk P T) (hK:WT P kt ek) (ht:T t=some it) (hu:it.u= .map kt et) (i j:Nat) {s:Seg} {r:Nat} (hi:L[i]? =some s) (hj:s[j]? =some (r,.map es c)) (hm:JV ek es c m) {n:κ} {v:Value} {k:Gh→List Seg→Prop}
  (hk: ∀es' c',JV ek es' c' (Zp n v m)→k μ (L.set i (s.set j (r,.map es' c')))):Ji P (Instr.mapUpdate t (.map (some r)) (ek n) v) μ L k:=by
 intro w hw;have hb:w.heap[r]? =some (.map es c):=hw.own (r,_) (List.mem_flatten.2 ⟨s,List.mem_of_getElem? hi,List.mem_of_getElem? hj⟩);have hc:=hK.chk false n w;rcases Qal hK n w hm.ps with ⟨h1,h2⟩ | ⟨jj,x,h1,h2,h3,h4,h5⟩
 ·refine ⟨_,μ,_,?_,Gh.le.refl _,hw.updObj hi hj (o':= .map (es.push { key:=ek n,val:=v,born:=c }) (c+1)),hk _ _ (hm.push h2)⟩
  simp only[Instr.mapUpdate,Sem.run_bind,QN hT ht hu (by simp),Result.andThen_ok,YZ w _ _ (by simp) hb,hc,h1,Sem.run_pure,Jk w r _ _ (by simp) hb]
 ·have hjl:jj<es.size:=by simpa using h3
  refine ⟨_,μ,_,?_,Gh.le.refl _,hw.updObj hi hj (o':= .map (es.modify jj fun e=>{ e with key:=ek n,val:=v }) c),hk _ _ (hm.put hK.inj (fun x _=>⟨rfl,rfl,rfl⟩) h4 (h5 v) hjl)⟩;have hold:((es[jj]?).map (·.key)).getD (ek n)=ek n:=by
   have:(es[jj]?).map (·.key)=some (ek n):=by rw[←h4];simp
   rw[this];rfl
  simp only[Instr.mapUpdate,Sem.run_bind,QN hT ht hu (by simp),Result.andThen_ok,YZ w _ _ (by simp) hb,hc,h1,Sem.run_pure,hold,hK.stay n w,Jk w r _ _ (by simp) hb]
def QdR (ek:κ→Value) (es:Array MapEntry) (c:Nat) (st:Int) (n:κ) (m:List (κ×Value)) (z:Value):Prop:=(∃j,es.findIdx? (fun e=>(e.born:Int)==st)=some j∧ ∀v,JV ek (es.modify j fun e=>{ e with val:=v }) c (Zp n v m))∧JV ek es c (Zp n ((ZJ n m).getD z) m)
theorem Qb2 {n:κ} {x:Value}: ∀{m:List (κ×Value)},ZJ n m=some x→Zp n x m=m
 | [],h=>by cases h
 | p::m,h=>by
  unfold ZJ at h;unfold Zp
  split at h
  ·rename_i hp
   cases h
   rw[if_pos hp,←hp]
  ·rename_i hp
   rw[if_neg hp,Qb2 h]
theorem Qb1 {n:κ} {x:Value}: ∀{m:List (κ×Value)},ZJ n (Zp n x m)=some x
 | []=>by simp[Zp,ZJ]
 | p::m=>by
  unfold Zp
  split
  ·simp[ZJ]
  ·rename_i hp
   unfold ZJ
   rw[if_neg hp,Qb1]
theorem Qb8 {es:Array MapEntry} (hb:(es.toList.map (·.born)).Nodup) {j:Nat} {x:MapEntry} (hx:es.toList[j]? =some x):es.findIdx? (fun e=>(e.born:Int)==((x.born:Nat):Int))=some j:=by
 rw[Array.findIdx?_eq_some_iff_getElem]
 have hj:=Qds hx;have hj2:j<es.size:=by simpa using hj
 have hxe:es[j]=x:=by
  rw[List.getElem?_eq_getElem hj] at hx
  have h0:=Option.some.inj hx
  simpa using h0
 refine ⟨hj2,by rw[hxe];simp,fun i hi=> ?_⟩;have hi2:i<es.size:=by omega
 have hne:es[i].born≠x.born:=by
  intro h;have h1:(es.toList.map (·.born))[i]? =(es.toList.map (·.born))[j]? :=by
   simp[hi2,hj2,hxe,h]
  have:=(List.getElem?_inj (by simpa using hi2) hb).1 h1
  omega
 simp only[beq_iff_eq,Int.ofNat_inj]
 simpa using hne
theorem QcW (hT:TOk P T) (hK:WT P kt ek) (ht:T t=some it) (hu:it.u= .map kt et) (he:T et=some ie) (i:Nat) {r:Nat} (hi:L[i]? =some [(r,.map es c)]) (hm:JV ek es c m) (n:κ) {k:Value→Gh→List Seg→Prop}
  (hk: ∀u es' c' st,QdR ek es' c' st n m ie.zero→k (.tuple #[u,.int .i64 st]) μ (L.set i [(r,.map es' c')])):QW P (Instr.mapEntry t (.map (some r)) (ek n)) μ L k:=by
 intro w hw;have hb:w.heap[r]? =some (.map es c):=hw.own (r,_) (List.mem_flatten.2 ⟨_,List.mem_of_getElem? hi,by simp⟩);have hc:=hK.chk false n w;rcases Qal hK n w hm.ps with ⟨h1,h2⟩ | ⟨jj,x,h1,h2,h3,h4,h5⟩
 ·refine ⟨
      .tuple #[ie.zero,.int .i64 c],_,μ,_,?_,Gh.le.refl _,hw.updObj hi (show [(r,Obj.map es c)][0]? =some _ from rfl) (o':= .map (es.push { key:=ek n,val:=ie.zero,born:=c }) (c+1)),hk _ _ _ _ ?_⟩
  ·simp only[Instr.mapEntry,Sem.run_bind,QN hT ht hu (by simp),Result.andThen_ok,YZ w _ _ (by simp) hb,hc,h1,J8 hT he,Sem.run_pure,Jk w r _ _ (by simp) hb,goInt]
  ·have hp:=hm.push (v:=ie.zero) h2;have hx:(es.push { key:=ek n,val:=ie.zero,born:=c }).toList[es.size]? =some { key:=ek n,val:=ie.zero,born:=c }:=by simp
   refine ⟨⟨es.size,Qb8 hp.born hx,fun v=> ?_⟩,by rw[h2];exact hp⟩;obtain ⟨e1,e2⟩:=V3 n ie.zero h2;obtain ⟨e3,_⟩:=V3 n v h2;have hs:=hm.size;have:=(hp.put hK.inj (n:=n) (v:=v) (j:=es.size) (f:=fun e=>{ e with val:=v }) (fun y hy=>by
    rw[hx] at hy
    simp at hy
    subst hy;exact ⟨rfl,rfl,rfl⟩) (by rw[hx];rfl) (by
    rw[e1]
    have key: ∀(m:List (κ×Value)),n∉m.map (·.1)→Zp n v (m++[(n,ie.zero)])=(m++[(n,ie.zero)]).set m.length (n,v):=by
     intro m
     induction m with
     | nil=>intro _;simp[Zp]
     | cons p m ih =>
      intro hn
      simp only[List.map_cons,List.mem_cons,not_or] at hn
      simp[Zp,Ne.symm hn.1,ih hn.2]
    rw[hs];exact key m e2) (by simp))
   have e4:Zp n v (Zp n ie.zero m)=Zp n v m:=by
    rw[e1,e3]
    have key: ∀(m:List (κ×Value)),n∉m.map (·.1)→Zp n v (m++[(n,ie.zero)])=m++[(n,v)]:=by
     intro m
     induction m with
     | nil=>intro _;simp[Zp]
     | cons p m ih =>
      intro hn
      simp only[List.map_cons,List.mem_cons,not_or] at hn
      simp[Zp,Ne.symm hn.1,ih hn.2]
    exact key m e2
   rw[e4] at this
   exact this
 ·have hjl:jj<es.size:=by simpa using h3
  obtain ⟨y,hy⟩: ∃y,es.toList[jj]? =some y:=⟨es.toList[jj]'h3,by simp⟩
  have hyk:y.key=ek n:=by rw[hy] at h4;simpa using h4
  have hsame:es.modify jj (fun e=>{ e with key:=ek n })=es:=by
   apply Array.ext';apply List.ext_getElem?;intro q
   rw[Array.toList_modify,List.getElem?_modify]
   by_cases hq:jj=q
   ·subst hq
    rw[hy]
    simp[←hyk]
   ·simp[hq]
  refine ⟨.tuple #[x,.int .i64 y.born],_,μ,_,?_,Gh.le.refl _,hw.updObj hi (show [(r,Obj.map es c)][0]? =some _ from rfl) (o':= .map es c),hk _ _ _ _ ?_⟩
  ·have hold:((es[jj]?).map (·.key)).getD (ek n)=ek n:=by
    have:(es[jj]?).map (·.key)=some (ek n):=by rw[←h4];simp
    rw[this];rfl
   have hbn:es[jj]? =some y:=by rw[←hy];simp
   simp only[Instr.mapEntry,Sem.run_bind,QN hT ht hu (by simp),Result.andThen_ok,YZ w _ _ (by simp) hb,hc,h1,hold,hK.stay n w,hsame,Jk w r _ _ (by simp) hb,Sem.run_pure,goInt]
   simp[hbn]
  ·exact ⟨⟨jj,Qb8 hm.born hy,fun v=>hm.put hK.inj (fun z hz=>by
    rw[hy] at hz
    simp at hz
    subst hz;exact ⟨hyk,rfl,rfl⟩) h4 (h5 v) hjl⟩,by rw[h2];show JV ek es c (Zp n x m);rw[Qb2 h2];exact hm⟩
theorem QaR (i:Nat) {r:Nat} {st:Int} {n:κ} {v:Value} (hi:L[i]? =some [(r,.map es c)]) {z:Value} (hm:QdR ek es c st n m z) {k:Gh→List Seg→Prop}
  (hk: ∀es' c',JV ek es' c' (Zp n v m)→k μ (L.set i [(r,.map es' c')])):Ji P (Instr.entryStore t (.map (some r)) (.int .i64 st) v) μ L k:=by
 intro w hw;have hb:w.heap[r]? =some (.map es c):=hw.own (r,_) (List.mem_flatten.2 ⟨_,List.mem_of_getElem? hi,by simp⟩);obtain ⟨⟨j,h1,h2⟩,_⟩:=hm;refine ⟨_,μ,_,?_,Gh.le.refl _,hw.updObj hi (show [(r,Obj.map es c)][0]? =some _ from rfl) (o':= .map (es.modify j fun e=>{ e with val:=v }) c),hk _ _ (h2 v)⟩
 simp only[Instr.entryStore,Sem.run_bind,Sem.run_pure,Result.andThen_ok,YZ w _ _ (by simp) hb,asInt,asIntOf,h1,Jk w r _ _ (by simp) hb]
end
def Y2 {κ β:Type} (ek:κ→Value) (enc:β→Value) (es:Array MapEntry) (c:Nat) (m:List (κ×β)):Prop:=JV ek es c (m.map fun p=>(p.1,enc p.2))
def Qcw {κ β:Type} [DecidableEq κ] (ek:κ→Value) (enc:β→Value) (es:Array MapEntry) (c:Nat) (st:Int) (n:κ) (m:List (κ×β)) (z:Value):Prop:=QdR ek es c st n (m.map fun p=>(p.1,enc p.2)) z
section
variable {κ β:Type} [DecidableEq κ] {ek:κ→Value} {enc:β→Value}
theorem Qa0 (n:κ): ∀(m:List (κ×β)),ZJ n (m.map fun p=>(p.1,enc p.2))=(ZJ n m).map enc
 | []=>rfl
 | p::m=>by simp only[List.map_cons,ZJ];split<;>simp[Qa0 n m]
theorem Qa1 (n:κ) (b:β): ∀(m:List (κ×β)),Zp n (enc b) (m.map fun p=>(p.1,enc p.2))=(Zp n b m).map fun p=>(p.1,enc p.2)
 | []=>rfl
 | p::m=>by simp only[List.map_cons,Zp];split<;>simp[Qa1 n b m]
variable {P:Program} {T:TT} {fr:Fr} {μ:Gh} {L:List Seg} {t kt et:TypeId} {it ie:TyI} {es:Array MapEntry} {c:Nat} {m:List (κ×β)}
theorem Qeo {mo x:Operand} {ok:Bool} {g:Nat} {k:Value→Prop} (n:κ) {cs:Array Value} (hn:ek n= .agg cs) {zb:β} (hT:TOk P T) (hK:WT P kt ek) (h:evV fr mo=some (.map (some g))) (h2:evV fr x=some (.agg cs)) (ht:T t=some it) (hu:it.u= .map kt et) (he:T et=some ie) (hz:ie.zero=enc zb)
  (ho:Zn μ L g (.map es c)) (hm:Y2 ek enc es c m) (hk:k (okK ok (enc ((ZJ n m).getD zb)) (ZJ n m).isSome)):vcR P T (.lookup t mo x ok) fr μ L k:=by
 refine ev_of (k:=fun v=>ev fr x fun n=>Vb P T t v n ok μ L k) h (ev_of (k:=fun n=>Vb P T t (.map (some g)) n ok μ L k) h2 ⟨_,fun w hw=> ?_,hk⟩)
 rw[←hn,Qco hT hK ht hu he hm n ok (hw.obj ho),Qa0,hz]
 cases ZJ n m<;>rfl
theorem Qgx {mo x:Operand} {g:Nat} {st:Int} {k:Value→Prop} (n:κ) {cs:Array Value} (hn:ek n= .agg cs) {zb:β} (hT:TOk P T) (hK:WT P kt ek) (h:evV fr mo=some (.map (some g))) (h2:evV fr x=some (.agg cs)) (ht:T t=some it) (hu:it.u= .map kt et) (he:T et=some ie) (hz:ie.zero=enc zb)
  (ho:Zn μ L g (.map es c)) (hm:Qcw ek enc es c st n m ie.zero) (hk:k (enc ((ZJ n m).getD zb))):vcR P T (.lookup t mo x false) fr μ L k:=by
 refine ev_of (k:=fun v=>ev fr x fun n=>Vb P T t v n false μ L k) h (ev_of (k:=fun n=>Vb P T t (.map (some g)) n false μ L k) h2 ⟨_,fun w hw=> ?_,hk⟩)
 rw[←hn,Qco hT hK ht hu he hm.2 n false (hw.obj ho),Qb1,Qa0,hz]
 cases ZJ n m<;>rfl
theorem Qef (n:κ) {cs:Array Value} (hn:ek n= .agg cs) (hT:TOk P T) (hK:WT P kt ek) (ht:T t=some it) (hu:it.u= .map kt et) (i:Nat) {r:Nat} (hi:L[i]? =some [(r,.map es c)]) (hm:Y2 ek enc es c m) {b:β} {v:Value} (hv:v=enc b) {k:Gh→List Seg→Prop}
  (hk: ∀es' c',Y2 ek enc es' c' (Zp n b m)→k μ (L.set i [(r,.map es' c')])):Ji P (Instr.mapUpdate t (.map (some r)) (.agg cs) v) μ L k:=by
 subst hv
 rw[←hn]
 refine Qff hT hK ht hu i 0 hi rfl hm fun es' c' h=>hk es' c' ?_;unfold Y2
 rw[←Qa1]
 exact h
theorem QdC (n:κ) {cs:Array Value} (hn:ek n= .agg cs) (hT:TOk P T) (hK:WT P kt ek) (ht:T t=some it) (hu:it.u= .map kt et) (he:T et=some ie) (i:Nat) {r:Nat} (hi:L[i]? =some [(r,.map es c)]) (hm:Y2 ek enc es c m) {k:Value→Gh→List Seg→Prop}
  (hk: ∀u es' c' st,Qcw ek enc es' c' st n m ie.zero→k (.tuple #[u,.int .i64 st]) μ (L.set i [(r,.map es' c')])):QW P (Instr.mapEntry t (.map (some r)) (.agg cs)) μ L k:=by
 rw[←hn]
 exact QcW hT hK ht hu he i hi hm n hk
theorem Qcr (i:Nat) {r:Nat} {st:Int} {n:κ} {b:β} {v:Value} (hi:L[i]? =some [(r,.map es c)]) {z:Value} (hm:Qcw ek enc es c st n m z) (hv:v=enc b) {k:Gh→List Seg→Prop}
  (hk: ∀es' c',Y2 ek enc es' c' (Zp n b m)→k μ (L.set i [(r,.map es' c')])):Ji P (Instr.entryStore t (.map (some r)) (.int .i64 st) v) μ L k:=by
 subst hv;refine QaR i hi hm fun es' c' h=>hk es' c' ?_;unfold Y2
 rw[←Qa1]
 exact h
end
theorem Y2.nil {κ β:Type} {ek:κ→Value} {enc:β→Value}:Y2 ek enc #[] 0 ([]:List (κ×β)):=JV.nil
theorem Y2.size {κ β:Type} {ek:κ→Value} {enc:β→Value} {es:Array MapEntry} {c:Nat} {m:List (κ×β)} (h:Y2 ek enc es c m):es.size=m.length:=by rw[JV.size h,List.length_map]
def Qga:TypeDesc→Bool | .interface _ | .array _ _ | .struct _=>false | _=>true
theorem Qer (P:Program) (b:Bool) (n:Nat) {t:TypeId} {d:TypeDesc} (h:P.underlying t=some d) (k:IntKind) (x:Int) (w:World) (hd:Qga d=true):(Instr.checkKey b (n+1) t (.int k x)).run P w= .ok () w:=by
 rw[Instr.checkKey]
 cases d<;>first | cases hd;done | simp[run_underlying h]
theorem Qdz (P:Program) (cs:Array Value) (i:Nat) {t:TypeId} {d:TypeDesc} (h:P.underlying t=some d) {v:Value} (w:World) (hd:Qga d=true) (hv:cs[i]? =some v):(part t cs i).run P w= .ok v w:=by
 unfold part isAgg;cases d<;>first | cases hd;done | simp[run_underlying h,hv]
theorem Qes (P:Program) (b:Bool) (n:Nat) {t:TypeId} {f g:Field} (hf:f.name≠ "_") (hg:g.name≠ "_") (hfo:f.offset=0) (hgo:g.offset=1) (hft:P.underlying f.type=some (.int .i64)) (hgt:P.underlying g.type=some (.int .i64)) (h:P.underlying t=some (.struct #[f,g])) (x y:Int) (w:World):(Instr.checkKey b (n+2) t (.agg #[.int .i64 x,.int .i64 y])).run P w= .ok () w:=by
 have e1:=Qdz P #[.int .i64 x,.int .i64 y] 0 (v:= .int .i64 x) hft;have e2:=Qdz P #[.int .i64 x,.int .i64 y] 1 (v:= .int .i64 y) hgt
 rw[Instr.checkKey]
 have c1:=fun w=>Qer P b n hft .i64 x w rfl;have c2:=fun w=>Qer P b n hgt .i64 y w rfl
 simp[run_underlying h,hf,hg,hfo,hgo,e1 _ rfl rfl,e2 _ rfl rfl,c1,c2]
section
variable {P:Program} {T:TT} {N:NN} {fr:Fr} {μ μ0:Gh} {L keep:List Seg} {ops:List Oper} {K:QH} {fuel:Nat} {listed:List Bool}
theorem Qiu (hT:TOk P T) {a b c d:Nat} (hr:Region.ready .any ops.toArray listed.toArray=[a,b,c,d]) (h1:ZY P T N ops μ0 keep fuel listed K fr μ L a) (h2:ZY P T N ops μ0 keep fuel listed K fr μ L b) (h3:ZY P T N ops μ0 keep fuel listed K fr μ L c) (h4:ZY P T N ops μ0 keep fuel listed K fr μ L d) :
  AN P N ops μ0 keep (fuel+1) listed K fr μ L:=by
 refine AN.fork hT hr rfl fun i hi=> ?_
 simp only[List.mem_cons,List.not_mem_nil,or_false] at hi
 rcases hi with rfl | rfl | rfl | rfl
 ·exact h1
 ·exact h2
 ·exact h3
 ·exact h4
end
end Go.Proofs.Ytfdjjdhnfaklbaa
namespace Go.Proofs.Ytfdjjdhnfaklbaa
open Go.RowKit
open Classical in
noncomputable def QeW {α β:Type} (m:List α) (f:List α→Option β):Option β :=
 if h: ∃r,∀p:List α,p.Perm m→f p=some r then some h.choose else none
theorem QfE {α β:Type} {m:List α} {f:List α→Option β} {r:β} (h:QeW m f=some r) {p:List α} (hp:p.Perm m):f p=some r:=by
 unfold QeW at h
 split at h
 ·rename_i hx
  cases h;exact hx.choose_spec p hp
 ·cases h
theorem Qgz {α β:Type} {m:List α} {f:List α→Option β} {r:β} (h: ∀p:List α,p.Perm m→f p=some r):QeW m f=some r:=by
 have hx: ∃r,∀p:List α,p.Perm m→f p=some r:=⟨r,h⟩
 unfold QeW
 rw[dif_pos hx]
 have h1:=hx.choose_spec m (List.Perm.refl m)
 rw[h m (List.Perm.refl m)] at h1
 exact h1.symm
theorem QgA {α:Type} {xs ys:List α} (h:xs.length+ys.length≤1000000):QbQ xs ys=some (xs++ys):=if_pos h
theorem Qf2 {α β:Type} (f:α→β) (p:List α) (q:α):List.map f p++[f q]=List.map f (p++[q]):=by simp
end Go.Proofs.Ytfdjjdhnfaklbaa
namespace Go.Proofs.Ytfdjjdhnfaklbaa
open Go.RowKit
def Z0 {α:Type} (k:Int) (m:List (Int×Option (List α))):Option (List α):=match YY k m with
 | none=>some []
 | some x=>x
def W4 {α:Type} (k:Int):List (Int×Option (List α))→List (Int×Option (List α))
 | []=>[]
 | p::m=>if p.1=k then (k,none)::m else p::W4 k m
theorem Qci {α:Type} (k:Int): ∀(m:List (Int×Option (List α))) (xs:List α),YY k (W4 k m)≠some (some xs)
 | [],xs=>by simp[W4,YY]
 | p::m,xs=>by
  unfold W4
  split
  ·simp[YY]
  ·rename_i hp
   simp only[YY,hp,if_false]
   exact Qci k m xs
end Go.Proofs.Ytfdjjdhnfaklbaa
