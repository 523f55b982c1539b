/- LedgerCopies: for every input the given law returns true, and its arguments read as before. No condition. -/
import Derived.Test.Ytpghcnpheabbgaac8x1
import Derived.Sort.OwnSortedInts
import Derived.Test.Ytpghcnpheabbgaac8x0
namespace Go.Proofs.Ytpghcnpheabbgaa
open Go.RowKit
set_option linter.unusedSimpArgs false
set_option linter.unusedVariables false
def QaG {α:Type} (l:List α):Option α:=match l with | [x]=>some x | _=>none
theorem QaH {α:Type} {l:List α} {x:α} (h:QaG l=some x):l=[x]:=by
 unfold QaG at h
 split at h
 ·injection h with h;rw[h]
 ·cases h
structure Qdk (P:Program) (kt:TypeId) {κ:Type} [DecidableEq κ] (ek:κ→Value):Prop where
 chk: ∀(b:Bool) (a:κ) (w:World),(Instr.checkKey b 10000 kt (ek a)).run P w= .ok () w
 eq: ∀(a b:κ) (w:World),(Op.equal kt (ek a) (ek b)).run P w= .ok (decide (a=b)) w
 und: ∃d,P.underlying kt=some d∧ ∀a b,Instr.sameNow d (ek a) (ek b)=none
 stay: ∀(a:κ) (w:World),(Instr.keyThatStays (ek a) (ek a)).run P w= .ok (ek a) w
 inj: ∀a b:κ,ek a=ek b→a=b
def QbG {κ β:Type} [DecidableEq κ] (k:κ):List (κ×β)→Option β
 | []=>none
 | p::r=>if p.1=k then some p.2 else QbG k r
def Qaz {κ β:Type} [DecidableEq κ] (k:κ) (v:β):List (κ×β)→List (κ×β)
 | []=>[(k,v)]
 | p::r=>if p.1=k then (k,v)::r else p::Qaz k v r
structure Wk {κ:Type} (ek:κ→Value) (es:Array MapEntry) (c:Nat) (m:List (κ×Value)):Prop where
 ps:es.toList.map (fun e=>(e.key,e.val))=m.map (fun p=>(ek p.1,p.2))
 nd:(m.map (·.1)).Nodup
 born:(es.toList.map (·.born)).Nodup
 lt: ∀e∈es.toList,e.born<c
theorem Wk.nil {κ:Type} {ek:κ→Value}:Wk ek #[] 0 []:=⟨rfl,List.nodup_nil,List.nodup_nil,by simp⟩
theorem Wk.size {κ:Type} {ek:κ→Value} {es:Array MapEntry} {c:Nat} {m:List (κ×Value)} (h:Wk ek es c m):es.size=m.length:=by
 have:=congrArg List.length h.ps
 simpa using this
section
variable {κ:Type} [DecidableEq κ] {ek:κ→Value}
variable {P:Program} {kt:TypeId}
theorem Vd (n:κ) (u:Value): ∀{m:List (κ×Value)},QbG n m=none→Qaz n u m=m++[(n,u)]∧n∉m.map (·.1)
 | [],_=>⟨rfl,by simp⟩
 | p::m,h=>by
  simp only[QbG] at h
  by_cases hn:p.1=n
  ·rw[if_pos hn] at h;cases h
  ·rw[if_neg hn] at h
   obtain ⟨h1,h2⟩:=Vd n u h;refine ⟨by simp[Qaz,hn,h1],?_⟩
   simp only[List.map_cons,List.mem_cons,not_or]
   exact ⟨fun e=>hn e.symm,h2⟩
theorem Wk.push {es:Array MapEntry} {c:Nat} {m:List (κ×Value)} (h:Wk ek es c m) {n:κ} {v:Value} (hn:QbG n m=none) :
  Wk ek (es.push { key:=ek n,val:=v,born:=c }) (c+1) (Qaz n v m):=by
 obtain ⟨h1,h2⟩:=Vd n v hn;refine ⟨by rw[h1];simp[h.ps],by rw[h1];simp[List.nodup_append];exact ⟨h.nd,fun a b hb e=>h2 (by subst e;simp;exact ⟨b,hb⟩)⟩,?_,?_⟩
 ·simp[List.nodup_append]
  refine ⟨h.born,fun e he hb=> ?_⟩;have:=h.lt e (by simpa using he)
  omega
 ·intro e he
  simp at he
  rcases he with he | rfl
  ·have:=h.lt e (by simpa using he);omega
  ·simp
theorem Wk.put (hi: ∀a b:κ,ek a=ek b→a=b) {es:Array MapEntry} {c:Nat} {m:List (κ×Value)} (h:Wk ek es c m) {n:κ} {v:Value} {j:Nat} {f:MapEntry→MapEntry} (hf: ∀x∈es.toList[j]?,(f x).key=ek n∧(f x).val=v∧(f x).born=x.born)
  (hj:(es.toList[j]?).map (·.key)=some (ek n)) (hs:Qaz n v m=m.set j (n,v)) (hjl:j<es.size) :
  Wk ek (es.modify j f) c (Qaz n v m):=by
 have hl:=h.size;have hx: ∃x,es.toList[j]? =some x:=⟨es.toList[j]'(by simpa using hjl),by simp[hjl]⟩
 obtain ⟨x,hx⟩:=hx;obtain ⟨f1,f2,f3⟩:=hf x hx;refine ⟨?_,?_,?_,?_⟩
 ·apply List.ext_getElem?;intro i;have h0:=congrArg (fun l=>l[i]?) h.ps
  simp only[List.getElem?_map] at h0
  rw[Array.toList_modify,hs,List.getElem?_map,List.getElem?_map,List.getElem?_modify,List.getElem?_set]
  by_cases hij:j=i
  ·subst hij;have hjm:j<m.length:=by omega
   simp[hx,f1,f2,hjm]
  ·simp only[hij,if_false]
   cases hy:es.toList[i]? <;>rw[hy] at h0<;>simpa using h0
 ·have hk:(m.set j (n,v)).map (·.1)=m.map (·.1):=by
   apply List.ext_getElem?;intro i
   simp only[List.getElem?_map,List.getElem?_set]
   by_cases hij:j=i
   ·subst hij;have h1:=congrArg (fun l=>l[j]?) h.ps
    simp only[List.getElem?_map] at h1
    have hjm:j<m.length:=by omega
    rw[hx] at hj h1
    simp only[Option.map_some,Option.some.injEq] at hj
    rw[List.getElem?_eq_getElem hjm] at h1 ⊢
    simp only[Option.map_some,Option.some.injEq,Prod.mk.injEq] at h1
    have:=hi _ _ (hj.symm.trans h1.1)
    simp[hjm,this]
   ·simp[hij]
  rw[hs,hk];exact h.nd
 ·have:(es.modify j f).toList.map (·.born)=es.toList.map (·.born):=by
   apply List.ext_getElem?;intro i
   rw[Array.toList_modify,List.getElem?_map,List.getElem?_map,List.getElem?_modify]
   by_cases hij:j=i
   ·subst hij
    simp[hx,f3]
   ·simp[hij]
  rw[this];exact h.born
 ·intro e he
  rw[Array.toList_modify] at he
  obtain ⟨i,hi2⟩:=List.getElem?_of_mem he
  rw[List.getElem?_modify] at hi2
  cases hy:es.toList[i]? with
  | none=>rw[hy] at hi2;cases hi2
  | some y =>
   rw[hy] at hi2
   have:=h.lt y (List.mem_of_getElem? hy)
   by_cases hji:j=i
   ·subst hji
    rw[hx] at hy
    injection hy with hy
    subst hy
    simp at hi2
    subst hi2
    rw[f3];exact this
   ·simp[hji] at hi2;subst hi2;exact this
end
end Go.Proofs.Ytpghcnpheabbgaa
namespace Go.Proofs.Ytpghcnpheabbgaa
open Go.RowKit
set_option linter.unusedSimpArgs false
set_option linter.unusedVariables false
def VX (x:Int):List Int→List Int
 | []=>[x]
 | y::r=>if x≤y then x::y::r else y::VX x r
def J8:List Int→List Int
 | []=>[]
 | x::r=>VX x (J8 r)
theorem JB (x:Int): ∀l,(VX x l).Perm (x::l)
 | []=>List.Perm.refl _
 | y::r=>by
  simp only[VX]
  split
  ·exact List.Perm.refl _
  ·exact ((JB x r).cons y).trans (List.Perm.swap x y r)
theorem Zw: ∀l,(J8 l).Perm l
 | []=>List.Perm.refl _
 | x::r=>(JB x _).trans ((Zw r).cons x)
theorem JL (x:Int): ∀l,l.Pairwise (· ≤ ·)→(VX x l).Pairwise (· ≤ ·)
 | [],_=>by simp[VX]
 | y::r,h=>by
  simp only[VX]
  rw[List.pairwise_cons] at h
  split
  ·rename_i hxy
   rw[List.pairwise_cons,List.pairwise_cons]
   exact ⟨fun z hz=>by
    rcases List.mem_cons.1 hz with rfl | hz
    ·exact hxy
    ·exact Int.le_trans hxy (h.1 z hz),h⟩
  ·rw[List.pairwise_cons]
   refine ⟨fun z hz=> ?_,JL x r h.2⟩;rcases List.mem_cons.1 ((JB x r).mem_iff.1 hz) with rfl | hz
   ·omega
   ·exact h.1 z hz
theorem YS: ∀l,(J8 l).Pairwise (· ≤ ·)
 | []=>List.Pairwise.nil
 | x::r=>JL x _ (YS r)
theorem sorted_unique: ∀{a b:List Int},a.Perm b→a.Pairwise (· ≤ ·)→b.Pairwise (· ≤ ·)→a=b
 | [],b,hp,_,_=>by have:=hp.length_eq;cases b with
  | nil=>rfl
  | cons y r=>simp at this
 | x::a,[],hp,_,_=>by have:=hp.length_eq;simp at this
 | x::a,y::b,hp,ha,hb=>by
  rw[List.pairwise_cons] at ha hb
  have hxy:x=y:=by
   have h1:x∈y::b:=hp.mem_iff.1 (by simp);have h2:y∈x::a:=hp.mem_iff.2 (by simp);have h3:y≤x:=by
    rcases List.mem_cons.1 h1 with rfl | h
    ·exact Int.le_refl _
    ·exact hb.1 x h
   have h4:x≤y:=by
    rcases List.mem_cons.1 h2 with rfl | h
    ·exact Int.le_refl _
    ·exact ha.1 y h
   omega
  subst hxy
  rw[sorted_unique (List.Perm.cons_inv hp) ha.2 hb.2]
theorem Qbd (l:List Int):l.mergeSort (fun x y=>decide (x≤y))=J8 l:=by
 refine sorted_unique ((List.mergeSort_perm l _).trans (Zw l).symm) ?_ (YS l);have:=List.pairwise_mergeSort (le:=fun x y:Int=>decide (x≤y)) (fun a b c h1 h2=>by simp at *;omega) (fun a b=>by simp;omega) l;exact this.imp fun h=>by simpa using h
section
variable {P:Program} {μ:Gh} {L:List Seg} {R:Value→Gh→List Seg→Prop}
theorem WY (xs:List Int):(xs.map fun x=>[Value.int .i64 x]).flatten=xs.map (Value.int .i64):=by
 induction xs with
 | nil=>rfl
 | cons x xs ih=>simp[ih]
end
end Go.Proofs.Ytpghcnpheabbgaa
namespace Go.Proofs.Ytpghcnpheabbgaa
open Go.RowKit
set_option linter.unusedSimpArgs false
set_option linter.unusedVariables false
instance (k:IntKind) (n:Int):Decidable (wfI k n):=by unfold wfI;infer_instance
def wfM (m:List (Int×Int)):Prop:=m.length≤1000000∧ ∀p∈m,wfI .i64 p.1∧wfI .i64 p.2
instance (m:List (Int×Int)):Decidable (wfM m):=by unfold wfM;infer_instance
def Qbf (m:List (Int×Int)):Option (List Int):=if wfM m then some (J8 (m.map Prod.fst)) else none
end Go.Proofs.Ytpghcnpheabbgaa
namespace Go.Proofs.Ytpghcnpheabbgaa
open Go.RowKit
set_option linter.unusedSimpArgs false
set_option linter.unusedVariables false
structure Qb where
 Account:Int
 Amount:Int
deriving DecidableEq
def Jo (x:Qb):List Value:=[.int .i64 x.Account,.int .i64 x.Amount]
def Qh:Rp Qb:=Qb3 2 Jo (fun _=>rfl) (by intro x u hu;simp only[Jo,List.mem_cons,List.not_mem_nil,or_false] at hu;rcases hu with rfl | rfl<;>rfl)
structure Qa where
 ID:Int
 At:Int
 Lines:(List Qb)
deriving DecidableEq
def QF:Rp Qa where
 sz:=3
 rep μ x cs:= ∃(A2:Option Addr) (c2:Nat),cs=[.int .i64 x.ID,.int .i64 x.At,.slice A2 x.Lines.length c2]∧(x.Lines.length≤c2∧c2≤maxLen)∧Yt Qh μ A2 x.Lines
 len:=by rintro μ x cs ⟨A2,c2,rfl,_⟩;rfl
 mono:=by rintro μ μ' x cs hm ⟨A2,c2,h,hl2,ha2⟩;exact ⟨A2,c2,h,hl2,ha2.mono hm⟩
 one:=by rintro μ x cs ⟨A2,c2,rfl,_⟩ u hu;simp only[List.mem_cons,List.not_mem_nil,or_false] at hu;rcases hu with rfl | rfl | rfl<;>rfl
structure Qc where
 postings:(List Qa)
 balances:(List (Int×Int))
deriving DecidableEq
def Qd (μ:Gh) (v:Value) (x:Qc) (so:Seg):Prop:= ∃(g:Nat) (A0:Option Addr) (c0:Nat) (ch0:Seg) (m1:Nat) (es1:Array MapEntry) (cn1:Nat),v= .pointer (some ⟨g,0,none⟩)∧so=((g,Obj.cells #[.slice A0 x.postings.length c0,.map (some m1)] 60 (0,0))::(ch0++((m1,Obj.map es1 cn1)::[])))∧Own QF 24 μ (.slice A0 x.postings.length c0) x.postings ch0∧Yz (Value.int .i64) es1 cn1 x.balances
theorem Qd.mono {μ μ':Gh} {v:Value} {x:Qc} {so:Seg} (h:Qd μ v x so) (hm:μ.le μ'):Qd μ' v x so:=by
 obtain ⟨g,A0,c0,ch0,m1,es1,cn1,hv,hs,h0,h1⟩:=h;exact ⟨g,A0,c0,ch0,m1,es1,cn1,hv,hs,h0.mono hm,h1⟩
theorem Qd.fl {x:Qc} {g:Nat} {A0:Option Addr} {c0:Nat} {ch0:Seg} {m1:Nat} {es1:Array MapEntry} {cn1:Nat}:([[(g,Obj.cells #[.slice A0 x.postings.length c0,.map (some m1)] 60 (0,0))],ch0,[(m1,Obj.map es1 cn1)]]:List Seg).flatten=((g,Obj.cells #[.slice A0 x.postings.length c0,.map (some m1)] 60 (0,0))::(ch0++((m1,Obj.map es1 cn1)::[]))):=by simp
def YX:Option (Qc) :=
 some (Qc.mk [] [])
def Ys (x1:Qb):Option (Bool) :=
 Option.bind (
  bif (decide (0≤x1.Account)) then
   bif (decide (x1.Account≤1000000)) then
    bif (!(decide (x1.Amount=0))) then
     bif (decide ((-1000000000000)≤x1.Amount)) then
      some (decide (x1.Amount≤1000000000000))
     else
      some false
    else
     some false
   else
    some false
  else
   some false) (fun v1 =>
  some v1)
def Yb (p1:Qa) (j_:Int×Int):Option ((Int×Int)⊕(Int⊕Int)) :=
 oun j_ fun sum1 v2 =>
 bif (decide (v2<((p1.Lines.length:Nat):Int))) then
  Option.bind (Q6 p1.Lines v2) fun x1 =>
  Option.bind (Ys x1) fun r1 =>
  bif (!r1) then
   some (.inr (.inr 1))
  else
   some (.inl (w64 (sum1+x1.Amount),w64 (v2+1)))
 else
  some (.inr (.inl sum1))
def QY (p1:Qa):Option (Int) :=
 Option.bind (
  bif (decide (p1.ID<1)) then
   some true
  else
   bif (decide (1000000<p1.ID)) then
    some true
   else
    bif (decide (p1.At<0)) then
     some true
    else
     some (decide (3155759999<p1.At))) (fun v1 =>
  bif v1 then
   some 1
  else
   bif (decide (16<((p1.Lines.length:Nat):Int))) then
    some 8
   else
    bif (decide (((p1.Lines.length:Nat):Int)<2)) then
     some 10
    else
     Option.bind (
      iter (Yb p1) (((p1.Lines.length:Nat):Int).toNat+1) (0,0)) (fun o_=>Y4 o_ (fun sum2 =>
      bif (!(decide (sum2=0))) then
       some 16
      else
       some 0) (fun rv52=>some rv52)))
def QR (q1:Qa) (b1:Qa):Option (Bool) :=
 some (decide (q1.ID=b1.ID))
def Qu (s1:(List Qa)) (b1:Qa) (v1:Int):Option ((Int)⊕(Unit⊕Int)) :=
 bif (decide (v1<((s1.length:Nat):Int))) then
  Option.bind (Q6 s1 v1) fun x1 =>
  Option.bind (QR x1 b1) fun r1 =>
  bif r1 then
   some (.inr (.inr v1))
  else
   some (.inl (w64 (v1+1)))
 else
  some (.inr (.inl ()))
def Qr (s1:(List Qa)) (b1:Qa):Option (Int) :=
 Option.bind (
  iter (Qu s1 b1) (((s1.length:Nat):Int).toNat+1) 0) (fun o_=>Y4 o_ (fun _ =>
  some (-1)) (fun rv74=>some rv74))
def Qm (s1:(List Qa)) (b1:Qa):Option (Bool) :=
 Option.bind (Qr s1 b1) fun r1 =>
 some (decide (0≤r1))
def Qv (l1:Qc) (p1:Qa):Option (Int) :=
 Option.bind (QY p1) fun r1 =>
 bif (!(decide (r1=0))) then
  some r1
 else
  Option.bind (Qm l1.postings p1) fun r2 =>
  bif r2 then
   some 6
  else
   Option.bind (
    bif (decide (0<((l1.postings.length:Nat):Int))) then
     Option.bind (Q6 l1.postings (w64 (((l1.postings.length:Nat):Int)-1))) fun x1 =>
     some (decide (p1.At<x1.At))
    else
     some false) (fun v1 =>
    bif v1 then
     some 9
    else
     bif (decide (512≤((l1.postings.length:Nat):Int))) then
      some 8
     else
      some 0)
def QN (p1:Qa):Option (Qa) :=
 Option.bind (Jz p1.Lines) fun l1 =>
 some (Qa.mk p1.ID p1.At l1)
def Qn (p1:Qa) (j_:(List (Int×Int))×Int):Option (((List (Int×Int))×Int)⊕((List (Int×Int)))) :=
 oun j_ fun m1 v1 =>
 bif (decide (v1<((p1.Lines.length:Nat):Int))) then
  Option.bind (Q6 p1.Lines v1) fun x1 =>
  some (.inl ((V0 x1.Account (w64 (((YA x1.Account m1).getD 0)+x1.Amount)) m1),w64 (v1+1)))
 else
  some (.inr m1)
def Qo (l1:Qc) (p1:Qa) (m2:(List (Int×Int))) (v2:Int):Option ((Int)⊕(Unit⊕(Int×Qc))) :=
 bif (decide (v2<((p1.Lines.length:Nat):Int))) then
  Option.bind (Q6 p1.Lines v2) fun x2 =>
  Option.bind (
   bif (decide (((YA x2.Account m2).getD 0)<(-1000000000000))) then
    some true
   else
    some (decide (1000000000000<((YA x2.Account m2).getD 0)))) (fun v3 =>
   bif v3 then
    bif (!(decide (2=0))) then
     some (.inr (.inr (2,l1)))
    else
     some (.inr (.inr (2,(Qc.mk l1.postings m2))))
   else
    some (.inl (w64 (v2+1))))
 else
  some (.inr (.inl ()))
def Qi (l1:Qc) (p1:Qa):Option (Int×Qc) :=
 Option.bind (Qv l1 p1) fun r1 =>
 bif (!(decide (r1=0))) then
  some (r1,l1)
 else
  Option.bind (
   iter (Qn p1) (((p1.Lines.length:Nat):Int).toNat+1) (l1.balances,0)) (fun m2 =>
   Option.bind (
    iter (Qo l1 p1 m2) (((p1.Lines.length:Nat):Int).toNat+1) 0) (fun o_=>Y4 o_ (fun _ =>
    Option.bind (QN p1) fun r2 =>
    Option.bind (Qax l1.postings [r2]) fun l2 =>
    bif (!(decide (0=0))) then
     some (0,(Qc.mk l2 l1.balances))
    else
     some (0,(Qc.mk l2 m2))) (fun rv473=>some rv473)))
def Qp (l1:Qc) (j_:(List Qa)×Int):Option (((List Qa)×Int)⊕((List Qa))) :=
 oun j_ fun out1 v1 =>
 bif (decide (v1<((l1.postings.length:Nat):Int))) then
  Option.bind (Q6 l1.postings v1) fun x1 =>
  Option.bind (QN x1) fun r1 =>
  Option.bind (Q6 out1 v1) fun x2 =>
  some (.inl ((V6 out1 v1 r1),w64 (v1+1)))
 else
  some (.inr out1)
def Qj (l1:Qc):Option ((List Qa)) :=
 Option.bind (Qaj (Qa.mk 0 0 []) ((l1.postings.length:Nat):Int)) fun l2 =>
 Option.bind (
  iter (Qp l1) (((l1.postings.length:Nat):Int).toNat+1) (l2,0)) (fun out2 =>
  some out2)
def QA (a1:Qa) (b1:Qa) (i1:Int):Option ((Int)⊕(Unit⊕Bool)) :=
 bif (decide (i1<((a1.Lines.length:Nat):Int))) then
  Option.bind (Q6 a1.Lines i1) fun x1 =>
  Option.bind (Q6 b1.Lines i1) fun x2 =>
  bif (!(decide (x1=x2))) then
   some (.inr (.inr false))
  else
   some (.inl (w64 (i1+1)))
 else
  some (.inr (.inl ()))
def Qw (a1:Qa) (b1:Qa):Option (Bool) :=
 Option.bind (
  bif (!(decide (a1.ID=b1.ID))) then
   some true
  else
   bif (!(decide (a1.At=b1.At))) then
    some true
   else
    some (!(decide (((a1.Lines.length:Nat):Int)=((b1.Lines.length:Nat):Int))))) (fun v1 =>
  bif v1 then
   some false
  else
   Option.bind (
    iter (QA a1 b1) (((a1.Lines.length:Nat):Int).toNat+1) 0) (fun o_=>Y4 o_ (fun _ =>
    some true) (fun rv765=>some rv765)))
def Qk (l1:Qc) (account1:Int):Option (Int) :=
 some ((YA account1 l1.balances).getD 0)
def QO (n1:Int):Option (Int) :=
 bif (decide (n1=1000000000000)) then
  some 2
 else
  some 0
def YP (account1:Int) (x1:Qa) (j_:Int×Int):Option ((Int×Int)⊕(Int)) :=
 oun j_ fun n2 v2 =>
 bif (decide (v2<((x1.Lines.length:Nat):Int))) then
  Option.bind (
   Option.bind (Q6 x1.Lines v2) fun x2 =>
   bif (decide (x2.Account=account1)) then
    some (w64 (n2+x2.Amount))
   else
    some n2) (fun n3 =>
   some (.inl (n3,w64 (v2+1))))
 else
  some (.inr n2)
def YQ (l1:Qc) (account1:Int) (t1:Int) (j_:Int×Int):Option ((Int×Int)⊕(Int)) :=
 oun j_ fun n1 v1 =>
 bif (decide (v1<((l1.postings.length:Nat):Int))) then
  Option.bind (
   Option.bind (Q6 l1.postings v1) fun x1 =>
   bif (decide (t1<x1.At)) then
    some (.inr ())
   else
    Option.bind (
     iter (YP account1 x1) (((x1.Lines.length:Nat):Int).toNat+1) (n1,0)) (fun n4 =>
     some (.inl n4))) (fun o_=>Y4 o_ (fun n5 =>
   some (.inl (n5,w64 (v1+1)))) (fun _ =>
   some (.inr n1)))
 else
  some (.inr n1)
def YD (l1:Qc) (account1:Int) (t1:Int):Option (Int) :=
 Option.bind (
  iter (YQ l1 account1 t1) (((l1.postings.length:Nat):Int).toNat+1) (0,0)) (fun n6 =>
  some n6)
def Q8 (l1:Qc):Option ((List Int)) :=
 Option.bind (Qbf l1.balances) fun l2 =>
 some l2
def Yk (a1:(List Int)) (b1:(List Int)) (i1:Int):Option ((Int)⊕(Unit⊕Bool)) :=
 bif (decide (i1<((a1.length:Nat):Int))) then
  Option.bind (Q6 a1 i1) fun x1 =>
  Option.bind (Q6 b1 i1) fun x2 =>
  bif (!(decide (x1=x2))) then
   some (.inr (.inr false))
  else
   some (.inl (w64 (i1+1)))
 else
  some (.inr (.inl ()))
def Q5 (a1:(List Int)) (b1:(List Int)):Option (Bool) :=
 bif (!(decide (((a1.length:Nat):Int)=((b1.length:Nat):Int)))) then
  some false
 else
  Option.bind (
   iter (Yk a1 b1) (((a1.length:Nat):Int).toNat+1) 0) (fun o_=>Y4 o_ (fun _ =>
   some true) (fun rv1041=>some rv1041))
def QZ:Option (Bool) :=
 Option.bind (YX) fun r1 =>
 Option.bind (Qi r1 (Qa.mk 1 10 [(Qb.mk 100 500),(Qb.mk 7 (w64 (0-500)))])) fun j_=>oun j_ fun r2 r3 =>
 Option.bind (Qi r3 (Qa.mk 2 20 [(Qb.mk 7 200),(Qb.mk 100 (w64 (0-200)))])) fun j_=>oun j_ fun r4 r5 =>
 Option.bind (Qi r5 (Qa.mk 2 20 [(Qb.mk 7 200),(Qb.mk 100 (w64 (0-200)))])) fun j_=>oun j_ fun r6 r7 =>
 Option.bind (Qi r7 (Qa.mk 3 19 [(Qb.mk 7 200),(Qb.mk 100 (w64 (0-200)))])) fun j_=>oun j_ fun r8 r9 =>
 Option.bind (QY (Qa.mk 1 0 [(Qb.mk 1 5),(Qb.mk 2 (-4))])) fun r10 =>
 Option.bind (QY (Qa.mk 1 0 [(Qb.mk 1 5)])) fun r11 =>
 Option.bind (
  bif (decide (r2=0)) then
   bif (decide (r4=0)) then
    bif (decide (r6=6)) then
     bif (decide (r8=9)) then
      bif (decide (r10=16)) then
       bif (decide (r11=10)) then
        Option.bind (Qk r9 100) fun r12 =>
        bif (decide (r12=300)) then
         Option.bind (Qk r9 7) fun r13 =>
         bif (decide (r13=(-300))) then
          Option.bind (YD r9 100 19) fun r14 =>
          bif (decide (r14=500)) then
           Option.bind (Q8 r9) fun r15 =>
           Option.bind (Q5 r15 [7,100]) fun r16 =>
           bif r16 then
            Option.bind (Qj r9) fun r17 =>
            some (decide (((r17.length:Nat):Int)=2))
           else
            some false
          else
           some false
         else
          some false
        else
         some false
       else
        some false
      else
       some false
     else
      some false
    else
     some false
   else
    some false
  else
   some false) (fun v6 =>
  some v6)
def Qt (amount1:Int):Option (Bool) :=
 Option.bind (YX) fun r1 =>
 Option.bind (Qi r1 (Qa.mk 1 10 [(Qb.mk 3 (w64 (1+(w64 (Int.tmod amount1 1000000000000))))),(Qb.mk 2 (w64 (0-(w64 (1+(w64 (Int.tmod amount1 1000000000000)))))))])) fun j_=>oun j_ fun r2 r3 =>
 bif (!(decide (r2=0))) then
  some false
 else
  Option.bind (Q6 [(Qb.mk 3 (w64 (1+(w64 (Int.tmod amount1 1000000000000))))),(Qb.mk 2 (w64 (0-(w64 (1+(w64 (Int.tmod amount1 1000000000000)))))))] 0) fun x1 =>
  Option.bind (Q6 (V6 [(Qb.mk 3 (w64 (1+(w64 (Int.tmod amount1 1000000000000))))),(Qb.mk 2 (w64 (0-(w64 (1+(w64 (Int.tmod amount1 1000000000000)))))))] 0 (Qb.mk x1.Account 5)) 0) fun x2 =>
  Option.bind (Qj r3) fun r4 =>
  Option.bind (QaG r4) fun row1 =>
  Option.bind (
   bif (!(decide ((([row1].length:Nat):Int)=1))) then
    some (w64 (1+(w64 (Int.tmod amount1 1000000000000))),true)
   else
    some (w64 (1+(w64 (Int.tmod amount1 1000000000000))), !(decide (((row1.Lines.length:Nat):Int)=2)))) (fun j_=>oun j_ fun n1 v3 =>
   bif v3 then
    some false
   else
    Option.bind (Q6 row1.Lines 1) fun x3 =>
    Option.bind (Qj r3) fun r5 =>
    Option.bind (QaG r5) fun row2 =>
    Option.bind (
     bif (decide ((([row2].length:Nat):Int)=1)) then
      Option.bind (Qw row2 (Qa.mk 1 10 [(Qb.mk 3 n1),(Qb.mk 2 (w64 (0-n1)))])) fun r6 =>
      bif r6 then
       Option.bind (Qk r3 3) fun r7 =>
       bif (decide (r7=n1)) then
        Option.bind (Qk r3 2) fun r8 =>
        bif (decide (r8=(w64 (0-n1)))) then
         Option.bind (Qi r3 (Qa.mk 7 10 [(Qb.mk 3 1),(Qb.mk 2 (w64 (0-1)))])) fun j_=>oun j_ fun r9 r10 =>
         Option.bind (QO n1) fun r11 =>
         bif (decide (r9=r11)) then
          Option.bind (QZ) fun r12 =>
          some r12
         else
          some false
        else
         some false
       else
        some false
      else
       some false
     else
      some false) (fun v9 =>
     some v9))
end Go.Proofs.Ytpghcnpheabbgaa
namespace Go.Proofs.Ytpghcnpheabbgaa
open Go.RowKit
set_option linter.unusedSimpArgs false
set_option linter.unusedVariables false
attribute [local irreducible] WP QJ YR Fn AN Upd vcR vcO ZR QP QQ YO YT ZH Zb ZG Yf
theorem Wx {μ:Gh} {L:List Seg} {A:Option Addr} {n c:Nat} {css:List (List Value)} (hr:Rd μ L A 2 css) (hn:css.length=n) (h1: ∀cs∈css,∀u∈cs,u.oneCell'=true) (hb:n≤1000000)
  {R:Value→Gh→List Seg→Prop} (hR: ∀v ch,Ya 49 2 v css ch→R v μ (ch::L)):Fn Try.prog 40 [.slice A n c] μ L R:=by
 refine Fn.of_body Ym Try.func40 (by kernel_rfl) rfl Try.ntmps40 (by simp) ?_
 simp only[Try.f40,Ww,List.zipIdx,List.map,Nat.reduceAdd]
 repeat' first | (apply VL) | (apply Zr;exact rfl) | (apply WR) | ((first | (apply Z7;exact rfl));first | (apply VQ;exact rfl) | (apply Jl;exact rfl) | (apply QaZ;exact rfl;exact rfl;all_goals (intro h;try (exfalso;omega))) | (apply QaX;exact rfl;exact rfl) | (apply VN;exact rfl;exact rfl;exact rfl;exact rfl) | (apply VO;exact rfl;exact rfl;exact rfl;exact rfl) | (apply QbZ;exact rfl;exact rfl;exact rfl;exact rfl;all_goals (intro h)) | (apply QaY;exact rfl;exact rfl;exact rfl;exact rfl;all_goals (intro h))) | (apply QaW) | (apply Ze) | (apply QT;exact rfl;exact rfl;exact rfl;(focus (simp only[YB,List.set_cons_zero,List.set_cons_succ,List.take_succ_cons,List.take_zero,List.drop_succ_cons,List.drop_zero,Value.cells,Nat.reduceAdd,Nat.reduceMul,Nat.zero_add,Nat.add_zero,List.toList_toArray,List.cons_append,List.nil_append,cyc];first | done | exact rfl))) | (apply WP.seq_k;intro K hK) | refine WP.region Ym ?_ | (apply Jn;exact rfl) | (apply Jm;exact rfl) | (apply W9;exact rfl;all_goals (intro h)) | (apply WP.skip) | (apply WP.ret) | (apply Qa4) | (apply Qad;exact rfl) | (first | (apply Zf;exact rfl;exact rfl;exact rfl;exact rfl;exact rfl;exact rfl;(focus (simp only[YB,List.set_cons_zero,List.set_cons_succ,List.take_succ_cons,List.take_zero,List.drop_succ_cons,List.drop_zero,Value.cells,Nat.reduceAdd,Nat.reduceMul,Nat.zero_add,Nat.add_zero,List.toList_toArray,List.cons_append,List.nil_append,cyc];first | done | exact rfl))) | (apply JV;exact rfl)) | (fail) | (first | (refine hK _ _ _ ?_;clear hK K) | (clear hK K;refine hK _ _ _ ?_;clear hK K) | (clear hK K;clear hK K;refine hK _ _ _ ?_;clear hK K) | (clear hK K;clear hK K;clear hK K;refine hK _ _ _ ?_;clear hK K)) | intro g
 ·subst h;obtain rfl:css=[]:=by
   cases css with
   | nil=>rfl
   | cons a r=>obtain ⟨a,ha,_⟩:=hr.2 (by simp);cases ha
  exact Upd.know fun ⟨w,hw⟩=>Upd.sub (L':=[]::L) (by simp) (Upd.done (hR _ _ Ya.nil))
 ·refine Qap Ym rfl rfl rfl rfl (by decide) 0 rfl (css:=[]) ⟨by simp,.inr ⟨g,0, #[],rfl,rfl,by simp,by simp[maxLen],by simp,by simp⟩⟩ hn hr.cons h1 (by simp;omega) (by simp;omega) fun v' ch' hv _=> ?_
  repeat' first | (apply VL) | (apply Zr;exact rfl) | (apply WR) | ((first | (apply Z7;exact rfl));first | (apply VQ;exact rfl) | (apply Jl;exact rfl) | (apply QaZ;exact rfl;exact rfl;all_goals (intro h;try (exfalso;omega))) | (apply QaX;exact rfl;exact rfl) | (apply VN;exact rfl;exact rfl;exact rfl;exact rfl) | (apply VO;exact rfl;exact rfl;exact rfl;exact rfl) | (apply QbZ;exact rfl;exact rfl;exact rfl;exact rfl;all_goals (intro h)) | (apply QaY;exact rfl;exact rfl;exact rfl;exact rfl;all_goals (intro h))) | (apply QaW) | (apply Ze) | (apply QT;exact rfl;exact rfl;exact rfl;(focus (simp only[YB,List.set_cons_zero,List.set_cons_succ,List.take_succ_cons,List.take_zero,List.drop_succ_cons,List.drop_zero,Value.cells,Nat.reduceAdd,Nat.reduceMul,Nat.zero_add,Nat.add_zero,List.toList_toArray,List.cons_append,List.nil_append,cyc];first | done | exact rfl))) | (apply WP.seq_k;intro K hK) | refine WP.region Ym ?_ | (apply Jn;exact rfl) | (apply Jm;exact rfl) | (apply W9;exact rfl;all_goals (intro h)) | (apply WP.skip) | (apply WP.ret) | (apply Qa4) | (apply Qad;exact rfl) | (first | (apply Zf;exact rfl;exact rfl;exact rfl;exact rfl;exact rfl;exact rfl;(focus (simp only[YB,List.set_cons_zero,List.set_cons_succ,List.take_succ_cons,List.take_zero,List.drop_succ_cons,List.drop_zero,Value.cells,Nat.reduceAdd,Nat.reduceMul,Nat.zero_add,Nat.add_zero,List.toList_toArray,List.cons_append,List.nil_append,cyc];first | done | exact rfl))) | (apply JV;exact rfl)) | (fail) | (first | (refine hK _ _ _ ?_;clear hK K) | (clear hK K;refine hK _ _ _ ?_;clear hK K) | (clear hK K;clear hK K;refine hK _ _ _ ?_;clear hK K) | (clear hK K;clear hK K;clear hK K;refine hK _ _ _ ?_;clear hK K)) | intro g
  rw[List.nil_append] at hv
  exact Upd.done (hR _ _ hv)
end Go.Proofs.Ytpghcnpheabbgaa
namespace Go.Proofs.Ytpghcnpheabbgaa
open Go.RowKit
set_option linter.unusedSimpArgs false
set_option linter.unusedVariables false
section
variable {P:Program} {ops:Array Oper} {Q:Exit→Act→World→Prop} {S S0:World→Prop} {b:List Nat}
def Va (P:Program) (ops:Array Oper) (Q:Exit→Act→World→Prop) (S S0:World→Prop) (b:List Nat):Nat→Array Bool→Act→World→Prop
 | 0,listed,a,w=>Region.ready .any ops listed=[]∧Q .normal a w
 | fuel+1,listed,a,w=>(Region.ready .any ops listed=[]→Q .normal a w) ∧
  ∀i∈Region.ready .any ops listed,wpOp P ops Q i (fun a' w'=>S0 w'∧(i∉b→S w→S w')∧Va P ops Q S S0 b fuel (listed.setIfInBounds i true) a' w') a w
theorem Vc: ∀(fuel:Nat) (listed:Array Bool) (a:Act) (w:World),Va P ops Q S S0 b fuel listed a w→wpAny P .any ops Q fuel listed a w
 | 0,_,_,_,h=>h
 | fuel+1,_,_,_,h=>⟨h.1,fun i hi=>wpOp_mono (fun a' w' h'=>Vc fuel _ a' w' h'.2.2) (h.2 i hi)⟩
def Yu (ops:Array Oper) (l:Array Bool):Prop:= ∀j oj,ops[j]? =some oj→l.getD j false=true→ ∀e∈oj.after,Region.binds .any e=true→l.getD e.on false=true
theorem Yu.start (n:Nat):Yu ops (List.replicate n false).toArray:=by
 intro j oj _ h;rcases Nat.lt_or_ge j n with h' | h'<;>simp[h'] at h
theorem Yu.set {l:Array Bool} {i:Nat} (h:Yu ops l) (hr:i∈Region.ready .any ops l):Yu ops (l.setIfInBounds i true):=by
 intro j oj hj hl e he hb
 by_cases hij:i=j
 ·subst hij;obtain ⟨_,o,ho,hall⟩:=mem_ready.1 hr
  rw[hj] at ho;injection ho with ho;subst ho
  exact getD_set_true (hall e he hb)
 ·rw[getD_set_ne false hij] at hl
  exact getD_set_true (h j oj hj hl e he hb)
def Yv (ops:Array Oper) (b i:Nat):Prop:= ∀l:Array Bool,Yu ops l→(∃ob,ops[b]? =some ob∧ ∀e∈ob.after,Region.binds .any e=true→l.getD e.on false=true)→l.getD i false=true
theorem Yv.trans {d c i:Nat} {oc:Oper} (h1:Yv ops d c) (hc:ops[c]? =some oc) (h2:Yv ops c i):Yv ops d i:=fun l hl hd=>by
 have h3:=h1 l hl hd;exact h2 l hl ⟨oc,hc,fun e he hb=>hl c oc hc h3 e he hb⟩
theorem Z8 {Sx:World→Prop} {i:Nat} {oi:Oper} {v:Value} (hi:ops[i]? =some oi) (hsel: ∀(j:Nat) (o:Oper) cs c,ops[j]? =some o→o.op≠ .select cs c)
  (hQ: ∀c a w,Q (.panic c) (a.put oi.dst v) w→Q (.panic c) a w) (hb:(∀w,S0 w→Sx w)∨(Sx=S∧ ∀d∈b,Yv ops d i)) :
  ∀(fuel:Nat) (listed:Array Bool) (a:Act) (w:World),
   (∀j oj,ops[j]? =some oj→j≠i→listed.getD j true=false→(∀e∈oj.after,Region.binds .any e=true→e.on≠i)→oi.apart ops oj=true) →
   i∈Region.ready .any ops listed→Yu ops listed→YieldsIf P ops Sx oi v a→S0 w→Sx w →
   Va P ops Q S S0 b fuel (listed.setIfInBounds i true) (a.put oi.dst v) w→Va P ops Q S S0 b (fuel+1) listed a w:=by
 intro fuel
 induction fuel with
 | zero =>
  intro listed a w _ hr _ hy hS0 hS H;refine ⟨fun h=>(by rw[h] at hr;cases hr),fun j hj=> ?_⟩
  by_cases hji:j=i
  ·subst hji;exact hy.wpOp hi hS ⟨hS0,fun _ h=>h,H⟩
  ·have:=ready_mono hj hji
   rw[H.1] at this
   cases this
 | succ fuel ih =>
  intro listed a w hfree hr hcl hy hS0 hS H;refine ⟨fun h=>(by rw[h] at hr;cases hr),fun j hj=> ?_⟩
  by_cases hji:j=i
  ·subst hji;exact hy.wpOp hi hS ⟨hS0,fun _ h=>h,H⟩
  ·have h1:=H.2 j (ready_mono hj hji);obtain ⟨hjun,oj,hoj,hall⟩:=mem_ready.1 hj;have hnot: ∀e∈oj.after,Region.binds .any e=true→e.on≠i:=fun e he hb heq=>by
    have h1:=hall e he hb;have h0:=(mem_ready.1 hr).1
    rw[heq] at h1
    rcases Nat.lt_or_ge i listed.size with h' | h'
    ·simp[h'] at h0 h1;rw[h0] at h1;cases h1
    ·simp[Array.getElem?_eq_none h'] at h1
   have hSx: ∀w',S0 w'→(j∉b→S w→S w')→Sx w':=fun w' q0 q1=>by
    rcases hb with hb | ⟨rfl,hb⟩
    ·exact hb w' q0
    ·refine q1 (fun hjm=> ?_) hS;have h3:=hb j hjm listed hcl ⟨oj,hoj,hall⟩;have h0:=(mem_ready.1 hr).1;rcases Nat.lt_or_ge i listed.size with h' | h'
     ·simp[h'] at h0 h3;rw[h0] at h3;cases h3
     ·simp[Array.getElem?_eq_none h'] at h3
   have h2:=wpOp_putIf hoj (hfree j oj hoj hji hjun hnot) (fun cs c=>hsel i oi cs c hi) (fun cs c=>hsel j oj cs c hoj) hQ hy h1;have hfree': ∀k ok,ops[k]? =some ok→k≠i→(listed.setIfInBounds j true).getD k true=false →
     (∀e∈ok.after,Region.binds .any e=true→e.on≠i)→oi.apart ops ok=true:=fun k ok hk hki hun hno=>by
    refine hfree k ok hk hki ?_ hno
    by_cases hjk:j=k
    ·subst hjk;exact hjun
    ·rw[getD_set_ne true hjk] at hun;exact hun
   refine wpOp_mono (fun a' w' h3=>⟨h3.2.1,h3.2.2.1,ih (listed.setIfInBounds j true) a' w' hfree' (ready_mono hr (Ne.symm hji)) (hcl.set hj) h3.1 h3.2.1 (hSx w' h3.2.1 h3.2.2.1) ?_⟩) h2
   rw[Array.setIfInBounds_comm _ _ hji]
   exact h3.2.2.2
end
def Qbq:Op→Bool
 | .load _ _ | .lookup _ _ _ _ | .call _=>false
 | _=>true
theorem QbB {P:Program} {T:TT} {o:Op} {fr:Fr} {μ μ':Gh} {L L':List Seg} {k:Value→Prop} (hp:Qbq o=true) (h:vcR P T o fr μ L k):vcR P T o fr μ' L' k:=by
 cases o<;>first | exact h | cases hp
def J0 (ops:List Oper) (b i:Nat):Bool:=match Yc ops b with
 | some o=>o.after.toList.any fun e=>Region.binds .any e&&e.on==i
 | none=>false
def JH (ops:List Oper):Nat→List Nat→Nat→Bool
 | b,[],i=>J0 ops b i
 | b,k::r,i=>J0 ops b k&&JH ops k r i
theorem Zt {ops:List Oper} {b i:Nat} (h:J0 ops b i=true): ∃ob,ops.toArray[b]? =some ob∧ ∃e∈ob.after,Region.binds .any e=true∧e.on=i:=by
 unfold J0 at h
 rw[Zm] at h
 cases hob:ops[b]? with
 | none=>rw[hob] at h;cases h
 | some ob =>
  rw[hob] at h
  simp only[List.any_eq_true,Bool.and_eq_true,beq_iff_eq] at h
  obtain ⟨e,h10,h11,h12⟩:=h;exact ⟨ob,by simpa using hob,e,by simpa using h10,h11,h12⟩
theorem ZU {ops:List Oper}: ∀{p:List Nat} {b i:Nat} (_:JH ops b p i=true),Yv ops.toArray b i
 | [],b,i,h,l,hc,⟨ob,h1,h2⟩=>by
  obtain ⟨ob',h3,e,h4,h5,h6⟩:=Zt h
  rw[h1] at h3;injection h3 with h3;subst h3
  rw[←h6];exact h2 e h4 h5
 | k::r,b,i,h,l,hc,⟨ob,h1,h2⟩=>by
  unfold JH at h
  rw[Bool.and_eq_true] at h
  obtain ⟨ob',h3,e,h4,h5,h6⟩:=Zt h.1
  rw[h1] at h3;injection h3 with h3;subst h3
  have hk:l.getD k false=true:=by rw[←h6];exact h2 e h4 h5
  have hok: ∃ok,ops.toArray[k]? =some ok:=by
   cases r with
   | nil=>obtain ⟨o,h7,_⟩:=Zt (show J0 ops k i=true from h.2);exact ⟨o,h7⟩
   | cons k' r'=>obtain ⟨o,h7,_⟩:=Zt (Bool.and_eq_true _ _▸(show (J0 ops k k'&&JH ops k' r' i)=true from h.2):J0 ops k k'=true∧_).1;exact ⟨o,h7⟩
  obtain ⟨ok,h7⟩:=hok;exact ZU h.2 l hc ⟨ok,h7,fun e he hb=>hc k ok h7 hk e he hb⟩
def Qbn (ps:List (Nat×List Nat)) (i:Nat):List Nat:=match ps with
 | []=>[]
 | p::r=>bif p.1==i then p.2 else Qbn r i
def ZO (ops:List Oper) (ps:List (Nat×List Nat)) (b:Nat):List (Bool×Nat)→List Bool→Option (List Bool)
 | [],l=>some l
 | p::r,l=>match (match p.1 with
   | true=>Region.free .any ops.toArray l.toArray p.2&&(Region.ready .any ops.toArray l.toArray).contains p.2&&((match Yc ops p.2 with | some o=>Qbq o.op | none=>false)||JH ops b (Qbn ps p.2) p.2)
   | false=>Region.ready .any ops.toArray l.toArray==[p.2]) with
  | true=>ZO ops ps b r (l.set p.2 true)
  | false=>none
def Vt (ops:List Oper) (ps:List (Nat×List Nat)) (b:Nat):List Nat→Bool
 | []=>true
 | d::r=>JH ops d (Qbn ps d) b&&Vt ops ps b r
def Ji (ops:List Oper):List Nat→List Bool→Bool
 | [],l=>Region.ready .any ops.toArray l.toArray==[]
 | i::r,l=>(Region.ready .any ops.toArray l.toArray==[i])&&Ji ops r (l.set i true)
section
variable {P:Program} {T:TT} {N:NN} {ops:List Oper} {μ0:Gh} {keep:List Seg} {K:Ql} {fr:Fr} {μ:Gh} {L:List Seg} {fuel:Nat} {listed:List Bool} {b:Nat} {ds:List Nat} {ps:List (Nat×List Nat)}
def ANB (P:Program) (N:NN) (ops:List Oper) (μ0:Gh) (keep:List Seg) (ds:List Nat) (fuel:Nat) (listed:List Bool) (K:Ql) (fr:Fr) (μ:Gh) (L:List Seg):Prop :=
 μ0.le μ→Yf keep L→ ∀(a:Act) (w:World) (Q:Exit→Act→World→Prop),Agr N fr a→Inv w μ L →
  (∀fr' μ' L' a' w',μ.le μ'→Agr N fr' a'→Inv w' μ' L'→K fr' μ' L'→Q .normal a' w') →
  (∀c a d v w,Q (.panic c) (Act.put a d v) w→Q (.panic c) a w)→Va P ops.toArray Q (fun w=>Q4 w μ0 keep) (fun w=>Q4 w μ0 []) ds fuel listed.toArray a w
def QaS (P:Program) (T:TT) (N:NN) (ops:List Oper):List Nat→Ql→Ql
 | [],K=>K
 | i::r,K=>fun fr μ L=> ∃o,Yc ops i=some o∧o.guard=none∧vcO P T o.op o.type fr μ L fun v μ' L'=>QQ N o.dst v fr fun fr'=>QaS P T N ops r K fr' μ' L'
theorem Qc8 {dst:Option Tmp} {op:Op} {ty:TypeId} {pos:String} {aft:Array Edge} (hi:Yc ops b=some ⟨dst,op,ty,pos,aft,none⟩) (h:vcO P T op ty fr μ L fun v μ' L'=>QQ N dst v fr fun fr'=>K fr' μ' L'):QaS P T N ops [b] K fr μ L :=
 ⟨_,hi,rfl,h⟩
theorem Vb {S:World→Prop} {μ0:Gh} {Q:Exit→Act→World→Prop} (hT:TOk P T): ∀(r:List Nat) (listed:List Bool) (_: ∀i∈r,i∈ds) (_:Ji ops r listed=true) {fr:Fr} {μ:Gh} {L:List Seg} (_:QaS P T N ops r K fr μ L) (_:μ0.le μ) (a:Act) (w:World) (_:Agr N fr a) (_:Inv w μ L)
  (_: ∀fr' μ' L' a' w',μ.le μ'→Agr N fr' a'→Inv w' μ' L'→K fr' μ' L'→Q .normal a' w'),Va P ops.toArray Q S (fun w=>Q4 w μ0 []) ds r.length listed.toArray a w
 | [],listed,_,hs,fr,μ,L,h,hm,a,w,ha,hw,hQ=>by
  simp only[Ji,beq_iff_eq] at hs
  exact ⟨hs,hQ fr μ L a w (Gh.le.refl _) ha hw h⟩
 | i::r,listed,hd,hs,fr,μ,L,h,hm,a,w,ha,hw,hQ=>by
  simp only[Ji,Bool.and_eq_true,beq_iff_eq] at hs
  obtain ⟨hr,hs⟩:=hs;obtain ⟨o,ho,hg,h⟩:=h
  rw[Zm] at ho
  have ho':ops.toArray[i]? =some o:=by simpa using ho
  refine ⟨fun h0=>absurd (hr▸h0) (by simp),fun j hj=> ?_⟩
  rw[hr] at hj
  have hj':j=i:=by simpa using hj
  subst hj';unfold wpOp
  rw[ho']
  simp only
  have hwt:Region.wanted o (yielded ops.toArray a.tmps)=true:=by unfold Region.wanted;rw[hg]
  rw[if_pos hwt]
  refine .inl (YG hT ha h hw fun v μ' L' w' hm' hw' hv=> ?_);obtain ⟨fr',hv',ha'⟩:=QH ha hv;refine ⟨QX (hm.trans hm') Yf.nil hw',fun hne=>absurd (hd j (by simp)) hne,?_⟩
  rw[QL]
  exact Vb hT r _ (fun k hk=>hd k (by simp[hk])) hs hv' (hm.trans hm') _ _ ha' hw' fun fr2 μ2 L2 a2 w2 h2=>hQ fr2 μ2 L2 a2 w2 (hm'.trans h2)
theorem J9: ∀{r:List Nat} (_:Vt ops ps b r=true),∀d∈r,Yv ops.toArray d b
 | c::r,h,d,hd=>by
  simp only[Vt,Bool.and_eq_true] at h
  rcases List.mem_cons.1 hd with rfl | hd
  ·exact ZU h.1
  ·exact J9 h.2 d hd
theorem ANB.steps (hT:TOk P T) (hs:Region.noSelect ops.toArray=true) {listed':List Bool} {r0:List Nat} (hsr:Ji ops (b::r0) listed'=true) (hlt:Vt ops ps b r0=true) :
  ∀(plan:List (Bool×Nat)) (listed:List Bool) (_:ZO ops ps b plan listed=some listed') (_:Yu ops.toArray listed.toArray) {fr:Fr} {μ:Gh} {L:List Seg}
  (_:QP P T N ops μ0 keep plan fr μ L (QaS P T N ops (b::r0) K)),ANB P N ops μ0 keep (b::r0) ((b::r0).length+plan.length) listed K fr μ L
 | [],listed,hp,_,fr,μ,L,h=>by
  simp only[ZO,Option.some.injEq] at hp
  subst hp;intro hm hk a w Q ha hw hQ hQp;exact Vb hT (b::r0) _ (fun i hi=>hi) hsr h hm a w ha hw hQ
 | (q,i)::r,listed,hp,hcl,fr,μ,L,h=>by
  intro hm hk a w Qx ha hw hQ hQp;unfold ZO at hp
  split at hp
  ·rename_i hc
   unfold QP at h
   simp only[Zm] at h hc
   cases ho:ops[i]? with
   | none=>rw[ho] at h;exact h.elim
   | some o =>
    rw[ho] at h
    have ho':ops.toArray[i]? =some o:=by simpa using ho
    show Va P ops.toArray Qx _ _ (b::r0) (((b::r0).length+r.length)+1) listed.toArray a w
    cases q with
    | true =>
     simp only[Bool.and_eq_true,Bool.or_eq_true,ho] at h hc
     have hri:i∈Region.ready .any ops.toArray listed.toArray:=by simpa using hc.1.2
     have hcl2:Yu ops.toArray (listed.set i true).toArray:=by rw[←QL];exact hcl.set hri
     have hcont: ∀v,QQ N o.dst v fr (fun fr'=>QP P T N ops μ0 keep r fr' μ L (QaS P T N ops (b::r0) K)) →
       Va P ops.toArray Qx (fun w=>Q4 w μ0 keep) (fun w=>Q4 w μ0 []) (b::r0) ((b::r0).length+r.length) (listed.toArray.setIfInBounds i true) (a.put o.dst v) w:=by
      intro v hv;obtain ⟨fr',hv',ha'⟩:=QH ha hv
      rw[QL]
      exact ANB.steps hT hs hsr hlt r _ hp hcl2 hv' hm hk _ w Qx ha' hw hQ hQp
     have h00:Q4 w μ0 []:=QX hm Yf.nil hw;rcases Q7 ha h with ⟨hg,h⟩ | ⟨hg,h⟩
     ·rcases hc.2 with hpu | hwt
      ·obtain ⟨v,hv,hrun⟩:=Zp hT ha (QbB (μ':=μ0) (L':=[]) hpu h);exact Z8 (Sx:=fun w=>Q4 w μ0 []) ho' (Region.noSelect_spec hs) (fun c a w h=>hQp c a _ _ w h) (.inl fun _ h=>h) _ _ a w (Region.free_spec ho' hc.1.1) hri hcl (.inl ⟨hg,fun w hw=>hrun w hw⟩) h00 h00 (hcont v hv)
      ·have hw0:Yv ops.toArray b i:=ZU hwt;have hwb: ∀d∈b::r0,Yv ops.toArray d i:=fun d hd=>by
        rcases List.mem_cons.1 hd with rfl | hd
        ·exact hw0
        ·simp only[Ji,Bool.and_eq_true,beq_iff_eq] at hsr
         obtain ⟨_,ob,hob,_⟩:=mem_ready.1 (show b∈Region.ready .any ops.toArray listed'.toArray by rw[hsr.1];simp);exact (J9 hlt d hd).trans hob hw0
       obtain ⟨v,hv,hrun⟩:=Zp hT ha h;exact Z8 (Sx:=fun w=>Q4 w μ0 keep) ho' (Region.noSelect_spec hs) (fun c a w h=>hQp c a _ _ w h) (.inr ⟨rfl,hwb⟩) _ _ a w (Region.free_spec ho' hc.1.1) hri hcl (.inl ⟨hg,fun w hw=>hrun w hw⟩) h00 (QX hm hk hw) (hcont v hv)
     ·exact Z8 (Sx:=fun w=>Q4 w μ0 []) ho' (Region.noSelect_spec hs) (fun c a w h=>hQp c a _ _ w h) (.inl fun _ h=>h) _ _ a w (Region.free_spec ho' hc.1.1) hri hcl (.inr ⟨hg,rfl⟩) h00 h00 (hcont undef h)
    | false =>
     simp only[beq_iff_eq] at h hc
     refine ⟨fun h0=>absurd (hc▸h0) (by simp),fun j hj=> ?_⟩
     rw[hc] at hj
     have hj':j=i:=by simpa using hj
     subst hj';have hcl2:Yu ops.toArray (listed.set j true).toArray:=by rw[←QL];exact hcl.set (by rw[hc];simp)
     unfold wpOp
     rw[ho']
     simp only
     rcases Q7 ha h with ⟨hg,h⟩ | ⟨hg,h⟩
     ·rw[if_pos hg]
      refine .inl (YG hT ha h hw fun v μ' L' w' hm' hw' hv=> ?_);obtain ⟨fr',hv',ha'⟩:=QH ha hv.2;refine ⟨QX (hm.trans hm') Yf.nil hw',fun _ _=>QX (hm.trans hm') hv.1 hw',?_⟩
      rw[QL]
      exact ANB.steps hT hs hsr hlt r _ hp hcl2 hv' (hm.trans hm') hv.1 _ w' Qx ha' hw' (fun fr2 μ2 L2 a2 w2 h2=>hQ fr2 μ2 L2 a2 w2 (hm'.trans h2)) hQp
     ·rw[if_neg (by rw[hg];exact Bool.false_ne_true)]
      obtain ⟨fr',hv',ha'⟩:=QH ha h;refine ⟨QX hm Yf.nil hw,fun _ h=>h,?_⟩
      rw[QL]
      exact ANB.steps hT hs hsr hlt r _ hp hcl2 hv' hm hk _ w Qx ha' hw hQ hQp
  ·cases hp
theorem WP.drawB {B:Nat→Ql} {R:Ql} (hx:P.follows .mixedOrders=true) (hT:TOk P T) {id:Nat} (keep:List Seg) (hk:Yf keep L) (b:Nat) (ps:List (Nat×List Nat)) (plan:List (Bool×Nat)) {l':List Bool}
  (hs:Region.noSelect ops.toArray=true) (hp:ZO ops ps b plan (List.replicate ops.length false)=some l') (r0:List Nat) (hl:plan.length+(b::r0).length=ops.length)
  (hsr:Ji ops (b::r0) l'=true) (hlt:Vt ops ps b r0=true)
  (h:QP P T N ops μ keep plan fr μ L (QaS P T N ops (b::r0) K)) (hnd:N.rd=none∨ZL ops=true:=by first | exact .inl rfl | exact .inr (by kernel_rfl)):WP P N (.region id ops.toArray true) K B R fr μ L:=by
 intro a w ha hw;refine WK hx hnd Jq (Vc (S:=fun w=>Q4 w μ keep) (S0:=fun w=>Q4 w μ []) (b:=b::r0) _ _ _ _ ?_);have e1:ops.toArray.size=(b::r0).length+plan.length:=by simp at hl ⊢;omega
 have e2:Array.replicate ((b::r0).length+plan.length) false=(List.replicate ops.length false).toArray:=by simp at hl ⊢;omega
 rw[e1,e2]
 exact ANB.steps hT hs hsr hlt plan _ hp (Yu.start _) h (Gh.le.refl _) hk a _ _ ha hw.drew (fun fr' μ' L' a' w' hm ha' hw' hk'=>⟨fr',μ',L',ha',hm,hw',hk'⟩) (fun _ _ _ _ _ h=>h)
end
theorem E.{u} {α:Sort u} {a:α}:a=a:=rfl
section
variable {P:Program} {T:TT} {N:NN} {ops r:List Oper} {dst:Option Tmp} {op:Op} {ty:TypeId} {pos:String} {aft:Array Edge} {K:Ql} {d:Tmp} {fr:Fr} {μ:Gh} {L:List Seg} {v:Value}
theorem Pt {μ0:Gh} {keep:List Seg} {pl:List (Bool×Nat)} {i:Nat} (hd:Nat.blt d N.n=true) (hi:Yc ops i=some ⟨dst,op,ty,pos,aft,none⟩) (h:vcR P T op ((d,v)::fr) μ0 keep fun u=>QQ N dst u ((d,v)::fr) fun fr'=>QP P T N ops μ0 keep pl fr' μ L K) :
  QQ N (some d) v fr fun fr'=>QP P T N ops μ0 keep ((true,i)::pl) fr' μ L K:=Zr hd (QcO hi h)
end
end Go.Proofs.Ytpghcnpheabbgaa
namespace Go.Proofs.Ytpghcnpheabbgaa
open Go.RowKit
set_option linter.unusedSimpArgs false
set_option linter.unusedVariables false
def YN (P:Program) (N:NN) (all rest:List Oper) (K:Ql):Ql:=fun fr μ L=> ∀(a:Act) (w:World) (Q:Exit→Act→World→Prop),Agr N fr a→Inv w μ L →
 (∀fr' μ' L' a' w',μ.le μ'→Agr N fr' a'→Inv w' μ' L'→K fr' μ' L'→Q .normal a' w')→wpListIn (fw N.rd) 0 P all.toArray Q rest a w
def ZN (all:List Oper) (plan:List (Bool×Nat)) (l:List Bool):Bool:=match Q9 all plan l with
 | some l'=>(Region.ready .any all.toArray l'.toArray).isEmpty
 | none=>false
def ZF (P:Program) (N:NN) (all:List Oper) (l:List Bool) (plan:List (Bool×Nat)) (μ0:Gh) (keep:List Seg) (K:Ql):Ql:=fun fr μ L =>
 Region.noSelect all.toArray=true→ZN all plan l=true→AN P N all μ0 keep plan.length l K fr μ L
def Jx (P:Program) (N:NN) (all:List Oper) (l:List Bool) (plan:List (Bool×Nat)) (n:Nat) (l':List Bool) (μ0:Gh) (keep:List Seg) (K:Ql):Ql:=fun fr μ L =>
 Region.noSelect all.toArray=true→Q9 all plan l=some l'→AN P N all μ0 keep (n+plan.length) l K fr μ L
inductive MIt where
 | code (c:Code)
 | blk (i:Nat)
 | ops (all rest:List Oper)
 | pln (all:List Oper) (l:List Bool) (plan:List (Bool×Nat)) (μ0:Gh) (keep:List Seg)
 | plp (all:List Oper) (l:List Bool) (plan:List (Bool×Nat)) (n:Nat) (l':List Bool) (μ0:Gh) (keep:List Seg)
 | cut (M:Ql)
def KEn (N:NN) (K:Ql):Ql:=fun fr μ L=> ∀a w,Agr N fr a→Inv w μ L→ ∃fr' μ' L',Agr N fr' a∧μ.le μ'∧Inv w μ' L'∧K fr' μ' L'
section
variable (P:Program) (N:NN) (R:Ql)
def KB:List MIt→Ql×(Nat→Ql)
 | []=>(KEn N R,fun _ _ _ _=>False)
 | .code c::s=>(fun fr μ L=>WP P N c (KB s).1 (KB s).2 (KEn N R) fr μ L,(KB s).2)
 | .blk i::s=>((KB s).1,ZH i (KB s).1 (KB s).2)
 | .ops all rest::s=>(YN P N all rest (KB s).1,(KB s).2)
 | .pln all l plan μ0 keep::s=>(ZF P N all l plan μ0 keep (KB s).1,(KB s).2)
 | .plp all l plan n l' μ0 keep::s=>(Jx P N all l plan n l' μ0 keep (KB s).1,(KB s).2)
 | .cut M::s=>(M,(KB s).2)
def KS (s:List MIt):Ql:=(KB P N R s).1
def BS (s:List MIt):Nat→Ql:=(KB P N R s).2
end
section
variable {P:Program} {T:TT} {N:NN} {R K:Ql} {fr:Fr} {μ:Gh} {L:List Seg} {all rest:List Oper} {o:Oper} {l l':List Bool} {plan:List (Bool×Nat)} {μ0:Gh} {keep:List Seg} {i n:Nat}
theorem KEn.done (h:K fr μ L):KEn N K fr μ L:=fun _ _ ha hw=>⟨fr,μ,L,ha,Gh.le.refl _,hw,h⟩
theorem YN.nil (h:K fr μ L):YN P N all [] K fr μ L:=fun a w Q ha hw hQ=>hQ fr μ L a w (Gh.le.refl _) ha hw h
theorem YN.cons (hT:TOk P T) (h:QV all fr o.guard (vcO P T o.op o.type fr μ L fun v μ' L'=>QQ N o.dst v fr fun fr'=>YN P N all rest K fr' μ' L') (QQ N o.dst undef fr fun fr'=>YN P N all rest K fr' μ L)) :
  YN P N all (o::rest) K fr μ L:=by
 intro a w Q ha hw hQ;refine wpListIn_step fun K' hK'=> ?_;rcases Q7 ha h with ⟨hg,h⟩ | ⟨hg,h⟩
 ·rw[if_pos hg]
  refine QcE (JP h) (YG hT ha h hw fun v μ' L' w' hm hw' hk=> ?_);obtain ⟨fr',hk,ha'⟩:=QH ha hk;exact hK' _ _ (hk _ w' Q ha' hw' fun fr2 μ2 L2 a2 w2 hm2=>hQ fr2 μ2 L2 a2 w2 (hm.trans hm2))
 ·rw[if_neg (by rw[hg];exact Bool.false_ne_true)]
  refine ⟨fun _ _=>trivial,?_⟩;obtain ⟨fr',hk,ha'⟩:=QH ha h;exact hK' _ _ (hk _ w Q ha' hw hQ)
theorem WP.regionS {B:Nat→Ql} {id:Nat} (h:YN P N all all K fr μ L):WP P N (.region id all.toArray false) K B R fr μ L:=fun a w ha hw =>
 wpIn_region_lit (h a w _ ha hw fun fr' μ' L' a' w' hm ha' hw' hk=>⟨fr',μ',L',ha',hm,hw',hk⟩)
theorem AN.one (hT:TOk P T) (hs:Region.noSelect all.toArray=true) {b:Bool} {m:Nat} {X:Ql} (hX: ∀fr μ L,X fr μ L→AN P N all μ0 keep m (l.set i true) K fr μ L) (hp:Q9 all ((b,i)::plan) l=some l') (ho:Yc all i=some o)
  (h:(match b with
   | true=>QV all fr o.guard (vcR P T o.op fr μ0 keep fun v=>QQ N o.dst v fr fun fr'=>X fr' μ L) (QQ N o.dst undef fr fun fr'=>X fr' μ L)
   | false=>QV all fr o.guard (vcO P T o.op o.type fr μ L fun v μ' L'=>Yf keep L'∧QQ N o.dst v fr fun fr'=>X fr' μ' L') (QQ N o.dst undef fr fun fr'=>X fr' μ L))) :
  AN P N all μ0 keep (m+1) l K fr μ L:=by
 intro hm hk a w Qx ha hw hQ hQp;unfold Q9 at hp
 split at hp
 ·rename_i hc
  rw[Zm] at ho
  have ho':all.toArray[i]? =some o:=by simpa using ho
  show wpAnyH P .any all.toArray Qx _ (m+1) l.toArray a w
  cases b with
  | true =>
   simp only[Bool.and_eq_true] at h hc
   have hcont: ∀v,QQ N o.dst v fr (fun fr'=>X fr' μ L)→wpAnyH P .any all.toArray Qx (fun w=>Q4 w μ0 keep) m (l.toArray.setIfInBounds i true) (a.put o.dst v) w:=by
    intro v hv;obtain ⟨fr',hv',ha'⟩:=QH ha hv
    rw[QL]
    exact hX _ _ _ hv' hm hk _ w Qx ha' hw hQ hQp
   rcases Q7 ha h with ⟨hg,h⟩ | ⟨hg,h⟩
   ·obtain ⟨v,hv,hrun⟩:=Zp hT ha h;exact wpAnyH_take ho' hs hc.1 hc.2 (fun c a w h=>hQp c a _ _ w h) (.inl ⟨hg,fun w hw=>hrun w hw⟩) (QX hm hk hw) (hcont v hv)
   ·exact wpAnyH_take ho' hs hc.1 hc.2 (fun c a w h=>hQp c a _ _ w h) (.inr ⟨hg,rfl⟩) (QX hm hk hw) (hcont undef h)
  | false =>
   simp only[beq_iff_eq] at h hc
   refine wpAnyH_all hc (by simp) fun j hj=> ?_;have hj':j=i:=by simpa using hj
   subst hj';unfold wpOp
   rw[ho']
   simp only
   rcases Q7 ha h with ⟨hg,h⟩ | ⟨hg,h⟩
   ·rw[if_pos hg]
    refine .inl (YG hT ha h hw fun v μ' L' w' hm' hw' hv=> ?_);obtain ⟨fr',hv',ha'⟩:=QH ha hv.2;refine ⟨QX (hm.trans hm') hv.1 hw',?_⟩
    rw[QL]
    exact hX _ _ _ hv' (hm.trans hm') hv.1 _ w' Qx ha' hw' (fun fr2 μ2 L2 a2 w2 h2=>hQ fr2 μ2 L2 a2 w2 (hm'.trans h2)) hQp
   ·rw[if_neg (by rw[hg];exact Bool.false_ne_true)]
    obtain ⟨fr',hv',ha'⟩:=QH ha h;refine ⟨QX hm hk hw,?_⟩
    rw[QL]
    exact hX _ _ _ hv' hm hk _ w Qx ha' hw hQ hQp
 ·cases hp
theorem Zz {b:Bool} (hp:Q9 all ((b,i)::plan) l=some l'):Q9 all plan (l.set i true)=some l':=by
 unfold Q9 at hp
 split at hp
 ·exact hp
 ·cases hp
theorem Zy (h:ZN all plan l=true): ∃l',Q9 all plan l=some l'∧Region.ready .any all.toArray l'.toArray=[]:=by
 unfold ZN at h
 split at h
 ·exact ⟨_,by assumption,by simpa using h⟩
 ·cases h
theorem JN {b:Bool} (h:ZN all ((b,i)::plan) l=true):ZN all plan (l.set i true)=true:=by
 obtain ⟨l',h1,h2⟩:=Zy h;unfold ZN
 rw[Zz h1]
 simp only[h2];rfl
theorem ZF.nil (h:K fr μ L):ZF P N all l [] μ0 keep K fr μ L:=by
 intro _ hp;obtain ⟨l',h1,h2⟩:=Zy hp
 simp only[Q9,Option.some.injEq] at h1
 subst h1;exact AN.done h2 h
theorem ZF.t (hT:TOk P T) (ho:Yc all i=some o) (h:QV all fr o.guard (vcR P T o.op fr μ0 keep fun v=>QQ N o.dst v fr fun fr'=>ZF P N all (l.set i true) plan μ0 keep K fr' μ L) (QQ N o.dst undef fr fun fr'=>ZF P N all (l.set i true) plan μ0 keep K fr' μ L)) :
  ZF P N all l ((true,i)::plan) μ0 keep K fr μ L:=by
 intro hs hp;have hp2:=JN hp;obtain ⟨l',h1,_⟩:=Zy hp;exact AN.one (b:=true) hT hs (fun _ _ _ h=>h hs hp2) h1 ho h
theorem ZF.f (hT:TOk P T) (ho:Yc all i=some o) (h:QV all fr o.guard (vcO P T o.op o.type fr μ L fun v μ' L'=>Yf keep L'∧QQ N o.dst v fr fun fr'=>ZF P N all (l.set i true) plan μ0 keep K fr' μ' L') (QQ N o.dst undef fr fun fr'=>ZF P N all (l.set i true) plan μ0 keep K fr' μ L)) :
  ZF P N all l ((false,i)::plan) μ0 keep K fr μ L:=by
 intro hs hp;have hp2:=JN hp;obtain ⟨l',h1,_⟩:=Zy hp;exact AN.one (b:=false) hT hs (fun _ _ _ h=>h hs hp2) h1 ho h
theorem Jx.t {l1:List Bool} (hT:TOk P T) (ho:Yc all i=some o) (h:QV all fr o.guard (vcR P T o.op fr μ0 keep fun v=>QQ N o.dst v fr fun fr'=>Jx P N all (l.set i true) plan n l1 μ0 keep K fr' μ L) (QQ N o.dst undef fr fun fr'=>Jx P N all (l.set i true) plan n l1 μ0 keep K fr' μ L)) :
  Jx P N all l ((true,i)::plan) n l1 μ0 keep K fr μ L:=by
 intro hs hp;exact AN.one (b:=true) hT hs (fun _ _ _ h=>h hs (Zz hp)) hp ho h
theorem Jx.f {l1:List Bool} (hT:TOk P T) (ho:Yc all i=some o) (h:QV all fr o.guard (vcO P T o.op o.type fr μ L fun v μ' L'=>Yf keep L'∧QQ N o.dst v fr fun fr'=>Jx P N all (l.set i true) plan n l1 μ0 keep K fr' μ' L') (QQ N o.dst undef fr fun fr'=>Jx P N all (l.set i true) plan n l1 μ0 keep K fr' μ L)) :
  Jx P N all l ((false,i)::plan) n l1 μ0 keep K fr μ L:=by
 intro hs hp;exact AN.one (b:=false) hT hs (fun _ _ _ h=>h hs (Zz hp)) hp ho h
theorem WP.drawS {B:Nat→Ql} (hx:P.follows .mixedOrders=true) {id:Nat} (keep:List Seg) (hk:Yf keep L) (plan:List (Bool×Nat)) (hl:plan.length=all.length)
  (hs:Region.noSelect all.toArray=true) (hnd:ZL all=true) (hp:ZN all plan (List.replicate all.length false)=true) (h:ZF P N all (List.replicate all.length false) plan μ keep K fr μ L):WP P N (.region id all.toArray true) K B R fr μ L :=
 WP.draw hx keep hk rfl (by rw[←hl];have:=h hs hp;rw[←hl] at this;exact this) (.inr hnd)
end
def Ju (i:Nat):List MIt→Option (List MIt)
 | []=>none
 | .blk j::s=>bif Nat.beq i j then some s else Ju i s
 | .code _::s=>Ju i s
 | .ops _ _::s=>Ju i s
 | .pln _ _ _ _ _::s=>Ju i s
 | .plp _ _ _ _ _ _ _::s=>Ju i s
 | .cut _::s=>Ju i s
section
variable {P:Program} {N:NN} {R:Ql} {fr:Fr} {μ:Gh} {L:List Seg}
theorem Yj {i:Nat}: ∀{s s':List MIt},Ju i s=some s'→KS P N R s' fr μ L→BS P N R s i fr μ L
 | [],s',h,_=>by cases h
 | .blk j::s,s',h,hk=>by
  simp only[Ju] at h
  show ZH j (KS P N R s) (BS P N R s) i fr μ L
  cases hb:Nat.beq i j with
  | true =>
   rw[hb] at h
   simp only[cond_true,Option.some.injEq] at h
   subst h
   simp only[ZH,if_pos (Nat.eq_of_beq_eq_true hb)];exact hk
  | false =>
   rw[hb] at h
   simp only[ZH,if_neg (Nat.ne_of_beq_eq_false hb)]
   exact Yj (s:=s) h hk
 | .code _::s,s',h,hk=>Yj (s:=s) h hk
 | .ops _ _::s,s',h,hk=>Yj (s:=s) h hk
 | .pln _ _ _ _ _::s,s',h,hk=>Yj (s:=s) h hk
 | .plp _ _ _ _ _ _ _::s,s',h,hk=>Yj (s:=s) h hk
 | .cut _::s,s',h,hk=>Yj (s:=s) h hk
end
inductive Out where
 | ok (s:List MIt) (fr:Fr) (L:List Seg) (a b:List Value)
 | bad
def evK (fr:Fr) (x:Operand) (k:Value→Out):Out:=match evV fr x with
 | some v=>k v
 | none=> .bad
def Qba (fr:Fr):List Operand→(List Value→Out)→Out
 | [],k=>k []
 | x::xs,k=>evK fr x fun v=>Qba fr xs fun vs=>k (v::vs)
def Qcw (fr:Fr):List (Nat×Operand)→(List (Nat×Value)→Out)→Out
 | [],k=>k []
 | x::xs,k=>evK fr x.2 fun v=>Qcw fr xs fun vs=>k ((x.1,v)::vs)
def VJ:Nat→List Value→(List Value→Out)→Out
 | 0,_,k=>k []
 | _+1,[],_=> .bad
 | n+1,v::r,k=>VJ n r fun t=>k (v::t)
def Vk:Nat→List Value→(List Value→Out)→Out
 | 0,l,k=>k l
 | _+1,[],_=> .bad
 | n+1,_::r,k=>Vk n r k
def Qbl:Nat→List Value→(Value→Out)→Out
 | _,[],_=> .bad
 | 0,v::_,k=>k v
 | n+1,_::r,k=>Qbl n r k
def Qbz:List Value→Nat→List Value→(List Value→Out)→Out
 | cs,_,[],k=>k cs
 | [],_,_::_,_=> .bad
 | c::r,0,v::vs,k=>Qbz r 0 vs fun t=>k (v::t)
 | c::r,o+1,v::vs,k=>Qbz r o (v::vs) fun t=>k (c::t)
def WT (v:Value) (k:List Value→Out):Out:=match v with
 | .agg ⟨cs⟩=>k cs
 | .bool b=>k [.bool b]
 | .int kd n=>k [.int kd n]
 | .string s=>k [.string s]
 | .pointer a=>k [.pointer a]
 | .slice a n c=>k [.slice a n c]
 | .map r=>k [.map r]
 | .func f a b=>k [.func f a b]
 | .nilFunc=>k [.nilFunc]
 | _=> .bad
def Qbx:IntKind→IntKind→Bool
 | .i8,.i8=>true | .i16,.i16=>true | .i32,.i32=>true | .i64,.i64=>true
 | .u8,.u8=>true | .u16,.u16=>true | .u32,.u32=>true | .u64,.u64=>true
 | _,_=>false
def J7 (x y:Value) (k:IntKind→Int→Int→Out):Out:=match x,y with
 | .int kd a,.int kd' b=>(match Qbx kd kd' with | true=>k kd a b | false=> .bad)
 | _,_=> .bad
def Zg (b:Bool) (x:Out):Out:=match b with | true=>x | false=> .bad
def tyK (T:TT) (t:TypeId) (k:TyI→Out):Out:=match T t with | some i=>k i | none=> .bad
def eqV (T:TT) (t:TypeId) (x y:Value) (k:Bool→Out):Out:=match x,y with
 | .int kd a,.int kd' b=>Zg (Qbx kd kd') (k (decide (a=b)))
 | .bool a,.bool b=>tyK T t fun i=>Zg (VY i.u) (k (a==b))
 | .pointer none,.pointer none=>tyK T t fun i=>Zg (JM i.u) (k true)
 | .pointer (some _),.pointer none=>tyK T t fun i=>Zg (JM i.u) (k false)
 | _,_=> .bad
def Qcr (T:TT) (op:BinOp) (t:TypeId) (x y:Value) (k:Value→Out):Out:=match op with
 | .add=>J7 x y fun kd a b=>k (.int kd (kd.wrap (a+b)))
 | .sub=>J7 x y fun kd a b=>k (.int kd (kd.wrap (a-b)))
 | .mul=>J7 x y fun kd a b=>k (.int kd (kd.wrap (a*b)))
 | .lss=>J7 x y fun kd a b=>k (.bool (decide (a<b)))
 | .leq=>J7 x y fun kd a b=>k (.bool (decide (a≤b)))
 | .gtr=>J7 x y fun kd a b=>k (.bool (decide (b<a)))
 | .geq=>J7 x y fun kd a b=>k (.bool (decide (b≤a)))
 | .eql=>eqV T t x y fun b=>k (.bool b)
 | .neq=>eqV T t x y fun b=>k (.bool !b)
 | _=> .bad
def Qag (pl:Nat→Option (Nat×Nat)) (cells:List Value) (parts:List (Nat×Value)) (k:List Value→Out):Out:=match parts with
 | []=>k cells
 | p::r=>match pl p.1 with
  | some (q1,q2)=>WT p.2 fun vs=>Zg (Nat.beq vs.length q2) <| Zg (Nat.blt 0 q2) (Qbz cells q1 vs fun cells'=>Qag pl cells' r k)
  | none=> .bad
def Qcx (T:TT) (s:TypeId) (f:Nat) (k:Nat→Nat→Bool→Out):Out:=tyK T s fun i=>Zg (Y7 i.u) (match i.flds[f]? with
 | some (some (q1,q2,q3))=>k q1 q2 q3
 | _=> .bad)
def opV (T:TT) (fr:Fr) (o:Op) (k:Value→Out):Out:=match o with
 | .move x=>evK fr x k
 | .assign x=>evK fr x k
 | .nilCheck x=>evK fr x fun v=>(match v with
  | .pointer (some a)=>k (.pointer (some a))
  | .func (.func f) fi ca=>k (.func (.func f) fi ca)
  | _=> .bad)
 | .binOp op t x y _=>evK fr x fun a=>evK fr y fun b=>Qcr T op t a b k
 | .unOp .not _ x=>evK fr x fun a=>(match a with | .bool b=>k (.bool !b) | _=> .bad)
 | .unOp .neg _ x=>evK fr x fun a=>(match a with | .int kd n=>k (.int kd (kd.wrap (0-n))) | _=> .bad)
 | .convert s d x=>evK fr x fun a=>(match a with
  | .int _ n=>tyK T s fun _=>tyK T d fun i=>(match i.u with | .int kd=>k (.int kd (kd.wrap n)) | _=> .bad)
  | _=> .bad)
 | .build t ps=>Qcw fr ps.toList fun vs=>tyK T t fun i=>Zg (Y7 i.u) (Zg (i.flds.all (·.isSome)) (Qag (Qbp i) i.zero.cells.toList vs fun cs=>k (.agg ⟨cs⟩)))
 | .fieldAddr s x f=>evK fr x fun v=>(match v with
  | .pointer (some a)=>Qcx T s f fun q1 q2 _=>(match Nat.beq q2 0 with
   | false=>(match Nat.beq q1 0 with | true=>k (.pointer (some a)) | false=>k (.pointer (some (a.add q1))))
   | true=> .bad)
  | _=> .bad)
 | .field s x f=>evK fr x fun v=>(match v with
  | .agg ⟨cs⟩=>Qcx T s f fun q1 q2 q3=>(match q3 with
   | true=>Vk q1 cs fun d=>VJ q2 d fun vs=>k (.agg ⟨vs⟩)
   | false=>Qbl q1 cs k)
  | _=> .bad)
 | .extract x i=>evK fr x fun v=>(match v with | .tuple ⟨vs⟩=>Qbl i vs k | _=> .bad)
 | .makeFunc f fi ca=>Qba fr fi.toList fun a=>Qba fr ca.toList fun b=>k (.func f ⟨a⟩ ⟨b⟩)
 | .call ⟨.builtin b,args,tys⟩=>Qba fr args.toList fun vs=>(match b with
  | .len=>(match vs,tys.toList with
   | [.slice _ n _],[t]=>tyK T t fun i=>Zg (ZI i.u) (k (.int .i64 n))
   | [.string s],[t]=>tyK T t fun i=>Zg (QcA i.u) (k (.int .i64 s.size))
   | _,_=> .bad)
  | .cap=>(match vs,tys.toList with
   | [.slice _ _ c],[t]=>tyK T t fun i=>Zg (ZI i.u) (k (.int .i64 c))
   | _,_=> .bad)
  | .min=>(match vs with | [.int kd x,.int _ y]=>k (.int kd (min x y)) | _=> .bad)
  | .max=>(match vs with | [.int kd x,.int _ y]=>k (.int kd (max x y)) | _=> .bad)
  | _=> .bad)
 | _=> .bad
section
variable {fr:Fr} {o:Out}
theorem Qz {x:Operand} {k:Value→Out} (h:evK fr x k=o) (ho:o≠ .bad): ∃v,evV fr x=some v∧k v=o:=by
 unfold evK at h
 split at h
 ·exact ⟨_,by assumption,h⟩
 ·exact absurd h.symm ho
theorem ZW: ∀{xs:List Operand} {k:List Value→Out},Qba fr xs k=o→o≠ .bad→ ∃vs,Zc fr xs=some vs∧k vs=o
 | [],k,h,ho=>⟨[],rfl,h⟩
 | x::xs,k,h,ho=>by
  obtain ⟨v,h1,h2⟩:=Qz (x:=x) h ho;obtain ⟨vs,h3,h4⟩:=ZW h2 ho;exact ⟨v::vs,by simp only[Zc,h1,h3],h4⟩
theorem Wz: ∀{xs:List (Nat×Operand)} {k:List (Nat×Value)→Out},Qcw fr xs k=o→o≠ .bad→ ∃vs,WX fr xs=some vs∧k vs=o
 | [],k,h,ho=>⟨[],rfl,h⟩
 | x::xs,k,h,ho=>by
  obtain ⟨v,h1,h2⟩:=Qz (x:=x.2) h ho;obtain ⟨vs,h3,h4⟩:=Wz h2 ho;exact ⟨(x.1,v)::vs,by simp only[WX,h1,h3],h4⟩
theorem Jj: ∀{n:Nat} {l:List Value} {k:List Value→Out},VJ n l k=o→o≠ .bad→k (l.take n)=o∧(l.take n).length=n
 | 0,l,k,h,_=>⟨by simpa [VJ] using h,by simp⟩
 | n+1,[],k,h,ho=>absurd h.symm ho
 | n+1,v::r,k,h,ho=>by
  obtain ⟨h1,h2⟩:=Jj (n:=n) (l:=r) h ho;exact ⟨by simpa using h1,by simpa using h2⟩
theorem Z9: ∀{n:Nat} {l:List Value} {k:List Value→Out},Vk n l k=o→o≠ .bad→k (l.drop n)=o
 | 0,l,k,h,_=>by simpa [Vk] using h
 | n+1,[],k,h,ho=>absurd h.symm ho
 | n+1,v::r,k,h,ho=>by simpa using Z9 (n:=n) (l:=r) h ho
theorem ZX: ∀{n:Nat} {l:List Value} {k:Value→Out},Qbl n l k=o→o≠ .bad→ ∃v,l[n]? =some v∧k v=o
 | n,[],k,h,ho=>absurd (by cases n<;>exact h.symm) ho
 | 0,v::r,k,h,ho=>⟨v,rfl,h⟩
 | n+1,v::r,k,h,ho=>by simpa using ZX (n:=n) (l:=r) h ho
theorem JF (c:Value): ∀(vs r:List Value) (o:Nat),YB (c::r) (o+1) vs=c::YB r o vs
 | [],r,o=>rfl
 | v::vs,r,o=>by simp only[YB,List.set_cons_succ];exact JF c vs _ (o+1)
theorem ZZ: ∀{cs:List Value} {q:Nat} {vs:List Value} {k:List Value→Out},Qbz cs q vs k=o→o≠ .bad→k (YB cs q vs)=o∧(vs≠[]→q+vs.length≤cs.length)
 | [],q,[],k,h,ho=>⟨by cases q<;>exact h,fun h=>absurd rfl h⟩
 | c::r,q,[],k,h,ho=>⟨by cases q<;>exact h,fun h=>absurd rfl h⟩
 | [],q,v::vs,k,h,ho=>absurd (by cases q<;>exact h.symm) ho
 | c::r,0,v::vs,k,h,ho=>by
  obtain ⟨h1,h2⟩:=ZZ (cs:=r) (q:=0) (vs:=vs) h ho;refine ⟨?_,fun _=> ?_⟩
  ·rw[YB,List.set_cons_zero,Nat.zero_add,JF];exact h1
  ·cases vs with
   | nil=>simp
   | cons u us=>have:=h2 (by simp);simp at this ⊢;omega
 | c::r,q+1,v::vs,k,h,ho=>by
  obtain ⟨h1,h2⟩:=ZZ (cs:=r) (q:=q) (vs:=v::vs) h ho;refine ⟨?_,fun _=> ?_⟩
  ·rw[JF];exact h1
  ·have:=h2 (by simp);simp at this ⊢;omega
theorem JI {v:Value} {k:List Value→Out} (h:WT v k=o) (ho:o≠ .bad):k v.cells.toList=o:=by
 unfold WT at h
 split at h<;>first | exact h | exact absurd h.symm ho
theorem Wg {a b:IntKind} (h:Qbx a b=true):a=b:=by
 cases a<;>cases b<;>first | rfl | cases h
theorem JC {x y:Value} {k:IntKind→Int→Int→Out} (h:J7 x y k=o) (ho:o≠ .bad): ∃kd a b,x= .int kd a∧y= .int kd b∧k kd a b=o:=by
 unfold J7 at h
 split at h
 ·split at h
  ·rename_i hs
   have:=Wg hs;subst this;exact ⟨_,_,_,rfl,rfl,h⟩
  ·exact absurd h.symm ho
 ·exact absurd h.symm ho
theorem QB {b:Bool} {x:Out} (h:Zg b x=o) (ho:o≠ .bad):b=true∧x=o:=by
 unfold Zg at h
 split at h
 ·exact ⟨rfl,h⟩
 ·exact absurd h.symm ho
theorem Yd {T:TT} {t:TypeId} {k:TyI→Out} (h:tyK T t k=o) (ho:o≠ .bad): ∃i,T t=some i∧k i=o:=by
 unfold tyK at h
 split at h
 ·exact ⟨_,by assumption,h⟩
 ·exact absurd h.symm ho
theorem WD {T:TT} {s:TypeId} {f:Nat} {k:Nat→Nat→Bool→Out} (h:Qcx T s f k=o) (ho:o≠ .bad): ∃i q1 q2 q3,T s=some i∧Y7 i.u=true∧i.flds[f]? =some (some (q1,q2,q3))∧k q1 q2 q3=o:=by
 obtain ⟨i,h1,h2⟩:=Yd h ho;obtain ⟨h3,h4⟩:=QB h2 ho
 split at h4
 ·exact ⟨i,_,_,_,h1,h3,by assumption,h4⟩
 ·exact absurd h4.symm ho
theorem J2 {pl:Nat→Option (Nat×Nat)}: ∀{parts:List (Nat×Value)} {cells:List Value} {k:List Value→Out},Qag pl cells parts k=o→o≠ .bad→ ∃cs,k cs=o∧ ∀kk:List Value→Prop,kk cs→YO pl cells parts kk
 | [],cells,k,h,ho=>⟨cells,h,fun _ h=>h⟩
 | p::r,cells,k,h,ho=>by
  unfold Qag at h
  split at h
  ·rename_i q1 q2 hq
   have h1:=JI h ho;obtain ⟨h2,h3⟩:=QB h1 ho;obtain ⟨h8,h3⟩:=QB h3 ho;have h2:=Nat.eq_of_beq_eq_true h2;have h8:0<q2:=by simpa [Nat.blt_eq] using h8
   obtain ⟨h4,h5⟩:=ZZ h3 ho;obtain ⟨cs,h6,h7⟩:=J2 (parts:=r) h4 ho;refine ⟨cs,h6,fun kk hkk=> ?_⟩;obtain ⟨n,v⟩:=p
   simp only at hq h2 h5 h7
   refine QT (q1:=q1) (q2:=q2) hq (by rw[←h2];simp) ?_ rfl (h7 kk hkk);have:=h5 (by intro e;rw[e] at h2;simp at h2;omega)
   rw[h2] at this
   exact Nat.ble_eq_true_of_le this
  ·exact absurd h.symm ho
variable {T:TT} {P:Program} {μ:Gh} {L:List Seg}
theorem Vm {t yt:TypeId} {x y:Operand} {u w:Value} {k:Bool→Out} (h:eqV T t u w k=o) (ho:o≠ .bad) (hx:evV fr x=some u) (hy:evV fr y=some w): ∃b,k b=o ∧
  (∀kk:Value→Prop,kk (.bool b)→vcR P T (.binOp .eql t x y yt) fr μ L kk)∧ ∀kk:Value→Prop,kk (.bool !b)→vcR P T (.binOp .neq t x y yt) fr μ L kk:=by
 unfold eqV at h
 split at h
 ·obtain ⟨h1,h2⟩:=QB h ho;have:=Wg h1;subst this;exact ⟨_,h2,fun kk hk=>Qb9 hx hy hk,fun kk hk=>Qco hx hy hk⟩
 ·obtain ⟨i,h1,h2⟩:=Yd h ho;obtain ⟨h3,h4⟩:=QB h2 ho;exact ⟨_,h4,fun kk hk=>Qb8 hx hy h1 h3 hk,fun kk hk=>Qcl hx hy h1 h3 hk⟩
 ·obtain ⟨i,h1,h2⟩:=Yd h ho;obtain ⟨h3,h4⟩:=QB h2 ho;exact ⟨_,h4,fun kk hk=>VN hx hy h1 h3 hk,fun kk hk=>Qcm hx hy h1 h3 hk⟩
 ·obtain ⟨i,h1,h2⟩:=Yd h ho;obtain ⟨h3,h4⟩:=QB h2 ho;exact ⟨_,h4,fun kk hk=>VO hx hy h1 h3 hk,fun kk hk=>Qcn hx hy h1 h3 hk⟩
 ·exact absurd h.symm ho
theorem QaA {op:BinOp} {t yt:TypeId} {x y:Operand} {u w:Value} {k:Value→Out} (h:Qcr T op t u w k=o) (ho:o≠ .bad) (hx:evV fr x=some u) (hy:evV fr y=some w) :
  ∃v,k v=o∧ ∀kk:Value→Prop,kk v→vcR P T (.binOp op t x y yt) fr μ L kk:=by
 cases op<;>simp only[Qcr] at h<;>try exact absurd h.symm ho
 case eql=>obtain ⟨b,h1,h2,_⟩:=Vm (P:=P) (μ:=μ) (L:=L) (yt:=yt) h ho hx hy;exact ⟨_,h1,h2⟩
 case neq=>obtain ⟨b,h1,_,h2⟩:=Vm (P:=P) (μ:=μ) (L:=L) (yt:=yt) h ho hx hy;exact ⟨_,h1,h2⟩
 all_goals
  obtain ⟨kd,a,b,rfl,rfl,h1⟩:=JC h ho;refine ⟨_,h1,fun kk hk=> ?_⟩
 case add=>exact QcP hx hy hk
 case sub=>exact Qc5 hx hy hk
 case mul=>exact QcY hx hy hk
 case lss=>exact Qcg hx hy hk
 case leq=>exact Qcf hx hy hk
 case gtr=>exact Qcc hx hy hk
 case geq=>exact Qcb hx hy hk
theorem ZM {α:Type} {a:Array α} {x:α} (h:a.toList=[x]):a= #[x]:=by rw[←Array.toList_inj];simp[h]
theorem Qbm {op:Op} {k:Value→Out} (h:opV T fr op k=o) (ho:o≠ .bad): ∃v,k v=o∧Vs op=true∧ ∀kk:Value→Prop,kk v→vcR P T op fr μ L kk:=by
 cases op with
 | move x=>obtain ⟨v,h1,h2⟩:=Qz h ho;exact ⟨v,h2,rfl,fun kk hk=>VQ h1 hk⟩
 | assign x=>obtain ⟨v,h1,h2⟩:=Qz h ho;exact ⟨v,h2,rfl,fun kk hk=>Jl h1 hk⟩
 | nilCheck x =>
  obtain ⟨v,h1,h2⟩:=Qz h ho
  split at h2
  ·exact ⟨_,h2,rfl,fun kk hk=>VR h1 hk⟩
  ·exact ⟨_,h2,rfl,fun kk hk=>Qcp h1 hk⟩
  ·exact absurd h2.symm ho
 | binOp op t x y yt =>
  obtain ⟨u,h1,h2⟩:=Qz h ho;obtain ⟨w,h3,h4⟩:=Qz h2 ho;obtain ⟨v,h5,h6⟩:=QaA (P:=P) (μ:=μ) (L:=L) (yt:=yt) h4 ho h1 h3;exact ⟨v,h5,rfl,h6⟩
 | unOp op t x =>
  cases op<;>simp only[opV] at h<;>try exact absurd h.symm ho
  case not =>
   obtain ⟨v,h1,h2⟩:=Qz h ho
   split at h2
   ·exact ⟨_,h2,rfl,fun kk hk=>Qc2 h1 hk⟩
   ·exact absurd h2.symm ho
  case neg =>
   obtain ⟨v,h1,h2⟩:=Qz h ho
   split at h2
   ·exact ⟨_,h2,rfl,fun kk hk=>Qc0 h1 hk⟩
   ·exact absurd h2.symm ho
 | convert s d x =>
  obtain ⟨v,h1,h2⟩:=Qz h ho
  split at h2
  ·obtain ⟨j,h3,h4⟩:=Yd h2 ho;obtain ⟨i,h5,h6⟩:=Yd h4 ho
   split at h6
   ·exact ⟨_,h6,rfl,fun kk hk=>Qb7 h1 h3 h5 (by assumption) hk⟩
   ·exact absurd h6.symm ho
  ·exact absurd h2.symm ho
 | build t ps =>
  obtain ⟨vs,h1,h2⟩:=Wz h ho;obtain ⟨i,h3,h4⟩:=Yd h2 ho;obtain ⟨h5,h6⟩:=QB h4 ho;obtain ⟨h7,h8⟩:=QB h6 ho;obtain ⟨cs,h9,h10⟩:=J2 h8 ho;exact ⟨_,h9,rfl,fun kk hk=>QbE h1 h3 h5 h7 (h10 _ hk)⟩
 | fieldAddr s x f =>
  obtain ⟨v,h1,h2⟩:=Qz h ho
  split at h2
  ·obtain ⟨i,q1,q2,q3,h3,h4,h5,h6⟩:=WD h2 ho
   split at h6
   ·rename_i h7
    split at h6
    ·rename_i h8
     have:=Nat.eq_of_beq_eq_true h8;subst this;exact ⟨_,h6,rfl,fun kk hk=>QcS h1 h3 h4 h5 h7 hk⟩
    ·exact ⟨_,h6,rfl,fun kk hk=>Qca h1 h3 h4 h5 h7 hk⟩
   ·exact absurd h6.symm ho
  ·exact absurd h2.symm ho
 | field s x f =>
  obtain ⟨v,h1,h2⟩:=Qz h ho
  split at h2
  ·obtain ⟨i,q1,q2,q3,h3,h4,h5,h6⟩:=WD h2 ho;cases q3 with
   | true =>
    have h7:=Z9 h6 ho;obtain ⟨h8,_⟩:=Jj h7 ho;exact ⟨_,h8,rfl,fun kk hk=>Qa0 h1 h3 h4 h5 rfl hk⟩
   | false =>
    obtain ⟨u,h7,h8⟩:=ZX h6 ho;exact ⟨_,h8,rfl,fun kk hk=>QbF h1 h3 h4 h5 h7 hk⟩
  ·exact absurd h2.symm ho
 | extract x i =>
  obtain ⟨v,h1,h2⟩:=Qz h ho
  split at h2
  ·obtain ⟨u,h7,h8⟩:=ZX h2 ho;exact ⟨_,h8,rfl,fun kk hk=>QcR h1 h7 hk⟩
  ·exact absurd h2.symm ho
 | makeFunc f fi ca =>
  obtain ⟨a,h1,h2⟩:=ZW h ho;obtain ⟨b,h3,h4⟩:=ZW h2 ho;exact ⟨_,h4,rfl,fun kk hk=>Qa1 h1 h3 hk⟩
 | call c =>
  obtain ⟨ce,args,tys⟩:=c;cases ce with
  | value f=>exact absurd h.symm ho
  | invoke r m=>exact absurd h.symm ho
  | builtin b =>
   obtain ⟨vs,h1,h2⟩:=ZW h ho;cases b<;>simp only at h2<;>try exact absurd h2.symm ho
   case len =>
    split at h2
    ·rename_i ht
     obtain ⟨i,h3,h4⟩:=Yd h2 ho;obtain ⟨h5,h6⟩:=QB h4 ho;have:=ZM ht;subst this;exact ⟨_,h6,rfl,fun kk hk=>Qce h1 h3 h5 hk⟩
    ·rename_i ht
     obtain ⟨i,h3,h4⟩:=Yd h2 ho;obtain ⟨h5,h6⟩:=QB h4 ho;have:=ZM ht;subst this;exact ⟨_,h6,rfl,fun kk hk=>Qcd h1 h3 h5 hk⟩
    ·exact absurd h2.symm ho
   case cap =>
    split at h2
    ·rename_i ht
     obtain ⟨i,h3,h4⟩:=Yd h2 ho;obtain ⟨h5,h6⟩:=QB h4 ho;have:=ZM ht;subst this;exact ⟨_,h6,rfl,fun kk hk=>QcQ h1 h3 h5 hk⟩
    ·exact absurd h2.symm ho
   case min =>
    split at h2
    ·exact ⟨_,h2,rfl,fun kk hk=>Qck h1 hk⟩
    ·exact absurd h2.symm ho
   case max =>
    split at h2
    ·exact ⟨_,h2,rfl,fun kk hk=>Qci h1 hk⟩
    ·exact absurd h2.symm ho
 | _=>exact absurd h.symm ho
end
end Go.Proofs.Ytpghcnpheabbgaa
namespace Go.Proofs.Ytpghcnpheabbgaa
open Go.RowKit
set_option linter.unusedSimpArgs false
set_option linter.unusedVariables false
abbrev Els:=List (Addr×List Value)
def Z4 (n:Nat) (dst:Option Tmp) (v:Value) (fr:Fr) (k:Fr→Out):Out:=match dst with
 | none=>k fr
 | some d=>Zg (Nat.blt d n) (k ((d,v)::fr))
def Qbj:List (Nat×Bool)→Nat→Option Bool
 | [],_=>none
 | (s,v)::r,t=>bif Nat.beq s t then some v else Qbj r t
def QbI (kn:List (Nat×Bool)) (fr:Fr) (d:Nat) (a b:List Value) (k:Bool→List Value→List Value→Out):Out:=match Yh fr d with
 | some (.bool z)=>(match Qbj kn d with | some t=>k t (.bool z::a) (.bool t::b) | none=> .bad)
 | _=> .bad
def gdO (kn:List (Nat×Bool)) (all:List Oper) (fr:Fr) (g:Option (Nat×Bool)) (a b:List Value) (yes no:List Value→List Value→Out):Out:=match g with
 | none=>yes a b
 | some (j,w)=>match JK all j with
  | some d=>(match Yh fr d with
   | some (.bool z)=>(match Qbj kn d with
    | some true=>(match w with | true=>yes (.bool z::a) (.bool true::b) | false=>no (.bool z::a) (.bool true::b))
    | some false=>(match w with | true=>no (.bool z::a) (.bool false::b) | false=>yes (.bool z::a) (.bool false::b))
    | none=> .bad)
   | some (.tuple _)=>no a b
   | _=> .bad)
  | none=> .bad
def Je:List Seg→Nat→Option Seg
 | [],_=>none
 | s::_,0=>some s
 | _::r,n+1=>Je r n
def W5:List Seg→Nat→Seg→List Seg
 | [],_,_=>[]
 | _::r,0,t=>t::r
 | s::r,n+1,t=>s::W5 r n t
def QbP:Els→Nat→Option (Addr×List Value)
 | [],_=>none
 | s::_,0=>some s
 | _::r,n+1=>QbP r n
def Qau (i:TyI) (off:Nat) (cs:List Value) (k:Value→Out):Out:=match Wm i.u with
 | true=>Vk off cs fun d=>VJ i.size d fun vs=>k (.agg ⟨vs⟩)
 | false=>Qbl off cs k
def Qai (T:TT) (els:Els) (L:List Seg) (t:TypeId) (v:Value) (h:Nat) (a b:List Value) (k:Value→List Value→List Value→Out):Out:=match v with
 | .pointer (some ad)=>tyK T t fun i=>(match Nat.blt h 64 with
  | true=>(match ad with
   | ⟨g,off,none⟩=>(match Je L h with
    | some ((g',.cells ⟨cs⟩ _ _)::_)=>Qau i off cs fun u=>k u (.map (some g)::a) (.map (some g')::b)
    | _=> .bad)
   | _=> .bad)
  | false=>(match QbP els (h/64-1) with
   | some (ad',cs)=>Qau i (h%64) cs fun u=>(match Nat.beq (h%64) 0 with
    | true=>k u (.pointer (some ad)::a) (.pointer (some ad')::b)
    | false=>k u (.pointer (some ad)::a) (.pointer (some (ad'.add (h%64)))::b))
   | none=> .bad))
 | _=> .bad
def QbQ:List Value→Bool
 | []=>true
 | v::r=>match v.oneCell' with | true=>QbQ r | false=>false
def V7 (T:TT) (L:List Seg) (t:TypeId) (p v:Value) (h:Nat) (a b:List Value) (k:List Seg→List Value→List Value→Out):Out:=match p with
 | .pointer (some ⟨g,off,none⟩)=>tyK T t fun i=>WT v fun vs=>Zg (Nat.beq vs.length i.size) (Zg (QbQ vs) (Zg (Nat.blt 0 i.size) (match Je L h with
  | some ((g',.cells ⟨cs⟩ e (0,0))::r)=>Qbz cs off vs fun cs'=>k (W5 L h ((g',.cells ⟨cs'⟩ e (0,0))::r)) (.map (some g)::a) (.map (some g')::b)
  | _=> .bad)))
 | _=> .bad
def nz (b:Int):Bool:=match b with | .ofNat (_+1)=>true | .negSucc _=>true | _=>false
def rdO (T:TT) (n:Nat) (kn:List (Nat×Bool)) (els:Els) (hs:List Nat) (fr:Fr) (L:List Seg) (op:Op) (dst:Option Tmp) (a b:List Value) (k:List Nat→Fr→List Value→List Value→Out):Out:=match op with
 | .load t x=>(match hs with
  | h::hs=>evK fr x fun v=>Qai T els L t v h a b fun u a b=>Z4 n dst u fr fun fr=>k hs fr a b
  | []=> .bad)
 | .pick (.tmp d) x y=>QbI kn fr d a b fun t a b=>(match t with
  | true=>evK fr x fun v=>Z4 n dst v fr fun fr=>k hs fr a b
  | false=>evK fr y fun v=>Z4 n dst v fr fun fr=>k hs fr a b)
 | .binOp .quo t x y yt=>(match hs with
  | _::hs=>evK fr x fun u=>evK fr y fun w=>J7 u w fun kd p q=>Zg (nz q) (Z4 n dst (.int kd (kd.wrap (p.tdiv q))) fr fun fr=>k hs fr a b)
  | []=> .bad)
 | .binOp .rem t x y yt=>(match hs with
  | _::hs=>evK fr x fun u=>evK fr y fun w=>J7 u w fun kd p q=>Zg (nz q) (Z4 n dst (.int kd (p.tmod q)) fr fun fr=>k hs fr a b)
  | []=> .bad)
 | op=>opV T fr op fun v=>Z4 n dst v fr fun fr=>k hs fr a b
def Qcz (c:Code):Bool:=match c with | .loop _=>true | _=>false
def Qa8 (kn:List (Nat×Bool)) (c:Code) (s:List MIt) (fr:Fr) (a b:List Value) (k:List MIt→List Value→List Value→Out):Out:=match c with
 | .skip=>k s a b
 | .seq x y=>k (.code x:: .code y::s) a b
 | .region _ ⟨ops⟩ false=>k (.ops ops ops::s) a b
 | .cond (.tmp d) x y=>QbI kn fr d a b fun t a b=>(match t with | true=>k (.code x::s) a b | false=>k (.code y::s) a b)
 | .cond (.const (.bool true)) x _=>k (.code x::s) a b
 | .cond (.const (.bool false)) _ y=>k (.code y::s) a b
 | .block i c=>(match Qcz c with | true=> .bad | false=>k (.code c:: .blk i::s) a b)
 | .exit i=>(match Ju i s with | some s'=>k s' a b | none=> .bad)
 | .scope c=>k (.code c::s) a b
 | .label _=>k s a b
 | _=> .bad
def Qaf (s:List MIt) (els:Els):Els:=match s with | .pln _ _ _ _ _::_=>[] | .plp _ _ _ _ _ _ _::_=>[] | _=>els
def Qb4 (T:TT) (n:Nat) (kn:List (Nat×Bool)) (els:Els) (hs:List Nat) (s:List MIt) (fr:Fr) (L:List Seg) (a b:List Value)
  (k:Els→List Nat→List MIt→Fr→List Seg→List Value→List Value→Out):Out:=match s with
 | .ops all (o::r)::s=>gdO kn all fr o.guard a b
   (fun a b=>match o.op with
    | .store t x y=>(match hs with
     | h::hs=>evK fr x fun p=>evK fr y fun v=>V7 T L t p v h a b fun L a b=>Z4 n o.dst undef fr fun fr=>k [] hs (.ops all r::s) fr L a b
     | []=> .bad)
    | op=>rdO T n kn els hs fr L op o.dst a b fun hs fr a b=>k els hs (.ops all r::s) fr L a b)
   (fun a b=>Z4 n o.dst undef fr fun fr=>k els hs (.ops all r::s) fr L a b)
 | .ops _ []::s=>k (Qaf s els) hs s fr L a b
 | .blk _::s=>k (Qaf s els) hs s fr L a b
 | .code c::s=>Qa8 kn c s fr a b fun s a b=>k (Qaf s els) hs s fr L a b
 | .pln all l ((true,i)::pl) μ0 keep::s=>(match Yc all i with
  | some o=>gdO kn all fr o.guard a b (fun a b=>rdO T n kn els hs fr keep o.op o.dst a b fun hs fr a b=>k els hs (.pln all (l.set i true) pl μ0 keep::s) fr L a b)
    (fun a b=>Z4 n o.dst undef fr fun fr=>k els hs (.pln all (l.set i true) pl μ0 keep::s) fr L a b)
  | none=> .bad)
 | .pln all l ((false,i)::pl) μ0 keep::s=>(match Yc all i with
  | some o=>gdO kn all fr o.guard a b (fun _ _=> .bad) (fun a b=>Z4 n o.dst undef fr fun fr=>k els hs (.pln all (l.set i true) pl μ0 keep::s) fr L a b)
  | none=> .bad)
 | .pln _ _ [] _ _::s=>k [] hs s fr L a b
 | .plp all l ((true,i)::pl) m l1 μ0 keep::s=>(match Yc all i with
  | some o=>gdO kn all fr o.guard a b (fun a b=>rdO T n kn els hs fr keep o.op o.dst a b fun hs fr a b=>k els hs (.plp all (l.set i true) pl m l1 μ0 keep::s) fr L a b)
    (fun a b=>Z4 n o.dst undef fr fun fr=>k els hs (.plp all (l.set i true) pl m l1 μ0 keep::s) fr L a b)
  | none=> .bad)
 | _=> .bad
def JR (T:TT) (n:Nat) (kn:List (Nat×Bool)):Nat→Els→List Nat→List MIt→Fr→List Seg→List Value→List Value→Out
 | 0,_,_,s,fr,L,a,b=> .ok s fr L a b
 | m+1,els,hs,s,fr,L,a,b=>Qb4 T n kn els hs s fr L a b (JR T n kn m)
def cxM (s:List MIt) (μ:Gh):Gh:=match s with | .pln _ _ _ μ0 _::_=>μ0 | .plp _ _ _ _ _ μ0 _::_=>μ0 | _=>μ
def cxL (s:List MIt) (L:List Seg):List Seg:=match s with | .pln _ _ _ _ keep::_=>keep | .plp _ _ _ _ _ _ keep::_=>keep | _=>L
theorem JU {μ:Gh} {L:List Seg} {els:Els} (h: ∀p∈els,QI μ L p.1 p.2) (s:List MIt): ∀p∈Qaf s els,QI (cxM s μ) (cxL s L) p.1 p.2:=by
 cases s with
 | nil=>exact h
 | cons i s=>cases i<;>first | exact h | (intro p hp;cases hp)
def Wv (μ:Gh) (L:List Seg) (els:Els):Prop:= ∀p∈els,QI μ L p.1 p.2
section
variable {fr:Fr} {o:Out} {a b:List Value}
theorem QW {N:NN} {dst:Option Tmp} {v:Value} {k:Fr→Out} (h:Z4 N.n dst v fr k=o) (ho:o≠ .bad): ∃fr',k fr'=o∧ ∀kk:Fr→Prop,kk fr'→QQ N dst v fr kk:=by
 cases dst with
 | none=>exact ⟨fr,h,fun kk hk=>hk⟩
 | some d=>obtain ⟨h1,h2⟩:=QB h ho;exact ⟨_,h2,fun kk hk=>Zr h1 hk⟩
theorem Wy {kn:List (Nat×Bool)} {d:Nat} {k:Bool→List Value→List Value→Out} (h:QbI kn fr d a b k=o) (ho:o≠ .bad): ∃z t,Yh fr d=some (.bool z)∧k t (.bool z::a) (.bool t::b)=o:=by
 unfold QbI at h
 split at h
 ·split at h
  ·exact ⟨_,_,by assumption,h⟩
  ·exact absurd h.symm ho
 ·exact absurd h.symm ho
theorem Yg {z t:Bool} (h:Value.bool z::a= .bool t::b):z=t∧a=b:=by
 injection h with h1 h2;injection h1 with h1;exact ⟨h1,h2⟩
theorem Jp {kn:List (Nat×Bool)} {all:List Oper} {g:Option (Nat×Bool)} {yes no:List Value→List Value→Out} (h:gdO kn all fr g a b yes no=o) (ho:o≠ .bad) :
  ∃a' b',(a'=b'→a=b)∧((yes a' b'=o∧ ∀y n:Prop,a'=b'→y→QV all fr g y n)∨(no a' b'=o∧ ∀y n:Prop,a'=b'→n→QV all fr g y n)):=by
 unfold gdO at h
 split at h
 ·exact ⟨a,b,id,.inl ⟨h,fun y n _ hy=>hy⟩⟩
 ·rename_i j w
  split at h
  ·rename_i d hd
   split at h
   ·rename_i z hz
    split at h
    ·refine ⟨.bool z::a,.bool true::b,fun e=>(Yg e).2,?_⟩;cases w with
     | true=>exact .inl ⟨h,fun y n e hy=>by simp only[QV,hd,hz,(Yg e).1];exact hy⟩
     | false=>exact .inr ⟨h,fun y n e hy=>by simp only[QV,hd,hz,(Yg e).1];exact hy⟩
    ·refine ⟨.bool z::a,.bool false::b,fun e=>(Yg e).2,?_⟩;cases w with
     | true=>exact .inr ⟨h,fun y n e hy=>by simp only[QV,hd,hz,(Yg e).1];exact hy⟩
     | false=>exact .inl ⟨h,fun y n e hy=>by simp only[QV,hd,hz,(Yg e).1];exact hy⟩
    ·exact absurd h.symm ho
   ·rename_i hz
    exact ⟨a,b,id,.inr ⟨h,fun y n _ hy=>by simp only[QV,hd,hz];exact hy⟩⟩
   ·exact absurd h.symm ho
  ·exact absurd h.symm ho
theorem Js: ∀(L:List Seg) (i:Nat),Je L i=L[i]?
 | [],i=>by simp[Je]
 | s::r,0=>by simp[Je]
 | s::r,i+1=>by simp[Je,Js r i]
theorem JT: ∀(L:List Seg) (i:Nat) (t:Seg),W5 L i t=L.set i t
 | [],i,t=>by simp[W5]
 | s::r,0,t=>by simp[W5]
 | s::r,i+1,t=>by simp[W5,JT r i t]
theorem VA: ∀{els:Els} {i:Nat} {p:Addr×List Value},QbP els i=some p→p∈els
 | [],i,p,h=>by cases h
 | s::r,0,p,h=>by simp only[QbP,Option.some.injEq] at h;simp[h]
 | s::r,i+1,p,h=>by simp[VA (els:=r) h]
variable {T:TT} {P:Program} {μ:Gh} {L:List Seg}
theorem Wj {i:TyI} {off:Nat} {cs:List Value} {k:Value→Out} (h:Qau i off cs k=o) (ho:o≠ .bad) :
  ∃u,k u=o∧ ∀{t:TypeId} {x:Operand} {ad:Addr} (kk:Value→Prop),evV fr x=some (.pointer (some ad))→T t=some i→(∀j v,(cs.drop off)[j]? =some v→Zb μ L (ad.add j) v)→kk u→vcR P T (.load t x) fr μ L kk:=by
 unfold Qau at h
 split at h
 ·rename_i hag
  have h1:=Z9 h ho;obtain ⟨h2,h3⟩:=Jj h1 ho;refine ⟨_,h2,fun kk hx hT hc hk=>Qab hx hT hag rfl (Ex.mk _ ⟨h3,fun j v hj=>hc j v ?_⟩ hk)⟩
  rw[List.getElem?_take] at hj
  split at hj
  ·exact hj
  ·cases hj
 ·rename_i hag
  obtain ⟨v,h1,h2⟩:=ZX h ho;refine ⟨v,h2,fun kk hx hT hc hk=>WS hx hT hag (Ex.mk v ?_ hk)⟩;have:=hc 0 v (by rw[List.getElem?_drop];simpa using h1)
  rwa [Addr.add_zero'] at this
theorem W1 {g g':Nat} (h:Value.map (some g)::a= .map (some g')::b):g=g'∧a=b:=by
 injection h with h1 h2;injection h1 with h1;injection h1 with h1;exact ⟨h1,h2⟩
theorem W2 {g g':Addr} (h:Value.pointer (some g)::a= .pointer (some g')::b):g=g'∧a=b:=by
 injection h with h1 h2;injection h1 with h1;injection h1 with h1;exact ⟨h1,h2⟩
theorem Wb {els:Els} {t:TypeId} {v:Value} {h:Nat} {x:Operand} {k:Value→List Value→List Value→Out} (hr:Qai T els L t v h a b k=o) (ho:o≠ .bad) (hx:evV fr x=some v) (hel:Wv μ L els) :
  ∃u a' b',(a'=b'→a=b)∧k u a' b'=o∧ ∀kk:Value→Prop,a'=b'→kk u→vcR P T (.load t x) fr μ L kk:=by
 unfold Qai at hr
 split at hr
 ·rename_i ad
  obtain ⟨i,hT,hr⟩:=Yd hr ho
  split at hr
  ·split at hr
   ·rename_i g off
    split at hr
    ·rename_i g' cs e f r hL
     rw[Js] at hL
     obtain ⟨u,h1,h2⟩:=Wj (fr:=fr) (T:=T) (P:=P) (μ:=μ) (L:=L) hr ho;refine ⟨u,_,_,fun e=>(W1 e).2,h1,fun kk e hk=>h2 kk hx hT (fun j v hj=> ?_) hk⟩;obtain ⟨rfl,_⟩:=W1 e
     rw[Yw]
     refine Zb.seg h 0 hL rfl ?_
     rw[List.getElem?_drop] at hj
     exact hj
    ·exact absurd hr.symm ho
   ·exact absurd hr.symm ho
  ·split at hr
   ·rename_i ad' cs he
    obtain ⟨u,h1,h2⟩:=Wj (fr:=fr) (T:=T) (P:=P) (μ:=μ) (L:=L) hr ho;have hc:QI μ L ad' cs:=hel _ (VA he)
    split at h1
    ·rename_i hz
     have hz:=Nat.eq_of_beq_eq_true hz;refine ⟨u,_,_,fun e=>(W2 e).2,h1,fun kk e hk=>h2 kk hx hT (fun j v hj=> ?_) hk⟩;obtain ⟨rfl,_⟩:=W2 e
     rw[hz] at hj
     exact hc j v (by simpa using hj)
    ·refine ⟨u,_,_,fun e=>(W2 e).2,h1,fun kk e hk=>h2 kk hx hT (fun j v hj=> ?_) hk⟩;obtain ⟨rfl,_⟩:=W2 e
     rw[Addr.add_add']
     refine hc _ v ?_
     rw[List.getElem?_drop] at hj
     exact hj
   ·exact absurd hr.symm ho
 ·exact absurd hr.symm ho
theorem WJ: ∀{vs:List Value},QbQ vs=true→vs.all (·.oneCell')=true
 | [],_=>rfl
 | v::r,h=>by
  unfold QbQ at h
  split at h
  ·rename_i h1;simp only[List.all_cons,h1,WJ h,Bool.and_self]
  ·cases h
theorem VH {t:TypeId} {p v:Value} {h:Nat} {x y:Operand} {ty:TypeId} {k:List Seg→List Value→List Value→Out} (hr:V7 T L t p v h a b k=o) (ho:o≠ .bad) (hx:evV fr x=some p) (hy:evV fr y=some v) :
  ∃L' a' b',(a'=b'→a=b)∧k L' a' b'=o∧ ∀kk:Value→Gh→List Seg→Prop,a'=b'→kk undef μ L'→vcO P T (.store t x y) ty fr μ L kk:=by
 unfold V7 at hr
 split at hr
 ·rename_i g off
  obtain ⟨i,hT,hr⟩:=Yd hr ho;have hr:=JI hr ho;obtain ⟨h1,hr⟩:=QB hr ho;obtain ⟨h2,hr⟩:=QB hr ho;obtain ⟨h3,hr⟩:=QB hr ho;have h1:=Nat.eq_of_beq_eq_true h1;have h3:0<i.size:=by simpa [Nat.blt_eq] using h3
  split at hr
  ·rename_i g' cs e r hL
   rw[Js] at hL
   obtain ⟨h4,h5⟩:=ZZ hr ho;refine ⟨_,_,_,fun e=>(W1 e).2,h4,fun kk e hk=> ?_⟩;obtain ⟨rfl,_⟩:=W1 e;refine Y6 hx hy hT (by simpa using h1) (WJ h2) rfl (Ex.mk _ (ZG.seg h 0 hL rfl ?_) ?_)
   ·have:=h5 (by intro e;rw[e] at h1;simp at h1;omega)
    simpa using this
   ·rw[JT] at hk
    exact hk
  ·exact absurd hr.symm ho
 ·exact absurd hr.symm ho
theorem Qal {q:Int} (h:nz q=true):q≠0:=by
 cases q with
 | ofNat n =>
  cases n with
  | zero=>cases h
  | succ n=>exact fun e=>Nat.succ_ne_zero n (Int.ofNat.inj e)
 | negSucc n=>intro e;cases e
theorem We {N:NN} {kn:List (Nat×Bool)} {els:Els} {hs:List Nat} {op:Op} {dst:Option Tmp} {k:List Nat→Fr→List Value→List Value→Out} (hr:rdO T N.n kn els hs fr L op dst a b k=o) (ho:o≠ .bad) (hel:Wv μ L els) :
  ∃hs' fr' a' b',(a'=b'→a=b)∧k hs' fr' a' b'=o∧Vs op=true∧ ∀kk:Fr→Prop,a'=b'→kk fr'→vcR P T op fr μ L fun v=>QQ N dst v fr kk:=by
 unfold rdO at hr
 split at hr
 ·split at hr
  ·obtain ⟨v,h1,hr⟩:=Qz hr ho;obtain ⟨u,a',b',h2,hr,h3⟩:=Wb (P:=P) (μ:=μ) hr ho h1 hel;obtain ⟨fr',h4,h5⟩:=QW hr ho;exact ⟨_,fr',a',b',h2,h4,rfl,fun kk e hk=>h3 _ e (h5 kk hk)⟩
  ·exact absurd hr.symm ho
 ·obtain ⟨z,t,hz,hr⟩:=Wy hr ho;cases t with
  | true =>
   obtain ⟨v,h1,hr⟩:=Qz hr ho;obtain ⟨fr',h4,h5⟩:=QW hr ho;exact ⟨_,fr',_,_,fun e=>(Yg e).2,h4,rfl,fun kk e hk=>Qa3 (by rw[←(Yg e).1];exact hz) h1 (h5 kk hk)⟩
  | false =>
   obtain ⟨v,h1,hr⟩:=Qz hr ho;obtain ⟨fr',h4,h5⟩:=QW hr ho;exact ⟨_,fr',_,_,fun e=>(Yg e).2,h4,rfl,fun kk e hk=>Qa2 (by rw[←(Yg e).1];exact hz) h1 (h5 kk hk)⟩
 ·split at hr
  ·obtain ⟨u,h1,hr⟩:=Qz hr ho;obtain ⟨w,h2,hr⟩:=Qz hr ho;obtain ⟨kd,p,q,e1_,e2_,hr2⟩:=JC hr ho;subst e1_ e2_;obtain ⟨h3,hr3⟩:=QB hr2 ho;obtain ⟨fr',h4,h5⟩:=QW hr3 ho;exact ⟨_,fr',_,_,id,h4,rfl,fun kk e hk=>Qc3 h1 h2 ⟨Qal h3,h5 kk hk⟩⟩
  ·exact absurd hr.symm ho
 ·split at hr
  ·obtain ⟨u,h1,hr⟩:=Qz hr ho;obtain ⟨w,h2,hr⟩:=Qz hr ho;obtain ⟨kd,p,q,e1_,e2_,hr2⟩:=JC hr ho;subst e1_ e2_;obtain ⟨h3,hr3⟩:=QB hr2 ho;obtain ⟨fr',h4,h5⟩:=QW hr3 ho;exact ⟨_,fr',_,_,id,h4,rfl,fun kk e hk=>Qc4 h1 h2 ⟨Qal h3,h5 kk hk⟩⟩
  ·exact absurd hr.symm ho
 ·obtain ⟨v,h1,h2,h3⟩:=Qbm (P:=P) (μ:=μ) (L:=L) hr ho;obtain ⟨fr',h4,h5⟩:=QW h1 ho;exact ⟨_,fr',_,_,id,h4,h2,fun kk _ hk=>h3 _ (h5 kk hk)⟩
theorem VT {N:NN} {R:Ql} {kn:List (Nat×Bool)} (hT:TOk P T) {c:Code} {s:List MIt} {k:List MIt→List Value→List Value→Out} (hr:Qa8 kn c s fr a b k=o) (ho:o≠ .bad) :
  ∃s' a' b',(a'=b'→a=b)∧k s' a' b'=o∧(a'=b'→KS P N R s' fr μ L→KS P N R (.code c::s) fr μ L):=by
 unfold Qa8 at hr
 split at hr
 ·exact ⟨_,_,_,id,hr,fun _ h=>WP.skip h⟩
 ·exact ⟨_,_,_,id,hr,fun _ h=>WP.seq h⟩
 ·exact ⟨_,_,_,id,hr,fun _ h=>WP.regionS h⟩
 ·obtain ⟨z,t,hz,hr⟩:=Wy hr ho;cases t with
  | true=>exact ⟨_,_,_,fun e=>(Yg e).2,hr,fun e h=>Jn (by rw[←(Yg e).1];exact hz) h⟩
  | false=>exact ⟨_,_,_,fun e=>(Yg e).2,hr,fun e h=>Jm (by rw[←(Yg e).1];exact hz) h⟩
 ·exact ⟨_,_,_,id,hr,fun _ h=>Jn rfl h⟩
 ·exact ⟨_,_,_,id,hr,fun _ h=>Jm rfl h⟩
 ·split at hr
  ·exact absurd hr.symm ho
  ·exact ⟨_,_,_,id,hr,fun _ h=>WP.block h⟩
 ·split at hr
  ·exact ⟨_,_,_,id,hr,fun _ h=>WP.exit (Yj (by assumption) h)⟩
  ·exact absurd hr.symm ho
 ·exact ⟨_,_,_,id,hr,fun _ h=>WP.scope h⟩
 ·exact ⟨_,_,_,id,hr,fun _ h=>WP.label h⟩
 ·exact absurd hr.symm ho
theorem WL {N:NN} {R:Ql} {kn:List (Nat×Bool)} (hT:TOk P T) {s':List MIt} {fr':Fr} {L':List Seg} {e1 e2:List Value}: ∀(m:Nat) (els:Els) (hs:List Nat) (s:List MIt) (fr:Fr) (L:List Seg) (a b:List Value),
  JR T N.n kn m els hs s fr L a b= .ok s' fr' L' e1 e2→e1=e2→Wv (cxM s μ) (cxL s L) els→a=b∧(KS P N R s' fr' μ L'→KS P N R s fr μ L)
 | 0,els,hs,s,fr,L,a,b,h,e,_=>by
  injection h with h1 h2 h3 h4 h5
  subst h1 h2 h3 h4 h5;exact ⟨e,id⟩
 | m+1,els,hs,s,fr,L,a,b,h,e,hel=>by
  have ih:=fun els hs s fr L a b (h:JR T N.n kn m els hs s fr L a b= .ok s' fr' L' e1 e2)=>WL (R:=R) hT m els hs s fr L a b h e;have ho:Out.ok s' fr' L' e1 e2≠ .bad:=by simp
  simp only[JR] at h
  unfold Qb4 at h
  split at h
  ·rename_i all op r s
   obtain ⟨a',b',h1,h2⟩:=Jp h ho;rcases h2 with ⟨h2,h3⟩ | ⟨h2,h3⟩
   ·split at h2
    ·rename_i t x y hop
     split at h2
     ·obtain ⟨p,h4,h2⟩:=Qz h2 ho;obtain ⟨v,h5,h2⟩:=Qz h2 ho;obtain ⟨L2,a2,b2,h6,h2,h7⟩:=VH (P:=P) (μ:=μ) (ty:=op.type) h2 ho h4 h5;obtain ⟨fr2,h8,h9⟩:=QW h2 ho;obtain ⟨h10,h11⟩:=ih _ _ _ _ _ _ _ h8 (fun p hp=>by cases hp);refine ⟨h1 (h6 h10),fun hk=> ?_⟩;refine YN.cons hT (h3 _ _ (h6 h10) ?_)
      rw[hop]
      exact h7 _ h10 (h9 _ (h11 hk))
     ·exact absurd h2.symm ho
    ·obtain ⟨hs2,fr2,a2,b2,h4,h5,h6,h7⟩:=We (P:=P) (μ:=μ) h2 ho hel;obtain ⟨h8,h9⟩:=ih _ _ _ _ _ _ _ h5 hel;exact ⟨h1 (h4 h8),fun hk=>YN.cons hT (h3 _ _ (h4 h8) (Z7 h6 (h7 _ h8 (h9 hk))))⟩
   ·obtain ⟨fr2,h4,h5⟩:=QW h2 ho;obtain ⟨h6,h7⟩:=ih _ _ _ _ _ _ _ h4 hel;exact ⟨h1 h6,fun hk=>YN.cons hT (h3 _ _ h6 (h5 _ (h7 hk)))⟩
  ·obtain ⟨h1,h2⟩:=ih _ _ _ _ _ _ _ h (JU hel _);exact ⟨h1,fun hk=>YN.nil (h2 hk)⟩
  ·obtain ⟨h1,h2⟩:=ih _ _ _ _ _ _ _ h (JU hel _);exact ⟨h1,h2⟩
  ·obtain ⟨s2,a',b',h1,h2,h3⟩:=VT (R:=R) (μ:=μ) (L:=L) hT h ho;obtain ⟨h4,h5⟩:=ih _ _ _ _ _ _ _ h2 (JU hel _);exact ⟨h1 h4,fun hk=>h3 h4 (h5 hk)⟩
  ·rename_i all l i pl μ0 keep s
   split at h
   ·rename_i op hi
    obtain ⟨a',b',h1,h2⟩:=Jp h ho;rcases h2 with ⟨h2,h3⟩ | ⟨h2,h3⟩
    ·obtain ⟨hs2,fr2,a2,b2,h4,h5,h6,h7⟩:=We (P:=P) (μ:=μ0) h2 ho hel;obtain ⟨h8,h9⟩:=ih _ _ _ _ _ _ _ h5 hel;exact ⟨h1 (h4 h8),fun hk=>ZF.t hT hi (h3 _ _ (h4 h8) (h7 _ h8 (h9 hk)))⟩
    ·obtain ⟨fr2,h4,h5⟩:=QW h2 ho;obtain ⟨h6,h7⟩:=ih _ _ _ _ _ _ _ h4 hel;exact ⟨h1 h6,fun hk=>ZF.t hT hi (h3 _ _ h6 (h5 _ (h7 hk)))⟩
   ·exact absurd h.symm ho
  ·rename_i all l i pl μ0 keep s
   split at h
   ·rename_i op hi
    obtain ⟨a',b',h1,h2⟩:=Jp h ho;rcases h2 with ⟨h2,h3⟩ | ⟨h2,h3⟩
    ·exact absurd h2.symm ho
    ·obtain ⟨fr2,h4,h5⟩:=QW h2 ho;obtain ⟨h6,h7⟩:=ih _ _ _ _ _ _ _ h4 hel;exact ⟨h1 h6,fun hk=>ZF.f hT hi (h3 _ _ h6 (h5 _ (h7 hk)))⟩
   ·exact absurd h.symm ho
  ·obtain ⟨h1,h2⟩:=ih _ _ _ _ _ _ _ h (fun p hp=>by cases hp);exact ⟨h1,fun hk=>ZF.nil (h2 hk)⟩
  ·rename_i all l i pl m2 l1 μ0 keep s
   split at h
   ·rename_i op hi
    obtain ⟨a',b',h1,h2⟩:=Jp h ho;rcases h2 with ⟨h2,h3⟩ | ⟨h2,h3⟩
    ·obtain ⟨hs2,fr2,a2,b2,h4,h5,h6,h7⟩:=We (P:=P) (μ:=μ0) h2 ho hel;obtain ⟨h8,h9⟩:=ih _ _ _ _ _ _ _ h5 hel;exact ⟨h1 (h4 h8),fun hk=>Jx.t hT hi (h3 _ _ (h4 h8) (h7 _ h8 (h9 hk)))⟩
    ·obtain ⟨fr2,h4,h5⟩:=QW h2 ho;obtain ⟨h6,h7⟩:=ih _ _ _ _ _ _ _ h4 hel;exact ⟨h1 h6,fun hk=>Jx.t hT hi (h3 _ _ h6 (h5 _ (h7 hk)))⟩
   ·exact absurd h.symm ho
  ·exact absurd h.symm ho
end
end Go.Proofs.Ytpghcnpheabbgaa
namespace Go.Proofs.Ytpghcnpheabbgaa
open Go.RowKit
set_option linter.unusedSimpArgs false
set_option linter.unusedVariables false
section
variable {N:NN} {R:Ql} {fr:Fr} {μ:Gh} {L:List Seg} {s s':List MIt} {fr':Fr} {L':List Seg} {e:List Value} {dst:Option Tmp} {v:Value}
theorem Z1 {a:Addr} {cs:List Value} (h:QI μ L a cs):Wv μ L [(a,cs)]:=fun p hp=>by simp only[List.mem_singleton] at hp;subst hp;exact h
def knF:List Nat→List (Nat×Bool)
 | []=>[]
 | x::r=>(x,false)::knF r
def knT:List Nat→List Nat→List (Nat×Bool)
 | [],b=>knF b
 | x::r,b=>(x,true)::knT r b
theorem G3 (m:Nat) (ka kb hs:List Nat) {els:Els} (hel:Wv (cxM s μ) (cxL s L) els) (h:JR Tt N.n (knT ka kb) m els hs s fr L [] []= .ok s' fr' L' e e) (k:KS Try.prog N R s' fr' μ L'):KS Try.prog N R s fr μ L :=
 (WL Ym m els hs s fr L [] [] h rfl hel).2 k
theorem G2 (m:Nat) (ka kb hs:List Nat) (h:JR Tt N.n (knT ka kb) m [] hs s fr L [] []= .ok s' fr' L' e e) (k:KS Try.prog N R s' fr' μ L'):KS Try.prog N R s fr μ L:=G3 m ka kb hs (fun p hp=>by cases hp) h k
theorem G1 (m:Nat) (hs:List Nat) (h:JR Tt N.n [] m [] hs s fr L [] []= .ok s' fr' L' e e) (k:KS Try.prog N R s' fr' μ L'):KS Try.prog N R s fr μ L:=G2 m [] [] hs h k
theorem G0 (m:Nat) (h:JR Tt N.n [] m [] [] s fr L [] []= .ok s' fr' L' e e) (k:KS Try.prog N R s' fr' μ L'):KS Try.prog N R s fr μ L:=G2 m [] [] [] h k
theorem Q3 (m:Nat) (ka kb hs:List Nat) {els:Els} (hel:Wv (cxM s μ) (cxL s L) els) (h:Z4 N.n dst v fr (fun f=>JR Tt N.n (knT ka kb) m els hs s f L [] [])= .ok s' fr' L' e e) (k:KS Try.prog N R s' fr' μ L'):QQ N dst v fr fun f=>KS Try.prog N R s f μ L:=by
 obtain ⟨f,h1,h2⟩:=QW h (by simp);exact h2 _ (G3 m ka kb hs hel h1 k)
theorem Q2 (m:Nat) (ka kb hs:List Nat) (h:Z4 N.n dst v fr (fun f=>JR Tt N.n (knT ka kb) m [] hs s f L [] [])= .ok s' fr' L' e e) (k:KS Try.prog N R s' fr' μ L'):QQ N dst v fr fun f=>KS Try.prog N R s f μ L:=Q3 m ka kb hs (fun p hp=>by cases hp) h k
theorem Q1 (m:Nat) (hs:List Nat) (h:Z4 N.n dst v fr (fun f=>JR Tt N.n [] m [] hs s f L [] [])= .ok s' fr' L' e e) (k:KS Try.prog N R s' fr' μ L'):QQ N dst v fr fun f=>KS Try.prog N R s f μ L:=Q2 m [] [] hs h k
theorem Q0 (m:Nat) (h:Z4 N.n dst v fr (fun f=>JR Tt N.n [] m [] [] s f L [] [])= .ok s' fr' L' e e) (k:KS Try.prog N R s' fr' μ L'):QQ N dst v fr fun f=>KS Try.prog N R s f μ L:=Q2 m [] [] [] h k
def gdB (all:List Oper) (fr:Fr) (g:Option (Nat×Bool)):Bool:=match g with
 | none=>true
 | some (j,w)=>match JK all j with
  | some d=>(match Yh fr d with | some (.bool true)=>w | some (.bool false)=> !w | _=>false)
  | none=>false
theorem Zj {all:List Oper} {g:Option (Nat×Bool)} (h:gdB all fr g=true) {y n:Prop} (hy:y):QV all fr g y n:=by
 unfold gdB at h
 split at h
 ·exact hy
 ·rename_i j w
  split at h
  ·rename_i d hd
   split at h
   ·rename_i hl;subst h;simp only[QV,hd,hl];exact hy
   ·rename_i hl;have:w=false:=by simpa using h
    subst this;simp only[QV,hd,hl];exact hy
   ·cases h
  ·cases h
def hdO (s:List MIt) (fr:Fr):Option (Bool×Oper×List MIt):=match s with
 | .ops all (o::r)::s=>(match gdB all fr o.guard with | true=>some (true,o,.ops all r::s) | false=>none)
 | .pln all l ((b,i)::pl) μ0 keep::s=>(match Yc all i with
  | some o=>(match gdB all fr o.guard with | true=>some (b,o,.pln all (l.set i true) pl μ0 keep::s) | false=>none)
  | none=>none)
 | .plp all l ((b,i)::pl) n l1 μ0 keep::s=>(match Yc all i with
  | some o=>(match gdB all fr o.guard with | true=>some (b,o,.plp all (l.set i true) pl n l1 μ0 keep::s) | false=>none)
  | none=>none)
 | _=>none
abbrev kpt (s:List MIt) (L:List Seg) (X:Prop):Prop:=match s with
 | .pln _ _ _ _ keep::_=>Yf keep L∧X
 | .plp _ _ _ _ _ _ keep::_=>Yf keep L∧X
 | _=>X
theorem Rdo {o:Oper} (h:hdO s fr=some (true,o,s')) (hr:Vs o.op=true) (k:vcR Try.prog Tt o.op fr (cxM s μ) (cxL s L) fun v=>QQ N o.dst v fr fun f=>KS Try.prog N R s' f μ L):KS Try.prog N R s fr μ L:=by
 unfold hdO at h
 split at h
 ·split at h
  ·rename_i hg
   simp only[Option.some.injEq,Prod.mk.injEq] at h
   obtain ⟨_,rfl,rfl⟩:=h;exact YN.cons Ym (Zj hg (Z7 hr k))
  ·cases h
 ·split at h
  ·rename_i ho
   split at h
   ·rename_i hg
    simp only[Option.some.injEq,Prod.mk.injEq] at h
    obtain ⟨rfl,rfl,rfl⟩:=h;exact ZF.t Ym ho (Zj hg k)
   ·cases h
  ·cases h
 ·split at h
  ·rename_i ho
   split at h
   ·rename_i hg
    simp only[Option.some.injEq,Prod.mk.injEq] at h
    obtain ⟨rfl,rfl,rfl⟩:=h;exact Jx.t Ym ho (Zj hg k)
   ·cases h
  ·cases h
 ·cases h
def hdS (s:List MIt) (fr:Fr):Option (Oper×List MIt):=match s with
 | .ops all (o::r)::s=>(match gdB all fr o.guard with | true=>some (o,.ops all r::s) | false=>none)
 | .pln all l ((false,i)::pl) μ0 keep::s=>(match Yc all i with
  | some o=>(match gdB all fr o.guard with | true=>some (o,.pln all (l.set i true) pl μ0 keep::s) | false=>none)
  | none=>none)
 | .plp all l ((false,i)::pl) n l1 μ0 keep::s=>(match Yc all i with
  | some o=>(match gdB all fr o.guard with | true=>some (o,.plp all (l.set i true) pl n l1 μ0 keep::s) | false=>none)
  | none=>none)
 | _=>none
theorem So {o:Oper} (h:hdS s fr=some (o,s')) (k:vcO Try.prog Tt o.op o.type fr μ L fun v μ' L'=>kpt s L' (QQ N o.dst v fr fun f=>KS Try.prog N R s' f μ' L')):KS Try.prog N R s fr μ L:=by
 unfold hdS at h
 split at h
 ·split at h
  ·rename_i hg
   simp only[Option.some.injEq,Prod.mk.injEq] at h
   obtain ⟨rfl,rfl⟩:=h;exact YN.cons Ym (Zj hg k)
  ·cases h
 ·split at h
  ·rename_i ho
   split at h
   ·rename_i hg
    simp only[Option.some.injEq,Prod.mk.injEq] at h
    obtain ⟨rfl,rfl⟩:=h;exact ZF.f Ym ho (Zj hg k)
   ·cases h
  ·cases h
 ·split at h
  ·rename_i ho
   split at h
   ·rename_i hg
    simp only[Option.some.injEq,Prod.mk.injEq] at h
    obtain ⟨rfl,rfl⟩:=h;exact Jx.f Ym ho (Zj hg k)
   ·cases h
  ·cases h
 ·cases h
def QbX:List MIt→Bool
 | []=>true
 | .code _::_=>true
 | .ops _ _::_=>true
 | .pln _ _ _ _ _::_=>true
 | .plp _ _ _ _ _ _ _::_=>true
 | .blk _::s=>QbX s
 | .cut _::_=>false
theorem KS.frm {F:Fr}: ∀{s:List MIt},QbX s=true→Qs F fr→KS Try.prog N R s F μ L→KS Try.prog N R s fr μ L
 | [],_,hF,h=>fun a w ha hw=>h a w (ha.sub hF) hw
 | .code _::_,_,hF,h=>fun a w ha hw=>h a w (ha.sub hF) hw
 | .ops _ _::_,_,hF,h=>fun a w Q ha hw hQ=>h a w Q (ha.sub hF) hw hQ
 | .pln _ _ _ _ _::_,_,hF,h=>fun h1 h2 h3 h4 a w Q ha hw hQ=>h h1 h2 h3 h4 a w Q (ha.sub hF) hw hQ
 | .plp _ _ _ _ _ _ _::_,_,hF,h=>fun h1 h2 h3 h4 a w Q ha hw hQ=>h h1 h2 h3 h4 a w Q (ha.sub hF) hw hQ
 | .blk _::s,hb,hF,h=>KS.frm (s:=s) hb hF h
 | .cut _::_,hb,_,_=>by cases hb
def VB:List MIt→Bool
 | []=>true
 | .code _::_=>true
 | .ops _ _::_=>true
 | .blk _::s=>VB s
 | _=>false
theorem KS.upd: ∀{s:List MIt},VB s=true→Upd μ L (fun μ' L'=>KS Try.prog N R s fr μ' L')→KS Try.prog N R s fr μ L
 | [],_,h=>fun a w ha hw=>by
  obtain ⟨μ1,L1,h1,h2,h3⟩:=h w hw;obtain ⟨f,μ2,L2,h4,h5,h6,h7⟩:=h3 a w ha h2;exact ⟨f,μ2,L2,h4,h1.trans h5,h6,h7⟩
 | .code _::_,_,h=>WP.upd h
 | .ops _ _::_,_,h=>fun a w Q ha hw hQ=>by
  obtain ⟨μ1,L1,h1,h2,h3⟩:=h w hw;exact h3 a w Q ha h2 fun fr2 μ2 L2 a2 w2 hm=>hQ fr2 μ2 L2 a2 w2 (h1.trans hm)
 | .blk _::s,hb,h=>KS.upd (s:=s) hb h
 | .pln _ _ _ _ _::_,hb,_=>by cases hb
 | .plp _ _ _ _ _ _ _::_,hb,_=>by cases hb
 | .cut _::_,hb,_=>by cases hb
theorem KS.seg {L2:List Seg} (hs:Qg L2 L) (hb:VB s=true) (h:KS Try.prog N R s fr μ L2):KS Try.prog N R s fr μ L:=KS.upd hb fun w hw=>⟨μ,L2,Gh.le.refl _,hs w μ hw,h⟩
theorem Qas: ∀{s:List MIt},VB s=true→QbX s=true
 | [],_=>rfl
 | .code _::_,_=>rfl
 | .ops _ _::_,_=>rfl
 | .blk _::s,h=>Qas (s:=s) h
theorem Att {F:Fr} {L2:List Seg} (hF:Qs F fr) (hs:Qg L2 L) (hb:VB s=true) (h:KS Try.prog N R s F μ L2):KS Try.prog N R s fr μ L:=KS.frm (Qas hb) hF (KS.seg hs hb h)
theorem Vu {d:Nat} {u:Value} (hl:Yh fr d=some u):Qs ((d,u)::fr) fr:=fun t v hv=>by
 rw[YW] at hv
 split at hv
 ·rename_i hd;simp only at hd;subst hd;rw[hl];exact hv
 ·exact hv
theorem Br {β:Type} {z:Bool} {A B r:Option β} (h:(bif z then A else B)=r) (d:Nat) (hl:Yh fr d=some (.bool z)) (hb:QbX s=true)
  (ht:z=true→A=r→KS Try.prog N R s ((d,.bool true)::fr) μ L) (hf:z=false→B=r→KS Try.prog N R s ((d,.bool false)::fr) μ L):KS Try.prog N R s fr μ L:=by
 cases z with
 | true=>exact KS.frm hb (Vu hl) (ht rfl h)
 | false=>exact KS.frm hb (Vu hl) (hf rfl h)
end
end Go.Proofs.Ytpghcnpheabbgaa
