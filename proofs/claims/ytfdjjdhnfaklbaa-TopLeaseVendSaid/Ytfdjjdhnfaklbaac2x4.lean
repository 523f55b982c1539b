/- TopLeaseVend: for every input the given law returns true, and its arguments read as before. No condition. -/
import Derived.Test.Ytfdjjdhnfaklbaac2x2
import Derived.Test.Ytfdjjdhnfaklbaac2x3
import Derived.Test.Ytfdjjdhnfaklbaac2x1
import Derived.Shelf.Small.Bits
import Derived.Shelf.Small.Wraps
import Derived.Shelf.Strconv.Itoa0
import Derived.Shelf.Sort.Plain
import Derived.Shelf.Bits.Mul64
import Derived.Ground.Names2Prog
import Derived.Shelf.Slices.SearchI
import Derived.Shelf.Slices.In.SortNone
import Derived.Test.YtfdjjdhnfaklbaaProg
import Derived.Shelf.SlGeneric
import Derived.Shelf.SlIterI.Sorted
import Derived.Ground.GgzProg
import GoSem.Core.Utf8
namespace Go.Proofs.Ytfdjjdhnfaklbaa
open Go.RowKit
set_option linter.unusedSimpArgs false
set_option linter.unusedVariables false
structure Qb where
 Code:ByteArray
 Producer:Int
 Deposit:Int
 Material:Int
 Grams:Int
deriving DecidableEq
def Wx (x:Qb):List Value:=[.string x.Code,.int .i64 x.Producer,.int .i64 x.Deposit,.int .i64 x.Material,.int .i64 x.Grams]
def QG:Rp Qb:=Qdy 5 Wx (fun _=>rfl) (by intro x u hu;simp only[Wx,List.mem_cons,List.not_mem_nil,or_false] at hu;rcases hu with rfl | rfl | rfl | rfl | rfl<;>rfl)
structure Qg where
 Product:Int
 First:Int
 Count:Int
 Retailer:Int
 At:Int
deriving DecidableEq
def Vr (x:Qg):List Value:=[.int .i64 x.Product,.int .i64 x.First,.int .i64 x.Count,.int .i64 x.Retailer,.int .i64 x.At]
def Y6:Rp Qg:=Qdy 5 Vr (fun _=>rfl) (by intro x u hu;simp only[Vr,List.mem_cons,List.not_mem_nil,or_false] at hu;rcases hu with rfl | rfl | rfl | rfl | rfl<;>rfl)
structure Qt where
 Kind:Int
 Machine:Int
 Serial:Int
 Wait:Int
 Wrong:Int
deriving DecidableEq
def Z2 (x:Qt):List Value:=[.int .i64 x.Kind,.int .i64 x.Machine,.int .i64 x.Serial,.int .i64 x.Wait,.int .i64 x.Wrong]
def Jt:Rp Qt:=Qdy 5 Z2 (fun _=>rfl) (by intro x u hu;simp only[Z2,List.mem_cons,List.not_mem_nil,or_false] at hu;rcases hu with rfl | rfl | rfl | rfl | rfl<;>rfl)
structure QJ where
 From:Int
 To:Int
deriving DecidableEq
structure Qh where
 Block:Int
 Machine:Int
 Epoch:Int
 When:QJ
 Open:(List Int)
deriving DecidableEq
def JT:Rp Qh where
 sz:=6
 rep μ x cs:= ∃(A5:Option Addr) (c5:Nat),cs=[.int .i64 x.Block,.int .i64 x.Machine,.int .i64 x.Epoch,.int .i64 x.When.From,.int .i64 x.When.To,.slice A5 x.Open.length c5]∧(x.Open.length≤c5∧c5≤maxLen)∧Zc Zd μ A5 x.Open
 len:=by rintro μ x cs ⟨A5,c5,rfl,_⟩;rfl
 mono:=by rintro μ μ' x cs hm ⟨A5,c5,h,hl5,ha5⟩;exact ⟨A5,c5,h,hl5,ha5.mono hm⟩
 one:=by rintro μ x cs ⟨A5,c5,rfl,_⟩ u hu;simp only[List.mem_cons,List.not_mem_nil,or_false] at hu;rcases hu with rfl | rfl | rfl | rfl | rfl | rfl<;>rfl
structure ZO where
 leases:(List Qh)
 returned:(List Bool)
deriving DecidableEq
structure Qe where
 history:ZO
 sales:(List Qg)
 length:Int
 now:Int
 paid:(List (Int×Bool))
deriving DecidableEq
def Qf (μ:Gh) (v:Value) (x:Qe) (so:Seg):Prop:= ∃(g:Nat) (A0:Option Addr) (c0:Nat) (ch0:Seg) (A1:Option Addr) (c1:Nat) (ch1:Seg) (A2:Option Addr) (c2:Nat) (ch2:Seg) (m5:Nat) (es5:Array MapEntry) (cn5:Nat),v= .pointer (some ⟨g,0,none⟩)∧so=((g,Obj.cells #[.slice A0 x.history.leases.length c0,.slice A1 x.history.returned.length c1,.slice A2 x.sales.length c2,.int .i64 x.length,.int .i64 x.now,.map (some m5)] 83 (0,0))::(ch0++(ch1++(ch2++((m5,Obj.map es5 cn5)::[])))))∧Own JT 43 μ (.slice A0 x.history.leases.length c0) x.history.leases ch0∧Own Qdx 4 μ (.slice A1 x.history.returned.length c1) x.history.returned ch1∧Own Y6 71 μ (.slice A2 x.sales.length c2) x.sales ch2∧YK Value.bool es5 cn5 x.paid
theorem Qf.mono {μ μ':Gh} {v:Value} {x:Qe} {so:Seg} (h:Qf μ v x so) (hm:μ.le μ'):Qf μ' v x so:=by
 obtain ⟨g,A0,c0,ch0,A1,c1,ch1,A2,c2,ch2,m5,es5,cn5,hv,hs,h0,h1,h2,h5⟩:=h;exact ⟨g,A0,c0,ch0,A1,c1,ch1,A2,c2,ch2,m5,es5,cn5,hv,hs,h0.mono hm,h1.mono hm,h2.mono hm,h5⟩
theorem Qf.fl {x:Qe} {g:Nat} {A0:Option Addr} {c0:Nat} {ch0:Seg} {A1:Option Addr} {c1:Nat} {ch1:Seg} {A2:Option Addr} {c2:Nat} {ch2:Seg} {m5:Nat} {es5:Array MapEntry} {cn5:Nat}:([[(g,Obj.cells #[.slice A0 x.history.leases.length c0,.slice A1 x.history.returned.length c1,.slice A2 x.sales.length c2,.int .i64 x.length,.int .i64 x.now,.map (some m5)] 83 (0,0))],ch0,ch1,ch2,[(m5,Obj.map es5 cn5)]]:List Seg).flatten=((g,Obj.cells #[.slice A0 x.history.leases.length c0,.slice A1 x.history.returned.length c1,.slice A2 x.sales.length c2,.int .i64 x.length,.int .i64 x.now,.map (some m5)] 83 (0,0))::(ch0++(ch1++(ch2++((m5,Obj.map es5 cn5)::[]))))):=by simp
structure Yf where
 lease:Qh
 paid:(List Int)
deriving DecidableEq
def Yo (μ:Gh) (v:Value) (x:Yf) (so:Seg):Prop:= ∃(g:Nat) (A5:Option Addr) (c5:Nat) (A6:Option Addr) (c6:Nat) (ch6:Seg),v= .pointer (some ⟨g,0,none⟩)∧so=((g,Obj.cells #[.int .i64 x.lease.Block,.int .i64 x.lease.Machine,.int .i64 x.lease.Epoch,.int .i64 x.lease.When.From,.int .i64 x.lease.When.To,.slice A5 x.lease.Open.length c5,.slice A6 x.paid.length c6] 99 (0,0))::ch6)∧((x.lease.Open.length≤c5∧c5≤maxLen)∧Zc Zd μ A5 x.lease.Open)∧Own Zd 3 μ (.slice A6 x.paid.length c6) x.paid ch6
theorem Yo.mono {μ μ':Gh} {v:Value} {x:Yf} {so:Seg} (h:Yo μ v x so) (hm:μ.le μ'):Yo μ' v x so:=by
 obtain ⟨g,A5,c5,A6,c6,ch6,hv,hs,h5,h6⟩:=h;exact ⟨g,A5,c5,A6,c6,ch6,hv,hs,⟨h5.1,h5.2.mono hm⟩,h6.mono hm⟩
theorem Qan:Qfl Yo:=⟨fun h hm=>Yo.mono h hm,fun h=>by
 obtain ⟨g,_,_,_,_,_,hv,_⟩:=h;exact ⟨g,hv⟩⟩
theorem Yo.fl {x:Yf} {g:Nat} {A5:Option Addr} {c5:Nat} {A6:Option Addr} {c6:Nat} {ch6:Seg}:([[(g,Obj.cells #[.int .i64 x.lease.Block,.int .i64 x.lease.Machine,.int .i64 x.lease.Epoch,.int .i64 x.lease.When.From,.int .i64 x.lease.When.To,.slice A5 x.lease.Open.length c5,.slice A6 x.paid.length c6] 99 (0,0))],ch6]:List Seg).flatten=((g,Obj.cells #[.int .i64 x.lease.Block,.int .i64 x.lease.Machine,.int .i64 x.lease.Epoch,.int .i64 x.lease.When.From,.int .i64 x.lease.When.To,.slice A5 x.lease.Open.length c5,.slice A6 x.paid.length c6] 99 (0,0))::ch6):=by simp
structure Qz where
 Serial:Int
 Machine:Int
 Seq:Int
 At:Int
 Paid:Bool
deriving DecidableEq
def W5 (x:Qz):List Value:=[.int .i64 x.Serial,.int .i64 x.Machine,.int .i64 x.Seq,.int .i64 x.At,.bool x.Paid]
def Y3:Rp Qz:=Qdy 5 W5 (fun _=>rfl) (by intro x u hu;simp only[W5,List.mem_cons,List.not_mem_nil,or_false] at hu;rcases hu with rfl | rfl | rfl | rfl | rfl<;>rfl)
structure Qa where
 id:Int
 skew:Int
 products:(List Qb)
 leases:(List (Int×Option Yf))
 log:(List Qz)
 total:Int
deriving DecidableEq
def Qc (μ:Gh) (v:Value) (x:Qa) (so:Seg):Prop:= ∃(g:Nat) (A2:Option Addr) (c2:Nat) (ch2:Seg) (m3:Nat) (es3:Array MapEntry) (cn3:Nat) (so3:Seg) (A4:Option Addr) (c4:Nat) (ch4:Seg),v= .pointer (some ⟨g,0,none⟩)∧so=((g,Obj.cells #[.int .i64 x.id,.int .i64 x.skew,.slice A2 x.products.length c2,.map (some m3),.slice A4 x.log.length c4,.int .i64 x.total] 88 (0,0))::(ch2++((m3,Obj.map es3 cn3)::(ch4++so3))))∧Own QG 23 μ (.slice A2 x.products.length c2) x.products ch2∧Zj Yo μ es3 cn3 x.leases so3∧Own Y3 105 μ (.slice A4 x.log.length c4) x.log ch4
theorem Qc.mono {μ μ':Gh} {v:Value} {x:Qa} {so:Seg} (h:Qc μ v x so) (hm:μ.le μ'):Qc μ' v x so:=by
 obtain ⟨g,A2,c2,ch2,m3,es3,cn3,so3,A4,c4,ch4,hv,hs,h2,h3,h4⟩:=h;exact ⟨g,A2,c2,ch2,m3,es3,cn3,so3,A4,c4,ch4,hv,hs,h2.mono hm,h3.mono hm,h4.mono hm⟩
theorem Qc.fl {x:Qa} {g:Nat} {A2:Option Addr} {c2:Nat} {ch2:Seg} {m3:Nat} {es3:Array MapEntry} {cn3:Nat} {so3:Seg} {A4:Option Addr} {c4:Nat} {ch4:Seg}:([[(g,Obj.cells #[.int .i64 x.id,.int .i64 x.skew,.slice A2 x.products.length c2,.map (some m3),.slice A4 x.log.length c4,.int .i64 x.total] 88 (0,0))],ch2,[(m3,Obj.map es3 cn3)],ch4,so3]:List Seg).flatten=((g,Obj.cells #[.int .i64 x.id,.int .i64 x.skew,.slice A2 x.products.length c2,.map (some m3),.slice A4 x.log.length c4,.int .i64 x.total] 88 (0,0))::(ch2++((m3,Obj.map es3 cn3)::(ch4++so3)))):=by simp
structure Qw where
 Serial:Int
 Product:Int
 Grams:Int
 At:Int
deriving DecidableEq
structure Qp where
 Kind:Int
 Amount:Int
 Err:Int
deriving DecidableEq
def WX (x:Qb):Prop:=(fun s:ByteArray=>s.size≤maxLen) x.Code∧(wfI .i64) x.Producer∧(wfI .i64) x.Deposit∧(wfI .i64) x.Material∧(wfI .i64) x.Grams
def V6 (x:Qg):Prop:=(wfI .i64) x.Product∧(wfI .i64) x.First∧(wfI .i64) x.Count∧(wfI .i64) x.Retailer∧(wfI .i64) x.At
def Jj (x:Qt):Prop:=(wfI .i64) x.Kind∧(wfI .i64) x.Machine∧(wfI .i64) x.Serial∧(wfI .i64) x.Wait∧(wfI .i64) x.Wrong
def Qu (s1:ByteArray) (n1:Int) (i1:Int):Option ((Int)⊕(Unit⊕Bool)) :=
 bif (decide (i1<n1)) then
  Option.bind (
   Option.bind (JV s1 i1) fun x1 =>
   bif (decide (x1<48)) then
    some true
   else
    Option.bind (JV s1 i1) fun x2 =>
    some (decide (57<x2))) (fun v1 =>
   bif v1 then
    some (.inr (.inr false))
   else
    some (.inl (w64 (i1+1))))
 else
  some (.inr (.inl ()))
def QA (s1:ByteArray) (n1:Int):Option (Bool) :=
 bif (!(decide (((s1.size:Nat):Int)=n1))) then
  some false
 else
  Option.bind (
   iter (Qu s1 n1) (n1.toNat+1) 0) (fun o_=>ZE o_ (fun _ =>
   some true) (fun rv11=>some rv11))
def QS (s1:ByteArray) (j_:Int×Int):Option ((Int×Int)⊕(Int)) :=
 oun j_ fun sum1 i1 =>
 bif (decide (i1<12)) then
  Option.bind (JV s1 i1) fun x1 =>
  Option.bind (
   bif (decide ((Int.tmod i1 2)=1)) then
    some (w64 (3*(w64 (IntKind.u8.wrap (x1-48)))))
   else
    some (w64 (IntKind.u8.wrap (x1-48)))) (fun d1 =>
   some (.inl (w64 (sum1+d1),w64 (i1+1))))
 else
  some (.inr sum1)
def QX (s1:ByteArray):Option (Int×Int) :=
 Option.bind (QA s1 12) fun r1 =>
 bif (!r1) then
  some (0,3)
 else
  Option.bind (
   iter (QS s1) ((12:Int).toNat+1) (0,0)) (fun sum2 =>
   some (Int.tmod (w64 (10-(Int.tmod sum2 10))) 10,0))
def QM (s1:ByteArray):Option (Int) :=
 Option.bind (QA s1 13) fun r1 =>
 bif (!r1) then
  some 3
 else
  Option.bind (Qca s1 0 12) fun s2 =>
  Option.bind (QX s2) fun j_=>oun j_ fun r2 r3 =>
  Option.bind (JV s1 12) fun x1 =>
  bif (!(decide ((w64 (IntKind.u8.wrap (x1-48)))=r2))) then
   some 26
  else
   some 0
def QE (l1:(List Qb)) (parties1:Int) (materials1:Int) (v1:Int):Option ((Int)⊕(Unit⊕Int)) :=
 bif (decide (v1<((
           l1.length:Nat):Int))) then
  Option.bind (YN l1 v1) fun x1 =>
  Option.bind (QM x1.Code) fun r1 =>
  bif (!(decide (r1=0))) then
   some (.inr (.inr r1))
  else
   Option.bind (
    bif (decide (x1.Producer<0)) then
     some true
    else
     some (decide (parties1≤x1.Producer))) (fun v2 =>
    bif v2 then
     some (.inr (.inr 7))
    else
     Option.bind (
      bif (decide (x1.Deposit<1)) then
       some true
      else
       some (decide (1000<x1.Deposit))) (fun v3 =>
      bif v3 then
       some (.inr (.inr 1))
      else
       Option.bind (
        bif (decide (x1.Material<0)) then
         some true
        else
         some (decide (materials1≤x1.Material))) (fun v4 =>
        bif v4 then
         some (.inr (.inr 21))
        else
         Option.bind (
          bif (decide (x1.Grams<1)) then
           some true
          else
           some (decide (10000<x1.Grams))) (fun v5 =>
          bif v5 then
           some (.inr (.inr 1))
          else
           some (.inl (w64 (v1+1)))))))
 else
  some (.inr (.inl ()))
def Yh (l1:(List Qb)) (v6:Int) (k1:Int):Option ((Int)⊕(Unit⊕Int)) :=
 bif (decide (k1<v6)) then
  Option.bind (YN l1 k1) fun x2 =>
  Option.bind (YN l1 v6) fun x3 =>
  bif (decide (x2.Code=x3.Code)) then
   some (.inr (.inr 6))
  else
   some (.inl (w64 (k1+1)))
 else
  some (.inr (.inl ()))
def Yi (l1:(List Qb)) (v6:Int):Option ((Int)⊕(Unit⊕Int)) :=
 bif (decide (v6<((l1.length:Nat):Int))) then
  Option.bind (
   Option.bind (
    iter (Yh l1 v6) (v6.toNat+1) 0) (fun o_=>ZE o_ (fun _ =>
    some (.inl ())) (fun rv52=>some (.inr rv52)))) (fun o_=>ZE o_ (fun _ =>
   some (.inl (w64 (v6+1)))) (fun rv51=>some (.inr (.inr rv51))))
 else
  some (.inr (.inl ()))
def QW (l1:(List Qb)) (parties1:Int) (materials1:Int):Option (Int) :=
 bif (decide (64<((l1.length:Nat):Int))) then
  some 8
 else
  Option.bind (
   iter (QE l1 parties1 materials1) (((l1.length:Nat):Int).toNat+1) 0) (fun o_=>ZE o_ (fun _ =>
   Option.bind (
    iter (Yi l1) (((l1.length:Nat):Int).toNat+1) 0) (fun o_=>ZE o_ (fun _ =>
    some 0) (fun rv44=>some rv44))) (fun rv7=>some rv7))
def YS (products1:Int) (x1:Qg) (parties1:Int):Option (Int) :=
 Option.bind (
  bif (decide (x1.Product<0)) then
   some true
  else
   some (decide (products1≤x1.Product))) (fun v1 =>
  bif v1 then
   some 7
  else
   Option.bind (
    bif (decide (x1.First<0)) then
     some true
    else
     bif (decide (1073741824<x1.First)) then
      some true
     else
      bif (decide (x1.Count<1)) then
       some true
      else
       bif (decide (1000<x1.Count)) then
        some true
       else
        some (decide ((w64 (1073741824-(w64 (x1.Count-1))))<x1.First))) (fun v2 =>
    bif v2 then
     some 1
    else
     Option.bind (
      bif (decide (x1.Retailer<0)) then
       some true
      else
       some (decide (parties1≤x1.Retailer))) (fun v3 =>
      bif v3 then
       some 7
      else
       Option.bind (
        bif (decide (x1.At<0)) then
         some true
        else
         some (decide (3155759999<x1.At))) (fun v4 =>
        bif v4 then
         some 1
        else
         some 0))))
def QF (x1:Qg) (s1:Int):Option (Bool) :=
 Option.bind (
  bif (decide (x1.First≤s1)) then
   bif (decide (0<x1.Count)) then
    some (decide ((IntKind.u64.wrap ((IntKind.u64.wrap (s1))-(IntKind.u64.wrap (x1.First))))<(IntKind.u64.wrap (x1.Count))))
   else
    some false
  else
   some false) (fun v1 =>
  some v1)
def Yj (products1:(List Qb)) (l1:(List Qg)) (parties1:Int) (i1:Int):Option ((Int)⊕(Unit⊕Int)) :=
 bif (decide (i1<((l1.length:Nat):Int))) then
  Option.bind (YN l1 i1) fun x1 =>
  Option.bind (YS ((products1.length:Nat):Int) x1 parties1) fun r1 =>
  bif (!(decide (r1=0))) then
   some (.inr (.inr r1))
  else
   some (.inl (w64 (i1+1)))
 else
  some (.inr (.inl ()))
def Yk (l1:(List Qg)) (i2:Int) (k1:Int):Option ((Int)⊕(Unit⊕Int)) :=
 bif (decide (k1<i2)) then
  Option.bind (
   Option.bind (YN l1 i2) fun x2 =>
   Option.bind (YN l1 k1) fun x3 =>
   Option.bind (QF x2 x3.First) fun r2 =>
   bif r2 then
    some true
   else
    Option.bind (YN l1 k1) fun x4 =>
    Option.bind (YN l1 i2) fun x5 =>
    Option.bind (QF x4 x5.First) fun r3 =>
    some r3) (fun v1 =>
   bif v1 then
    some (.inr (.inr 6))
   else
    some (.inl (w64 (k1+1))))
 else
  some (.inr (.inl ()))
def Yl (l1:(List Qg)) (i2:Int):Option ((Int)⊕(Unit⊕Int)) :=
 bif (decide (i2<((l1.length:Nat):Int))) then
  Option.bind (
   Option.bind (
    iter (Yk l1 i2) (i2.toNat+1) 0) (fun o_=>ZE o_ (fun _ =>
    some (.inl ())) (fun rv83=>some (.inr rv83)))) (fun o_=>ZE o_ (fun _ =>
   some (.inl (w64 (i2+1)))) (fun rv82=>some (.inr (.inr rv82))))
 else
  some (.inr (.inl ()))
def Yy (products1:(List Qb)) (l1:(List Qg)) (parties1:Int):Option (Int) :=
 bif (decide (512<((l1.length:Nat):Int))) then
  some 8
 else
  Option.bind (
   iter (Yj products1 l1 parties1) (((l1.length:Nat):Int).toNat+1) 0) (fun o_=>ZE o_ (fun _ =>
   Option.bind (
    iter (Yl l1) (((l1.length:Nat):Int).toNat+1) 0) (fun o_=>ZE o_ (fun _ =>
    some 0) (fun rv71=>some rv71))) (fun rv57=>some rv57))
def JH (sales1:(List Qg)) (length1:Int):Option ((Option Qe)×Int) :=
 bif (decide (512<((sales1.length:Nat):Int))) then
  some (none,8)
 else
  Option.bind (
   bif (decide (length1<1)) then
    some true
   else
    some (decide (86400<length1))) (fun v1 =>
   bif v1 then
    some (none,1)
   else
    Option.bind (Wi sales1) fun l1 =>
    some ((some (Qe.mk (ZO.mk [] []) l1 length1 0 [])),0))
def Zb (s1:ByteArray) (j_:Int×Int):Option ((Int×Int)⊕(Int⊕(Int×Int))) :=
 oun j_ fun sum1 f1 =>
 bif (decide (f1<((s1.size:Nat):Int))) then
  Option.bind (QdC s1 f1) fun c1 =>
  Option.bind (
   bif (decide (c1<48)) then
    some true
   else
    some (decide (57<c1))) (fun v1 =>
   bif v1 then
    some (.inr (.inr (0,3)))
   else
    bif (decide ((Int.tmod f1 2)=0)) then
     some (.inl (w64 (sum1+(w64 (1*(w64 (IntKind.i32.wrap (c1-48)))))),f1+1))
    else
     Option.bind (QaH ((Int.tmod f1 2)=1)) fun _ =>
     some (.inl (w64 (sum1+(w64 (3*(w64 (IntKind.i32.wrap (c1-48)))))),f1+1)))
 else
  some (.inr (.inl sum1))
def ZK (s1:ByteArray):Option (Int×Int) :=
 bif (!(decide (((s1.size:Nat):Int)=12))) then
  some (0,3)
 else
  Option.bind (
   iter (Zb s1) (((s1.size:Nat):Int).toNat+1) (0,0)) (fun o_=>ZE o_ (fun sum2 =>
   some (Int.tmod (w64 (10-(Int.tmod sum2 10))) 10,0)) (fun rv113=>some rv113))
def Z5 (s1:ByteArray):Option (Int) :=
 Option.bind (
  bif (!(decide (((s1.size:Nat):Int)=13))) then
   some true
  else
   Option.bind (JV s1 12) fun x1 =>
   bif (decide (x1<48)) then
    some true
   else
    Option.bind (JV s1 12) fun x2 =>
    some (decide (57<x2))) (fun v1 =>
  bif v1 then
   some 3
  else
   Option.bind (Qca s1 0 12) fun s2 =>
   Option.bind (ZK s2) fun j_=>oun j_ fun r1 r2 =>
   bif (!(decide (r2=0))) then
    some r2
   else
    Option.bind (JV s1 12) fun x3 =>
    bif (!(decide (r1=(w64 (IntKind.u8.wrap (x3-48)))))) then
     some 26
    else
     some 0)
def ZL (x1:Qb) (parties1:Int) (materials1:Int):Option (Int) :=
 Option.bind (Z5 x1.Code) fun r1 =>
 bif (!(decide (r1=0))) then
  some r1
 else
  Option.bind (
   bif (decide (x1.Producer<0)) then
    some true
   else
    some (decide (parties1≤x1.Producer))) (fun v1 =>
   bif v1 then
    some 7
   else
    Option.bind (
     bif (decide (x1.Deposit<1)) then
      some true
     else
      some (decide (1000<x1.Deposit))) (fun v2 =>
     bif v2 then
      some 1
     else
      Option.bind (
       bif (decide (x1.Material<0)) then
        some true
       else
        some (decide (materials1≤x1.Material))) (fun v3 =>
       bif v3 then
        some 21
       else
        Option.bind (
         bif (decide (x1.Grams<1)) then
          some true
         else
          some (decide (10000<x1.Grams))) (fun v4 =>
         bif v4 then
          some 1
         else
          some 0))))
def Zv (x1:Qb) (b1:ByteArray):Option (Bool) :=
 some (decide (x1.Code=b1))
def QT (s1:(List Qb)) (b1:ByteArray) (v1:Int):Option ((Int)⊕(Unit⊕Int)) :=
 bif (decide (v1<((s1.length:Nat):Int))) then
  Option.bind (YN s1 v1) fun x1 =>
  Option.bind (Zv x1 b1) fun r1 =>
  bif r1 then
   some (.inr (.inr v1))
  else
   some (.inl (w64 (v1+1)))
 else
  some (.inr (.inl ()))
def Ye (s1:(List Qb)) (b1:ByteArray):Option (Int) :=
 Option.bind (
  iter (QT s1 b1) (((s1.length:Nat):Int).toNat+1) 0) (fun o_=>ZE o_ (fun _ =>
  some (-1)) (fun rv161=>some rv161))
def Z6 (l1:(List Qb)) (code1:ByteArray):Option (Int×Bool) :=
 Option.bind (Ye l1 code1) fun r1 =>
 some (max r1 0,(decide (0≤r1)))
def Za (l1:(List Qb)) (parties1:Int) (materials1:Int) (v1:Int):Option ((Int)⊕(Unit⊕Int)) :=
 bif (decide (v1<((l1.length:Nat):Int))) then
  Option.bind (YN l1 v1) fun x1 =>
  Option.bind (ZL x1 parties1 materials1) fun r1 =>
  bif (!(decide (r1=0))) then
   some (.inr (.inr r1))
  else
   some (.inl (w64 (v1+1)))
 else
  some (.inr (.inl ()))
def YI (l1:(List Qb)) (v2:Int):Option ((Int)⊕(Unit⊕Int)) :=
 bif (decide (v2<((l1.length:Nat):Int))) then
  Option.bind (YN l1 v2) fun x2 =>
  Option.bind (Z6 l1 x2.Code) fun j_=>oun j_ fun r2 r3 =>
  bif (!(decide (r2=v2))) then
   some (.inr (.inr 6))
  else
   some (.inl (w64 (v2+1)))
 else
  some (.inr (.inl ()))
def ZJ (l1:(List Qb)) (parties1:Int) (materials1:Int):Option (Int) :=
 bif (decide (64<((l1.length:Nat):Int))) then
  some 8
 else
  Option.bind (
   iter (Za l1 parties1 materials1) (((l1.length:Nat):Int).toNat+1) 0) (fun o_=>ZE o_ (fun _ =>
   Option.bind (
    iter (YI l1) (((l1.length:Nat):Int).toNat+1) 0) (fun o_=>ZE o_ (fun _ =>
    some 0) (fun rv153=>some rv153))) (fun rv104=>some rv104))
def JP (id1:Int) (products1:(List Qb)) (skew1:Int):Option ((Option Qa)×Int) :=
 Option.bind (
  bif (decide (id1<0)) then
   some true
  else
   some (decide (8≤id1))) (fun v1 =>
  bif v1 then
   some (none,1)
  else
   Option.bind (ZJ products1 32 16) fun r1 =>
   bif (!(decide (r1=0))) then
    some (none,r1)
   else
    Option.bind (
     bif (decide (skew1<0)) then
      some true
     else
      some (decide (3155759999<skew1))) (fun v2 =>
     bif v2 then
      some (none,1)
     else
      Option.bind (Wi products1) fun l1 =>
      some ((some (Qa.mk id1 skew1 l1 [] [] 0)),0)))
def ZV (b1:Int):Option (Bool) :=
 Option.bind (
  bif (decide (0≤b1)) then
   some (decide (b1<64))
  else
   some false) (fun v1 =>
  some v1)
def Yw (t1:Int):Option (Bool) :=
 Option.bind (
  bif (decide (0≤t1)) then
   some (decide (t1≤3155759999))
  else
   some false) (fun v1 =>
  some v1)
def QU (h_1:Qe) (block1:Int) (v1:Int):Option ((Int)⊕(Unit⊕(Int×Bool))) :=
 bif (decide (v1<((h_1.history.leases.length:Nat):Int))) then
  Option.bind (YN h_1.history.leases v1) fun x1 =>
  Option.bind (
   bif (decide (x1.Block=block1)) then
    Option.bind (YN h_1.history.returned v1) fun x2 =>
    some (!x2)
   else
    some false) (fun v2 =>
   bif v2 then
    some (.inr (.inr (v1,true)))
   else
    some (.inl (w64 (v1+1))))
 else
  some (.inr (.inl ()))
def QC (h_1:Qe) (block1:Int):Option (Int×Bool) :=
 Option.bind (
  iter (QU h_1 block1) (((h_1.history.leases.length:Nat):Int).toNat+1) 0) (fun o_=>ZE o_ (fun _ =>
  some (0,false)) (fun rv240=>some rv240))
def ZQ (x1:Qg) (s1:Int):Option (Bool) :=
 Option.bind (
  bif (decide (x1.First≤s1)) then
   bif (decide (0<x1.Count)) then
    some (decide ((IntKind.u64.wrap ((IntKind.u64.wrap (s1))-(IntKind.u64.wrap (x1.First))))<(IntKind.u64.wrap (x1.Count))))
   else
    some false
  else
   some false) (fun v1 =>
  some v1)
def Zx (l1:(List Qg)) (serial1:Int) (v1:Int):Option ((Int)⊕(Unit⊕(Int×Bool))) :=
 bif (decide (v1<((l1.length:Nat):Int))) then
  Option.bind (YN l1 v1) fun x1 =>
  Option.bind (ZQ x1 serial1) fun r1 =>
  bif r1 then
   some (.inr (.inr (v1,true)))
  else
   some (.inl (w64 (v1+1)))
 else
  some (.inr (.inl ()))
def Zw (l1:(List Qg)) (serial1:Int):Option (Int×Bool) :=
 Option.bind (
  iter (Zx l1 serial1) (((l1.length:Nat):Int).toNat+1) 0) (fun o_=>ZE o_ (fun _ =>
  some (0,false)) (fun rv290=>some rv290))
def YF (s1:(List Int)) (v1:Int) (v2:Int):Option ((Int)⊕(Unit⊕Int)) :=
 bif (decide (v2<((s1.length:Nat):Int))) then
  Option.bind (YN s1 v2) fun x1 =>
  bif (decide (v1=x1)) then
   some (.inr (.inr v2))
  else
   some (.inl (w64 (v2+1)))
 else
  some (.inr (.inl ()))
def ZD (s1:(List Int)) (v1:Int):Option (Int) :=
 Option.bind (
  iter (YF s1 v1) (((s1.length:Nat):Int).toNat+1) 0) (fun o_=>ZE o_ (fun _ =>
  some (-1)) (fun rv302=>some rv302))
def Ya (s1:(List Int)) (v1:Int):Option (Bool) :=
 Option.bind (ZD s1 v1) fun r1 =>
 some (decide (0≤r1))
def Zy (l1:(List Qg)) (paid1:(List Int)) (block1:Int) (j_:(List Int)×Int):Option (((List Int)×Int)⊕((List Int))) :=
 oun j_ fun out1 v2 =>
 bif (decide (v2<16)) then
  Option.bind (
   Option.bind (Zw l1 (w64 ((w64 (block1*16))+v2))) fun j_=>oun j_ fun r1 r2 =>
   Option.bind (
    bif r2 then
     Option.bind (Ya paid1 (w64 ((w64 (block1*16))+v2))) fun r3 =>
     some (w64 ((w64 (block1*16))+v2), !r3)
    else
     some (w64 ((w64 (block1*16))+v2),false)) (fun j_=>oun j_ fun s1 v3 =>
    bif v3 then
     Option.bind (Vd out1 [s1]) fun l2 =>
     some l2
    else
     some out1)) (fun out2 =>
   some (.inl (out2,w64 (v2+1))))
 else
  some (.inr out1)
def Ju (l1:(List Qg)) (paid1:(List Int)) (block1:Int):Option ((List Int)×Int) :=
 Option.bind (
  bif (decide (block1<0)) then
   some true
  else
   some (decide (67108864<block1))) (fun v1 =>
  bif v1 then
   some ([],1)
  else
   Option.bind (
    iter (Zy l1 paid1 block1) ((16:Int).toNat+1) ([],0)) (fun out3 =>
    some (out3,0)))
def QV (h_1:Qe) (block1:Int) (j_:Int×Int):Option ((Int×Int)⊕(Int)) :=
 oun j_ fun n1 v1 =>
 bif (decide (v1<((h_1.history.leases.length:Nat):Int))) then
  Option.bind (
   Option.bind (YN h_1.history.leases v1) fun x1 =>
   bif (decide (x1.Block=block1)) then
    some (w64 (n1+1))
   else
    some n1) (fun n2 =>
   some (.inl (n2,w64 (v1+1))))
 else
  some (.inr n1)
def Yg (h_1:Qe) (block1:Int):Option (Int) :=
 Option.bind (
  iter (QV h_1 block1) (((h_1.history.leases.length:Nat):Int).toNat+1) (0,0)) (fun n3 =>
  some n3)
def JG (l1:Qh):Option (Qh) :=
 Option.bind (Wi l1.Open) fun l2 =>
 some (Qh.mk l1.Block l1.Machine l1.Epoch l1.When l2)
def Qy (o1:Qe) (b1:Int) (machine1:Int) (now1:Int):Option (Qh×Int×Qe) :=
 Option.bind (
  Option.bind (ZV b1) fun r1 =>
  bif (!r1) then
   some true
  else
   bif (decide (machine1<0)) then
    some true
   else
    bif (decide (8≤machine1)) then
     some true
    else
     Option.bind (Yw now1) fun r2 =>
     some (!r2)) (fun v1 =>
  bif v1 then
   some ((Qh.mk 0 0 0 (QJ.mk 0 0) []),1,o1)
  else
   bif (decide (now1<o1.now)) then
    some ((Qh.mk 0 0 0 (QJ.mk 0 0) []),9,o1)
   else
    Option.bind (QC o1 b1) fun j_=>oun j_ fun r3 r4 =>
    bif r4 then
     some ((Qh.mk 0 0 0 (QJ.mk 0 0) []),29,o1)
    else
     bif (decide (512≤((o1.history.leases.length:Nat):Int))) then
      some ((Qh.mk 0 0 0 (QJ.mk 0 0) []),8,o1)
     else
      Option.bind (QaK o1.paid) fun l1 =>
      Option.bind (Ju o1.sales l1 b1) fun j_=>oun j_ fun r5 r6 =>
      bif (!(decide (r6=0))) then
       some ((Qh.mk 0 0 0 (QJ.mk 0 0) []),r6,o1)
      else
       Option.bind (
        Option.bind (Yg o1 b1) fun r7 =>
        some (w64 (r7+1),min (w64 (now1+o1.length)) 3155760000)) (fun j_=>oun j_ fun f1 f2 =>
        Option.bind (Vd o1.history.leases [(Qh.mk b1 machine1 f1 (QJ.mk now1 f2) r5)]) fun l2 =>
        Option.bind (Vd o1.history.returned [false]) fun l3 =>
        Option.bind (JG (Qh.mk b1 machine1 f1 (QJ.mk now1 f2) r5)) fun r8 =>
        some (r8,0,(Qe.mk (ZO.mk l2 l3) o1.sales o1.length now1 o1.paid))))
def ZC (serial1:Int):Option (Int) :=
 bif (decide (serial1<0)) then
  some (-1)
 else
  some (w64 (Int.tdiv serial1 16))
def YB (m1:Qa) (l1:Qh) (v1:Int):Option ((Int)⊕(Unit⊕(Int×Qa))) :=
 bif (decide (v1<((l1.Open.length:Nat):Int))) then
  Option.bind (YN l1.Open v1) fun x1 =>
  Option.bind (ZC x1) fun r1 =>
  bif (!(decide (r1=l1.Block))) then
   some (.inr (.inr (7,m1)))
  else
   some (.inl (w64 (v1+1)))
 else
  some (.inr (.inl ()))
def Ym (m1:Qa) (l1:Qh) (i1:Int):Option ((Int)⊕(Unit⊕(Int×Qa))) :=
 bif (decide (i1<((l1.Open.length:Nat):Int))) then
  Option.bind (YN l1.Open i1) fun x2 =>
  Option.bind (YN l1.Open (w64 (i1-1))) fun x3 =>
  bif (decide (x2≤x3)) then
   some (.inr (.inr (9,m1)))
  else
   some (.inl (w64 (i1+1)))
 else
  some (.inr (.inl ()))
def QQ (F:Nat) (m1:Qa) (l1:Qh):Option (Int×Qa) :=
 bif (decide (l1.Block<0)) then
  some (1,m1)
 else
  bif (decide (64≤l1.Block)) then
   some (1,m1)
  else
   bif (decide (l1.Epoch<1)) then
    some (1,m1)
   else
    bif (decide (l1.When.From<0)) then
     some (1,m1)
    else
     bif (decide (l1.When.To<l1.When.From)) then
      some (1,m1)
     else
      bif (decide (3155760000<l1.When.To)) then
       some (1,m1)
      else
       Option.bind (
        iter (YB m1 l1) (((l1.Open.length:Nat):Int).toNat+1) 0) (fun o_=>ZE o_ (fun _ =>
        Option.bind (
         iter (Ym m1 l1) F 1) (fun o_=>ZE o_ (fun _ =>
         bif (!(decide (l1.Machine=m1.id))) then
          some (29,m1)
         else
          bif ((Qq l1.Block m1.leases).isSome) then
           Option.bind (JW l1.Block m1.leases) fun x4 =>
           some (29,m1)
          else
           Option.bind (Wi l1.Open) fun l2 =>
           some (0,(Qa.mk m1.id m1.skew m1.products (Q4 l1.Block (some (Yf.mk (Qh.mk l1.Block l1.Machine l1.Epoch l1.When l2) [])) m1.leases) m1.log m1.total))) (fun rv1121=>some rv1121))) (fun rv1110=>some rv1110))
def YU (m1:Qa) (x1:Qw):Option (Int) :=
 Option.bind (
  bif (decide (x1.Product<0)) then
   some true
  else
   some (decide (((m1.products.length:Nat):Int)≤x1.Product))) (fun v1 =>
  bif v1 then
   some 7
  else
   some 0)
def Z7 (x1:Qb) (grams1:Int):Option (Bool) :=
 Option.bind (
  bif (decide (x1.Grams<0)) then
   some true
  else
   some (decide (grams1<0))) (fun v1 =>
  bif v1 then
   some false
  else
   some (decide ((w64 ((max grams1 x1.Grams)-(min grams1 x1.Grams)))≤(w64 (Int.tdiv x1.Grams 8)))))
def YG (m1:Qa) (x1:Qw):Option (Int) :=
 Option.bind (YN m1.products x1.Product) fun x2 =>
 Option.bind (Z7 x2 x1.Grams) fun r1 =>
 bif (!r1) then
  some 30
 else
  some 0
def Y4 (c1:Qz) (b1:Qw):Option (Bool) :=
 some (decide (c1.Serial=b1.Serial))
def QI (s1:(List Qz)) (b1:Qw) (v1:Int):Option ((Int)⊕(Unit⊕Int)) :=
 bif (decide (v1<((s1.length:Nat):Int))) then
  Option.bind (YN s1 v1) fun x1 =>
  Option.bind (Y4 x1 b1) fun r1 =>
  bif r1 then
   some (.inr (.inr v1))
  else
   some (.inl (w64 (v1+1)))
 else
  some (.inr (.inl ()))
def Yr (s1:(List Qz)) (b1:Qw):Option (Int) :=
 Option.bind (
  iter (QI s1 b1) (((s1.length:Nat):Int).toNat+1) 0) (fun o_=>ZE o_ (fun _ =>
  some (-1)) (fun rv1293=>some rv1293))
def Yc (s1:(List Qz)) (b1:Qw):Option (Bool) :=
 Option.bind (Yr s1 b1) fun r1 =>
 some (decide (0≤r1))
def Yv (m1:Qa) (x1:Qw):Option (Int) :=
 Option.bind (Yc m1.log x1) fun r1 =>
 bif r1 then
  some 28
 else
  some 0
def Z4 (w1:QJ):Option (Bool) :=
 Option.bind (
  bif (decide (0≤w1.From)) then
   bif (decide (w1.From≤w1.To)) then
    some (decide (w1.To≤3155760000))
   else
    some false
  else
   some false) (fun v1 =>
  some v1)
def J2 (l1:Qh) (skew1:Int) (f_local1:Int):Option (Bool) :=
 Option.bind (
  Option.bind (Yw skew1) fun r1 =>
  bif r1 then
   Option.bind (Z4 l1.When) fun r2 =>
   bif r2 then
    Option.bind (Yw f_local1) fun r3 =>
    bif r3 then
     bif (decide (l1.When.From≤(w64 (f_local1-skew1)))) then
      some (decide ((w64 (f_local1+skew1))<l1.When.To))
     else
      some false
    else
     some false
   else
    some false
  else
   some false) (fun v1 =>
  some v1)
def QN (m1:Qa) (x1:Qw):Option (Qp×Int×Qa) :=
 bif (decide (x1.Serial<0)) then
  some ((Qp.mk 0 0 0),1,m1)
 else
  bif (decide (1073741824<x1.Serial)) then
   some ((Qp.mk 0 0 0),1,m1)
  else
   bif (decide (x1.Grams<0)) then
    some ((Qp.mk 0 0 0),1,m1)
   else
    bif (decide (1073741824<x1.Grams)) then
     some ((Qp.mk 0 0 0),1,m1)
    else
     bif (decide (x1.At<0)) then
      some ((Qp.mk 0 0 0),1,m1)
     else
      bif (decide (3155759999<x1.At)) then
       some ((Qp.mk 0 0 0),1,m1)
      else
       Option.bind (YU m1 x1) fun r1 =>
       bif (!(decide (r1=0))) then
        some ((Qp.mk 0 0 r1),0,m1)
       else
        Option.bind (YG m1 x1) fun r2 =>
        bif (!(decide (r2=0))) then
         some ((Qp.mk 0 0 r2),0,m1)
        else
         Option.bind (Yv m1 x1) fun r3 =>
         bif (!(decide (r3=0))) then
          some ((Qp.mk 0 0 r3),0,m1)
         else
          Option.bind (ZC x1.Serial) fun r4 =>
          bif ((
             Qq r4 m1.leases).isSome) then
           Option.bind (JW r4 m1.leases) fun x2 =>
           Option.bind (J2 x2.lease m1.skew x1.At) fun r5 =>
           bif (!r5) then
            bif (decide (512≤((m1.log.length:Nat):Int))) then
             some ((Qp.mk 0 0 0),8,m1)
            else
             Option.bind (Vd m1.log [(Qz.mk x1.Serial m1.id ((m1.log.length:Nat):Int) x1.At false)]) fun l1 =>
             some ((Qp.mk 2 0 29),0,(Qa.mk m1.id m1.skew m1.products m1.leases l1 m1.total))
           else
            Option.bind (Ya x2.lease.Open x1.Serial) fun r6 =>
            bif (!r6) then
             some ((Qp.mk 0 0 27),0,m1)
            else
             bif (decide (512≤((m1.log.length:Nat):Int))) then
              some ((Qp.mk 0 0 0),8,m1)
             else
              Option.bind (Vd m1.log [(Qz.mk x1.Serial m1.id ((m1.log.length:Nat):Int) x1.At true)]) fun l2 =>
              Option.bind (Vd x2.paid [x1.Serial]) fun l3 =>
              Option.bind (YN m1.products x1.Product) fun x3 =>
              some ((Qp.mk 1 x3.Deposit 0),0,(Qa.mk m1.id m1.skew m1.products (Q4 r4 (some (Yf.mk x2.lease l3)) m1.leases) l2 (w64 (m1.total+x3.Deposit))))
          else
           bif (decide (512≤((m1.log.length:Nat):Int))) then
            some ((Qp.mk 0 0 0),8,m1)
           else
            Option.bind (Vd m1.log [(Qz.mk x1.Serial m1.id ((m1.log.length:Nat):Int) x1.At false)]) fun l4 =>
            some ((Qp.mk 2 0 29),0,(Qa.mk m1.id m1.skew m1.products m1.leases l4 m1.total))
def Yz (F:Nat):Option (Bool) :=
 Option.bind (JH [(Qg.mk 0 0 1 0 0)] 600) fun j_=>oun j_ fun r1 r2 =>
 Option.bind (JP 0 [(Qb.mk ⟨#[52,48,48,54,51,56,49,51,51,51,57,51,49]⟩ 0 25 0 100)] 0) fun j_=>oun j_ fun r3 r4 =>
 Option.bind (r3) fun q1 =>
 Option.bind (r1) fun q2 =>
 Option.bind (
  bif (!(decide (r2=0))) then
   some true
  else
   some (!(decide (r4=0)))) (fun v1 =>
  bif v1 then
   some false
  else
   Option.bind (Qy q2 0 0 100) fun j_=>oun j_ fun r5 j_=>oun j_ fun r6 r7 =>
   Option.bind (
    bif (!(decide (r6=0))) then
     some (q1,true)
    else
     Option.bind (QQ F q1 r5) fun j_=>oun j_ fun r8 r9 =>
     some (r9, !(decide (r8=0)))) (fun j_=>oun j_ fun q3 v4 =>
    bif v4 then
     some false
    else
     Option.bind (QN q3 (Qw.mk 0 0 100 100)) fun j_=>oun j_ fun r10 j_=>oun j_ fun r11 r12 =>
     Option.bind (
      bif (decide (r11=0)) then
       some (decide (r10=(Qp.mk 1 25 0)))
      else
       some false) (fun v5 =>
      some v5)))
def Z9 (l1:(List Qg)) (serial1:Int) (i1:Int):Option ((Int)⊕(Unit⊕(Int×Bool))) :=
 bif (decide (i1<((l1.length:Nat):Int))) then
  Option.bind (YN l1 i1) fun x1 =>
  Option.bind (QF x1 serial1) fun r1 =>
  bif r1 then
   some (.inr (.inr (i1,true)))
  else
   some (.inl (w64 (i1+1)))
 else
  some (.inr (.inl ()))
def YE (l1:(List Qg)) (serial1:Int):Option (Int×Bool) :=
 Option.bind (
  iter (Z9 l1 serial1) (((l1.length:Nat):Int).toNat+1) 0) (fun o_=>ZE o_ (fun _ =>
  some (0,false)) (fun rv2346=>some rv2346))
def Yt (l1:(List Int)) (n1:Int) (j_:Int×Int):Option ((Int×Int)⊕(Int)) :=
 oun j_ fun k1 v1 =>
 bif (decide (v1<((l1.length:Nat):Int))) then
  Option.bind (
   Option.bind (YN l1 v1) fun x1 =>
   bif (decide (x1=n1)) then
    some (w64 (k1+1))
   else
    some k1) (fun k2 =>
   some (.inl (k2,w64 (v1+1))))
 else
  some (.inr k1)
def Yu (l1:(List Int)) (n1:Int):Option (Int) :=
 Option.bind (
  iter (Yt l1 n1) (((l1.length:Nat):Int).toNat+1) (0,0)) (fun k3 =>
  some k3)
def QH (m1:Qa) (block1:Int):Option (Int×(List Int)×Int×Qa) :=
 bif ((Qq block1 m1.leases).isSome) then
  Option.bind (JW block1 m1.leases) fun x1 =>
  Option.bind (QbL x1.paid) fun l1 =>
  some (x1.lease.Epoch,l1,0,(Qa.mk m1.id m1.skew m1.products (ZX block1 m1.leases) m1.log m1.total))
 else
  some (0,[],29,m1)
def ZI (l1:Qh) (paid1:(List Int)) (j_:(List (Int×Bool))×Bool×Int):Option (((List (Int×Bool))×Bool×Int)⊕(Bool⊕Int)) :=
 oun j_ fun m1 j_=>oun j_ fun twice1 v1 =>
 bif (decide (v1<((paid1.length:Nat):Int))) then
  Option.bind (YN paid1 v1) fun x1 =>
  Option.bind (Ya l1.Open x1) fun r1 =>
  bif (!r1) then
   some (.inr (.inr 7))
  else
   Option.bind (
    bif twice1 then
     some true
    else
     some ((Qq x1 m1).getD false)) (fun twice2 =>
    some (.inl ((Q4 x1 true m1),twice2,w64 (v1+1))))
 else
  some (.inr (.inl twice1))
def JJ (l1:Qh) (paid1:(List Int)):Option (Int) :=
 Option.bind (
  iter (ZI l1 paid1) (((paid1.length:Nat):Int).toNat+1) ([],false,0)) (fun o_=>ZE o_ (fun twice3 =>
  bif twice3 then
   some 6
  else
   some 0) (fun rv2456=>some rv2456))
def Yp (paid1:(List Int)) (j_:(List (Int×Bool))×Int):Option (((List (Int×Bool))×Int)⊕((List (Int×Bool)))) :=
 oun j_ fun m1 v3 =>
 bif (decide (v3<((paid1.length:Nat):Int))) then
  Option.bind (YN paid1 v3) fun x3 =>
  some (.inl ((Q4 x3 true m1),w64 (v3+1)))
 else
  some (.inr m1)
def Q8 (o1:Qe) (b1:Int) (epoch1:Int) (paid1:(List Int)) (now1:Int):Option (Int×Qe) :=
 Option.bind (
  Option.bind (ZV b1) fun r1 =>
  bif (!r1) then
   some true
  else
   Option.bind (Yw now1) fun r2 =>
   some (!r2)) (fun v1 =>
  bif v1 then
   some (1,o1)
  else
   bif (decide (now1<o1.now)) then
    some (9,o1)
   else
    Option.bind (QC o1 b1) fun j_=>oun j_ fun r3 r4 =>
    Option.bind (
     bif (!r4) then
      some true
     else
      Option.bind (YN o1.history.leases r3) fun x1 =>
      some (!(decide (x1.Epoch=epoch1)))) (fun v2 =>
     bif v2 then
      some (29,o1)
     else
      Option.bind (YN o1.history.leases r3) fun x2 =>
      Option.bind (JJ x2 paid1) fun r5 =>
      bif (!(decide (r5=0))) then
       some (r5,o1)
      else
       Option.bind (
        iter (Yp paid1) (((paid1.length:Nat):Int).toNat+1) (o1.paid,0)) (fun m2 =>
        Option.bind (YN o1.history.leases r3) fun x4 =>
        Option.bind (YN o1.history.returned r3) fun x5 =>
        some (0,(Qe.mk (ZO.mk (Qee o1.history.leases r3 (Qh.mk x4.Block x4.Machine x4.Epoch (QJ.mk x4.When.From (max x4.When.From (min x4.When.To now1))) x4.Open)) (Qee o1.history.returned r3 true)) o1.sales o1.length now1 m2)))))
def YT (m1:Qa):Option (Int) :=
 some m1.total
def Qr (F:Nat) (x1:Qb) (sales1:(List Qg)) (skew1:Int) (l1:(List Qt)) (j_:Qe×Qa×Qa×Int×(List Int)×Int):Option ((Qe×Qa×Qa×Int×(List Int)×Int)⊕((Qa×Qa×(List Int))⊕Bool)) :=
 oun j_ fun q4 j_=>oun j_ fun q5 j_=>oun j_ fun q6 j_=>oun j_ fun now1 j_=>oun j_ fun paid1 v4 =>
 bif (decide (v4<((
           l1.length:Nat):Int))) then
  Option.bind (
   Option.bind (YN l1 v4) fun x2 =>
   bif (!(decide (x2.Machine=0))) then
    bif (decide (x2.Kind=0)) then
     Option.bind (Qy q4 (w64 (Int.tdiv (max 0 (min x2.Serial 1023)) 16)) 1 (w64 (now1+(max 0 (min x2.Wait 10000))))) fun j_=>oun j_ fun r10 j_=>oun j_ fun r11 r12 =>
     Option.bind (
      bif (decide (r11=0)) then
       Option.bind (QQ F q6 r10) fun j_=>oun j_ fun r13 r14 =>
       some (r14,w64 (now1+(max 0 (min x2.Wait 10000))), !(decide (r13=0)))
      else
       some (q6,w64 (now1+(max 0 (min x2.Wait 10000))),false)) (fun j_=>oun j_ fun q7 j_=>oun j_ fun now2 v7 =>
      bif v7 then
       some (.inr false)
      else
       some (.inl (r12,q5,q7,now2,paid1)))
    else
     bif (decide (x2.Kind=1)) then
      Option.bind (QN q6 (Qw.mk (max 0 (min x2.Serial 1023)) 0 x1.Grams (max 0 (w64 ((w64 (now1+(max 0 (min x2.Wait 10000))))+(max (w64 (0-skew1)) (min x2.Wrong skew1))))))) fun j_=>oun j_ fun r15 j_=>oun j_ fun r16 r17 =>
      bif (!(decide (r16=0))) then
       some (.inr false)
      else
       bif (decide (r15.Kind=1)) then
        Option.bind (YE sales1 (max 0 (min x2.Serial 1023))) fun j_=>oun j_ fun r18 r19 =>
        Option.bind (
         Option.bind (Yu paid1 (max 0 (min x2.Serial 1023))) fun r20 =>
         bif (decide (0<r20)) then
          some (w64 (now1+(max 0 (min x2.Wait 10000))),true)
         else
          bif (!r19) then
           some (w64 (now1+(max 0 (min x2.Wait 10000))),true)
          else
           some (w64 (now1+(max 0 (min x2.Wait 10000))), !(decide (r15.Amount=x1.Deposit)))) (fun j_=>oun j_ fun now3 v8 =>
         bif v8 then
          some (.inr false)
         else
          Option.bind (Vd paid1 [max 0 (min x2.Serial 1023)]) fun l2 =>
          some (.inl (q4,q5,r17,now3,l2)))
       else
        some (.inl (q4,q5,r17,w64 (now1+(max 0 (min x2.Wait 10000))),paid1))
     else
      Option.bind (QH q6 (w64 (Int.tdiv (max 0 (min x2.Serial 1023)) 16))) fun j_=>oun j_ fun r21 j_=>oun j_ fun r22 j_=>oun j_ fun r23 r24 =>
      Option.bind (
       bif (decide (r23=0)) then
        Option.bind (Q8 q4 (w64 (Int.tdiv (max 0 (min x2.Serial 1023)) 16)) r21 r22 (w64 (now1+(max 0 (min x2.Wait 10000))))) fun j_=>oun j_ fun r25 r26 =>
        some (r26,w64 (now1+(max 0 (min x2.Wait 10000))), !(decide (r25=0)))
       else
        some (q4,w64 (now1+(max 0 (min x2.Wait 10000))),false)) (fun j_=>oun j_ fun q8 j_=>oun j_ fun now4 v9 =>
       bif v9 then
        some (.inr false)
       else
        some (.inl (q8,q5,r24,now4,paid1)))
   else
    bif (decide (x2.Kind=0)) then
     Option.bind (Qy q4 (w64 (Int.tdiv (max 0 (min x2.Serial 1023)) 16)) 0 (w64 (now1+(max 0 (min x2.Wait 10000))))) fun j_=>oun j_ fun r27 j_=>oun j_ fun r28 r29 =>
     Option.bind (
      bif (decide (r28=0)) then
       Option.bind (QQ F q5 r27) fun j_=>oun j_ fun r30 r31 =>
       some (r31,w64 (now1+(max 0 (min x2.Wait 10000))), !(decide (r30=0)))
      else
       some (q5,w64 (now1+(max 0 (min x2.Wait 10000))),false)) (fun j_=>oun j_ fun q9 j_=>oun j_ fun now5 v12 =>
      bif v12 then
       some (.inr false)
      else
       some (.inl (r29,q9,q6,now5,paid1)))
    else
     bif (decide (x2.Kind=1)) then
      Option.bind (QN q5 (Qw.mk (max 0 (min x2.Serial 1023)) 0 x1.Grams (max 0 (w64 ((w64 (now1+(max 0 (min x2.Wait 10000))))+(max (w64 (0-skew1)) (min x2.Wrong skew1))))))) fun j_=>oun j_ fun r32 j_=>oun j_ fun r33 r34 =>
      bif (!(decide (r33=0))) then
       some (.inr false)
      else
       bif (decide (r32.Kind=1)) then
        Option.bind (YE sales1 (max 0 (min x2.Serial 1023))) fun j_=>oun j_ fun r35 r36 =>
        Option.bind (
         Option.bind (Yu paid1 (max 0 (min x2.Serial 1023))) fun r37 =>
         bif (decide (0<r37)) then
          some (w64 (now1+(max 0 (min x2.Wait 10000))),true)
         else
          bif (!r36) then
           some (w64 (now1+(max 0 (min x2.Wait 10000))),true)
          else
           some (w64 (now1+(max 0 (min x2.Wait 10000))), !(decide (r32.Amount=x1.Deposit)))) (fun j_=>oun j_ fun now6 v13 =>
         bif v13 then
          some (.inr false)
         else
          Option.bind (Vd paid1 [max 0 (min x2.Serial 1023)]) fun l3 =>
          some (.inl (q4,r34,q6,now6,l3)))
       else
        some (.inl (q4,r34,q6,w64 (now1+(max 0 (min x2.Wait 10000))),paid1))
     else
      Option.bind (QH q5 (w64 (Int.tdiv (max 0 (min x2.Serial 1023)) 16))) fun j_=>oun j_ fun r38 j_=>oun j_ fun r39 j_=>oun j_ fun r40 r41 =>
      Option.bind (
       bif (decide (r40=0)) then
        Option.bind (Q8 q4 (w64 (Int.tdiv (max 0 (min x2.Serial 1023)) 16)) r38 r39 (w64 (now1+(max 0 (min x2.Wait 10000))))) fun j_=>oun j_ fun r42 r43 =>
        some (r43,w64 (now1+(max 0 (min x2.Wait 10000))), !(decide (r42=0)))
       else
        some (q4,w64 (now1+(max 0 (min x2.Wait 10000))),false)) (fun j_=>oun j_ fun q10 j_=>oun j_ fun now7 v14 =>
       bif v14 then
        some (.inr false)
       else
        some (.inl (q10,r41,q6,now7,paid1)))) (fun o_=>ZE o_ (fun j_=>oun j_ fun q11 j_=>oun j_ fun q12 j_=>oun j_ fun q13 j_=>oun j_ fun now8 paid2 =>
   some (.inl (q11,q12,q13,now8,paid2,w64 (v4+1)))) (fun rv3139=>some (.inr (.inr rv3139))))
 else
  some (.inr (.inl (q5,q6,paid1)))
def Q7 (F:Nat) (x1:Qb) (sales1:(List Qg)) (skew1:Int) (length1:Int) (l1:(List Qt)):Option (Bool) :=
 Option.bind (
  Option.bind (QW [x1] 32 16) fun r1 =>
  bif (!(decide (r1=0))) then
   some true
  else
   bif (decide (10<((sales1.length:Nat):Int))) then
    some true
   else
    Option.bind (Yy [x1] sales1 32) fun r2 =>
    bif (!(decide (r2=0))) then
     some true
    else
     bif (decide (skew1<0)) then
      some true
     else
      bif (decide (3600<skew1)) then
       some true
      else
       bif (decide (length1<1)) then
        some true
       else
        bif (decide (86400<length1)) then
         some true
        else
         some (decide (60<((l1.length:Nat):Int)))) (fun v1 =>
  bif v1 then
   Option.bind (Yz F) fun r3 =>
   some r3
  else
   Option.bind (JH sales1 length1) fun j_=>oun j_ fun r4 r5 =>
   Option.bind (JP 0 [x1] skew1) fun j_=>oun j_ fun r6 r7 =>
   Option.bind (JP 1 [x1] skew1) fun j_=>oun j_ fun r8 r9 =>
   Option.bind (r8) fun q1 =>
   Option.bind (r6) fun q2 =>
   Option.bind (r4) fun q3 =>
   Option.bind (
    bif (!(decide (r5=0))) then
     some true
    else
     bif (!(decide (r7=0))) then
      some true
     else
      some (!(decide (r9=0)))) (fun v3 =>
    bif v3 then
     some false
    else
     Option.bind (
      iter (Qr F x1 sales1 skew1 l1) (((l1.length:Nat):Int).toNat+1) (q3,q2,q1,0,[],0)) (fun o_=>ZE o_ (fun j_=>oun j_ fun q14 j_=>oun j_ fun q15 paid3 =>
      Option.bind (
       Option.bind (YT q14) fun r44 =>
       Option.bind (YT q15) fun r45 =>
       bif (decide ((w64 (r44+r45))=(w64 (((paid3.length:Nat):Int)*x1.Deposit)))) then
        Option.bind (Yz F) fun r46 =>
        some r46
       else
        some false) (fun v16 =>
       some v16)) (fun rv2957=>some rv2957))))
end Go.Proofs.Ytfdjjdhnfaklbaa
namespace Go.Proofs.Ytfdjjdhnfaklbaa
open Go.RowKit
set_option linter.unusedSimpArgs false
set_option linter.unusedVariables false
attribute [local irreducible] WP Q5 Jz Fn AN Upd vcR vcO WT YA Yx Jg JN WI Wn Y7 WG QP
theorem QdX {μ:Gh} {L:List Seg} {A:Option Addr} {n c:Nat} {css:List (List Value)} (hr:Rd μ L A 5 css) (hn:css.length=n) (h1: ∀cs∈css,∀u∈cs,u.oneCell'=true) (hb:n≤1000000)
  {R:Value→Gh→List Seg→Prop} (hR: ∀v ch,Y0 71 5 v css ch→R v μ (ch::L)):Fn Try.prog 25 [.slice A n c] μ L R:=by
 refine Fn.of_body QB Try.func25 (by kernel_rfl) rfl Try.ntmps25 (by simp) ?_
 simp only[Try.f25,Qbj,List.zipIdx,List.map,Nat.reduceAdd]
 repeat' first | (apply W7) | (apply QR;exact rfl) | (apply ZR) | ((first | (apply Wc;exact rfl));first | (apply QK;exact rfl) | (apply Jo;exact rfl) | (apply Qaq;exact rfl;exact rfl;all_goals (intro h;try (exfalso;omega))) | (apply Qao;exact rfl;exact rfl) | (apply W8;exact rfl;exact rfl;exact rfl;exact rfl) | (apply W9;exact rfl;exact rfl;exact rfl;exact rfl) | (apply Qbi;exact rfl;exact rfl;exact rfl;exact rfl;all_goals (intro h)) | (apply Qap;exact rfl;exact rfl;exact rfl;exact rfl;all_goals (intro h))) | (apply Qam) | (apply Zi) | (apply Qv;exact rfl;exact rfl;exact rfl;(focus (simp only[Zq,List.set_cons_zero,List.set_cons_succ,List.take_succ_cons,List.take_zero,List.drop_succ_cons,List.drop_zero,Value.cells,Nat.reduceAdd,Nat.reduceMul,Nat.zero_add,Nat.add_zero,List.toList_toArray,List.cons_append,List.nil_append,cyc];first | done | exact rfl))) | (apply WP.seq_k;intro K hK) | refine WP.region QB ?_ | (apply Jq;exact rfl) | (apply Jp;exact rfl) | (apply JX;exact rfl;all_goals (intro h)) | (apply WP.skip) | (apply WP.ret) | (apply Qar) | (apply VQ;exact rfl) | (first | (apply Jf;exact rfl;exact rfl;exact rfl;exact rfl;exact rfl;exact rfl;(focus (simp only[Zq,List.set_cons_zero,List.set_cons_succ,List.take_succ_cons,List.take_zero,List.drop_succ_cons,List.drop_zero,Value.cells,Nat.reduceAdd,Nat.reduceMul,Nat.zero_add,Nat.add_zero,List.toList_toArray,List.cons_append,List.nil_append,cyc];first | done | exact rfl))) | (apply YL;exact rfl)) | (fail) | (first | (refine hK _ _ _ ?_;clear hK K) | (clear hK K;refine hK _ _ _ ?_;clear hK K) | (clear hK K;clear hK K;refine hK _ _ _ ?_;clear hK K) | (clear hK K;clear hK K;clear hK K;refine hK _ _ _ ?_;clear hK K)) | intro g
 ·subst h;obtain rfl:css=[]:=by
   cases css with
   | nil=>rfl
   | cons a r=>obtain ⟨a,ha,_⟩:=hr.2 (by simp);cases ha
  exact Upd.know fun ⟨w,hw⟩=>Upd.sub (L':=[]::L) (by simp) (Upd.done (hR _ _ Y0.nil))
 ·refine Qaj QB rfl rfl rfl rfl (by decide) 0 rfl (css:=[]) ⟨by simp,.inr ⟨g,0, #[],rfl,rfl,by simp,by simp[maxLen],by simp,by simp⟩⟩ hn hr.cons h1 (by simp;omega) (by simp;omega) fun v' ch' hv _=> ?_
  repeat' first | (apply W7) | (apply QR;exact rfl) | (apply ZR) | ((first | (apply Wc;exact rfl));first | (apply QK;exact rfl) | (apply Jo;exact rfl) | (apply Qaq;exact rfl;exact rfl;all_goals (intro h;try (exfalso;omega))) | (apply Qao;exact rfl;exact rfl) | (apply W8;exact rfl;exact rfl;exact rfl;exact rfl) | (apply W9;exact rfl;exact rfl;exact rfl;exact rfl) | (apply Qbi;exact rfl;exact rfl;exact rfl;exact rfl;all_goals (intro h)) | (apply Qap;exact rfl;exact rfl;exact rfl;exact rfl;all_goals (intro h))) | (apply Qam) | (apply Zi) | (apply Qv;exact rfl;exact rfl;exact rfl;(focus (simp only[Zq,List.set_cons_zero,List.set_cons_succ,List.take_succ_cons,List.take_zero,List.drop_succ_cons,List.drop_zero,Value.cells,Nat.reduceAdd,Nat.reduceMul,Nat.zero_add,Nat.add_zero,List.toList_toArray,List.cons_append,List.nil_append,cyc];first | done | exact rfl))) | (apply WP.seq_k;intro K hK) | refine WP.region QB ?_ | (apply Jq;exact rfl) | (apply Jp;exact rfl) | (apply JX;exact rfl;all_goals (intro h)) | (apply WP.skip) | (apply WP.ret) | (apply Qar) | (apply VQ;exact rfl) | (first | (apply Jf;exact rfl;exact rfl;exact rfl;exact rfl;exact rfl;exact rfl;(focus (simp only[Zq,List.set_cons_zero,List.set_cons_succ,List.take_succ_cons,List.take_zero,List.drop_succ_cons,List.drop_zero,Value.cells,Nat.reduceAdd,Nat.reduceMul,Nat.zero_add,Nat.add_zero,List.toList_toArray,List.cons_append,List.nil_append,cyc];first | done | exact rfl))) | (apply YL;exact rfl)) | (fail) | (first | (refine hK _ _ _ ?_;clear hK K) | (clear hK K;refine hK _ _ _ ?_;clear hK K) | (clear hK K;clear hK K;refine hK _ _ _ ?_;clear hK K) | (clear hK K;clear hK K;clear hK K;refine hK _ _ _ ?_;clear hK K)) | intro g
  rw[List.nil_append] at hv
  exact Upd.done (hR _ _ hv)
theorem QdY {μ:Gh} {L:List Seg} {A:Option Addr} {n c:Nat} {css:List (List Value)} (hr:Rd μ L A 5 css) (hn:css.length=n) (h1: ∀cs∈css,∀u∈cs,u.oneCell'=true) (hb:n≤1000000)
  {R:Value→Gh→List Seg→Prop} (hR: ∀v ch,Y0 23 5 v css ch→R v μ (ch::L)):Fn Try.prog 27 [.slice A n c] μ L R:=by
 refine Fn.of_body QB Try.func27 (by kernel_rfl) rfl Try.ntmps27 (by simp) ?_
 simp only[Try.f27,Qbj,List.zipIdx,List.map,Nat.reduceAdd]
 repeat' first | (apply W7) | (apply QR;exact rfl) | (apply ZR) | ((first | (apply Wc;exact rfl));first | (apply QK;exact rfl) | (apply Jo;exact rfl) | (apply Qaq;exact rfl;exact rfl;all_goals (intro h;try (exfalso;omega))) | (apply Qao;exact rfl;exact rfl) | (apply W8;exact rfl;exact rfl;exact rfl;exact rfl) | (apply W9;exact rfl;exact rfl;exact rfl;exact rfl) | (apply Qbi;exact rfl;exact rfl;exact rfl;exact rfl;all_goals (intro h)) | (apply Qap;exact rfl;exact rfl;exact rfl;exact rfl;all_goals (intro h))) | (apply Qam) | (apply Zi) | (apply Qv;exact rfl;exact rfl;exact rfl;(focus (simp only[Zq,List.set_cons_zero,List.set_cons_succ,List.take_succ_cons,List.take_zero,List.drop_succ_cons,List.drop_zero,Value.cells,Nat.reduceAdd,Nat.reduceMul,Nat.zero_add,Nat.add_zero,List.toList_toArray,List.cons_append,List.nil_append,cyc];first | done | exact rfl))) | (apply WP.seq_k;intro K hK) | refine WP.region QB ?_ | (apply Jq;exact rfl) | (apply Jp;exact rfl) | (apply JX;exact rfl;all_goals (intro h)) | (apply WP.skip) | (apply WP.ret) | (apply Qar) | (apply VQ;exact rfl) | (first | (apply Jf;exact rfl;exact rfl;exact rfl;exact rfl;exact rfl;exact rfl;(focus (simp only[Zq,List.set_cons_zero,List.set_cons_succ,List.take_succ_cons,List.take_zero,List.drop_succ_cons,List.drop_zero,Value.cells,Nat.reduceAdd,Nat.reduceMul,Nat.zero_add,Nat.add_zero,List.toList_toArray,List.cons_append,List.nil_append,cyc];first | done | exact rfl))) | (apply YL;exact rfl)) | (fail) | (first | (refine hK _ _ _ ?_;clear hK K) | (clear hK K;refine hK _ _ _ ?_;clear hK K) | (clear hK K;clear hK K;refine hK _ _ _ ?_;clear hK K) | (clear hK K;clear hK K;clear hK K;refine hK _ _ _ ?_;clear hK K)) | intro g
 ·subst h;obtain rfl:css=[]:=by
   cases css with
   | nil=>rfl
   | cons a r=>obtain ⟨a,ha,_⟩:=hr.2 (by simp);cases ha
  exact Upd.know fun ⟨w,hw⟩=>Upd.sub (L':=[]::L) (by simp) (Upd.done (hR _ _ Y0.nil))
 ·refine Qaj QB rfl rfl rfl rfl (by decide) 0 rfl (css:=[]) ⟨by simp,.inr ⟨g,0, #[],rfl,rfl,by simp,by simp[maxLen],by simp,by simp⟩⟩ hn hr.cons h1 (by simp;omega) (by simp;omega) fun v' ch' hv _=> ?_
  repeat' first | (apply W7) | (apply QR;exact rfl) | (apply ZR) | ((first | (apply Wc;exact rfl));first | (apply QK;exact rfl) | (apply Jo;exact rfl) | (apply Qaq;exact rfl;exact rfl;all_goals (intro h;try (exfalso;omega))) | (apply Qao;exact rfl;exact rfl) | (apply W8;exact rfl;exact rfl;exact rfl;exact rfl) | (apply W9;exact rfl;exact rfl;exact rfl;exact rfl) | (apply Qbi;exact rfl;exact rfl;exact rfl;exact rfl;all_goals (intro h)) | (apply Qap;exact rfl;exact rfl;exact rfl;exact rfl;all_goals (intro h))) | (apply Qam) | (apply Zi) | (apply Qv;exact rfl;exact rfl;exact rfl;(focus (simp only[Zq,List.set_cons_zero,List.set_cons_succ,List.take_succ_cons,List.take_zero,List.drop_succ_cons,List.drop_zero,Value.cells,Nat.reduceAdd,Nat.reduceMul,Nat.zero_add,Nat.add_zero,List.toList_toArray,List.cons_append,List.nil_append,cyc];first | done | exact rfl))) | (apply WP.seq_k;intro K hK) | refine WP.region QB ?_ | (apply Jq;exact rfl) | (apply Jp;exact rfl) | (apply JX;exact rfl;all_goals (intro h)) | (apply WP.skip) | (apply WP.ret) | (apply Qar) | (apply VQ;exact rfl) | (first | (apply Jf;exact rfl;exact rfl;exact rfl;exact rfl;exact rfl;exact rfl;(focus (simp only[Zq,List.set_cons_zero,List.set_cons_succ,List.take_succ_cons,List.take_zero,List.drop_succ_cons,List.drop_zero,Value.cells,Nat.reduceAdd,Nat.reduceMul,Nat.zero_add,Nat.add_zero,List.toList_toArray,List.cons_append,List.nil_append,cyc];first | done | exact rfl))) | (apply YL;exact rfl)) | (fail) | (first | (refine hK _ _ _ ?_;clear hK K) | (clear hK K;refine hK _ _ _ ?_;clear hK K) | (clear hK K;clear hK K;refine hK _ _ _ ?_;clear hK K) | (clear hK K;clear hK K;clear hK K;refine hK _ _ _ ?_;clear hK K)) | intro g
  rw[List.nil_append] at hv
  exact Upd.done (hR _ _ hv)
theorem Qbl {μ:Gh} {L:List Seg} {A:Option Addr} {n c:Nat} {css:List (List Value)} (hr:Rd μ L A 1 css) (hn:css.length=n) (h1: ∀cs∈css,∀u∈cs,u.oneCell'=true) (hb:n≤1000000)
  {R:Value→Gh→List Seg→Prop} (hR: ∀v ch,Y0 3 1 v css ch→R v μ (ch::L)):Fn Try.prog 36 [.slice A n c] μ L R:=by
 refine Fn.of_body QB Try.func36 (by kernel_rfl) rfl Try.ntmps36 (by simp) ?_
 simp only[Try.f36,Qbj,List.zipIdx,List.map,Nat.reduceAdd]
 repeat' first | (apply W7) | (apply QR;exact rfl) | (apply ZR) | ((first | (apply Wc;exact rfl));first | (apply QK;exact rfl) | (apply Jo;exact rfl) | (apply Qaq;exact rfl;exact rfl;all_goals (intro h;try (exfalso;omega))) | (apply Qao;exact rfl;exact rfl) | (apply W8;exact rfl;exact rfl;exact rfl;exact rfl) | (apply W9;exact rfl;exact rfl;exact rfl;exact rfl) | (apply Qbi;exact rfl;exact rfl;exact rfl;exact rfl;all_goals (intro h)) | (apply Qap;exact rfl;exact rfl;exact rfl;exact rfl;all_goals (intro h))) | (apply Qam) | (apply Zi) | (apply Qv;exact rfl;exact rfl;exact rfl;(focus (simp only[Zq,List.set_cons_zero,List.set_cons_succ,List.take_succ_cons,List.take_zero,List.drop_succ_cons,List.drop_zero,Value.cells,Nat.reduceAdd,Nat.reduceMul,Nat.zero_add,Nat.add_zero,List.toList_toArray,List.cons_append,List.nil_append,cyc];first | done | exact rfl))) | (apply WP.seq_k;intro K hK) | refine WP.region QB ?_ | (apply Jq;exact rfl) | (apply Jp;exact rfl) | (apply JX;exact rfl;all_goals (intro h)) | (apply WP.skip) | (apply WP.ret) | (apply Qar) | (apply VQ;exact rfl) | (first | (apply Jf;exact rfl;exact rfl;exact rfl;exact rfl;exact rfl;exact rfl;(focus (simp only[Zq,List.set_cons_zero,List.set_cons_succ,List.take_succ_cons,List.take_zero,List.drop_succ_cons,List.drop_zero,Value.cells,Nat.reduceAdd,Nat.reduceMul,Nat.zero_add,Nat.add_zero,List.toList_toArray,List.cons_append,List.nil_append,cyc];first | done | exact rfl))) | (apply YL;exact rfl)) | (fail) | (first | (refine hK _ _ _ ?_;clear hK K) | (clear hK K;refine hK _ _ _ ?_;clear hK K) | (clear hK K;clear hK K;refine hK _ _ _ ?_;clear hK K) | (clear hK K;clear hK K;clear hK K;refine hK _ _ _ ?_;clear hK K)) | intro g
 ·subst h;obtain rfl:css=[]:=by
   cases css with
   | nil=>rfl
   | cons a r=>obtain ⟨a,ha,_⟩:=hr.2 (by simp);cases ha
  exact Upd.know fun ⟨w,hw⟩=>Upd.sub (L':=[]::L) (by simp) (Upd.done (hR _ _ Y0.nil))
 ·refine Qaj QB rfl rfl rfl rfl (by decide) 0 rfl (css:=[]) ⟨by simp,.inr ⟨g,0, #[],rfl,rfl,by simp,by simp[maxLen],by simp,by simp⟩⟩ hn hr.cons h1 (by simp;omega) (by simp;omega) fun v' ch' hv _=> ?_
  repeat' first | (apply W7) | (apply QR;exact rfl) | (apply ZR) | ((first | (apply Wc;exact rfl));first | (apply QK;exact rfl) | (apply Jo;exact rfl) | (apply Qaq;exact rfl;exact rfl;all_goals (intro h;try (exfalso;omega))) | (apply Qao;exact rfl;exact rfl) | (apply W8;exact rfl;exact rfl;exact rfl;exact rfl) | (apply W9;exact rfl;exact rfl;exact rfl;exact rfl) | (apply Qbi;exact rfl;exact rfl;exact rfl;exact rfl;all_goals (intro h)) | (apply Qap;exact rfl;exact rfl;exact rfl;exact rfl;all_goals (intro h))) | (apply Qam) | (apply Zi) | (apply Qv;exact rfl;exact rfl;exact rfl;(focus (simp only[Zq,List.set_cons_zero,List.set_cons_succ,List.take_succ_cons,List.take_zero,List.drop_succ_cons,List.drop_zero,Value.cells,Nat.reduceAdd,Nat.reduceMul,Nat.zero_add,Nat.add_zero,List.toList_toArray,List.cons_append,List.nil_append,cyc];first | done | exact rfl))) | (apply WP.seq_k;intro K hK) | refine WP.region QB ?_ | (apply Jq;exact rfl) | (apply Jp;exact rfl) | (apply JX;exact rfl;all_goals (intro h)) | (apply WP.skip) | (apply WP.ret) | (apply Qar) | (apply VQ;exact rfl) | (first | (apply Jf;exact rfl;exact rfl;exact rfl;exact rfl;exact rfl;exact rfl;(focus (simp only[Zq,List.set_cons_zero,List.set_cons_succ,List.take_succ_cons,List.take_zero,List.drop_succ_cons,List.drop_zero,Value.cells,Nat.reduceAdd,Nat.reduceMul,Nat.zero_add,Nat.add_zero,List.toList_toArray,List.cons_append,List.nil_append,cyc];first | done | exact rfl))) | (apply YL;exact rfl)) | (fail) | (first | (refine hK _ _ _ ?_;clear hK K) | (clear hK K;refine hK _ _ _ ?_;clear hK K) | (clear hK K;clear hK K;refine hK _ _ _ ?_;clear hK K) | (clear hK K;clear hK K;clear hK K;refine hK _ _ _ ?_;clear hK K)) | intro g
  rw[List.nil_append] at hv
  exact Upd.done (hR _ _ hv)
end Go.Proofs.Ytfdjjdhnfaklbaa
namespace Go.Proofs
open Go.Shelf
def Try.lays189_ren:Go.Shelf.Ren:=⟨fun | 189=>43 | 125=>67 | 257=>66 | 128=>92 | 129=>93 | 294=>83 | 295=>84 | 296=>85 | 297=>86 | 298=>87 | 299=>88 | 216=>89 | 300=>90 | 301=>91 | 328=>115 | 329=>116 | 330=>117 | 331=>118 | 332=>119 | 215=>120 | 343=>131 | n=>n,fun | 28=>37 | 3=>3 | 46=>140 | 0=>0 | 51=>164 | 53=>126 | 4=>4 | 183=>157 | 182=>156 | 131=>53 | 5=>5 | 9=>9 | 218=>180 | 222=>184 | 228=>195 | 229=>196 | n=>n,fun | n=>n⟩
theorem Try.lays189:Go.Proofs.Lays.n189 Try.prog Try.lays189_ren:={
 mixed:=by kernel_rfl
 f125:=Try.func67.trans (congrArg some (by kernel_rfl))
 f128:=Try.func92.trans (congrArg some (by kernel_rfl))
 f129:=Try.func93.trans (congrArg some (by kernel_rfl))
 f189:=Try.func43.trans (congrArg some (by kernel_rfl))
 f215:=Try.func120.trans (congrArg some (by kernel_rfl))
 f216:=Try.func89.trans (congrArg some (by kernel_rfl))
 f257:=Try.func66.trans (congrArg some (by kernel_rfl))
 f294:=Try.func83.trans (congrArg some (by kernel_rfl))
 f295:=Try.func84.trans (congrArg some (by kernel_rfl))
 f296:=Try.func85.trans (congrArg some (by kernel_rfl))
 f297:=Try.func86.trans (congrArg some (by kernel_rfl))
 f298:=Try.func87.trans (congrArg some (by kernel_rfl))
 f299:=Try.func88.trans (congrArg some (by kernel_rfl))
 f300:=Try.func90.trans (congrArg some (by kernel_rfl))
 f301:=Try.func91.trans (congrArg some (by kernel_rfl))
 f328:=Try.func115.trans (congrArg some (by kernel_rfl))
 f329:=Try.func116.trans (congrArg some (by kernel_rfl))
 f330:=Try.func117.trans (congrArg some (by kernel_rfl))
 f331:=Try.func118.trans (congrArg some (by kernel_rfl))
 f332:=Try.func119.trans (congrArg some (by kernel_rfl))
 f343:=Try.func131.trans (congrArg some (by kernel_rfl))
 t0:=Try.underlying0
 a0:=Try.isAgg0
 z0:=Try.sizeOf0
 v0:=Try.zeroValue0
 t3:=Try.underlying3
 a3:=Try.isAgg3
 z3:=Try.sizeOf3
 v3:=Try.zeroValue3
 t4:=Try.underlying4
 a4:=Try.isAgg4
 z4:=Try.sizeOf4
 v4:=Try.zeroValue4
 t5:=Try.underlying5
 a5:=Try.isAgg5
 z5:=Try.sizeOf5
 v5:=Try.zeroValue5
 t9:=Try.underlying9
 a9:=Try.isAgg9
 z9:=Try.sizeOf9
 v9:=Try.zeroValue9
 t28:=Try.underlying37
 a28:=Try.isAgg37
 z28:=Try.sizeOf37
 v28:=Try.zeroValue37
 t46:=Try.underlying140
 a46:=Try.isAgg140
 z46:=Try.sizeOf140
 v46:=Try.zeroValue140
 t51:=Try.underlying164
 a51:=Try.isAgg164
 z51:=Try.sizeOf164
 v51:=Try.zeroValue164
 t53:=Try.underlying126
 a53:=Try.isAgg126
 z53:=Try.sizeOf126
 v53:=Try.zeroValue126
 t131:=Try.underlying53
 a131:=Try.isAgg53
 z131:=Try.sizeOf53
 v131:=Try.zeroValue53
 t182:=Try.underlying156
 a182:=Try.isAgg156
 z182:=Try.sizeOf156
 v182:=Try.zeroValue156
 t183:=Try.underlying157
 a183:=Try.isAgg157
 z183:=Try.sizeOf157
 v183:=Try.zeroValue157
 t218:=Try.underlying180
 a218:=Try.isAgg180
 z218:=Try.sizeOf180
 v218:=Try.zeroValue180
 t222:=Try.underlying184
 a222:=Try.isAgg184
 z222:=Try.sizeOf184
 v222:=Try.zeroValue184
 t228:=Try.underlying195
 a228:=Try.isAgg195
 z228:=Try.sizeOf195
 v228:=Try.zeroValue195
 t229:=Try.underlying196
 a229:=Try.isAgg196
 z229:=Try.sizeOf196
 v229:=Try.zeroValue196 }
open Go.Sort Go.RowKit in
theorem Try.slices_Sort_int (blk off cap:Nat) (zs:List Int) (w:World) (hH:Holds (Value.int .i64) w blk off zs.toArray) (hblk:blk<w.heap.size) (hsz:zs.length<4611686018427387904) :
  Calls Try.prog 43 #[.slice (some ⟨blk,off,none⟩) zs.length cap] w fun e w' =>
   e= .returned (.tuple #[])∧ ∃n os,w'=grow (putRow (Value.int .i64) (Sort.ahead w n) blk off (zs.mergeSort fun x y=>decide (x≤y)).toArray) os:=Any.slices_Sort_int Try.lays189 blk off cap zs w hH hblk hsz
open Go.RowKit Go.Sort in
theorem Try.slices_Sort_int_none (p:Option Addr) (cap:Nat) (w:World) :
  Calls Try.prog 43 #[.slice p 0 cap] w fun e w'=>e= .returned (.tuple #[])∧w'=w:=Any.slices_Sort_int_none Try.lays189 p cap w
end Go.Proofs
namespace Go.Proofs
open Go.Shelf
def Try.sortedA_ren:Go.Shelf.Ren:=⟨fun | 6=>59 | 8=>79 | 9=>43 | 11=>114 | 13=>67 | 12=>66 | 23=>92 | 24=>93 | 14=>83 | 15=>84 | 16=>85 | 17=>86 | 18=>87 | 19=>88 | 20=>89 | 21=>90 | 22=>91 | 25=>115 | 26=>116 | 27=>117 | 28=>118 | 29=>119 | 30=>120 | 31=>131 | n=>n,fun | 26=>3 | 28=>132 | 24=>37 | 0=>0 | 3=>3 | 37=>140 | 48=>164 | 50=>126 | 4=>4 | 40=>157 | 39=>156 | 45=>53 | 5=>5 | 9=>9 | 51=>180 | 55=>184 | 57=>195 | 58=>196 | 33=>89 | n=>n,fun | n=>n⟩
theorem Try.sortedA:Go.Proofs.SlLaysZI.n6 Try.prog Try.sortedA_ren:={
 mixed:=by kernel_rfl
 f6:=⟨Try.f59.name,by decide,Try.func59.trans (congrArg some (by kernel_rfl))⟩
 f8:=⟨Try.f79.name,by decide,Try.func79.trans (congrArg some (by kernel_rfl))⟩
 f11:=⟨Try.f114.name,by decide,Try.func114.trans (congrArg some (by kernel_rfl))⟩
 t0:=Try.underlying0
 a0:=Try.isAgg0
 z0:=Try.sizeOf0
 v0:=Try.zeroValue0
 t24:=Try.underlying37
 a24:=Try.isAgg37
 z24:=Try.sizeOf37
 v24:=Try.zeroValue37
 t26:=Try.underlying3
 a26:=Try.isAgg3
 z26:=Try.sizeOf3
 v26:=Try.zeroValue3
 t28:=Try.underlying132
 a28:=Try.isAgg132
 z28:=Try.sizeOf132
 v28:=Try.zeroValue132
 i26:=by kernel_rfl }
def Try.keysA_ren:Go.Shelf.Ren:=⟨fun | 10=>80 | n=>n,fun | 33=>89 | 23=>77 | 0=>0 | 4=>4 | 26=>3 | 3=>4 | n=>n,fun | n=>n⟩
theorem Try.keysA:Go.Proofs.SlLaysZI.n10 Try.prog Try.keysA_ren:={
 mixed:=by kernel_rfl
 f10:=⟨Try.f80.name,by decide,Try.func80.trans (congrArg some (by kernel_rfl))⟩
 t0:=Try.underlying0
 a0:=Try.isAgg0
 z0:=Try.sizeOf0
 v0:=Try.zeroValue0
 t4:=Try.underlying4
 a4:=Try.isAgg4
 z4:=Try.sizeOf4
 v4:=Try.zeroValue4
 t23:=Try.underlying77
 a23:=Try.isAgg77
 z23:=Try.sizeOf77
 v23:=Try.zeroValue77
 t26:=Try.underlying3
 a26:=Try.isAgg3
 z26:=Try.sizeOf3
 v26:=Try.zeroValue3
 t33:=Try.underlying89
 a33:=Try.isAgg89
 z33:=Try.sizeOf89
 v33:=Try.zeroValue89 }
end Go.Proofs
namespace Go.Proofs.Ytfdjjdhnfaklbaa
open Go.RowKit Go.Maps Go.Sort Go.Shelf
set_option linter.unusedSimpArgs false
set_option linter.unusedVariables false
section
variable {es:Array MapEntry} {cn:Nat} {m:List (Int×Bool)}
theorem QbU (hm:YK Value.bool es cn m):es.toList.map (fun e=>(e.key,e.val))=m.map fun p=>(Value.int .i64 p.1,Value.bool p.2):=by
 have:=hm.ps
 rw[List.map_map] at this
 exact this
theorem Qay (hm:YK Value.bool es cn m) {e:MapEntry} (he:e∈es.toList): ∃p∈m,e.key= .int .i64 p.1∧e.val= .bool p.2:=by
 have h1:(e.key,e.val)∈es.toList.map (fun e=>(e.key,e.val)):=List.mem_map.2 ⟨e,he,rfl⟩
 rw[QbU hm] at h1
 obtain ⟨p,hp,h2⟩:=List.mem_map.1 h1;injection h2 with h2 h3
 exact ⟨p,hp,h2.symm,h3.symm⟩
theorem QeU (hm:YK Value.bool es cn m) {p:Int×Bool} (hp:p∈m): ∃e∈es.toList,e.key= .int .i64 p.1∧e.val= .bool p.2:=by
 have h1:(Value.int .i64 p.1,Value.bool p.2)∈m.map fun p=>(Value.int .i64 p.1,Value.bool p.2):=List.mem_map.2 ⟨p,hp,rfl⟩
 rw[←QbU hm] at h1
 obtain ⟨e,he,h2⟩:=List.mem_map.1 h1;injection h2 with h2 h3
 exact ⟨e,he,h2,h3⟩
theorem QeM {n:Int} (hw:wfI .i64 n):keyOf Try.prog 3 (.int .i64 n)=some (.int .i64 n):=by
 have:(Lit.int .i64 n).wf=true:=hw
 simp[keyOf,mapKey,Try.underlying3,this]
theorem Qdz {H:Type} {e:MapEntry} {p:Int×Bool} (hk:e.key= .int .i64 p.1) (hv:e.val= .bool p.2) (h1:wfI .i64 p.1) :
  WideElems.rd Try.prog 3 (plainElem (H:=H) Try.prog 4) e=some (.int .i64 p.1,.lit (.bool p.2)):=by
 obtain ⟨k,v,b⟩:=e
 simp only at hk hv
 subst hk hv;have:=plainElem_bool (H:=H) Try.underlying4 p.2;exact WideElems.rd_mk (QeM h1) this
theorem QeH {H:Type} (hm:YK Value.bool es cn m) (hw:QcQ m):WideElems.Fit Try.prog 3 (plainElem (H:=H) Try.prog 4) es cn:=by
 refine ⟨?_,(MapKept.stamped_iff es cn).2 ⟨hm.lt,hm.born,?_⟩,fun e he=> ?_⟩
 ·have h1:=YK.size hm;have h2:=hw.1;unfold maxLen;omega
 ·have h1:(es.toList.map (·.key))=m.map fun p=>Value.int .i64 p.1:=by
   have:=congrArg (List.map Prod.fst) (QbU hm)
   simpa [List.map_map,Function.comp_def] using this
  have h2:(es.toList.map (·.key)).Nodup:=by
   rw[h1]
   have h3:(m.map (·.1)).Nodup:=by
    have:=hm.nd
    simpa [List.map_map,Function.comp_def] using this
   have h4:(m.map fun p=>Value.int .i64 p.1)=(m.map (·.1)).map (Value.int .i64):=by simp[List.map_map,Function.comp_def]
   rw[h4]
   exact List.pairwise_map.2 (h3.imp fun hne e=>hne (by injection e))
  exact List.pairwise_map.1 h2
 ·obtain ⟨p,hp,hk,hv⟩:=Qay hm he;exact ⟨_,Qdz hk hv (hw.2 p hp)⟩
end
section
variable {es:Array MapEntry} {cn:Nat} {m:List (Int×Bool)} {H:Type}
noncomputable abbrev QaY (H:Type):=WideElems.rg (H:=H) Try.prog 3 (plainElem Try.prog 4)
noncomputable abbrev VS (H:Type) (es:Array MapEntry):DataW H:= .map ((es.toList.map (QaY H)).foldr DataW.insert [])
theorem Qft (hm:YK Value.bool es cn m) (hw:QcQ m) {x:Int} (hx:x∈_root_.Go.intKeys (VS H es)): ∃v,(x,v)∈m:=by
 obtain ⟨q,hq,rfl⟩:=List.mem_map.1 hx;obtain ⟨e,he,rfl⟩:=List.mem_map.1 (mem_sorted.1 hq);obtain ⟨p,hp,hk,hv⟩:=Qay hm he;have hr:QaY H e=(.int .i64 p.1,.lit (.bool p.2)):=WideElems.rg_of (Qdz hk hv (hw.2 p hp));refine ⟨p.2,?_⟩;have:_root_.Go.intOf (QaY H e).1=p.1:=by rw[hr];rfl
 rw[this]
 exact hp
theorem Qfu (hm:YK Value.bool es cn m) (hw:QcQ m) {p:Int×Bool} (hp:p∈m):p.1∈_root_.Go.intKeys (VS H es):=by
 obtain ⟨e,he,hk,hv⟩:=QeU hm hp;have hr:QaY H e=(.int .i64 p.1,.lit (.bool p.2)):=WideElems.rg_of (Qdz hk hv (hw.2 p hp));have hmem:QaY H e∈es.toList.map (QaY H):=List.mem_map.2 ⟨e,he,rfl⟩;refine List.mem_map.2 ⟨QaY H e,mem_sorted.2 hmem,?_⟩
 rw[hr];rfl
theorem QcB (hm:YK Value.bool es cn m) (hw:QcQ m):(_root_.Go.intKeys (VS H es)).Nodup:=by
 have h1:((es.toList.map (QaY H)).foldr DataW.insert []).Pairwise (fun p q=>p.1≠q.1):=List.Pairwise.imp (fun {a b} hab (e:a.1=b.1)=>by rw[e,Go.WideShapes.before_irrefl] at hab;cases hab) (Go.WideShapes.rising_pairwise _ (Maps.fit_rising (int_keyed Try.underlying3) (QeH (H:=H) hm hw)));have hk: ∀p∈((es.toList.map (QaY H)).foldr DataW.insert []),∃x,p.1= .int .i64 x:=by
  intro p hp;obtain ⟨e,he,rfl⟩:=List.mem_map.1 (mem_sorted.1 hp);obtain ⟨q,hq,hk,hv⟩:=Qay hm he;have hr:QaY H e=(.int .i64 q.1,.lit (.bool q.2)):=WideElems.rg_of (Qdz hk hv (hw.2 q hq));exact ⟨q.1,by rw[hr]⟩
 show (((es.toList.map (QaY H)).foldr DataW.insert []).map fun p=>_root_.Go.intOf p.1).Nodup
 refine List.pairwise_map.2 (h1.imp_of_mem fun {p q} hp' hq' hne e=>hne ?_);obtain ⟨a,ha⟩:=hk p hp';obtain ⟨b,hb⟩:=hk q hq'
 rw[ha,hb] at e ⊢
 exact congrArg _ e
theorem Qc3 (hm:YK Value.bool es cn m) (hw:QcQ m):(_root_.Go.intKeys (VS H es)).Perm (m.map (·.1)):=by
 have hnd:(m.map (·.1)).Nodup:=by
  have:=hm.nd
  simpa [List.map_map,Function.comp_def] using this
 refine (List.perm_ext_iff_of_nodup (QcB hm hw) hnd).2 fun x=>⟨fun hx=> ?_,fun hx=> ?_⟩
 ·obtain ⟨v,hv⟩:=Qft (H:=H) hm hw hx;exact List.mem_map.2 ⟨_,hv,rfl⟩
 ·obtain ⟨p,hp,rfl⟩:=List.mem_map.1 hx;exact Qfu hm hw hp
theorem Qbb {a b:List Int} (h:a.Perm b):YW a=YW b :=
 sorted_unique ((ZS a).trans (h.trans (ZS b).symm)) (JF a) (JF b)
end
theorem Qgi (n:Nat):AnyZI.SortsIn Try.prog Try.sortedA_ren Fence.wide n :=
 ⟨fun blk off cap ss W hH hblk hsz=>callsIn_wide.2 (Try.slices_Sort_int blk off cap ss W hH hblk hsz),fun p cap W=>callsIn_wide.2 (Try.slices_Sort_int_none p cap W)⟩
theorem Qbv {w w':World} {μ:Gh} {L:List Seg} (hw:Inv w μ L) (h:Below w.heap.size w w'):Inv w' μ L :=
 ⟨h.os.trans hw.os,h.output.trans hw.out,h.tape.trans hw.tape,fun b o hb=>by have h6:=hw.mem b o hb;rw[h.block b (QO h6)];exact h6,
  fun c hc=>by have h6:=hw.own c hc;rw[h.block c.1 (QO h6)];exact h6,hw.sep,hw.nd⟩
theorem Qfs {w w':World} {μ:Gh} {L:List Seg} (hw:Inv w μ L) (h:Below w.heap.size w w') {g:Nat} {o:Obj} (hg:w.heap.size≤g) (ho:w'.heap[g]? =some o):Inv w' μ ([(g,o)]::L):=by
 have hi:=Qbv hw h;refine ⟨hi.os,hi.out,hi.tape,hi.mem,fun c hc=> ?_,fun c hc=> ?_,?_⟩
 ·simp only[List.flatten_cons,List.singleton_append,List.mem_cons] at hc
  rcases hc with rfl | hc
  ·exact ho
  ·exact hi.own c hc
 ·simp only[List.flatten_cons,List.singleton_append,List.mem_cons] at hc
  rcases hc with rfl | hc
  ·cases hm:μ.mem g with
   | none=>rfl
   | some o'=>have:=QO (hw.mem g o' hm);omega
  ·exact hi.sep c hc
 ·simp only[List.flatten_cons,List.singleton_append,List.map_cons,List.nodup_cons]
  refine ⟨fun hc=> ?_,hi.nd⟩;obtain ⟨c,hc,e⟩:=List.mem_map.1 hc;have:=QO (hw.own c hc)
  omega
theorem Qa2 {μ:Gh} {L:List Seg} {R:Value→Gh→List Seg→Prop} {b g cn:Nat} {es:Array MapEntry} {m:List (Int×Bool)} {ys:List Int} (i j:Nat)
  (hi:L[i]? =some [(b,.cells #[.map (some g)] 77 (0,0))]) (hj:L[j]? =some [(g,.map es cn)]) (hm:YK Value.bool es cn m) (hs:QaK m=some ys)
  (hR: ∀(A:Option Addr) (c:Nat) (ch:Seg),Own Zd 3 μ (.slice A ys.length c) ys ch→R (.slice A ys.length c) μ (ch::L)) :
  Fn Try.prog 59 [.func (.func 80) #[] #[.pointer (some ⟨b,0,none⟩)]] μ L R:=by
 unfold QaK at hs
 split at hs
 case isFalse=>cases hs
 rename_i hwf
 injection hs with hs
 refine .inl ⟨⟨Try.f59,Try.func59,by kernel_rfl,rfl⟩,fun w hw=> ?_⟩;have hb:w.heap[b]? =some (.cells #[.map (some g)] 77 (0,0)):=hw.own (b,_) (List.mem_flatten.2 ⟨_,List.mem_of_getElem? hi,by simp⟩);have hg:w.heap[g]? =some (.map es cn):=hw.own (g,_) (List.mem_flatten.2 ⟨_,List.mem_of_getElem? hj,by simp⟩);have hown:w.ownsMap Try.prog 3 (plainElem (H:=Unit) Try.prog 4) g es.size (VS Unit es):=⟨es,cn,hg,QeH hm hwf,Nat.le_refl _,rfl⟩
 have hsz:Maps.size (VS Unit es)=m.length:=by rw[←YK.size hm];simp[Maps.size,length_sorted]
 have hml:=hwf.1;have hseq:=AnyZI.keys_gives Try.keysA Fence.wide 2 trivial rfl (by omega) b g es.size (VS Unit es) w (QO hb) (cell_of_box_a hb).1 hown;have cS:=AnyZI.sorted_in Try.sortedA Fence.wide 5 trivial trivial trivial trivial rfl (by omega) (Qgi _) (enters_of Try.func43 (by kernel_rfl) rfl) 80 #[.pointer (some ⟨b,0,none⟩)] trivial (enters_of Try.func80 (by kernel_rfl) rfl) _ (Maps.size (VS Unit es)) (by rw[hsz];unfold maxLen;omega) (by rw[hsz];omega) w hseq
 change CallsIn _ _ Try.prog 59 _ _ _ at cS
 refine ((callsIn_wide (n:=5)).1 cS).mono ?_;rintro e' w' ⟨v,ss,rfl,hps,hrow,hnil,hbel⟩;have hys:ss.mergeSort (fun x y=>decide (x≤y))=ys:=by rw[QcA,Qbb (hps.trans (Qc3 hm hwf)),hs]
 rw[hys] at hrow
 have hlen:ss.length=ys.length:=by rw[←hys,List.length_mergeSort]
 rw[hlen] at hrow
 rcases hrow.2 with ⟨rfl,hz⟩ | ⟨gb,cap,cur,rfl,hbase,hgb,r1,r2,r3,r4⟩
 ·have hy0:ys=[]:=List.eq_nil_of_length_eq_zero hz;subst hy0;have hi2:=Qbv hw hbel;exact ⟨_,μ,[]::L,rfl,Gh.le.refl _,hi2.perm (by simp),hR none 0 [] Own.nil⟩
 ·refine ⟨_,μ,_,rfl,Gh.le.refl _,Qfs hw hbel hbase hgb,hR _ _ _ ⟨ys.map fun x=>[Value.int .i64 x],⟨?_,.inr ⟨gb,cap,cur,?_,rfl,?_,r2,?_,?_⟩⟩,?_⟩⟩
  ·intro cs hc;obtain ⟨x,_,rfl⟩:=List.mem_map.1 hc
   rfl
  ·simp
  ·simpa using r1
  ·exact r3
  ·rw[Wm,List.length_map]
   have:Zd.sz=1:=rfl
   rw[this]
   exact r4
  ·refine ⟨by simp,fun j x y hx hy=> ?_⟩
   rw[List.getElem?_map,hx] at hy
   simp only[Option.map_some,Option.some.injEq] at hy
   exact hy.symm
set_option linter.unusedSimpArgs false
set_option linter.unusedVariables false
attribute [local irreducible] WP Q5 Jz Fn AN Upd vcR vcO WT YA Yx Jg JN WI Wn Y7 WG QP
theorem QeN {μ:Gh} {L:List Seg} {R:Value→Gh→List Seg→Prop} {g:Nat}
  (hR: ∀b,R (.func (.func 80) #[] #[.pointer (some ⟨b,0,none⟩)]) μ ([(b,.cells #[.map (some g)] 77 (0,0))]::L)):Fn Try.prog 60 [.map (some g)] μ L R:=by
 refine Fn.of_body QB Try.func60 (by kernel_rfl) rfl Try.ntmps60 (by simp) ?_
 simp only[Try.f60,Qbj,List.zipIdx,List.map,Nat.reduceAdd]
 repeat' first | (apply W7) | (apply QR;exact rfl) | (apply ZR) | ((first | (apply Wc;exact rfl));first | (apply Jo;exact rfl) | (apply QfK;exact rfl;exact rfl)) | (apply Qam) | (apply WP.seq_k;intro K hK) | refine WP.region QB ?_ | (apply WP.ret) | (apply Qar) | (apply VQ;exact rfl) | (first | (apply QfH;exact rfl;(focus (simp only[Zq,List.set_cons_zero,List.set_cons_succ,List.take_succ_cons,List.take_zero,List.drop_succ_cons,List.drop_zero,Value.cells,Nat.reduceAdd,Nat.reduceMul,Nat.zero_add,Nat.add_zero,List.toList_toArray,List.cons_append,List.nil_append,cyc];first | done | exact rfl));intro g)) | (fail) | (first | (refine hK _ _ _ ?_;clear hK K) | (clear hK K;refine hK _ _ _ ?_;clear hK K) | (clear hK K;clear hK K;refine hK _ _ _ ?_;clear hK K) | (clear hK K;clear hK K;clear hK K;refine hK _ _ _ ?_;clear hK K)) | intro g
 exact Upd.done (hR _)
end Go.Proofs.Ytfdjjdhnfaklbaa
namespace Go.Proofs.Ytfdjjdhnfaklbaa
open Go.RowKit
set_option linter.unusedSimpArgs false
set_option linter.unusedVariables false
theorem QeD {β:Type} {c:Bool} {A B r:Option β} {G:Prop} (h:(bif c then A else B)=r) (ht:c=true→A=r→G) (hf:c=false→B=r→G):G:=by
 cases c with
 | true=>exact ht rfl h
 | false=>exact hf rfl h
section
variable {P:Program} {T:TT} {fr:Fr} {μ:Gh} {L:List Seg} {k:Value→Prop} {x y:Operand}
theorem QfI {s:TypeId} {f k0 k':Nat} {a:Addr} {i:TyI} {q1 q2:Nat} {q3:Bool} (h:evV fr x=some (.pointer (some (a.add k0)))) (hT:T s=some i) (hs:JC i.u=true) (hf:i.flds[f]? =some (some (q1,q2,q3))) (h0:Nat.beq q2 0=false)
  (ho:k0+q1=k') (hk:k (.pointer (some (a.add k')))):vcR P T (.fieldAddr s x f) fr μ L k:=by
 refine Qfm h hT hs hf h0 ?_
 rw[Addr.add_add',ho];exact hk
theorem QfO {t e:TypeId} {len:Nat} {ps:Array (Nat×Operand)} {vs:List (Nat×Value)} {i j:TyI} (h:Qa8 fr ps.toList=some vs) (hT:T t=some i) (hu:i.u= .array len e) (he:T e=some j)
  (hk:Jg (fun n=>some (n*j.size,j.size)) i.zero.cells.toList vs fun cs=>k (.agg cs.toArray)):vcR P T (.build t ps) fr μ L k:=by
 refine QbV (k:=fun vs=>Ve T t vs k) h ?_
 simp only[Ve,hT,hu,JC,he];exact hk
theorem Qeu {s e:TypeId} {g o o' len sz:Nat} {kd:IntKind} {n ix:Int} {i j:TyI} (h:evV fr x=some (.pointer (some ⟨g,o,none⟩))) (h2:evV fr y=some (.int kd n)) (hn:n=ix) (hT:T s=some i) (hu:i.u= .array len e) (he:T e=some j) (hs:j.size=sz)
  (hg:0≤ix∧ix<len) (ho:o+ix.toNat*sz=o') (hk:k (.pointer (some ⟨g,o',none⟩))):vcR P T (.indexAddr s x y) fr μ L k:=by
 subst hn;exact QfU h h2 hT hu he hs hg ho hk
end
section
variable {P:Program} {T:TT} {μ:Gh} {L:List Seg} {k:Value→Gh→List Seg→Prop}
theorem Qdc (hT:TOk P T) {t:TypeId} {it:TyI} (ht:T t=some it) (hu:it.u= .string) {s:ByteArray} (hk: ∀r,k (.pointer (some ⟨r,0,none⟩)) μ ([(r,.stringIter s (0:Int).toNat)]::L)):Q5 P (Instr.range t (.string s)) μ L k:=by
 intro w hw;refine ⟨.pointer (some ⟨w.heap.size,0,none⟩),_,μ,_,?_,Gh.le.refl _,hw.alloc (.stringIter s 0),hk _⟩
 simp[Instr.range,QL hT ht hu (by simp)]
theorem QcY {s:ByteArray} {p:Nat} {b:Int} (h:JV s (p:Int)=some b) (hb:b<128):((Utf8.decode s p).1:Int)=b∧(Utf8.decode s p).2=1∧p<s.size:=by
 unfold JV at h
 rw[if_pos (by omega),Int.toNat_natCast] at h
 have hp:p<s.size:=by
  rcases Nat.lt_or_ge p s.size with h1 | h1
  ·exact h1
  ·rw[getElem?_neg s p (by omega)] at h;cases h
 rw[getElem?_pos s p hp] at h
 simp only[Option.map_some,Option.some.injEq] at h
 have hg:s.get! p=s[p]:=by
  have:s.get! p=s.data[p]! :=rfl
  rw[this,getElem!_pos s.data p hp];rfl
 have h0:(s.get! (p+0)).toNat<128:=by
  rw[Nat.add_zero,hg];omega
 have e:Utf8.decode s p=((s.get! (p+0)).toNat,1):=by
  unfold Utf8.decode
  simp only
  rw[if_pos h0]
 rw[e]
 refine ⟨?_,rfl,hp⟩
 show (((s.get! (p+0)).toNat:Nat):Int)=b
 rw[Nat.add_zero,hg];exact h
theorem Qda {s:ByteArray} {q:Int} (h0:decide (q<((s.size:Nat):Int))=false) (j:Nat) {r:Nat} {ty:TypeId} (hj:L[j]? =some [(r,.stringIter s q.toNat)]) (hk:k (.tuple #[.bool false]) μ L):Q5 P (Instr.next (.pointer (some ⟨r,0,none⟩)) true ty) μ L k:=by
 intro w hw;have hr:w.heap[r]? =some (.stringIter s q.toNat):=hw.own (r,_) (List.mem_flatten.2 ⟨_,List.mem_of_getElem? hj,by simp⟩);have hn: ¬q.toNat<s.size:=by
  have:=of_decide_eq_false h0
  omega
 refine ⟨_,w,μ,L,?_,Gh.le.refl _,hw,hk⟩
 simp only[Instr.next,getObj,Sem.run_bind,Sem.run,hr,Result.andThen]
 rw[if_neg hn]
 rfl
theorem Qdb {s:ByteArray} {q c:Int} (h0:decide (q<((s.size:Nat):Int))=true) (hc:QdC s q=some c) (j:Nat) {r:Nat} {ty:TypeId} (hj:L[j]? =some [(r,.stringIter s q.toNat)])
  (hk:k (.tuple #[.bool true,.int .i64 q,.int .i32 c]) μ (L.set j [(r,.stringIter s (q+1).toNat)])):Q5 P (Instr.next (.pointer (some ⟨r,0,none⟩)) true ty) μ L k:=by
 intro w hw;have hr:w.heap[r]? =some (.stringIter s q.toNat):=hw.own (r,_) (List.mem_flatten.2 ⟨_,List.mem_of_getElem? hj,by simp⟩);unfold QdC at hc;cases hb:JV s q with
 | none=>rw[hb] at hc;cases hc
 | some b =>
  rw[hb,Option.bind_some] at hc
  split at hc
  case isFalse=>cases hc
  rename_i hlt
  cases hc;have hq:0≤q:=by
   unfold JV at hb
   split at hb
   ·assumption
   ·cases hb
  obtain ⟨p,rfl⟩: ∃p:Nat,q=p:=⟨q.toNat,by omega⟩
  rw[Int.toNat_natCast] at hr hj
  obtain ⟨d1,d2,d3⟩:=QcY hb hlt;have e1:((p:Int)+1).toNat=p+1:=by omega
  refine ⟨.tuple #[.bool true,.int .i64 (p:Int),.int .i32 c],_,μ,_,?_,Gh.le.refl _,hw.updObj hj (show [(r,Obj.stringIter s p)][0]? =some _ from rfl) (o':= .stringIter s (p+1)),?_⟩
  ·simp only[Instr.next,getObj,Sem.run_bind,Sem.run,hr,Result.andThen]
   rw[if_pos d3]
   simp only[setObj,Sem.run_bind,Sem.run,hr,Result.andThen,d2,d1,goInt]
   rfl
  ·rw[e1] at hk;exact hk
end
theorem Fn.regroup {P:Program} {f:FuncId} {args:List Value} {μ:Gh} {L:List Seg} {R:Value→Gh→List Seg→Prop} (h:Fn P f args μ L fun v μ' L'=> ∃L2,Qd L2 L'∧R v μ' L2):Fn P f args μ L R:=by
 rcases h with ⟨h1,h2⟩ | ⟨fn,e,h1,h2,h3,h4,h5,h6⟩
 ·exact .inl ⟨h1,fun w hw=>(h2 w hw).mono fun _ w' ⟨v,μ',L',he,hm,hi,L2,hs,hR⟩=>⟨v,μ',L2,he,hm,hs _ _ hi,hR⟩⟩
 ·refine .inr ⟨fn,e,h1,h2,h3,h4,h5,fun w hw=> ?_⟩;obtain ⟨v,w',μ',L',k1,k2,k3,L2,k4,k5⟩:=h6 w hw;exact ⟨v,w',μ',L2,k1,k2,k4 _ _ k3,k5⟩
end Go.Proofs.Ytfdjjdhnfaklbaa
