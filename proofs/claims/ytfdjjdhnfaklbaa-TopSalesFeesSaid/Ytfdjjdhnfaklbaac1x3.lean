/- TopSalesFees: for every input the given law returns true, and its arguments read as before. No condition. -/
import Derived.Test.Ytfdjjdhnfaklbaac1x2
import Derived.Test.Ytfdjjdhnfaklbaac1x1
import Derived.Laws.StructEq
namespace Go.Proofs.Ytfdjjdhnfaklbaa
open Go.RowKit
set_option linter.unusedSimpArgs false
set_option linter.unusedVariables false
noncomputable section
structure Ql where
 Code:ByteArray
 Producer:Int
 Deposit:Int
 Material:Int
 Grams:Int
deriving DecidableEq
def WX (x:Ql):List Value:=[.string x.Code,.int .i64 x.Producer,.int .i64 x.Deposit,.int .i64 x.Material,.int .i64 x.Grams]
def Jc:Rp Ql:=QeG 5 WX (fun _=>rfl) (by intro x u hu;simp only[WX,List.mem_cons,List.not_mem_nil,or_false] at hu;rcases hu with rfl | rfl | rfl | rfl | rfl<;>rfl)
structure Qz where
 Product:Int
 First:Int
 Count:Int
 Retailer:Int
 At:Int
deriving DecidableEq
def V4 (x:Qz):List Value:=[.int .i64 x.Product,.int .i64 x.First,.int .i64 x.Count,.int .i64 x.Retailer,.int .i64 x.At]
def WO:Rp Qz:=QeG 5 V4 (fun _=>rfl) (by intro x u hu;simp only[V4,List.mem_cons,List.not_mem_nil,or_false] at hu;rcases hu with rfl | rfl | rfl | rfl | rfl<;>rfl)
structure Qa where
 Producer:Int
 Material:Int
 Grams:Int
deriving DecidableEq
def WW (x:Qa):List Value:=[.int .i64 x.Producer,.int .i64 x.Material,.int .i64 x.Grams]
def Qg:Rp Qa:=QeG 3 WW (fun _=>rfl) (by intro x u hu;simp only[WW,List.mem_cons,List.not_mem_nil,or_false] at hu;rcases hu with rfl | rfl | rfl<;>rfl)
structure Za where
 producer:Int
 material:Int
deriving DecidableEq
structure Qf where
 Producer:Int
 Material:Int
 Amount:Int
deriving DecidableEq
def QaB (x:Qf):List Value:=[.int .i64 x.Producer,.int .i64 x.Material,.int .i64 x.Amount]
def QS:Rp Qf:=QeG 3 QaB (fun _=>rfl) (by intro x u hu;simp only[QaB,List.mem_cons,List.not_mem_nil,or_false] at hu;rcases hu with rfl | rfl | rfl<;>rfl)
structure ZC where
 From:Int
 To:Int
deriving DecidableEq
structure Qk where
 producer:Int
 material:Int
deriving DecidableEq
def Ys (μ:Gh) (v:Value) (x:(List Int)) (so:Seg):Prop:= ∃(g:Nat) (A0:Option Addr) (c0:Nat) (ch0:Seg),v= .pointer (some ⟨g,0,none⟩)∧so=((g,Obj.cells #[.slice A0 x.length c0] 37 (0,0))::ch0)∧Own Qq 3 μ (.slice A0 x.length c0) x ch0
theorem Ys.mono {μ μ':Gh} {v:Value} {x:(List Int)} {so:Seg} (h:Ys μ v x so) (hm:μ.le μ'):Ys μ' v x so:=by
 obtain ⟨g,A0,c0,ch0,hv,hs,h0⟩:=h;exact ⟨g,A0,c0,ch0,hv,hs,h0.mono hm⟩
theorem Ys.fl {x:(List Int)} {g:Nat} {A0:Option Addr} {c0:Nat} {ch0:Seg}:([[(g,Obj.cells #[.slice A0 x.length c0] 37 (0,0))],ch0]:List Seg).flatten=((g,Obj.cells #[.slice A0 x.length c0] 37 (0,0))::ch0):=by simp
def Vn (x:Ql):Prop:=(fun s:ByteArray=>s.size≤maxLen) x.Code∧(wfI .i64) x.Producer∧(wfI .i64) x.Deposit∧(wfI .i64) x.Material∧(wfI .i64) x.Grams
def QaN (x:Qz):Prop:=(wfI .i64) x.Product∧(wfI .i64) x.First∧(wfI .i64) x.Count∧(wfI .i64) x.Retailer∧(wfI .i64) x.At
def Ym (s1:ByteArray) (n1:Int) (i1:Int):Option ((Int)⊕(Unit⊕Bool)) :=
 bif (decide (i1<n1)) then
  Option.bind (
   Option.bind (VK s1 i1) fun x1 =>
   bif (decide (x1<48)) then
    some true
   else
    Option.bind (VK s1 i1) fun x2 =>
    some (decide (57<x2))) (fun v1 =>
   bif v1 then
    some (.inr (.inr false))
   else
    some (.inl (w64 (i1+1))))
 else
  some (.inr (.inl ()))
def Yj (s1:ByteArray) (n1:Int):Option (Bool) :=
 bif (!(decide (((s1.size:Nat):Int)=n1))) then
  some false
 else
  Option.bind (
   iter (Ym s1 n1) (n1.toNat+1) 0) (fun o_=>Yl o_ (fun _ =>
   some true) (fun rv11=>some rv11))
def YW (s1:ByteArray) (j_:Int×Int):Option ((Int×Int)⊕(Int)) :=
 oun j_ fun sum1 i1 =>
 bif (decide (i1<12)) then
  Option.bind (VK s1 i1) fun x1 =>
  Option.bind (
   bif (decide ((Int.tmod i1 2)=1)) then
    some (w64 (3*(w64 (IntKind.u8.wrap (x1-48)))))
   else
    some (w64 (IntKind.u8.wrap (x1-48)))) (fun d1 =>
   some (.inl (w64 (sum1+d1),w64 (i1+1))))
 else
  some (.inr sum1)
def YO (s1:ByteArray):Option (Int×Int) :=
 Option.bind (Yj s1 12) fun r1 =>
 bif (!r1) then
  some (0,3)
 else
  Option.bind (
   iter (YW s1) ((12:Int).toNat+1) (0,0)) (fun sum2 =>
   some (Int.tmod (w64 (10-(Int.tmod sum2 10))) 10,0))
def Y6 (s1:ByteArray):Option (Int) :=
 Option.bind (Yj s1 13) fun r1 =>
 bif (!r1) then
  some 3
 else
  Option.bind (Qfi s1 0 12) fun s2 =>
  Option.bind (YO s2) fun j_=>oun j_ fun r2 r3 =>
  Option.bind (VK s1 12) fun x1 =>
  bif (!(decide ((w64 (IntKind.u8.wrap (x1-48)))=r2))) then
   some 26
  else
   some 0
def Yt (l1:(List Ql)) (parties1:Int) (materials1:Int) (v1:Int):Option ((Int)⊕(Unit⊕Int)) :=
 bif (decide (v1<((
           l1.length:Nat):Int))) then
  Option.bind (Qp l1 v1) fun x1 =>
  Option.bind (Y6 x1.Code) fun r1 =>
  bif (!(decide (r1=0))) then
   some (.inr (.inr r1))
  else
   Option.bind (
    bif (decide (x1.Producer<0)) then
     some true
    else
     some (decide (parties1≤x1.Producer))) (fun v2 =>
    bif v2 then
     some (.inr (.inr 7))
    else
     Option.bind (
      bif (decide (x1.Deposit<1)) then
       some true
      else
       some (decide (1000<x1.Deposit))) (fun v3 =>
      bif v3 then
       some (.inr (.inr 1))
      else
       Option.bind (
        bif (decide (x1.Material<0)) then
         some true
        else
         some (decide (materials1≤x1.Material))) (fun v4 =>
        bif v4 then
         some (.inr (.inr 21))
        else
         Option.bind (
          bif (decide (x1.Grams<1)) then
           some true
          else
           some (decide (10000<x1.Grams))) (fun v5 =>
          bif v5 then
           some (.inr (.inr 1))
          else
           some (.inl (w64 (v1+1)))))))
 else
  some (.inr (.inl ()))
def Yu (l1:(List Ql)) (v6:Int) (k1:Int):Option ((Int)⊕(Unit⊕Int)) :=
 bif (decide (k1<v6)) then
  Option.bind (Qp l1 k1) fun x2 =>
  Option.bind (Qp l1 v6) fun x3 =>
  bif (decide (x2.Code=x3.Code)) then
   some (.inr (.inr 6))
  else
   some (.inl (w64 (k1+1)))
 else
  some (.inr (.inl ()))
def Yv (l1:(List Ql)) (v6:Int):Option ((Int)⊕(Unit⊕Int)) :=
 bif (decide (v6<((l1.length:Nat):Int))) then
  Option.bind (
   Option.bind (
    iter (Yu l1 v6) (v6.toNat+1) 0) (fun o_=>Yl o_ (fun _ =>
    some (.inl ())) (fun rv52=>some (.inr rv52)))) (fun o_=>Yl o_ (fun _ =>
   some (.inl (w64 (v6+1)))) (fun rv51=>some (.inr (.inr rv51))))
 else
  some (.inr (.inl ()))
def YN (l1:(List Ql)) (parties1:Int) (materials1:Int):Option (Int) :=
 bif (decide (64<((l1.length:Nat):Int))) then
  some 8
 else
  Option.bind (
   iter (Yt l1 parties1 materials1) (((l1.length:Nat):Int).toNat+1) 0) (fun o_=>Yl o_ (fun _ =>
   Option.bind (
    iter (Yv l1) (((l1.length:Nat):Int).toNat+1) 0) (fun o_=>Yl o_ (fun _ =>
    some 0) (fun rv44=>some rv44))) (fun rv7=>some rv7))
def Zd (products1:Int) (x1:Qz) (parties1:Int):Option (Int) :=
 Option.bind (
  bif (decide (x1.Product<0)) then
   some true
  else
   some (decide (products1≤x1.Product))) (fun v1 =>
  bif v1 then
   some 7
  else
   Option.bind (
    bif (decide (x1.First<0)) then
     some true
    else
     bif (decide (1073741824<x1.First)) then
      some true
     else
      bif (decide (x1.Count<1)) then
       some true
      else
       bif (decide (1000<x1.Count)) then
        some true
       else
        some (decide ((w64 (1073741824-(w64 (x1.Count-1))))<x1.First))) (fun v2 =>
    bif v2 then
     some 1
    else
     Option.bind (
      bif (decide (x1.Retailer<0)) then
       some true
      else
       some (decide (parties1≤x1.Retailer))) (fun v3 =>
      bif v3 then
       some 7
      else
       Option.bind (
        bif (decide (x1.At<0)) then
         some true
        else
         some (decide (3155759999<x1.At))) (fun v4 =>
        bif v4 then
         some 1
        else
         some 0))))
def Q6 (x1:Qz) (s1:Int):Option (Bool) :=
 Option.bind (
  bif (decide (x1.First≤s1)) then
   bif (decide (0<x1.Count)) then
    some (decide ((IntKind.u64.wrap ((IntKind.u64.wrap (s1))-(IntKind.u64.wrap (x1.First))))<(IntKind.u64.wrap (x1.Count))))
   else
    some false
  else
   some false) (fun v1 =>
  some v1)
def Yw (products1:(List Ql)) (l1:(List Qz)) (parties1:Int) (i1:Int):Option ((Int)⊕(Unit⊕Int)) :=
 bif (decide (i1<((l1.length:Nat):Int))) then
  Option.bind (Qp l1 i1) fun x1 =>
  Option.bind (Zd ((products1.length:Nat):Int) x1 parties1) fun r1 =>
  bif (!(decide (r1=0))) then
   some (.inr (.inr r1))
  else
   some (.inl (w64 (i1+1)))
 else
  some (.inr (.inl ()))
def Yx (l1:(List Qz)) (i2:Int) (k1:Int):Option ((Int)⊕(Unit⊕Int)) :=
 bif (decide (k1<i2)) then
  Option.bind (
   Option.bind (Qp l1 i2) fun x2 =>
   Option.bind (Qp l1 k1) fun x3 =>
   Option.bind (Q6 x2 x3.First) fun r2 =>
   bif r2 then
    some true
   else
    Option.bind (Qp l1 k1) fun x4 =>
    Option.bind (Qp l1 i2) fun x5 =>
    Option.bind (Q6 x4 x5.First) fun r3 =>
    some r3) (fun v1 =>
   bif v1 then
    some (.inr (.inr 6))
   else
    some (.inl (w64 (k1+1))))
 else
  some (.inr (.inl ()))
def Yy (l1:(List Qz)) (i2:Int):Option ((Int)⊕(Unit⊕Int)) :=
 bif (decide (i2<((l1.length:Nat):Int))) then
  Option.bind (
   Option.bind (
    iter (Yx l1 i2) (i2.toNat+1) 0) (fun o_=>Yl o_ (fun _ =>
    some (.inl ())) (fun rv83=>some (.inr rv83)))) (fun o_=>Yl o_ (fun _ =>
   some (.inl (w64 (i2+1)))) (fun rv82=>some (.inr (.inr rv82))))
 else
  some (.inr (.inl ()))
def YP (products1:(List Ql)) (l1:(List Qz)) (parties1:Int):Option (Int) :=
 bif (decide (512<((l1.length:Nat):Int))) then
  some 8
 else
  Option.bind (
   iter (Yw products1 l1 parties1) (((l1.length:Nat):Int).toNat+1) 0) (fun o_=>Yl o_ (fun _ =>
   Option.bind (
    iter (Yy l1) (((l1.length:Nat):Int).toNat+1) 0) (fun o_=>Yl o_ (fun _ =>
    some 0) (fun rv71=>some rv71))) (fun rv57=>some rv57))
def Jt (costs1:(List Int)) (v2:Int):Option ((Int)⊕(Unit⊕Int)) :=
 bif (decide (v2<((costs1.length:Nat):Int))) then
  Option.bind (Qp costs1 v2) fun x1 =>
  Option.bind (
   bif (decide (x1<0)) then
    some true
   else
    some (decide (1000000000000<x1))) (fun v3 =>
   bif v3 then
    some (.inr (.inr 1))
   else
    some (.inl (w64 (v2+1))))
 else
  some (.inr (.inl ()))
def Ju (mod1:(List Int)) (v5:Int):Option ((Int)⊕(Unit⊕Int)) :=
 bif (decide (v5<((mod1.length:Nat):Int))) then
  Option.bind (Qp mod1 v5) fun x2 =>
  Option.bind (
   bif (decide (x2<1)) then
    some true
   else
    some (decide (10000<x2))) (fun v6 =>
   bif v6 then
    some (.inr (.inr 1))
   else
    some (.inl (w64 (v5+1))))
 else
  some (.inr (.inl ()))
def Jv (costs1:(List Int)) (l1:(List Qa)) (mod1:(List Int)) (v7:Int):Option ((Int)⊕(Unit⊕Int)) :=
 bif (decide (v7<((l1.length:Nat):Int))) then
  Option.bind (Qp l1 v7) fun x3 =>
  Option.bind (
   bif (decide (x3.Producer<0)) then
    some true
   else
    some (decide (((mod1.length:Nat):Int)≤x3.Producer))) (fun v8 =>
   bif v8 then
    some (.inr (.inr 7))
   else
    Option.bind (
     bif (decide (x3.Material<0)) then
      some true
     else
      some (decide (((costs1.length:Nat):Int)≤x3.Material))) (fun v9 =>
     bif v9 then
      some (.inr (.inr 18))
     else
      Option.bind (
       bif (decide (x3.Grams<0)) then
        some true
       else
        some (decide (1073741824<x3.Grams))) (fun v10 =>
       bif v10 then
        some (.inr (.inr 1))
       else
        some (.inl (w64 (v7+1))))))
 else
  some (.inr (.inl ()))
def ZX (l1:(List Qa)) (j_:(List (Za×Bool))×Int):Option (((List (Za×Bool))×Int)⊕(Unit⊕Int)) :=
 oun j_ fun m1 v11 =>
 bif (decide (v11<((l1.length:Nat):Int))) then
  Option.bind (Qp l1 v11) fun x4 =>
  bif ((ZJ (Za.mk x4.Producer x4.Material) m1).getD false) then
   some (.inr (.inr 6))
  else
   some (.inl ((Zp (Za.mk x4.Producer x4.Material) true m1),w64 (v11+1)))
 else
  some (.inr (.inl ()))
def Ws (costs1:(List Int)) (l1:(List Qa)) (mod1:(List Int)):Option (Int) :=
 Option.bind (
  bif (decide (((costs1.length:Nat):Int)<1)) then
   some true
  else
   some (decide (16<((costs1.length:Nat):Int)))) (fun v1 =>
  bif v1 then
   some 1
  else
   Option.bind (
    iter (Jt costs1) (((costs1.length:Nat):Int).toNat+1) 0) (fun o_=>Yl o_ (fun _ =>
    Option.bind (
     bif (decide (((mod1.length:Nat):Int)<1)) then
      some true
     else
      some (decide (32<((mod1.length:Nat):Int)))) (fun v4 =>
     bif v4 then
      some 1
     else
      Option.bind (
       iter (Ju mod1) (((mod1.length:Nat):Int).toNat+1) 0) (fun o_=>Yl o_ (fun _ =>
       bif (decide (512<((l1.length:Nat):Int))) then
        some 8
       else
        Option.bind (
         iter (Jv costs1 l1 mod1) (((l1.length:Nat):Int).toNat+1) 0) (fun o_=>Yl o_ (fun _ =>
         Option.bind (
          iter (ZX l1) (((l1.length:Nat):Int).toNat+1) ([],0)) (fun o_=>Yl o_ (fun _ =>
          some 0) (fun rv133=>some rv133))) (fun rv111=>some rv111))) (fun rv106=>some rv106)))) (fun rv100=>some rv100)))
def Jj (x1:Int):Option (Int) :=
 Option.bind (
  bif (decide (4294967296≤x1)) then
   Option.bind (QP (0≤32∧32≤64)) fun _ =>
   some (x1/2^(32:Int).toNat,32)
  else
   some (x1,0)) (fun j_=>oun j_ fun x2 n1 =>
  Option.bind (
   bif (decide (65536≤x2)) then
    Option.bind (QP (0≤16∧16≤64)) fun _ =>
    some (x2/2^(16:Int).toNat,w64 (n1+16))
   else
    some (x2,n1)) (fun j_=>oun j_ fun x3 n2 =>
   Option.bind (
    bif (decide (256≤x3)) then
     Option.bind (QP (0≤8∧8≤64)) fun _ =>
     some (x3/2^(8:Int).toNat,w64 (n2+8))
    else
     some (x3,n2)) (fun j_=>oun j_ fun x4 n3 =>
    Option.bind (VK ⟨#[0,1,2,2,3,3,3,3,4,4,4,4,4,4,4,4,5,5,5,5,5,5,5,5,5,5,5,5,5,5,5,5,6,6,6,6,6,6,6,6,6,6,6,6,6,6,6,6,6,6,6,6,6,6,6,6,6,6,6,6,6,6,6,6,7,7,7,7,7,7,7,7,7,7,7,7,7,7,7,7,7,7,7,7,7,7,7,7,7,7,7,7,7,7,7,7,7,7,7,7,7,7,7,7,7,7,7,7,7,7,7,7,7,7,7,7,7,7,7,7,7,7,7,7,7,7,7,7,8,8,8,8,8,8,8,8,8,8,8,8,8,8,8,8,8,8,8,8,8,8,8,8,8,8,8,8,8,8,8,8,8,8,8,8,8,8,8,8,8,8,8,8,8,8,8,8,8,8,8,8,8,8,8,8,8,8,8,8,8,8,8,8,8,8,8,8,8,8,8,8,8,8,8,8,8,8,8,8,8,8,8,8,8,8,8,8,8,8,8,8,8,8,8,8,8,8,8,8,8,8,8,8,8,8,8,8,8,8,8,8,8,8,8,8,8,8,8,8,8,8,8,8,8,8,8,8]⟩ (IntKind.u8.wrap (x4))) fun x5 =>
    some (w64 (n3+(w64 (x5)))))))
def J3 (x1:Int):Option (Int) :=
 Option.bind (Jj x1) fun r1 =>
 some r1
def WK (a1:Qa) (b1:Qa):Option (Int) :=
 some (w64 (a1.Producer-b1.Producer))
def YD (a1:Int) (j_:(List Qa)×Int):Option (((List Qa)×Int)⊕((List Qa))) :=
 oun j_ fun data3 j1 =>
 Option.bind (
  bif (decide (a1<j1)) then
   Option.bind (Qp data3 j1) fun x1 =>
   Option.bind (Qp data3 (w64 (j1-1))) fun x2 =>
   Option.bind (WK x1 x2) fun r1 =>
   some (decide (r1<0))
  else
   some false) (fun v1 =>
  bif v1 then
   Option.bind (Qp data3 (w64 (j1-1))) fun x3 =>
   Option.bind (Qp data3 j1) fun x4 =>
   Option.bind (Qp data3 j1) fun x5 =>
   Option.bind (Qp (YV data3 j1 x3) (w64 (j1-1))) fun x6 =>
   some (.inl ((YV (YV data3 j1 x3) (w64 (j1-1)) x4),w64 (j1-1)))
  else
   some (.inr data3))
def YE (F:Nat) (a1:Int) (b1:Int) (j_:(List Qa)×Int):Option (((List Qa)×Int)⊕((List Qa))) :=
 oun j_ fun data2 i1 =>
 bif (decide (i1<b1)) then
  Option.bind (
   Option.bind (
    iter (YD a1) F (data2,i1)) (fun data4 =>
    some data4)) (fun data5 =>
   some (.inl (data5,w64 (i1+1))))
 else
  some (.inr data2)
def QJ (F:Nat) (data1:(List Qa)) (a1:Int) (b1:Int):Option ((List Qa)) :=
 Option.bind (
  iter (YE F a1 b1) F (data1,w64 (a1+1))) (fun data6 =>
  some data6)
def QR (F:Nat) (data1:(List Qa)) (a1:Int) (b1:Int) (_:Unit):Option ((Unit)⊕((List Qa))) :=
 bif (decide ((w64 (b1-a1))≤12)) then
  Option.bind (QJ F data1 a1 b1) fun r1 =>
  some (.inr r1)
 else
  none
def QZ (F:Nat) (data1:(List Qa)) (a1:Int) (b1:Int) (limit1:Int):Option ((List Qa)) :=
 Option.bind (
  iter (QR F data1 a1 b1) F ()) (fun rv676=>some rv676)
def Q4 (F:Nat) (x1:(List Qa)):Option ((List Qa)) :=
 Option.bind (J3 (IntKind.u64.wrap (((x1.length:Nat):Int)))) fun r1 =>
 Option.bind (QZ F x1 0 ((x1.length:Nat):Int) r1) fun r2 =>
 some r2
def Jp (l1:(List Int)) (v1:Int):Option ((Int)⊕(Unit⊕Bool)) :=
 bif (decide (v1<((l1.length:Nat):Int))) then
  Option.bind (Qp l1 v1) fun x1 =>
  Option.bind (
   bif (decide (x1<(-1125899906842624))) then
    some true
   else
    some (decide (1125899906842624<x1))) (fun v2 =>
   bif v2 then
    some (.inr (.inr false))
   else
    some (.inl (w64 (v1+1))))
 else
  some (.inr (.inl ()))
def Qaq (l1:(List Int)):Option (Bool) :=
 Option.bind (
  iter (Jp l1) (((l1.length:Nat):Int).toNat+1) 0) (fun o_=>Yl o_ (fun _ =>
  some true) (fun rv764=>some rv764))
def Wj (n1:Int):Option (Int×Int) :=
 Option.bind (Qaq [n1]) fun r1 =>
 bif (!r1) then
  some (0,2)
 else
  some (n1,0)
def J7 (l1:(List Int)) (j_:Int×Int×Int):Option ((Int×Int×Int)⊕((Int×Int)⊕(Int×Int))) :=
 oun j_ fun hi1 j_=>oun j_ fun lo1 v1 =>
 bif (decide (v1<((l1.length:Nat):Int))) then
  Option.bind (Qp l1 v1) fun x1 =>
  Option.bind (Qaq [x1]) fun r1 =>
  bif (!r1) then
   some (.inr (.inr (0,1)))
  else
   Option.bind (QP (0≤25∧25≤64)) fun _ =>
   some (.inl (w64 (hi1+(x1/2^(25:Int).toNat)),w64 (lo1+(WG .i64 x1 33554431)),w64 (v1+1)))
 else
  some (.inr (.inl (hi1,lo1)))
def Qac (l1:(List Int)):Option (Int×Int) :=
 Option.bind (
  iter (J7 l1) (((l1.length:Nat):Int).toNat+1) (0,0,0)) (fun o_=>Yl o_ (fun j_=>oun j_ fun hi2 lo2 =>
  Option.bind (QP (0≤25∧25≤64)) fun _ =>
  Option.bind (
   bif (decide ((w64 (hi2+(lo2/2^(25:Int).toNat)))<(-67108864))) then
    some (w64 (hi2+(lo2/2^(25:Int).toNat)),true)
   else
    some (w64 (hi2+(lo2/2^(25:Int).toNat)),(decide (67108864<(w64 (hi2+(lo2/2^(25:Int).toNat))))))) (fun j_=>oun j_ fun hi3 v2 =>
   bif v2 then
    some (0,2)
   else
    Option.bind (QP (0≤25∧25≤64)) fun _ =>
    Option.bind (Wj (w64 ((w64 (hi3*2^(25:Int).toNat))+(WG .i64 lo2 33554431)))) fun j_=>oun j_ fun r2 r3 =>
    some (r2,r3))) (fun rv760=>some rv760))
def Zz (weights1:(List Int)) (v2:Int):Option ((Int)⊕(Unit⊕(Int×Int))) :=
 bif (decide (v2<((weights1.length:Nat):Int))) then
  Option.bind (Qp weights1 v2) fun x1 =>
  Option.bind (
   bif (decide (x1<0)) then
    some true
   else
    some (decide (1125899906842624<x1))) (fun v3 =>
   bif v3 then
    some (.inr (.inr (0,1)))
   else
    some (.inl (w64 (v2+1))))
 else
  some (.inr (.inl ()))
def Jg (weights1:(List Int)):Option (Int×Int) :=
 Option.bind (
  bif (decide (((weights1.length:Nat):Int)<1)) then
   some true
  else
   some (decide (512<((weights1.length:Nat):Int)))) (fun v1 =>
  bif v1 then
   some (0,1)
  else
   Option.bind (
    iter (Zz weights1) (((weights1.length:Nat):Int).toNat+1) 0) (fun o_=>Yl o_ (fun _ =>
    Option.bind (Qac weights1) fun j_=>oun j_ fun r1 r2 =>
    some (r1,r2)) (fun rv754=>some rv754)))
def JE (x1:Int) (y1:Int):Option (Int×Int) :=
 Option.bind (QP (0≤32∧32≤64)) fun _ =>
 Option.bind (QP (0≤32∧32≤64)) fun _ =>
 Option.bind (QP (0≤32∧32≤64)) fun _ =>
 Option.bind (QP (0≤32∧32≤64)) fun _ =>
 Option.bind (QP (0≤32∧32≤64)) fun _ =>
 some (IntKind.u64.wrap ((IntKind.u64.wrap ((IntKind.u64.wrap ((x1/2^(32:Int).toNat)*(y1/2^(32:Int).toNat)))+((IntKind.u64.wrap ((IntKind.u64.wrap ((x1/2^(32:Int).toNat)*(WG .u64 y1 4294967295)))+((IntKind.u64.wrap ((WG .u64 x1 4294967295)*(WG .u64 y1 4294967295)))/2^(32:Int).toNat)))/2^(32:Int).toNat)))+((IntKind.u64.wrap ((WG .u64 (IntKind.u64.wrap ((IntKind.u64.wrap ((x1/2^(32:Int).toNat)*(WG .u64 y1 4294967295)))+((IntKind.u64.wrap ((WG .u64 x1 4294967295)*(WG .u64 y1 4294967295)))/2^(32:Int).toNat))) 4294967295)+(IntKind.u64.wrap ((WG .u64 x1 4294967295)*(y1/2^(32:Int).toNat)))))/2^(32:Int).toNat)),IntKind.u64.wrap (x1*y1))
def Y4 (x1:Int):Option (Int) :=
 Option.bind (Jj x1) fun r1 =>
 some (w64 (64-r1))
def Z7 (lo1:Int) (y1:Int) (r1:Int) (j_:Int×Int):Option ((Int×Int)⊕(Int)) :=
 oun j_ fun q11 rhat1 =>
 Option.bind (
  bif (decide (4294967296≤q11)) then
   some true
  else
   some (decide ((IntKind.u64.wrap ((IntKind.u64.wrap (4294967296*rhat1))+((IntKind.u64.wrap (lo1*2^(IntKind.u64.wrap (r1)).toNat))/2^(32:Int).toNat)))<(IntKind.u64.wrap (q11*(WG .u64 (IntKind.u64.wrap (y1*2^(IntKind.u64.wrap (r1)).toNat)) 4294967295)))))) (fun v1 =>
  bif v1 then
   bif (decide (4294967296≤(IntKind.u64.wrap (rhat1+((IntKind.u64.wrap (y1*2^(IntKind.u64.wrap (r1)).toNat))/2^(32:Int).toNat))))) then
    some (.inr (IntKind.u64.wrap (q11-1)))
   else
    some (.inl (IntKind.u64.wrap (q11-1),IntKind.u64.wrap (rhat1+((IntKind.u64.wrap (y1*2^(IntKind.u64.wrap (r1)).toNat))/2^(32:Int).toNat))))
  else
   some (.inr q11))
def Z8 (lo1:Int) (y1:Int) (r1:Int) (j_:Int×Int):Option ((Int×Int)⊕(Int)) :=
 oun j_ fun rhat2 q01 =>
 Option.bind (
  bif (decide (4294967296≤q01)) then
   some true
  else
   some (decide ((IntKind.u64.wrap ((IntKind.u64.wrap (4294967296*rhat2))+(WG .u64 (IntKind.u64.wrap (lo1*2^(IntKind.u64.wrap (r1)).toNat)) 4294967295)))<(IntKind.u64.wrap (q01*(WG .u64 (IntKind.u64.wrap (y1*2^(IntKind.u64.wrap (r1)).toNat)) 4294967295)))))) (fun v2 =>
  bif v2 then
   bif (decide (4294967296≤(IntKind.u64.wrap (rhat2+((IntKind.u64.wrap (y1*2^(IntKind.u64.wrap (r1)).toNat))/2^(32:Int).toNat))))) then
    some (.inr (IntKind.u64.wrap (q01-1)))
   else
    some (.inl (IntKind.u64.wrap (rhat2+((IntKind.u64.wrap (y1*2^(IntKind.u64.wrap (r1)).toNat))/2^(32:Int).toNat)),IntKind.u64.wrap (q01-1)))
  else
   some (.inr q01))
def JD (F:Nat) (hi1:Int) (lo1:Int) (y1:Int):Option (Int×Int) :=
 Option.bind (
  bif (decide (y1=0)) then
   none
  else
   some ()) (fun _ =>
  Option.bind (
   bif (decide (y1≤hi1)) then
    none
   else
    some ()) (fun _ =>
   bif (decide (hi1=0)) then
    Option.bind (QP (y1≠0)) fun _ =>
    Option.bind (QP (y1≠0)) fun _ =>
    some (IntKind.u64.wrap (Int.tdiv lo1 y1),Int.tmod lo1 y1)
   else
    Option.bind (Y4 y1) fun r1 =>
    Option.bind (QP (0≤(IntKind.u64.wrap (r1))∧(IntKind.u64.wrap (r1))≤64)) fun _ =>
    Option.bind (QP (0≤32∧32≤64)) fun _ =>
    Option.bind (QP (0≤(IntKind.u64.wrap (r1))∧(IntKind.u64.wrap (r1))≤64)) fun _ =>
    Option.bind (QP (0≤(IntKind.u64.wrap (64-(IntKind.u64.wrap (r1))))∧(IntKind.u64.wrap (64-(IntKind.u64.wrap (r1))))≤64)) fun _ =>
    Option.bind (QP (0≤(IntKind.u64.wrap (r1))∧(IntKind.u64.wrap (r1))≤64)) fun _ =>
    Option.bind (QP (0≤32∧32≤64)) fun _ =>
    Option.bind (QP (((IntKind.u64.wrap (y1*2^(IntKind.u64.wrap (r1)).toNat))/2^(32:Int).toNat)≠0)) fun _ =>
    Option.bind (
     iter (Z7 lo1 y1 r1) F (IntKind.u64.wrap (Int.tdiv (orI .u64 (IntKind.u64.wrap (hi1*2^(IntKind.u64.wrap (r1)).toNat)) (lo1/2^(IntKind.u64.wrap (64-(IntKind.u64.wrap (r1)))).toNat)) ((IntKind.u64.wrap (y1*2^(IntKind.u64.wrap (r1)).toNat))/2^(32:Int).toNat)),IntKind.u64.wrap ((orI .u64 (IntKind.u64.wrap (hi1*2^(IntKind.u64.wrap (r1)).toNat)) (lo1/2^(IntKind.u64.wrap (64-(IntKind.u64.wrap (r1)))).toNat))-(IntKind.u64.wrap ((IntKind.u64.wrap (Int.tdiv (orI .u64 (IntKind.u64.wrap (hi1*2^(IntKind.u64.wrap (r1)).toNat)) (lo1/2^(IntKind.u64.wrap (64-(IntKind.u64.wrap (r1)))).toNat)) ((IntKind.u64.wrap (y1*2^(IntKind.u64.wrap (r1)).toNat))/2^(32:Int).toNat)))*((IntKind.u64.wrap (y1*2^(IntKind.u64.wrap (r1)).toNat))/2^(32:Int).toNat)))))) (fun q12 =>
     Option.bind (QP (((IntKind.u64.wrap (y1*2^(IntKind.u64.wrap (r1)).toNat))/2^(32:Int).toNat)≠0)) fun _ =>
     Option.bind (
      iter (Z8 lo1 y1 r1) F (IntKind.u64.wrap ((IntKind.u64.wrap ((IntKind.u64.wrap ((IntKind.u64.wrap ((orI .u64 (IntKind.u64.wrap (hi1*2^(IntKind.u64.wrap (r1)).toNat)) (lo1/2^(IntKind.u64.wrap (64-(IntKind.u64.wrap (r1)))).toNat))*4294967296))+((IntKind.u64.wrap (lo1*2^(IntKind.u64.wrap (r1)).toNat))/2^(32:Int).toNat)))-(IntKind.u64.wrap (q12*(IntKind.u64.wrap (y1*2^(IntKind.u64.wrap (r1)).toNat))))))-(IntKind.u64.wrap ((IntKind.u64.wrap (Int.tdiv (IntKind.u64.wrap ((IntKind.u64.wrap ((IntKind.u64.wrap ((orI .u64 (IntKind.u64.wrap (hi1*2^(IntKind.u64.wrap (r1)).toNat)) (lo1/2^(IntKind.u64.wrap (64-(IntKind.u64.wrap (r1)))).toNat))*4294967296))+((IntKind.u64.wrap (lo1*2^(IntKind.u64.wrap (r1)).toNat))/2^(32:Int).toNat)))-(IntKind.u64.wrap (q12*(IntKind.u64.wrap (y1*2^(IntKind.u64.wrap (r1)).toNat)))))) ((IntKind.u64.wrap (y1*2^(IntKind.u64.wrap (r1)).toNat))/2^(32:Int).toNat)))*((IntKind.u64.wrap (y1*2^(IntKind.u64.wrap (r1)).toNat))/2^(32:Int).toNat)))),IntKind.u64.wrap (Int.tdiv (IntKind.u64.wrap ((IntKind.u64.wrap ((IntKind.u64.wrap ((orI .u64 (IntKind.u64.wrap (hi1*2^(IntKind.u64.wrap (r1)).toNat)) (lo1/2^(IntKind.u64.wrap (64-(IntKind.u64.wrap (r1)))).toNat))*4294967296))+((IntKind.u64.wrap (lo1*2^(IntKind.u64.wrap (r1)).toNat))/2^(32:Int).toNat)))-(IntKind.u64.wrap (q12*(IntKind.u64.wrap (y1*2^(IntKind.u64.wrap (r1)).toNat)))))) ((IntKind.u64.wrap (y1*2^(IntKind.u64.wrap (r1)).toNat))/2^(32:Int).toNat)))) (fun q02 =>
      Option.bind (QP (0≤(IntKind.u64.wrap (r1))∧(IntKind.u64.wrap (r1))≤64)) fun _ =>
      some (IntKind.u64.wrap ((IntKind.u64.wrap (q12*4294967296))+q02),(IntKind.u64.wrap ((IntKind.u64.wrap ((IntKind.u64.wrap ((IntKind.u64.wrap ((IntKind.u64.wrap ((IntKind.u64.wrap ((orI .u64 (IntKind.u64.wrap (hi1*2^(IntKind.u64.wrap (r1)).toNat)) (lo1/2^(IntKind.u64.wrap (64-(IntKind.u64.wrap (r1)))).toNat))*4294967296))+((IntKind.u64.wrap (lo1*2^(IntKind.u64.wrap (r1)).toNat))/2^(32:Int).toNat)))-(IntKind.u64.wrap (q12*(IntKind.u64.wrap (y1*2^(IntKind.u64.wrap (r1)).toNat))))))*4294967296))+(WG .u64 (IntKind.u64.wrap (lo1*2^(IntKind.u64.wrap (r1)).toNat)) 4294967295)))-(IntKind.u64.wrap (q02*(IntKind.u64.wrap (y1*2^(IntKind.u64.wrap (r1)).toNat))))))/2^(IntKind.u64.wrap (r1)).toNat)))))
def Ya (a1:Int) (b1:Int) (b2:(List Int)):Option (Int) :=
 Option.bind (Qp b2 b1) fun x1 =>
 Option.bind (Qp b2 a1) fun x2 =>
 some (w64 (x1-x2))
def YT (a1:Int) (b2:(List Int)) (j_:(List Int)×Int):Option (((List Int)×Int)⊕((List Int))) :=
 oun j_ fun data3 j1 =>
 Option.bind (
  bif (decide (a1<j1)) then
   Option.bind (Qp data3 j1) fun x1 =>
   Option.bind (Qp data3 (w64 (j1-1))) fun x2 =>
   Option.bind (Ya x1 x2 b2) fun r1 =>
   some (decide (r1<0))
  else
   some false) (fun v1 =>
  bif v1 then
   Option.bind (Qp data3 (w64 (j1-1))) fun x3 =>
   Option.bind (Qp data3 j1) fun x4 =>
   Option.bind (Qp data3 j1) fun x5 =>
   Option.bind (Qp (YV data3 j1 x3) (w64 (j1-1))) fun x6 =>
   some (.inl ((YV (YV data3 j1 x3) (w64 (j1-1)) x4),w64 (j1-1)))
  else
   some (.inr data3))
def YU (F:Nat) (a1:Int) (b1:Int) (b2:(List Int)) (j_:(List Int)×Int):Option (((List Int)×Int)⊕((List Int))) :=
 oun j_ fun data2 i1 =>
 bif (decide (i1<b1)) then
  Option.bind (
   Option.bind (
    iter (YT a1 b2) F (data2,i1)) (fun data4 =>
    some data4)) (fun data5 =>
   some (.inl (data5,w64 (i1+1))))
 else
  some (.inr data2)
def QU (F:Nat) (data1:(List Int)) (a1:Int) (b1:Int) (b2:(List Int)):Option ((List Int)) :=
 Option.bind (
  iter (YU F a1 b1 b2) F (data1,w64 (a1+1))) (fun data6 =>
  some data6)
def Ze (a1:Int) (b1:Int) (n2:Int) (j_:(List Int)×Int):Option (((List Int)×Int)⊕((List Int))) :=
 oun j_ fun data2 i1 =>
 bif (decide (i1<n2)) then
  Option.bind (Qp data2 (w64 (b1+i1))) fun x1 =>
  Option.bind (Qp data2 (w64 (a1+i1))) fun x2 =>
  Option.bind (Qp data2 (w64 (a1+i1))) fun x3 =>
  Option.bind (Qp (YV data2 (w64 (a1+i1)) x1) (w64 (b1+i1))) fun x4 =>
  some (.inl ((YV (YV data2 (w64 (a1+i1)) x1) (w64 (b1+i1)) x2),w64 (i1+1)))
 else
  some (.inr data2)
def QO (data1:(List Int)) (a1:Int) (b1:Int) (n2:Int) (b2:(List Int)):Option ((List Int)) :=
 Option.bind (
  iter (Ze a1 b1 n2) (n2.toNat+1) (data1,0)) (fun data3 =>
  some data3)
def Zq (m1:Int) (b2:(List Int)) (j_:(List Int)×Int×Int):Option (((List Int)×Int×Int)⊕(((List Int)×Int))) :=
 oun j_ fun data2 j_=>oun j_ fun i1 j1 =>
 bif (!(decide (i1=j1))) then
  bif (decide (j1<i1)) then
   Option.bind (QO data2 (w64 (m1-i1)) m1 j1 b2) fun r1 =>
   some (.inl (r1,w64 (i1-j1),j1))
  else
   Option.bind (QO data2 (w64 (m1-i1)) (w64 ((w64 (m1+j1))-i1)) i1 b2) fun r2 =>
   some (.inl (r2,i1,w64 (j1-i1)))
 else
  some (.inr (data2,i1))
def Y0 (F:Nat) (data1:(List Int)) (a1:Int) (m1:Int) (b1:Int) (b2:(List Int)):Option ((List Int)) :=
 Option.bind (
  iter (Zq m1 b2) F (data1,w64 (m1-a1),w64 (b1-m1))) (fun j_=>oun j_ fun data3 i2 =>
  Option.bind (QO data3 (w64 (m1-i2)) m1 i2 b2) fun r3 =>
  some r3)
def Zg (data1:(List Int)) (a1:Int) (b2:(List Int)) (j_:Int×Int):Option ((Int×Int)⊕(Int)) :=
 oun j_ fun i1 j1 =>
 bif (decide (i1<j1)) then
  Option.bind (QP (0≤1∧1≤64)) fun _ =>
  Option.bind (Qp data1 (w64 ((IntKind.u64.wrap (w64 (i1+j1)))/2^(1:Int).toNat))) fun x1 =>
  Option.bind (Qp data1 a1) fun x2 =>
  Option.bind (Ya x1 x2 b2) fun r1 =>
  bif (decide (r1<0)) then
   some (.inl (w64 ((w64 ((IntKind.u64.wrap (w64 (i1+j1)))/2^(1:Int).toNat))+1),j1))
  else
   some (.inl (i1,w64 ((IntKind.u64.wrap (w64 (i1+j1)))/2^(1:Int).toNat)))
 else
  some (.inr i1)
def Zh (i2:Int) (j_:(List Int)×Int):Option (((List Int)×Int)⊕((List Int))) :=
 oun j_ fun data2 k1 =>
 bif (decide (k1<(w64 (i2-1)))) then
  Option.bind (Qp data2 (w64 (k1+1))) fun x3 =>
  Option.bind (Qp data2 k1) fun x4 =>
  Option.bind (Qp data2 k1) fun x5 =>
  Option.bind (Qp (YV data2 k1 x3) (w64 (k1+1))) fun x6 =>
  some (.inl ((YV (YV data2 k1 x3) (w64 (k1+1)) x4),w64 (k1+1)))
 else
  some (.inr data2)
def Zi (data1:(List Int)) (m1:Int) (b2:(List Int)) (j_:Int×Int):Option ((Int×Int)⊕(Int)) :=
 oun j_ fun i3 j2 =>
 bif (decide (i3<j2)) then
  Option.bind (QP (0≤1∧1≤64)) fun _ =>
  Option.bind (Qp data1 m1) fun x7 =>
  Option.bind (Qp data1 (w64 ((IntKind.u64.wrap (w64 (i3+j2)))/2^(1:Int).toNat))) fun x8 =>
  Option.bind (Ya x7 x8 b2) fun r2 =>
  bif (!(decide (r2<0))) then
   some (.inl (w64 ((w64 ((IntKind.u64.wrap (w64 (i3+j2)))/2^(1:Int).toNat))+1),j2))
  else
   some (.inl (i3,w64 ((IntKind.u64.wrap (w64 (i3+j2)))/2^(1:Int).toNat)))
 else
  some (.inr i3)
def Zj (i4:Int) (j_:(List Int)×Int):Option (((List Int)×Int)⊕((List Int))) :=
 oun j_ fun data4 k2 =>
 bif (decide (i4<k2)) then
  Option.bind (Qp data4 (w64 (k2-1))) fun x9 =>
  Option.bind (Qp data4 k2) fun x10 =>
  Option.bind (Qp data4 k2) fun x11 =>
  Option.bind (Qp (YV data4 k2 x9) (w64 (k2-1))) fun x12 =>
  some (.inl ((YV (YV data4 k2 x9) (w64 (k2-1)) x10),w64 (k2-1)))
 else
  some (.inr data4)
def Zk (data1:(List Int)) (b2:(List Int)) (j_:Int×Int×Int):Option ((Int×Int×Int)⊕(Int)) :=
 oun j_ fun start2 j_=>oun j_ fun r4 p1 =>
 bif (decide (start2<r4)) then
  Option.bind (QP (0≤1∧1≤64)) fun _ =>
  Option.bind (Qp data1 (w64 (p1-(w64 ((IntKind.u64.wrap (w64 (start2+r4)))/2^(1:Int).toNat))))) fun x13 =>
  Option.bind (Qp data1 (w64 ((IntKind.u64.wrap (w64 (start2+r4)))/2^(1:Int).toNat))) fun x14 =>
  Option.bind (Ya x13 x14 b2) fun r5 =>
  bif (!(decide (r5<0))) then
   some (.inl (w64 ((w64 ((IntKind.u64.wrap (w64 (start2+r4)))/2^(1:Int).toNat))+1),r4,p1))
  else
   some (.inl (start2,w64 ((IntKind.u64.wrap (w64 (start2+r4)))/2^(1:Int).toNat),p1))
 else
  some (.inr start2)
def YF (rec_:(List Int)→Int→Int→Int→(List Int)→Option ((List Int))) (F:Nat) (data1:(List Int)) (a1:Int) (m1:Int) (b1:Int) (b2:(List Int)):Option ((List Int)) :=
 bif (decide ((w64 (m1-a1))=1)) then
  Option.bind (
   iter (Zg data1 a1 b2) F (m1,b1)) (fun i2 =>
   Option.bind (
    iter (Zh i2) F (data1,a1)) (fun data3 =>
    some data3))
 else
  bif (decide ((w64 (b1-m1))=1)) then
   Option.bind (
    iter (Zi data1 m1 b2) F (a1,m1)) (fun i4 =>
    Option.bind (
     iter (Zj i4) F (data1,m1)) (fun data5 =>
     some data5))
  else
   Option.bind (QP (0≤1∧1≤64)) fun _ =>
   Option.bind (
    bif (decide ((w64 ((IntKind.u64.wrap (w64 (a1+b1)))/2^(1:Int).toNat))<m1)) then
     some (w64 ((IntKind.u64.wrap (w64 (a1+b1)))/2^(1:Int).toNat),w64 ((w64 ((IntKind.u64.wrap (w64 (a1+b1)))/2^(1:Int).toNat))+m1),w64 ((w64 ((w64 ((IntKind.u64.wrap (w64 (a1+b1)))/2^(1:Int).toNat))+m1))-b1),w64 ((IntKind.u64.wrap (w64 (a1+b1)))/2^(1:Int).toNat))
    else
     some (w64 ((IntKind.u64.wrap (w64 (a1+b1)))/2^(1:Int).toNat),w64 ((w64 ((IntKind.u64.wrap (w64 (a1+b1)))/2^(1:Int).toNat))+m1),a1,m1)) (fun j_=>oun j_ fun mid1 j_=>oun j_ fun n2 j_=>oun j_ fun start1 r3 =>
    Option.bind (
     iter (Zk data1 b2) F (start1,r3,w64 (n2-1))) (fun start3 =>
     Option.bind (
      bif (decide (start3<m1)) then
       some (w64 (n2-start3),(decide (m1<(w64 (n2-start3)))))
      else
       some (w64 (n2-start3),false)) (fun j_=>oun j_ fun f_end1 v1 =>
      Option.bind (
       bif v1 then
        Option.bind (Y0 F data1 start3 m1 f_end1 b2) fun r6 =>
        some r6
       else
        some data1) (fun data6 =>
       Option.bind (
        bif (decide (a1<start3)) then
         some (decide (start3<mid1))
        else
         some false) (fun v2 =>
        Option.bind (
         bif v2 then
          Option.bind (rec_ data6 a1 start3 mid1 b2) fun r7 =>
          some r7
         else
          some data6) (fun data7 =>
         Option.bind (
          bif (decide (mid1<f_end1)) then
           some (decide (f_end1<b1))
          else
           some false) (fun v3 =>
          Option.bind (
           bif v3 then
            Option.bind (rec_ data7 mid1 f_end1 b1 b2) fun r8 =>
            some r8
           else
            some data7) (fun data8 =>
           some data8))))))))
def Qy:Nat→(List Int)→Int→Int→Int→(List Int)→Option ((List Int))
 | 0,_,_,_,_,_=>none
 | F+1,data1,a1,m1,b1,b2=>YF (Qy F) F data1 a1 m1 b1 b2
def Zr (F:Nat) (n2:Int) (b1:(List Int)) (j_:(List Int)×Int×Int):Option (((List Int)×Int×Int)⊕(((List Int)×Int))) :=
 oun j_ fun data2 j_=>oun j_ fun a1 b2 =>
 bif (decide (b2≤n2)) then
  Option.bind (QU F data2 a1 b2 b1) fun r1 =>
  some (.inl (r1,b2,w64 (b2+20)))
 else
  some (.inr (data2,a1))
def YK (F:Nat) (n2:Int) (b1:(List Int)) (blockSize1:Int) (j_:(List Int)×Int×Int):Option (((List Int)×Int×Int)⊕(((List Int)×Int))) :=
 oun j_ fun data5 j_=>oun j_ fun a3 b3 =>
 bif (decide (b3≤n2)) then
  Option.bind (Qy F data5 a3 (w64 (a3+blockSize1)) b3 b1) fun r3 =>
  some (.inl (r3,b3,w64 (b3+(w64 (2*blockSize1)))))
 else
  some (.inr (data5,a3))
def Q7 (F:Nat) (n2:Int) (b1:(List Int)) (j_:(List Int)×Int):Option (((List Int)×Int)⊕((List Int))) :=
 oun j_ fun data4 blockSize1 =>
 bif (decide (blockSize1<n2)) then
  Option.bind (
   iter (YK F n2 b1 blockSize1) F (data4,0,w64 (2*blockSize1))) (fun j_=>oun j_ fun data6 a4 =>
   Option.bind (
    bif (decide ((w64 (a4+blockSize1))<n2)) then
     Option.bind (Qy F data6 a4 (w64 (a4+blockSize1)) n2 b1) fun r4 =>
     some r4
    else
     some data6) (fun data7 =>
    some (.inl (data7,w64 (blockSize1*2)))))
 else
  some (.inr data4)
def Yn (F:Nat) (data1:(List Int)) (n2:Int) (b1:(List Int)):Option ((List Int)) :=
 Option.bind (
  iter (Zr F n2 b1) F (data1,0,20)) (fun j_=>oun j_ fun data3 a2 =>
  Option.bind (QU F data3 a2 n2 b1) fun r2 =>
  Option.bind (
   iter (Q7 F n2 b1) F (r2,20)) (fun data8 =>
   some data8))
def QV (F:Nat) (x1:(List Int)) (b1:(List Int)):Option ((List Int)) :=
 Option.bind (Yn F x1 ((x1.length:Nat):Int) b1) fun r1 =>
 some r1
def Zx (F:Nat) (total1:Int) (weights1:(List Int)) (r1:Int) (j_:(List Int)×(List Int)×(List Int)×Int×Int):Option (((List Int)×(List Int)×(List Int)×Int×Int)⊕(((List Int)×(List Int)×(List Int)×Int))) :=
 oun j_ fun parts2 j_=>oun j_ fun f2 j_=>oun j_ fun order2 j_=>oun j_ fun left1 v3 =>
 bif (decide (v3<((weights1.length:Nat):Int))) then
  Option.bind (Qp weights1 v3) fun x1 =>
  Option.bind (Qp order2 v3) fun x2 =>
  Option.bind (
   bif (decide (0<r1)) then
    Option.bind (JE (IntKind.u64.wrap (total1)) (IntKind.u64.wrap (x1))) fun j_=>oun j_ fun r3 r4 =>
    Option.bind (JD F r3 r4 (IntKind.u64.wrap (r1))) fun j_=>oun j_ fun r5 r6 =>
    Option.bind (Qp parts2 v3) fun x3 =>
    Option.bind (Qp f2 v3) fun x4 =>
    some ((YV parts2 v3 (w64 (r5))),(YV f2 v3 (w64 (r6))))
   else
    some (parts2,f2)) (fun j_=>oun j_ fun parts3 f3 =>
   Option.bind (Qp parts3 v3) fun x5 =>
   some (.inl (parts3,f3,(YV order2 v3 v3),w64 (left1-x5),w64 (v3+1))))
 else
  some (.inr (parts2,f2,order2,left1))
def Zy (l4:(List Int)) (j_:(List Int)×Int):Option (((List Int)×Int)⊕((List Int))) :=
 oun j_ fun parts5 v4 =>
 bif (decide (v4<((l4.length:Nat):Int))) then
  Option.bind (Qp l4 v4) fun x6 =>
  Option.bind (Qp parts5 x6) fun x7 =>
  Option.bind (Qp parts5 x6) fun x8 =>
  some (.inl ((YV parts5 x6 (w64 (x7+1))),w64 (v4+1)))
 else
  some (.inr parts5)
def JQ (F:Nat) (total1:Int) (weights1:(List Int)):Option ((List Int)×Int) :=
 Option.bind (
  bif (decide (total1<0)) then
   some true
  else
   some (decide (70368744177664<total1))) (fun v1 =>
  bif v1 then
   some ([],1)
  else
   Option.bind (Jg weights1) fun j_=>oun j_ fun r1 r2 =>
   bif (!(decide (r2=0))) then
    some ([],r2)
   else
    Option.bind (
     bif (decide (r1=0)) then
      some (decide (0<total1))
     else
      some false) (fun v2 =>
     bif v2 then
      some ([],10)
     else
      Option.bind (
       Option.bind (VC (0:Int) ((weights1.length:Nat):Int)) fun l1 =>
       Option.bind (VC (0:Int) ((weights1.length:Nat):Int)) fun l2 =>
       Option.bind (VC (0:Int) ((weights1.length:Nat):Int)) fun l3 =>
       some (l1,l2,l3)) (fun j_=>oun j_ fun parts1 j_=>oun j_ fun f1 order1 =>
       Option.bind (
        iter (Zx F total1 weights1 r1) (((weights1.length:Nat):Int).toNat+1) (parts1,f1,order1,total1,0)) (fun j_=>oun j_ fun parts4 j_=>oun j_ fun f4 j_=>oun j_ fun order3 left2 =>
        Option.bind (QV F order3 f4) fun r7 =>
        Option.bind (QaS r7 0 left2) fun l4 =>
        Option.bind (
         iter (Zy l4) (((l4.length:Nat):Int).toNat+1) (parts4,0)) (fun parts6 =>
         some (parts6,0))))))
def JO (a1:Qf) (b1:Qf):Option (Int) :=
 bif (decide (a1=b1)) then
  some 0
 else
  bif (!(decide (a1.Producer=b1.Producer))) then
   some (w64 (a1.Producer-b1.Producer))
  else
   some (w64 (a1.Material-b1.Material))
def YQ (a1:Int) (j_:(List Qf)×Int):Option (((List Qf)×Int)⊕((List Qf))) :=
 oun j_ fun data3 j1 =>
 Option.bind (
  bif (decide (a1<j1)) then
   Option.bind (Qp data3 j1) fun x1 =>
   Option.bind (Qp data3 (w64 (j1-1))) fun x2 =>
   Option.bind (JO x1 x2) fun r1 =>
   some (decide (r1<0))
  else
   some false) (fun v1 =>
  bif v1 then
   Option.bind (Qp data3 (w64 (j1-1))) fun x3 =>
   Option.bind (Qp data3 j1) fun x4 =>
   Option.bind (Qp data3 j1) fun x5 =>
   Option.bind (Qp (YV data3 j1 x3) (w64 (j1-1))) fun x6 =>
   some (.inl ((YV (YV data3 j1 x3) (w64 (j1-1)) x4),w64 (j1-1)))
  else
   some (.inr data3))
def YR (F:Nat) (a1:Int) (b1:Int) (j_:(List Qf)×Int):Option (((List Qf)×Int)⊕((List Qf))) :=
 oun j_ fun data2 i1 =>
 bif (decide (i1<b1)) then
  Option.bind (
   Option.bind (
    iter (YQ a1) F (data2,i1)) (fun data4 =>
    some data4)) (fun data5 =>
   some (.inl (data5,w64 (i1+1))))
 else
  some (.inr data2)
def QT (F:Nat) (data1:(List Qf)) (a1:Int) (b1:Int):Option ((List Qf)) :=
 Option.bind (
  iter (YR F a1 b1) F (data1,w64 (a1+1))) (fun data6 =>
  some data6)
def Q5 (F:Nat) (data1:(List Qf)) (a1:Int) (b1:Int) (_:Unit):Option ((Unit)⊕((List Qf))) :=
 bif (decide ((w64 (b1-a1))≤12)) then
  Option.bind (QT F data1 a1 b1) fun r1 =>
  some (.inr r1)
 else
  none
def Yh (F:Nat) (data1:(List Qf)) (a1:Int) (b1:Int) (limit1:Int):Option ((List Qf)) :=
 Option.bind (
  iter (Q5 F data1 a1 b1) F ()) (fun rv3605=>some rv3605)
def Yz (F:Nat) (x1:(List Qf)):Option ((List Qf)) :=
 Option.bind (J3 (IntKind.u64.wrap (((x1.length:Nat):Int)))) fun r1 =>
 Option.bind (Yh F x1 0 ((x1.length:Nat):Int) r1) fun r2 =>
 some r2
def Jl (l1:(List Qa)) (j_:(List (Int×Option (List Qa)))×Int):Option (((List (Int×Option (List Qa)))×Int)⊕((List (Int×Option (List Qa))))) :=
 oun j_ fun m1 v1 =>
 bif (decide (v1<((l1.length:Nat):Int))) then
  Option.bind (Qp l1 v1) fun x1 =>
  Option.bind (
   Option.bind (Z0 x1.Material m1) fun l2 =>
   Option.bind (QbQ l2 [x1]) fun l3 =>
   some (Wb x1.Material (some l3) (W4 x1.Material m1))) (fun m2 =>
   some (.inl (m2,w64 (v1+1))))
 else
  some (.inr m1)
def Jm (mod1:(List Int)) (r2:(List Qa)) (j_:(List Int)×Bool×Int):Option (((List Int)×Bool×Int)⊕(((List Int)×Bool))) :=
 oun j_ fun weights1 j_=>oun j_ fun positive1 v3 =>
 bif (decide (v3<((r2.length:Nat):Int))) then
  Option.bind (
   Option.bind (Qp r2 v3) fun x3 =>
   Option.bind (Qp mod1 x3.Producer) fun x4 =>
   Option.bind (QbQ weights1 [w64 (x3.Grams*x4)]) fun l5 =>
   bif positive1 then
    some (l5,true)
   else
    some (l5,(decide (0<x3.Grams)))) (fun j_=>oun j_ fun weights2 positive2 =>
   some (.inl (weights2,positive2,w64 (v3+1))))
 else
  some (.inr (weights1,positive1))
def Jn (v2:Int) (r2:(List Qa)) (r3:(List Int)) (j_:(List Qf)×Int):Option (((List Qf)×Int)⊕((List Qf))) :=
 oun j_ fun out2 v4 =>
 bif (decide (v4<((r2.length:Nat):Int))) then
  Option.bind (
   Option.bind (Qp r2 v4) fun x5 =>
   Option.bind (Qp r3 v4) fun x6 =>
   bif (decide (0<x6)) then
    Option.bind (Qp r3 v4) fun x7 =>
    Option.bind (QbQ out2 [(Qf.mk x5.Producer v2 x7)]) fun l6 =>
    some l6
   else
    some out2) (fun out3 =>
   some (.inl (out3,w64 (v4+1))))
 else
  some (.inr out2)
def Jo (F:Nat) (costs1:(List Int)) (mod1:(List Int)) (j_:(List (Int×Option (List Qa)))×(List Qf)×Int):Option (((List (Int×Option (List Qa)))×(List Qf)×Int)⊕((List Qf)⊕((List Qf)×Int))) :=
 oun j_ fun m4 j_=>oun j_ fun out1 v2 =>
 bif (decide (v2<((costs1.length:Nat):Int))) then
  Option.bind (
   Option.bind (Qp costs1 v2) fun x2 =>
   bif (decide (x2=0)) then
    some (.inl (m4,out1))
   else
    Option.bind (Z0 v2 m4) fun l4 =>
    Option.bind (Q4 F l4) fun r2 =>
    Option.bind (
     iter (Jm mod1 r2) (((r2.length:Nat):Int).toNat+1) ([],false,0)) (fun j_=>oun j_ fun weights3 positive3 =>
     bif (!positive3) then
      some (.inr ([],38))
     else
      Option.bind (JQ F x2 weights3) fun j_=>oun j_ fun r3 r4 =>
      bif (!(decide (r4=0))) then
       some (.inr ([],r4))
      else
       Option.bind (
        iter (Jn v2 r2 r3) (((r2.length:Nat):Int).toNat+1) (out1,0)) (fun out4 =>
        some (.inl ((W4 v2 m4),out4))))) (fun o_=>Yl o_ (fun j_=>oun j_ fun m5 out5 =>
   some (.inl (m5,out5,w64 (v2+1)))) (fun rv3922=>some (.inr (.inr rv3922))))
 else
  some (.inr (.inl out1))
def Wt (F:Nat) (costs1:(List Int)) (l1:(List Qa)) (mod1:(List Int)):Option ((List Qf)×Int) :=
 Option.bind (Ws costs1 l1 mod1) fun r1 =>
 bif (!(decide (r1=0))) then
  some ([],r1)
 else
  Option.bind (
   iter (Jl l1) (((l1.length:Nat):Int).toNat+1) ([],0)) (fun m3 =>
   Option.bind (
    iter (Jo F costs1 mod1) (((costs1.length:Nat):Int).toNat+1) (m3,[],0)) (fun o_=>Yl o_ (fun out6 =>
    Option.bind (Yz F out6) fun r5 =>
    some (r5,0)) (fun rv3796=>some rv3796)))
def Q8 (F:Nat):Option (Bool) :=
 Option.bind (Wt F [3] [(Qa.mk 0 0 7),(Qa.mk 1 0 7)] [1000,1000]) fun j_=>oun j_ fun r1 r2 =>
 Option.bind (
  bif (decide (r2=0)) then
   bif (decide (((r1.length:Nat):Int)=2)) then
    Option.bind (Qp r1 0) fun x1 =>
    bif (decide (x1.Amount=2)) then
     Option.bind (Qp r1 1) fun x2 =>
     some (decide (x2.Amount=1))
    else
     some false
   else
    some false
  else
   some false) (fun v1 =>
  some v1)
def Jf (p1:Ql):Option (Bool) :=
 Option.bind (
  bif (decide (0≤p1.Producer)) then
   bif (decide (p1.Producer<32)) then
    bif (decide (0≤p1.Material)) then
     bif (decide (p1.Material<16)) then
      bif (decide (1≤p1.Grams)) then
       some (decide (p1.Grams≤10000))
      else
       some false
     else
      some false
    else
     some false
   else
    some false
  else
   some false) (fun v1 =>
  some v1)
def ZK (a1:Qa) (b1:Qa):Option (Int) :=
 bif (!(decide (a1.Producer=b1.Producer))) then
  some (w64 (a1.Producer-b1.Producer))
 else
  some (w64 (a1.Material-b1.Material))
def YB (a1:Int) (j_:(List Qa)×Int):Option (((List Qa)×Int)⊕((List Qa))) :=
 oun j_ fun data3 j1 =>
 Option.bind (
  bif (decide (a1<j1)) then
   Option.bind (Qp data3 j1) fun x1 =>
   Option.bind (Qp data3 (w64 (j1-1))) fun x2 =>
   Option.bind (ZK x1 x2) fun r1 =>
   some (decide (r1<0))
  else
   some false) (fun v1 =>
  bif v1 then
   Option.bind (Qp data3 (w64 (j1-1))) fun x3 =>
   Option.bind (Qp data3 j1) fun x4 =>
   Option.bind (Qp data3 j1) fun x5 =>
   Option.bind (Qp (YV data3 j1 x3) (w64 (j1-1))) fun x6 =>
   some (.inl ((YV (YV data3 j1 x3) (w64 (j1-1)) x4),w64 (j1-1)))
  else
   some (.inr data3))
def YC (F:Nat) (a1:Int) (b1:Int) (j_:(List Qa)×Int):Option (((List Qa)×Int)⊕((List Qa))) :=
 oun j_ fun data2 i1 =>
 bif (decide (i1<b1)) then
  Option.bind (
   Option.bind (
    iter (YB a1) F (data2,i1)) (fun data4 =>
    some data4)) (fun data5 =>
   some (.inl (data5,w64 (i1+1))))
 else
  some (.inr data2)
def QI (F:Nat) (data1:(List Qa)) (a1:Int) (b1:Int):Option ((List Qa)) :=
 Option.bind (
  iter (YC F a1 b1) F (data1,w64 (a1+1))) (fun data6 =>
  some data6)
def QQ (F:Nat) (data1:(List Qa)) (a1:Int) (b1:Int) (_:Unit):Option ((Unit)⊕((List Qa))) :=
 bif (decide ((w64 (b1-a1))≤12)) then
  Option.bind (QI F data1 a1 b1) fun r1 =>
  some (.inr r1)
 else
  none
def QY (F:Nat) (data1:(List Qa)) (a1:Int) (b1:Int) (limit1:Int):Option ((List Qa)) :=
 Option.bind (
  iter (QQ F data1 a1 b1) F ()) (fun rv4522=>some rv4522)
def QG (F:Nat) (x1:(List Qa)):Option ((List Qa)) :=
 Option.bind (J3 (IntKind.u64.wrap (((x1.length:Nat):Int)))) fun r1 =>
 Option.bind (QY F x1 0 ((x1.length:Nat):Int) r1) fun r2 =>
 some r2
def Zb (products1:(List Ql)) (l1:(List Qz)) (w1:ZC) (j_:(List (Qk×Int))×Int):Option (((List (Qk×Int))×Int)⊕((List (Qk×Int))⊕((List Qa)×Int))) :=
 oun j_ fun m1 v2 =>
 bif (decide (v2<((l1.length:Nat):Int))) then
  Option.bind (
   Option.bind (Qp l1 v2) fun x1 =>
   Option.bind (
    bif (decide (x1.Product<0)) then
     some true
    else
     some (decide (((products1.length:Nat):Int)≤x1.Product))) (fun v3 =>
    bif v3 then
     some (.inr ([],7))
    else
     Option.bind (Qp products1 x1.Product) fun x2 =>
     Option.bind (
      bif (decide (x1.Count<1)) then
       some true
      else
       bif (decide (1000<x1.Count)) then
        some true
       else
        Option.bind (Jf x2) fun r1 =>
        some (!r1)) (fun v4 =>
      bif v4 then
       some (.inr ([],1))
      else
       Option.bind (
        bif (decide (w1.From≤x1.At)) then
         some (decide (x1.At<w1.To))
        else
         some false) (fun v5 =>
        bif v5 then
         some (.inl (Zp (Qk.mk x2.Producer x2.Material) (w64 (((ZJ (Qk.mk x2.Producer x2.Material) m1).getD 0)+(w64 (x1.Count*x2.Grams)))) m1))
        else
         some (.inl m1))))) (fun o_=>Yl o_ (fun m2 =>
   some (.inl (m2,w64 (v2+1)))) (fun rv4600=>some (.inr (.inr rv4600))))
 else
  some (.inr (.inl m1))
def Je (F:Nat) (products1:(List Ql)) (l1:(List Qz)) (w1:ZC):Option ((List Qa)×Int) :=
 Option.bind (
  bif (decide (w1.From<0)) then
   some true
  else
   bif (decide (w1.To<w1.From)) then
    some true
   else
    some (decide (3155760000<w1.To))) (fun v1 =>
  bif v1 then
   some ([],1)
  else
   bif (decide (512<((l1.length:Nat):Int))) then
    some ([],8)
   else
    Option.bind (
     iter (Zb products1 l1 w1) (((l1.length:Nat):Int).toNat+1) ([],0)) (fun o_=>Yl o_ (fun m3 =>
     Option.bind (QP (m3.length≤512)) fun _ =>
     QeW m3 fun p1 =>
     Option.bind (QG F (List.map (fun q:Qk×Int=>(Qa.mk q.1.producer q.1.material q.2)) p1)) fun r3 =>
     some (r3,0)) (fun rv4544=>some rv4544)))
def Y7 (s11:(List Int)) (s21:(List Int)) (v1:Int):Option ((Int)⊕(Unit⊕Bool)) :=
 bif (decide (v1<((s11.length:Nat):Int))) then
  Option.bind (Qp s11 v1) fun x1 =>
  Option.bind (Qp s21 v1) fun x2 =>
  bif (!(decide (x1=x2))) then
   some (.inr (.inr false))
  else
   some (.inl (w64 (v1+1)))
 else
  some (.inr (.inl ()))
def ZA (s11:(List Int)) (s21:(List Int)):Option (Bool) :=
 bif (!(decide (((s11.length:Nat):Int)=((s21.length:Nat):Int)))) then
  some false
 else
  Option.bind (
   iter (Y7 s11 s21) (((s11.length:Nat):Int).toNat+1) 0) (fun o_=>Yl o_ (fun _ =>
   some true) (fun rv4802=>some rv4802))
def Ja (costs1:(List Int)) (l1:(List Qf)) (v1:Int):Option ((Int)⊕(Unit⊕Bool)) :=
 bif (decide (v1<((l1.length:Nat):Int))) then
  Option.bind (Qp l1 v1) fun x1 =>
  Option.bind (
   bif (decide (x1.Material<0)) then
    some true
   else
    bif (decide (((costs1.length:Nat):Int)≤x1.Material)) then
     some true
    else
     bif (decide (x1.Amount<0)) then
      some true
     else
      some (decide (1000000000000<x1.Amount))) (fun v2 =>
   bif v2 then
    some (.inr (.inr false))
   else
    some (.inl (w64 (v1+1))))
 else
  some (.inr (.inl ()))
def Jb (l1:(List Qf)) (j_:(List Int)×Int):Option (((List Int)×Int)⊕((List Int))) :=
 oun j_ fun sums1 v3 =>
 bif (decide (v3<((l1.length:Nat):Int))) then
  Option.bind (Qp l1 v3) fun x2 =>
  Option.bind (Qp sums1 x2.Material) fun x3 =>
  Option.bind (Qp sums1 x2.Material) fun x4 =>
  some (.inl ((YV sums1 x2.Material (w64 (x3+x2.Amount))),w64 (v3+1)))
 else
  some (.inr sums1)
def J4 (costs1:(List Int)) (l1:(List Qf)):Option (Bool) :=
 bif (decide (512<((l1.length:Nat):Int))) then
  some false
 else
  Option.bind (Qa8 costs1) fun l2 =>
  Option.bind (
   iter (Ja costs1 l1) (((l1.length:Nat):Int).toNat+1) 0) (fun o_=>Yl o_ (fun _ =>
   Option.bind (VC (0:Int) ((costs1.length:Nat):Int)) fun l3 =>
   Option.bind (
    iter (Jb l1) (((l1.length:Nat):Int).toNat+1) (l3,0)) (fun sums2 =>
    Option.bind (ZA l2 sums2) fun r1 =>
    some r1)) (fun rv4669=>some rv4669))
def QK (products1:(List Ql)) (sales1:(List Qz)) (x1:Qf) (j_:Bool×Int):Option ((Bool×Int)⊕(Bool)) :=
 oun j_ fun sold1 v3 =>
 bif (decide (v3<((sales1.length:Nat):Int))) then
  Option.bind (
   Option.bind (Qp sales1 v3) fun x2 =>
   bif sold1 then
    some true
   else
    Option.bind (Qp products1 x2.Product) fun x3 =>
    bif (decide (x3.Producer=x1.Producer)) then
     Option.bind (Qp products1 x2.Product) fun x4 =>
     some (decide (x4.Material=x1.Material))
    else
     some false) (fun sold2 =>
   some (.inl (sold2,w64 (v3+1))))
 else
  some (.inr sold1)
def QX (products1:(List Ql)) (sales1:(List Qz)) (r7:(List Qf)) (v2:Int):Option ((Int)⊕(Unit⊕Bool)) :=
 bif (decide (v2<((r7.length:Nat):Int))) then
  Option.bind (
   Option.bind (Qp r7 v2) fun x1 =>
   Option.bind (
    iter (QK products1 sales1 x1) (((sales1.length:Nat):Int).toNat+1) (false,0)) (fun sold3 =>
    bif (!sold3) then
     some (.inr false)
    else
     some (.inl ()))) (fun o_=>Yl o_ (fun _ =>
   some (.inl (w64 (v2+1)))) (fun rv4833=>some (.inr (.inr rv4833))))
 else
  some (.inr (.inl ()))
def Ye (F:Nat) (products1:(List Ql)) (sales1:(List Qz)) (costs1:(List Int)) (mod1:(List Int)):Option (Bool) :=
 Option.bind (
  bif (decide (12<((products1.length:Nat):Int))) then
   some true
  else
   bif (decide (20<((sales1.length:Nat):Int))) then
    some true
   else
    Option.bind (YN products1 32 16) fun r1 =>
    bif (!(decide (r1=0))) then
     some true
    else
     Option.bind (YP products1 sales1 32) fun r2 =>
     some (!(decide (r2=0)))) (fun v1 =>
  bif v1 then
   Option.bind (Q8 F) fun r3 =>
   some r3
  else
   Option.bind (Je F products1 sales1 (ZC.mk 0 3155760000)) fun j_=>oun j_ fun r4 r5 =>
   bif (!(decide (r5=0))) then
    Option.bind (Q8 F) fun r6 =>
    some r6
   else
    Option.bind (Wt F costs1 r4 mod1) fun j_=>oun j_ fun r7 r8 =>
    bif (!(decide (r8=0))) then
     Option.bind (Q8 F) fun r9 =>
     some r9
    else
     Option.bind (J4 costs1 r7) fun r10 =>
     bif (!r10) then
      some false
     else
      Option.bind (
       iter (QX products1 sales1 r7) (((r7.length:Nat):Int).toNat+1) 0) (fun o_=>Yl o_ (fun _ =>
       Option.bind (Q8 F) fun r11 =>
       some r11) (fun rv4805=>some rv4805)))
end
end Go.Proofs.Ytfdjjdhnfaklbaa
namespace Go.Proofs.Ytfdjjdhnfaklbaa
open Go.RowKit
set_option linter.unusedSimpArgs false
set_option linter.unusedVariables false
attribute [local irreducible] WP QW Ji Fn AN Upd vcR vcO VF Y1 YM J5 Wc VB ZY ZQ Vw Qb
theorem Qe1 {μ:Gh} {L:List Seg} {A:Option Addr} {n c:Nat} {css:List (List Value)} (hr:Rd μ L A 1 css) (hn:css.length=n) (h1: ∀cs∈css,∀u∈cs,u.oneCell'=true) (hb:n≤1000000)
  {R:Value→Gh→List Seg→Prop} (hR: ∀v ch,Z6 3 1 v css ch→R v μ (ch::L)):Fn Try.prog 36 [.slice A n c] μ L R:=by
 refine Fn.of_body Qh Try.func36 (by kernel_rfl) rfl Try.ntmps36 (by simp) ?_
 simp only[Try.f36,QfF,List.zipIdx,List.map,Nat.reduceAdd]
 repeat' first | (apply Qfs) | (apply Qd;exact rfl) | (apply QE) | ((first | (apply Zu;exact rfl));first | (apply Qs;exact rfl) | (apply Qn;exact rfl) | (apply Qfw;exact rfl;exact rfl;all_goals (intro h;try (exfalso;omega))) | (apply Qfu;exact rfl;exact rfl) | (apply QdT;exact rfl;exact rfl;exact rfl;exact rfl) | (apply QdU;exact rfl;exact rfl;exact rfl;exact rfl) | (apply Qg2;exact rfl;exact rfl;exact rfl;exact rfl;all_goals (intro h)) | (apply Qfv;exact rfl;exact rfl;exact rfl;exact rfl;all_goals (intro h))) | (apply Qg1) | (apply Wo) | (apply ZR;exact rfl;exact rfl;exact rfl;(focus (simp only[JG,List.set_cons_zero,List.set_cons_succ,List.take_succ_cons,List.take_zero,List.drop_succ_cons,List.drop_zero,Value.cells,Nat.reduceAdd,Nat.reduceMul,Nat.zero_add,Nat.add_zero,List.toList_toArray,List.cons_append,List.nil_append,cyc];first | done | exact rfl))) | (apply WP.seq_k;intro K hK) | refine WP.region Qh ?_ | (apply V0;exact rfl) | (apply VZ;exact rfl) | (apply Qc0;exact rfl;all_goals (intro h)) | (apply WP.skip) | (apply WP.ret) | (apply Qg5) | (apply QfB;exact rfl) | (first | (apply WU;exact rfl;exact rfl;exact rfl;exact rfl;exact rfl;exact rfl;(focus (simp only[JG,List.set_cons_zero,List.set_cons_succ,List.take_succ_cons,List.take_zero,List.drop_succ_cons,List.drop_zero,Value.cells,Nat.reduceAdd,Nat.reduceMul,Nat.zero_add,Nat.add_zero,List.toList_toArray,List.cons_append,List.nil_append,cyc];first | done | exact rfl))) | (apply J0;exact rfl)) | (fail) | (first | (refine hK _ _ _ ?_;clear hK K) | (clear hK K;refine hK _ _ _ ?_;clear hK K) | (clear hK K;clear hK K;refine hK _ _ _ ?_;clear hK K) | (clear hK K;clear hK K;clear hK K;refine hK _ _ _ ?_;clear hK K)) | intro g
 ·subst h;obtain rfl:css=[]:=by
   cases css with
   | nil=>rfl
   | cons a r=>obtain ⟨a,ha,_⟩:=hr.2 (by simp);cases ha
  exact Upd.know fun ⟨w,hw⟩=>Upd.sub (L':=[]::L) (by simp) (Upd.done (hR _ _ Z6.nil))
 ·refine QeK Qh rfl rfl rfl rfl (by decide) 0 rfl (css:=[]) ⟨by simp,.inr ⟨g,0, #[],rfl,rfl,by simp,by simp[maxLen],by simp,by simp⟩⟩ hn hr.cons h1 (by simp;omega) (by simp;omega) fun v' ch' hv _=> ?_
  repeat' first | (apply Qfs) | (apply Qd;exact rfl) | (apply QE) | ((first | (apply Zu;exact rfl));first | (apply Qs;exact rfl) | (apply Qn;exact rfl) | (apply Qfw;exact rfl;exact rfl;all_goals (intro h;try (exfalso;omega))) | (apply Qfu;exact rfl;exact rfl) | (apply QdT;exact rfl;exact rfl;exact rfl;exact rfl) | (apply QdU;exact rfl;exact rfl;exact rfl;exact rfl) | (apply Qg2;exact rfl;exact rfl;exact rfl;exact rfl;all_goals (intro h)) | (apply Qfv;exact rfl;exact rfl;exact rfl;exact rfl;all_goals (intro h))) | (apply Qg1) | (apply Wo) | (apply ZR;exact rfl;exact rfl;exact rfl;(focus (simp only[JG,List.set_cons_zero,List.set_cons_succ,List.take_succ_cons,List.take_zero,List.drop_succ_cons,List.drop_zero,Value.cells,Nat.reduceAdd,Nat.reduceMul,Nat.zero_add,Nat.add_zero,List.toList_toArray,List.cons_append,List.nil_append,cyc];first | done | exact rfl))) | (apply WP.seq_k;intro K hK) | refine WP.region Qh ?_ | (apply V0;exact rfl) | (apply VZ;exact rfl) | (apply Qc0;exact rfl;all_goals (intro h)) | (apply WP.skip) | (apply WP.ret) | (apply Qg5) | (apply QfB;exact rfl) | (first | (apply WU;exact rfl;exact rfl;exact rfl;exact rfl;exact rfl;exact rfl;(focus (simp only[JG,List.set_cons_zero,List.set_cons_succ,List.take_succ_cons,List.take_zero,List.drop_succ_cons,List.drop_zero,Value.cells,Nat.reduceAdd,Nat.reduceMul,Nat.zero_add,Nat.add_zero,List.toList_toArray,List.cons_append,List.nil_append,cyc];first | done | exact rfl))) | (apply J0;exact rfl)) | (fail) | (first | (refine hK _ _ _ ?_;clear hK K) | (clear hK K;refine hK _ _ _ ?_;clear hK K) | (clear hK K;clear hK K;refine hK _ _ _ ?_;clear hK K) | (clear hK K;clear hK K;clear hK K;refine hK _ _ _ ?_;clear hK K)) | intro g
  rw[List.nil_append] at hv
  exact Upd.done (hR _ _ hv)
end Go.Proofs.Ytfdjjdhnfaklbaa
namespace Go.Proofs.Ytfdjjdhnfaklbaa
open Go.RowKit
set_option linter.unusedSimpArgs false
set_option linter.unusedVariables false
section
variable {P:Program} {ops:Array Oper} {Q:Exit→Act→World→Prop} {S S0:World→Prop} {b:List Nat}
def Qc2 (P:Program) (ops:Array Oper) (Q:Exit→Act→World→Prop) (S S0:World→Prop) (b:List Nat):Nat→Array Bool→Act→World→Prop
 | 0,listed,a,w=>Region.ready .any ops listed=[]∧Q .normal a w
 | fuel+1,listed,a,w=>(Region.ready .any ops listed=[]→Q .normal a w) ∧
  ∀i∈Region.ready .any ops listed,wpOp P ops Q i (fun a' w'=>S0 w'∧(i∉b→S w→S w')∧Qc2 P ops Q S S0 b fuel (listed.setIfInBounds i true) a' w') a w
theorem Qc4: ∀(fuel:Nat) (listed:Array Bool) (a:Act) (w:World),Qc2 P ops Q S S0 b fuel listed a w→wpAny P .any ops Q fuel listed a w
 | 0,_,_,_,h=>h
 | fuel+1,_,_,_,h=>⟨h.1,fun i hi=>wpOp_mono (fun a' w' h'=>Qc4 fuel _ a' w' h'.2.2) (h.2 i hi)⟩
def Jr (ops:Array Oper) (l:Array Bool):Prop:= ∀j oj,ops[j]? =some oj→l.getD j false=true→ ∀e∈oj.after,Region.binds .any e=true→l.getD e.on false=true
theorem Jr.start (n:Nat):Jr ops (List.replicate n false).toArray:=by
 intro j oj _ h;rcases Nat.lt_or_ge j n with h' | h'<;>simp[h'] at h
theorem Jr.set {l:Array Bool} {i:Nat} (h:Jr ops l) (hr:i∈Region.ready .any ops l):Jr ops (l.setIfInBounds i true):=by
 intro j oj hj hl e he hb
 by_cases hij:i=j
 ·subst hij;obtain ⟨_,o,ho,hall⟩:=mem_ready.1 hr
  rw[hj] at ho;injection ho with ho;subst ho
  exact getD_set_true (hall e he hb)
 ·rw[getD_set_ne false hij] at hl
  exact getD_set_true (h j oj hj hl e he hb)
def Js (ops:Array Oper) (b i:Nat):Prop:= ∀l:Array Bool,Jr ops l→(∃ob,ops[b]? =some ob∧ ∀e∈ob.after,Region.binds .any e=true→l.getD e.on false=true)→l.getD i false=true
theorem Js.trans {d c i:Nat} {oc:Oper} (h1:Js ops d c) (hc:ops[c]? =some oc) (h2:Js ops c i):Js ops d i:=fun l hl hd=>by
 have h3:=h1 l hl hd;exact h2 l hl ⟨oc,hc,fun e he hb=>hl c oc hc h3 e he hb⟩
theorem VG {Sx:World→Prop} {i:Nat} {oi:Oper} {v:Value} (hi:ops[i]? =some oi) (hsel: ∀(j:Nat) (o:Oper) cs c,ops[j]? =some o→o.op≠ .select cs c)
  (hQ: ∀c a w,Q (.panic c) (a.put oi.dst v) w→Q (.panic c) a w) (hb:(∀w,S0 w→Sx w)∨(Sx=S∧ ∀d∈b,Js ops d i)) :
  ∀(fuel:Nat) (listed:Array Bool) (a:Act) (w:World),
   (∀j oj,ops[j]? =some oj→j≠i→listed.getD j true=false→(∀e∈oj.after,Region.binds .any e=true→e.on≠i)→oi.apart ops oj=true) →
   i∈Region.ready .any ops listed→Jr ops listed→YieldsIf P ops Sx oi v a→S0 w→Sx w →
   Qc2 P ops Q S S0 b fuel (listed.setIfInBounds i true) (a.put oi.dst v) w→Qc2 P ops Q S S0 b (fuel+1) listed a w:=by
 intro fuel
 induction fuel with
 | zero =>
  intro listed a w _ hr _ hy hS0 hS H;refine ⟨fun h=>(by rw[h] at hr;cases hr),fun j hj=> ?_⟩
  by_cases hji:j=i
  ·subst hji;exact hy.wpOp hi hS ⟨hS0,fun _ h=>h,H⟩
  ·have:=ready_mono hj hji
   rw[H.1] at this
   cases this
 | succ fuel ih =>
  intro listed a w hfree hr hcl hy hS0 hS H;refine ⟨fun h=>(by rw[h] at hr;cases hr),fun j hj=> ?_⟩
  by_cases hji:j=i
  ·subst hji;exact hy.wpOp hi hS ⟨hS0,fun _ h=>h,H⟩
  ·have h1:=H.2 j (ready_mono hj hji);obtain ⟨hjun,oj,hoj,hall⟩:=mem_ready.1 hj;have hnot: ∀e∈oj.after,Region.binds .any e=true→e.on≠i:=fun e he hb heq=>by
    have h1:=hall e he hb;have h0:=(mem_ready.1 hr).1
    rw[heq] at h1
    rcases Nat.lt_or_ge i listed.size with h' | h'
    ·simp[h'] at h0 h1;rw[h0] at h1;cases h1
    ·simp[Array.getElem?_eq_none h'] at h1
   have hSx: ∀w',S0 w'→(j∉b→S w→S w')→Sx w':=fun w' q0 q1=>by
    rcases hb with hb | ⟨rfl,hb⟩
    ·exact hb w' q0
    ·refine q1 (fun hjm=> ?_) hS;have h3:=hb j hjm listed hcl ⟨oj,hoj,hall⟩;have h0:=(mem_ready.1 hr).1;rcases Nat.lt_or_ge i listed.size with h' | h'
     ·simp[h'] at h0 h3;rw[h0] at h3;cases h3
     ·simp[Array.getElem?_eq_none h'] at h3
   have h2:=wpOp_putIf hoj (hfree j oj hoj hji hjun hnot) (fun cs c=>hsel i oi cs c hi) (fun cs c=>hsel j oj cs c hoj) hQ hy h1;have hfree': ∀k ok,ops[k]? =some ok→k≠i→(listed.setIfInBounds j true).getD k true=false →
     (∀e∈ok.after,Region.binds .any e=true→e.on≠i)→oi.apart ops ok=true:=fun k ok hk hki hun hno=>by
    refine hfree k ok hk hki ?_ hno
    by_cases hjk:j=k
    ·subst hjk;exact hjun
    ·rw[getD_set_ne true hjk] at hun;exact hun
   refine wpOp_mono (fun a' w' h3=>⟨h3.2.1,h3.2.2.1,ih (listed.setIfInBounds j true) a' w' hfree' (ready_mono hr (Ne.symm hji)) (hcl.set hj) h3.1 h3.2.1 (hSx w' h3.2.1 h3.2.2.1) ?_⟩) h2
   rw[Array.setIfInBounds_comm _ _ hji]
   exact h3.2.2.2
end
def Qgb:Op→Bool
 | .load _ _ | .lookup _ _ _ _ | .call _=>false
 | _=>true
theorem Qgr {P:Program} {T:TT} {o:Op} {fr:Fr} {μ μ':Gh} {L L':List Seg} {k:Value→Prop} (hp:Qgb o=true) (h:vcR P T o fr μ L k):vcR P T o fr μ' L' k:=by
 cases o<;>first | exact h | cases hp
def Qba (ops:List Oper) (b i:Nat):Bool:=match Zw ops b with
 | some o=>o.after.toList.any fun e=>Region.binds .any e&&e.on==i
 | none=>false
def Qax (ops:List Oper):Nat→List Nat→Nat→Bool
 | b,[],i=>Qba ops b i
 | b,k::r,i=>Qba ops b k&&Qax ops k r i
theorem WI {ops:List Oper} {b i:Nat} (h:Qba ops b i=true): ∃ob,ops.toArray[b]? =some ob∧ ∃e∈ob.after,Region.binds .any e=true∧e.on=i:=by
 unfold Qba at h
 rw[J6] at h
 cases hob:ops[b]? with
 | none=>rw[hob] at h;cases h
 | some ob =>
  rw[hob] at h
  simp only[List.any_eq_true,Bool.and_eq_true,beq_iff_eq] at h
  obtain ⟨e,h10,h11,h12⟩:=h;exact ⟨ob,by simpa using hob,e,by simpa using h10,h11,h12⟩
theorem Vm {ops:List Oper}: ∀{p:List Nat} {b i:Nat} (_:Qax ops b p i=true),Js ops.toArray b i
 | [],b,i,h,l,hc,⟨ob,h1,h2⟩=>by
  obtain ⟨ob',h3,e,h4,h5,h6⟩:=WI h
  rw[h1] at h3;injection h3 with h3;subst h3
  rw[←h6];exact h2 e h4 h5
 | k::r,b,i,h,l,hc,⟨ob,h1,h2⟩=>by
  unfold Qax at h
  rw[Bool.and_eq_true] at h
  obtain ⟨ob',h3,e,h4,h5,h6⟩:=WI h.1
  rw[h1] at h3;injection h3 with h3;subst h3
  have hk:l.getD k false=true:=by rw[←h6];exact h2 e h4 h5
  have hok: ∃ok,ops.toArray[k]? =some ok:=by
   cases r with
   | nil=>obtain ⟨o,h7,_⟩:=WI (show Qba ops k i=true from h.2);exact ⟨o,h7⟩
   | cons k' r'=>obtain ⟨o,h7,_⟩:=WI (Bool.and_eq_true _ _▸(show (Qba ops k k'&&Qax ops k' r' i)=true from h.2):Qba ops k k'=true∧_).1;exact ⟨o,h7⟩
  obtain ⟨ok,h7⟩:=hok;exact Vm h.2 l hc ⟨ok,h7,fun e he hb=>hc k ok h7 hk e he hb⟩
def Qf7 (ps:List (Nat×List Nat)) (i:Nat):List Nat:=match ps with
 | []=>[]
 | p::r=>bif p.1==i then p.2 else Qf7 r i
def Vi (ops:List Oper) (ps:List (Nat×List Nat)) (b:Nat):List (Bool×Nat)→List Bool→Option (List Bool)
 | [],l=>some l
 | p::r,l=>match (match p.1 with
   | true=>Region.free .any ops.toArray l.toArray p.2&&(Region.ready .any ops.toArray l.toArray).contains p.2&&((match Zw ops p.2 with | some o=>Qgb o.op | none=>false)||Qax ops b (Qf7 ps p.2) p.2)
   | false=>Region.ready .any ops.toArray l.toArray==[p.2]) with
  | true=>Vi ops ps b r (l.set p.2 true)
  | false=>none
def Qdq (ops:List Oper) (ps:List (Nat×List Nat)) (b:Nat):List Nat→Bool
 | []=>true
 | d::r=>Qax ops d (Qf7 ps d) b&&Qdq ops ps b r
def VU (ops:List Oper):List Nat→List Bool→Bool
 | [],l=>Region.ready .any ops.toArray l.toArray==[]
 | i::r,l=>(Region.ready .any ops.toArray l.toArray==[i])&&VU ops r (l.set i true)
section
variable {P:Program} {T:TT} {N:NN} {ops:List Oper} {μ0:Gh} {keep:List Seg} {K:QH} {fr:Fr} {μ:Gh} {L:List Seg} {fuel:Nat} {listed:List Bool} {b:Nat} {ds:List Nat} {ps:List (Nat×List Nat)}
def ANB (P:Program) (N:NN) (ops:List Oper) (μ0:Gh) (keep:List Seg) (ds:List Nat) (fuel:Nat) (listed:List Bool) (K:QH) (fr:Fr) (μ:Gh) (L:List Seg):Prop :=
 μ0.le μ→Qb keep L→ ∀(a:Act) (w:World) (Q:Exit→Act→World→Prop),Agr N fr a→Inv w μ L →
  (∀fr' μ' L' a' w',μ.le μ'→Agr N fr' a'→Inv w' μ' L'→K fr' μ' L'→Q .normal a' w') →
  (∀c a d v w,Q (.panic c) (Act.put a d v) w→Q (.panic c) a w)→Qc2 P ops.toArray Q (fun w=>ZB w μ0 keep) (fun w=>ZB w μ0 []) ds fuel listed.toArray a w
def QdJ (P:Program) (T:TT) (N:NN) (ops:List Oper):List Nat→QH→QH
 | [],K=>K
 | i::r,K=>fun fr μ L=> ∃o,Zw ops i=some o∧o.guard=none∧vcO P T o.op o.type fr μ L fun v μ' L'=>YM N o.dst v fr fun fr'=>QdJ P T N ops r K fr' μ' L'
theorem Qaf {dst:Option Tmp} {op:Op} {ty:TypeId} {pos:String} {aft:Array Edge} {r:List Nat} (hi:Zw ops b=some ⟨dst,op,ty,pos,aft,none⟩) (h:vcO P T op ty fr μ L fun v μ' L'=>YM N dst v fr fun fr'=>QdJ P T N ops r K fr' μ' L'):QdJ P T N ops (b::r) K fr μ L :=
 ⟨_,hi,rfl,h⟩
theorem Qbu {dst:Option Tmp} {op:Op} {ty:TypeId} {pos:String} {aft:Array Edge} (hi:Zw ops b=some ⟨dst,op,ty,pos,aft,none⟩) (h:vcO P T op ty fr μ L fun v μ' L'=>YM N dst v fr fun fr'=>K fr' μ' L'):QdJ P T N ops [b] K fr μ L :=
 ⟨_,hi,rfl,h⟩
theorem Qc3 {S:World→Prop} {μ0:Gh} {Q:Exit→Act→World→Prop} (hT:TOk P T): ∀(r:List Nat) (listed:List Bool) (_: ∀i∈r,i∈ds) (_:VU ops r listed=true) {fr:Fr} {μ:Gh} {L:List Seg} (_:QdJ P T N ops r K fr μ L) (_:μ0.le μ) (a:Act) (w:World) (_:Agr N fr a) (_:Inv w μ L)
  (_: ∀fr' μ' L' a' w',μ.le μ'→Agr N fr' a'→Inv w' μ' L'→K fr' μ' L'→Q .normal a' w'),Qc2 P ops.toArray Q S (fun w=>ZB w μ0 []) ds r.length listed.toArray a w
 | [],listed,_,hs,fr,μ,L,h,hm,a,w,ha,hw,hQ=>by
  simp only[VU,beq_iff_eq] at hs
  exact ⟨hs,hQ fr μ L a w (Gh.le.refl _) ha hw h⟩
 | i::r,listed,hd,hs,fr,μ,L,h,hm,a,w,ha,hw,hQ=>by
  simp only[VU,Bool.and_eq_true,beq_iff_eq] at hs
  obtain ⟨hr,hs⟩:=hs;obtain ⟨o,ho,hg,h⟩:=h
  rw[J6] at ho
  have ho':ops.toArray[i]? =some o:=by simpa using ho
  refine ⟨fun h0=>absurd (hr▸h0) (by simp),fun j hj=> ?_⟩
  rw[hr] at hj
  have hj':j=i:=by simpa using hj
  subst hj';unfold wpOp
  rw[ho']
  simp only
  have hwt:Region.wanted o (yielded ops.toArray a.tmps)=true:=by unfold Region.wanted;rw[hg]
  rw[if_pos hwt]
  refine .inl (JJ hT ha h hw fun v μ' L' w' hm' hw' hv=> ?_);obtain ⟨fr',hv',ha'⟩:=Yf ha hv;refine ⟨Y5 (hm.trans hm') Qb.nil hw',fun hne=>absurd (hd j (by simp)) hne,?_⟩
  rw[Yg]
  exact Qc3 hT r _ (fun k hk=>hd k (by simp[hk])) hs hv' (hm.trans hm') _ _ ha' hw' fun fr2 μ2 L2 a2 w2 h2=>hQ fr2 μ2 L2 a2 w2 (hm'.trans h2)
theorem Qbv: ∀{r:List Nat} (_:Qdq ops ps b r=true),∀d∈r,Js ops.toArray d b
 | c::r,h,d,hd=>by
  simp only[Qdq,Bool.and_eq_true] at h
  rcases List.mem_cons.1 hd with rfl | hd
  ·exact Vm h.1
  ·exact Qbv h.2 d hd
theorem ANB.steps (hT:TOk P T) (hs:Region.noSelect ops.toArray=true) {listed':List Bool} {r0:List Nat} (hsr:VU ops (b::r0) listed'=true) (hlt:Qdq ops ps b r0=true) :
  ∀(plan:List (Bool×Nat)) (listed:List Bool) (_:Vi ops ps b plan listed=some listed') (_:Jr ops.toArray listed.toArray) {fr:Fr} {μ:Gh} {L:List Seg}
  (_:Y1 P T N ops μ0 keep plan fr μ L (QdJ P T N ops (b::r0) K)),ANB P N ops μ0 keep (b::r0) ((b::r0).length+plan.length) listed K fr μ L
 | [],listed,hp,_,fr,μ,L,h=>by
  simp only[Vi,Option.some.injEq] at hp
  subst hp;intro hm hk a w Q ha hw hQ hQp;exact Qc3 hT (b::r0) _ (fun i hi=>hi) hsr h hm a w ha hw hQ
 | (q,i)::r,listed,hp,hcl,fr,μ,L,h=>by
  intro hm hk a w Qx ha hw hQ hQp;unfold Vi at hp
  split at hp
  ·rename_i hc
   unfold Y1 at h
   simp only[J6] at h hc
   cases ho:ops[i]? with
   | none=>rw[ho] at h;exact h.elim
   | some o =>
    rw[ho] at h
    have ho':ops.toArray[i]? =some o:=by simpa using ho
    show Qc2 P ops.toArray Qx _ _ (b::r0) (((b::r0).length+r.length)+1) listed.toArray a w
    cases q with
    | true =>
     simp only[Bool.and_eq_true,Bool.or_eq_true,ho] at h hc
     have hri:i∈Region.ready .any ops.toArray listed.toArray:=by simpa using hc.1.2
     have hcl2:Jr ops.toArray (listed.set i true).toArray:=by rw[←Yg];exact hcl.set hri
     have hcont: ∀v,YM N o.dst v fr (fun fr'=>Y1 P T N ops μ0 keep r fr' μ L (QdJ P T N ops (b::r0) K)) →
       Qc2 P ops.toArray Qx (fun w=>ZB w μ0 keep) (fun w=>ZB w μ0 []) (b::r0) ((b::r0).length+r.length) (listed.toArray.setIfInBounds i true) (a.put o.dst v) w:=by
      intro v hv;obtain ⟨fr',hv',ha'⟩:=Yf ha hv
      rw[Yg]
      exact ANB.steps hT hs hsr hlt r _ hp hcl2 hv' hm hk _ w Qx ha' hw hQ hQp
     have h00:ZB w μ0 []:=Y5 hm Qb.nil hw;rcases Zo ha h with ⟨hg,h⟩ | ⟨hg,h⟩
     ·rcases hc.2 with hpu | hwt
      ·obtain ⟨v,hv,hrun⟩:=WE hT ha (Qgr (μ':=μ0) (L':=[]) hpu h);exact VG (Sx:=fun w=>ZB w μ0 []) ho' (Region.noSelect_spec hs) (fun c a w h=>hQp c a _ _ w h) (.inl fun _ h=>h) _ _ a w (Region.free_spec ho' hc.1.1) hri hcl (.inl ⟨hg,fun w hw=>hrun w hw⟩) h00 h00 (hcont v hv)
      ·have hw0:Js ops.toArray b i:=Vm hwt;have hwb: ∀d∈b::r0,Js ops.toArray d i:=fun d hd=>by
        rcases List.mem_cons.1 hd with rfl | hd
        ·exact hw0
        ·simp only[VU,Bool.and_eq_true,beq_iff_eq] at hsr
         obtain ⟨_,ob,hob,_⟩:=mem_ready.1 (show b∈Region.ready .any ops.toArray listed'.toArray by rw[hsr.1];simp);exact (Qbv hlt d hd).trans hob hw0
       obtain ⟨v,hv,hrun⟩:=WE hT ha h;exact VG (Sx:=fun w=>ZB w μ0 keep) ho' (Region.noSelect_spec hs) (fun c a w h=>hQp c a _ _ w h) (.inr ⟨rfl,hwb⟩) _ _ a w (Region.free_spec ho' hc.1.1) hri hcl (.inl ⟨hg,fun w hw=>hrun w hw⟩) h00 (Y5 hm hk hw) (hcont v hv)
     ·exact VG (Sx:=fun w=>ZB w μ0 []) ho' (Region.noSelect_spec hs) (fun c a w h=>hQp c a _ _ w h) (.inl fun _ h=>h) _ _ a w (Region.free_spec ho' hc.1.1) hri hcl (.inr ⟨hg,rfl⟩) h00 h00 (hcont undef h)
    | false =>
     simp only[beq_iff_eq] at h hc
     refine ⟨fun h0=>absurd (hc▸h0) (by simp),fun j hj=> ?_⟩
     rw[hc] at hj
     have hj':j=i:=by simpa using hj
     subst hj';have hcl2:Jr ops.toArray (listed.set j true).toArray:=by rw[←Yg];exact hcl.set (by rw[hc];simp)
     unfold wpOp
     rw[ho']
     simp only
     rcases Zo ha h with ⟨hg,h⟩ | ⟨hg,h⟩
     ·rw[if_pos hg]
      refine .inl (JJ hT ha h hw fun v μ' L' w' hm' hw' hv=> ?_);obtain ⟨fr',hv',ha'⟩:=Yf ha hv.2;refine ⟨Y5 (hm.trans hm') Qb.nil hw',fun _ _=>Y5 (hm.trans hm') hv.1 hw',?_⟩
      rw[Yg]
      exact ANB.steps hT hs hsr hlt r _ hp hcl2 hv' (hm.trans hm') hv.1 _ w' Qx ha' hw' (fun fr2 μ2 L2 a2 w2 h2=>hQ fr2 μ2 L2 a2 w2 (hm'.trans h2)) hQp
     ·rw[if_neg (by rw[hg];exact Bool.false_ne_true)]
      obtain ⟨fr',hv',ha'⟩:=Yf ha h;refine ⟨Y5 hm Qb.nil hw,fun _ h=>h,?_⟩
      rw[Yg]
      exact ANB.steps hT hs hsr hlt r _ hp hcl2 hv' hm hk _ w Qx ha' hw hQ hQp
  ·cases hp
theorem WP.drawB {B:Nat→QH} {R:QH} (hx:P.follows .mixedOrders=true) (hT:TOk P T) {id:Nat} (keep:List Seg) (hk:Qb keep L) (b:Nat) (ps:List (Nat×List Nat)) (plan:List (Bool×Nat)) {l':List Bool}
  (hs:Region.noSelect ops.toArray=true) (hp:Vi ops ps b plan (List.replicate ops.length false)=some l') (r0:List Nat) (hl:plan.length+(b::r0).length=ops.length)
  (hsr:VU ops (b::r0) l'=true) (hlt:Qdq ops ps b r0=true)
  (h:Y1 P T N ops μ keep plan fr μ L (QdJ P T N ops (b::r0) K)) (hnd:N.rd=none∨Vf ops=true:=by first | exact .inl rfl | exact .inr (by kernel_rfl)):WP P N (.region id ops.toArray true) K B R fr μ L:=by
 intro a w ha hw;refine Qcl hx hnd V8 (Qc4 (S:=fun w=>ZB w μ keep) (S0:=fun w=>ZB w μ []) (b:=b::r0) _ _ _ _ ?_);have e1:ops.toArray.size=(b::r0).length+plan.length:=by simp at hl ⊢;omega
 have e2:Array.replicate ((b::r0).length+plan.length) false=(List.replicate ops.length false).toArray:=by simp at hl ⊢;omega
 rw[e1,e2]
 exact ANB.steps hT hs hsr hlt plan _ hp (Jr.start _) h (Gh.le.refl _) hk a _ _ ha hw.drew (fun fr' μ' L' a' w' hm ha' hw' hk'=>⟨fr',μ',L',ha',hm,hw',hk'⟩) (fun _ _ _ _ _ h=>h)
end
theorem E.{u} {α:Sort u} {a:α}:a=a:=rfl
section
variable {P:Program} {T:TT} {N:NN} {ops r:List Oper} {dst:Option Tmp} {op:Op} {ty:TypeId} {pos:String} {aft:Array Edge} {K:QH} {d:Tmp} {fr:Fr} {μ:Gh} {L:List Seg} {v:Value}
theorem Pt {μ0:Gh} {keep:List Seg} {pl:List (Bool×Nat)} {i:Nat} (hd:Nat.blt d N.n=true) (hi:Zw ops i=some ⟨dst,op,ty,pos,aft,none⟩) (h:vcR P T op ((d,v)::fr) μ0 keep fun u=>YM N dst u ((d,v)::fr) fun fr'=>Y1 P T N ops μ0 keep pl fr' μ L K) :
  YM N (some d) v fr fun fr'=>Y1 P T N ops μ0 keep ((true,i)::pl) fr' μ L K:=Qd hd (YJ hi h)
end
end Go.Proofs.Ytfdjjdhnfaklbaa
namespace Go.Proofs.Ytfdjjdhnfaklbaa
open Go.RowKit
set_option linter.unusedSimpArgs false
set_option linter.unusedVariables false
def ZW (k:Za):Value:= .agg #[.int .i64 k.producer,.int .i64 k.material]
theorem WY:WT Try.prog 144 ZW where
 chk b a w:=by
  show (Instr.checkKey b (9998+2) 144 (.agg #[.int .i64 a.producer,.int .i64 a.material])).run Try.prog w=_
  refine Qes _ b 9998 ?_ ?_ ?_ ?_ ?_ ?_ Try.underlying144 _ _ w
  ·simp
  ·simp
  ·rfl
  ·rfl
  ·exact Try.underlying3
  ·exact Try.underlying3
 eq a b w:=by
  obtain ⟨x0,x1⟩:=a;obtain ⟨y0,y1⟩:=b
  show (Op.equalIn (9999+1) 144 _ _).run Try.prog w=_
  unfold ZW
  rw[run_equalIn_struct w 9999 _ _ _ (by kernel_rfl) (by kernel_rfl)]
  by_cases h0:x0=y0
  case neg=>simp[Program.fieldsOf,Try.underlying144,go_sem,h0]
  by_cases h1:x1=y1
  case neg=>simp[Program.fieldsOf,Try.underlying144,go_sem,h0,h1]
  simp[Program.fieldsOf,Try.underlying144,go_sem,h0,h1]
 und:=⟨_,Try.underlying144,fun _ _=>rfl⟩
 stay a w:=by simp[Instr.keyThatStays,Instr.sameBits,ZW]
 inj a b h:=by
  obtain ⟨x0,x1⟩:=a;obtain ⟨y0,y1⟩:=b
  simpa [ZW] using h
end Go.Proofs.Ytfdjjdhnfaklbaa
namespace Go.Proofs.Ytfdjjdhnfaklbaa
open Go.RowKit
set_option linter.unusedSimpArgs false
set_option linter.unusedVariables false
def Yk (k:Qk):Value:= .agg #[.int .i64 k.producer,.int .i64 k.material]
theorem Zv:WT Try.prog 114 Yk where
 chk b a w:=by
  show (Instr.checkKey b (9998+2) 114 (.agg #[.int .i64 a.producer,.int .i64 a.material])).run Try.prog w=_
  refine Qes _ b 9998 ?_ ?_ ?_ ?_ ?_ ?_ Try.underlying114 _ _ w
  ·simp
  ·simp
  ·rfl
  ·rfl
  ·exact Try.underlying3
  ·exact Try.underlying3
 eq a b w:=by
  obtain ⟨x0,x1⟩:=a;obtain ⟨y0,y1⟩:=b
  show (Op.equalIn (9999+1) 114 _ _).run Try.prog w=_
  unfold Yk
  rw[run_equalIn_struct w 9999 _ _ _ (by kernel_rfl) (by kernel_rfl)]
  by_cases h0:x0=y0
  case neg=>simp[Program.fieldsOf,Try.underlying114,go_sem,h0]
  by_cases h1:x1=y1
  case neg=>simp[Program.fieldsOf,Try.underlying114,go_sem,h0,h1]
  simp[Program.fieldsOf,Try.underlying114,go_sem,h0,h1]
 und:=⟨_,Try.underlying114,fun _ _=>rfl⟩
 stay a w:=by simp[Instr.keyThatStays,Instr.sameBits,Yk]
 inj a b h:=by
  obtain ⟨x0,x1⟩:=a;obtain ⟨y0,y1⟩:=b
  simpa [Yk] using h
end Go.Proofs.Ytfdjjdhnfaklbaa
namespace Go.Proofs.Ytfdjjdhnfaklbaa
open Go.RowKit
set_option linter.unusedSimpArgs false
set_option linter.unusedVariables false
def JU (P:Program) (N:NN) (all rest:List Oper) (K:QH):QH:=fun fr μ L=> ∀(a:Act) (w:World) (Q:Exit→Act→World→Prop),Agr N fr a→Inv w μ L →
 (∀fr' μ' L' a' w',μ.le μ'→Agr N fr' a'→Inv w' μ' L'→K fr' μ' L'→Q .normal a' w')→wpListIn (fw N.rd) 0 P all.toArray Q rest a w
def Vh (all:List Oper) (plan:List (Bool×Nat)) (l:List Bool):Bool:=match ZE all plan l with
 | some l'=>(Region.ready .any all.toArray l'.toArray).isEmpty
 | none=>false
def W2 (P:Program) (N:NN) (all:List Oper) (l:List Bool) (plan:List (Bool×Nat)) (μ0:Gh) (keep:List Seg) (K:QH):QH:=fun fr μ L =>
 Region.noSelect all.toArray=true→Vh all plan l=true→AN P N all μ0 keep plan.length l K fr μ L
def Qai (P:Program) (N:NN) (all:List Oper) (l:List Bool) (plan:List (Bool×Nat)) (n:Nat) (l':List Bool) (μ0:Gh) (keep:List Seg) (K:QH):QH:=fun fr μ L =>
 Region.noSelect all.toArray=true→ZE all plan l=some l'→AN P N all μ0 keep (n+plan.length) l K fr μ L
inductive MIt where
 | code (c:Code)
 | blk (i:Nat)
 | ops (all rest:List Oper)
 | pln (all:List Oper) (l:List Bool) (plan:List (Bool×Nat)) (μ0:Gh) (keep:List Seg)
 | plp (all:List Oper) (l:List Bool) (plan:List (Bool×Nat)) (n:Nat) (l':List Bool) (μ0:Gh) (keep:List Seg)
 | cut (M:QH)
def KEn (N:NN) (K:QH):QH:=fun fr μ L=> ∀a w,Agr N fr a→Inv w μ L→ ∃fr' μ' L',Agr N fr' a∧μ.le μ'∧Inv w μ' L'∧K fr' μ' L'
section
variable (P:Program) (N:NN) (R:QH)
def KB:List MIt→QH×(Nat→QH)
 | []=>(KEn N R,fun _ _ _ _=>False)
 | .code c::s=>(fun fr μ L=>WP P N c (KB s).1 (KB s).2 (KEn N R) fr μ L,(KB s).2)
 | .blk i::s=>((KB s).1,VB i (KB s).1 (KB s).2)
 | .ops all rest::s=>(JU P N all rest (KB s).1,(KB s).2)
 | .pln all l plan μ0 keep::s=>(W2 P N all l plan μ0 keep (KB s).1,(KB s).2)
 | .plp all l plan n l' μ0 keep::s=>(Qai P N all l plan n l' μ0 keep (KB s).1,(KB s).2)
 | .cut M::s=>(M,(KB s).2)
def KS (s:List MIt):QH:=(KB P N R s).1
def BS (s:List MIt):Nat→QH:=(KB P N R s).2
end
section
variable {P:Program} {T:TT} {N:NN} {R K:QH} {fr:Fr} {μ:Gh} {L:List Seg} {all rest:List Oper} {o:Oper} {l l':List Bool} {plan:List (Bool×Nat)} {μ0:Gh} {keep:List Seg} {i n:Nat}
theorem KEn.done (h:K fr μ L):KEn N K fr μ L:=fun _ _ ha hw=>⟨fr,μ,L,ha,Gh.le.refl _,hw,h⟩
theorem JU.nil (h:K fr μ L):JU P N all [] K fr μ L:=fun a w Q ha hw hQ=>hQ fr μ L a w (Gh.le.refl _) ha hw h
theorem JU.cons (hT:TOk P T) (h:Y8 all fr o.guard (vcO P T o.op o.type fr μ L fun v μ' L'=>YM N o.dst v fr fun fr'=>JU P N all rest K fr' μ' L') (YM N o.dst undef fr fun fr'=>JU P N all rest K fr' μ L)) :
  JU P N all (o::rest) K fr μ L:=by
 intro a w Q ha hw hQ;refine wpListIn_step fun K' hK'=> ?_;rcases Zo ha h with ⟨hg,h⟩ | ⟨hg,h⟩
 ·rw[if_pos hg]
  refine QhK (QaL h) (JJ hT ha h hw fun v μ' L' w' hm hw' hk=> ?_);obtain ⟨fr',hk,ha'⟩:=Yf ha hk;exact hK' _ _ (hk _ w' Q ha' hw' fun fr2 μ2 L2 a2 w2 hm2=>hQ fr2 μ2 L2 a2 w2 (hm.trans hm2))
 ·rw[if_neg (by rw[hg];exact Bool.false_ne_true)]
  refine ⟨fun _ _=>trivial,?_⟩;obtain ⟨fr',hk,ha'⟩:=Yf ha h;exact hK' _ _ (hk _ w Q ha' hw hQ)
theorem WP.regionS {B:Nat→QH} {id:Nat} (h:JU P N all all K fr μ L):WP P N (.region id all.toArray false) K B R fr μ L:=fun a w ha hw =>
 wpIn_region_lit (h a w _ ha hw fun fr' μ' L' a' w' hm ha' hw' hk=>⟨fr',μ',L',ha',hm,hw',hk⟩)
theorem AN.one (hT:TOk P T) (hs:Region.noSelect all.toArray=true) {b:Bool} {m:Nat} {X:QH} (hX: ∀fr μ L,X fr μ L→AN P N all μ0 keep m (l.set i true) K fr μ L) (hp:ZE all ((b,i)::plan) l=some l') (ho:Zw all i=some o)
  (h:(match b with
   | true=>Y8 all fr o.guard (vcR P T o.op fr μ0 keep fun v=>YM N o.dst v fr fun fr'=>X fr' μ L) (YM N o.dst undef fr fun fr'=>X fr' μ L)
   | false=>Y8 all fr o.guard (vcO P T o.op o.type fr μ L fun v μ' L'=>Qb keep L'∧YM N o.dst v fr fun fr'=>X fr' μ' L') (YM N o.dst undef fr fun fr'=>X fr' μ L))) :
  AN P N all μ0 keep (m+1) l K fr μ L:=by
 intro hm hk a w Qx ha hw hQ hQp;unfold ZE at hp
 split at hp
 ·rename_i hc
  rw[J6] at ho
  have ho':all.toArray[i]? =some o:=by simpa using ho
  show wpAnyH P .any all.toArray Qx _ (m+1) l.toArray a w
  cases b with
  | true =>
   simp only[Bool.and_eq_true] at h hc
   have hcont: ∀v,YM N o.dst v fr (fun fr'=>X fr' μ L)→wpAnyH P .any all.toArray Qx (fun w=>ZB w μ0 keep) m (l.toArray.setIfInBounds i true) (a.put o.dst v) w:=by
    intro v hv;obtain ⟨fr',hv',ha'⟩:=Yf ha hv
    rw[Yg]
    exact hX _ _ _ hv' hm hk _ w Qx ha' hw hQ hQp
   rcases Zo ha h with ⟨hg,h⟩ | ⟨hg,h⟩
   ·obtain ⟨v,hv,hrun⟩:=WE hT ha h;exact wpAnyH_take ho' hs hc.1 hc.2 (fun c a w h=>hQp c a _ _ w h) (.inl ⟨hg,fun w hw=>hrun w hw⟩) (Y5 hm hk hw) (hcont v hv)
   ·exact wpAnyH_take ho' hs hc.1 hc.2 (fun c a w h=>hQp c a _ _ w h) (.inr ⟨hg,rfl⟩) (Y5 hm hk hw) (hcont undef h)
  | false =>
   simp only[beq_iff_eq] at h hc
   refine wpAnyH_all hc (by simp) fun j hj=> ?_;have hj':j=i:=by simpa using hj
   subst hj';unfold wpOp
   rw[ho']
   simp only
   rcases Zo ha h with ⟨hg,h⟩ | ⟨hg,h⟩
   ·rw[if_pos hg]
    refine .inl (JJ hT ha h hw fun v μ' L' w' hm' hw' hv=> ?_);obtain ⟨fr',hv',ha'⟩:=Yf ha hv.2;refine ⟨Y5 (hm.trans hm') hv.1 hw',?_⟩
    rw[Yg]
    exact hX _ _ _ hv' (hm.trans hm') hv.1 _ w' Qx ha' hw' (fun fr2 μ2 L2 a2 w2 h2=>hQ fr2 μ2 L2 a2 w2 (hm'.trans h2)) hQp
   ·rw[if_neg (by rw[hg];exact Bool.false_ne_true)]
    obtain ⟨fr',hv',ha'⟩:=Yf ha h;refine ⟨Y5 hm hk hw,?_⟩
    rw[Yg]
    exact hX _ _ _ hv' hm hk _ w Qx ha' hw hQ hQp
 ·cases hp
theorem WN {b:Bool} (hp:ZE all ((b,i)::plan) l=some l'):ZE all plan (l.set i true)=some l':=by
 unfold ZE at hp
 split at hp
 ·exact hp
 ·cases hp
theorem WM (h:Vh all plan l=true): ∃l',ZE all plan l=some l'∧Region.ready .any all.toArray l'.toArray=[]:=by
 unfold Vh at h
 split at h
 ·exact ⟨_,by assumption,by simpa using h⟩
 ·cases h
theorem QaI {b:Bool} (h:Vh all ((b,i)::plan) l=true):Vh all plan (l.set i true)=true:=by
 obtain ⟨l',h1,h2⟩:=WM h;unfold Vh
 rw[WN h1]
 simp only[h2];rfl
theorem W2.nil (h:K fr μ L):W2 P N all l [] μ0 keep K fr μ L:=by
 intro _ hp;obtain ⟨l',h1,h2⟩:=WM hp
 simp only[ZE,Option.some.injEq] at h1
 subst h1;exact AN.done h2 h
theorem W2.t (hT:TOk P T) (ho:Zw all i=some o) (h:Y8 all fr o.guard (vcR P T o.op fr μ0 keep fun v=>YM N o.dst v fr fun fr'=>W2 P N all (l.set i true) plan μ0 keep K fr' μ L) (YM N o.dst undef fr fun fr'=>W2 P N all (l.set i true) plan μ0 keep K fr' μ L)) :
  W2 P N all l ((true,i)::plan) μ0 keep K fr μ L:=by
 intro hs hp;have hp2:=QaI hp;obtain ⟨l',h1,_⟩:=WM hp;exact AN.one (b:=true) hT hs (fun _ _ _ h=>h hs hp2) h1 ho h
theorem W2.f (hT:TOk P T) (ho:Zw all i=some o) (h:Y8 all fr o.guard (vcO P T o.op o.type fr μ L fun v μ' L'=>Qb keep L'∧YM N o.dst v fr fun fr'=>W2 P N all (l.set i true) plan μ0 keep K fr' μ' L') (YM N o.dst undef fr fun fr'=>W2 P N all (l.set i true) plan μ0 keep K fr' μ L)) :
  W2 P N all l ((false,i)::plan) μ0 keep K fr μ L:=by
 intro hs hp;have hp2:=QaI hp;obtain ⟨l',h1,_⟩:=WM hp;exact AN.one (b:=false) hT hs (fun _ _ _ h=>h hs hp2) h1 ho h
theorem Qai.t {l1:List Bool} (hT:TOk P T) (ho:Zw all i=some o) (h:Y8 all fr o.guard (vcR P T o.op fr μ0 keep fun v=>YM N o.dst v fr fun fr'=>Qai P N all (l.set i true) plan n l1 μ0 keep K fr' μ L) (YM N o.dst undef fr fun fr'=>Qai P N all (l.set i true) plan n l1 μ0 keep K fr' μ L)) :
  Qai P N all l ((true,i)::plan) n l1 μ0 keep K fr μ L:=by
 intro hs hp;exact AN.one (b:=true) hT hs (fun _ _ _ h=>h hs (WN hp)) hp ho h
theorem Qai.f {l1:List Bool} (hT:TOk P T) (ho:Zw all i=some o) (h:Y8 all fr o.guard (vcO P T o.op o.type fr μ L fun v μ' L'=>Qb keep L'∧YM N o.dst v fr fun fr'=>Qai P N all (l.set i true) plan n l1 μ0 keep K fr' μ' L') (YM N o.dst undef fr fun fr'=>Qai P N all (l.set i true) plan n l1 μ0 keep K fr' μ L)) :
  Qai P N all l ((false,i)::plan) n l1 μ0 keep K fr μ L:=by
 intro hs hp;exact AN.one (b:=false) hT hs (fun _ _ _ h=>h hs (WN hp)) hp ho h
theorem WP.drawS {B:Nat→QH} (hx:P.follows .mixedOrders=true) {id:Nat} (keep:List Seg) (hk:Qb keep L) (plan:List (Bool×Nat)) (hl:plan.length=all.length)
  (hs:Region.noSelect all.toArray=true) (hnd:Vf all=true) (hp:Vh all plan (List.replicate all.length false)=true) (h:W2 P N all (List.replicate all.length false) plan μ keep K fr μ L):WP P N (.region id all.toArray true) K B R fr μ L :=
 WP.draw hx keep hk rfl (by rw[←hl];have:=h hs hp;rw[←hl] at this;exact this) (.inr hnd)
end
def Qae (i:Nat):List MIt→Option (List MIt)
 | []=>none
 | .blk j::s=>bif Nat.beq i j then some s else Qae i s
 | .code _::s=>Qae i s
 | .ops _ _::s=>Qae i s
 | .pln _ _ _ _ _::s=>Qae i s
 | .plp _ _ _ _ _ _ _::s=>Qae i s
 | .cut _::s=>Qae i s
section
variable {P:Program} {N:NN} {R:QH} {fr:Fr} {μ:Gh} {L:List Seg}
theorem ZT {i:Nat}: ∀{s s':List MIt},Qae i s=some s'→KS P N R s' fr μ L→BS P N R s i fr μ L
 | [],s',h,_=>by cases h
 | .blk j::s,s',h,hk=>by
  simp only[Qae] at h
  show VB j (KS P N R s) (BS P N R s) i fr μ L
  cases hb:Nat.beq i j with
  | true =>
   rw[hb] at h
   simp only[cond_true,Option.some.injEq] at h
   subst h
   simp only[VB,if_pos (Nat.eq_of_beq_eq_true hb)];exact hk
  | false =>
   rw[hb] at h
   simp only[VB,if_neg (Nat.ne_of_beq_eq_false hb)]
   exact ZT (s:=s) h hk
 | .code _::s,s',h,hk=>ZT (s:=s) h hk
 | .ops _ _::s,s',h,hk=>ZT (s:=s) h hk
 | .pln _ _ _ _ _::s,s',h,hk=>ZT (s:=s) h hk
 | .plp _ _ _ _ _ _ _::s,s',h,hk=>ZT (s:=s) h hk
 | .cut _::s,s',h,hk=>ZT (s:=s) h hk
end
inductive Out where
 | ok (s:List MIt) (fr:Fr) (L:List Seg) (a b:List Value)
 | bad
def evK (fr:Fr) (x:Operand) (k:Value→Out):Out:=match evV fr x with
 | some v=>k v
 | none=> .bad
def QfK (fr:Fr):List Operand→(List Value→Out)→Out
 | [],k=>k []
 | x::xs,k=>evK fr x fun v=>QfK fr xs fun vs=>k (v::vs)
def QhF (fr:Fr):List (Nat×Operand)→(List (Nat×Value)→Out)→Out
 | [],k=>k []
 | x::xs,k=>evK fr x.2 fun v=>QhF fr xs fun vs=>k ((x.1,v)::vs)
def QdN:Nat→List Value→(List Value→Out)→Out
 | 0,_,k=>k []
 | _+1,[],_=> .bad
 | n+1,v::r,k=>QdN n r fun t=>k (v::t)
def Qdc:Nat→List Value→(List Value→Out)→Out
 | 0,l,k=>k l
 | _+1,[],_=> .bad
 | n+1,_::r,k=>Qdc n r k
def Qf5:Nat→List Value→(Value→Out)→Out
 | _,[],_=> .bad
 | 0,v::_,k=>k v
 | n+1,_::r,k=>Qf5 n r k
def Qgj:List Value→Nat→List Value→(List Value→Out)→Out
 | cs,_,[],k=>k cs
 | [],_,_::_,_=> .bad
 | c::r,0,v::vs,k=>Qgj r 0 vs fun t=>k (v::t)
 | c::r,o+1,v::vs,k=>Qgj r o (v::vs) fun t=>k (c::t)
def QcD (v:Value) (k:List Value→Out):Out:=match v with
 | .agg ⟨cs⟩=>k cs
 | .bool b=>k [.bool b]
 | .int kd n=>k [.int kd n]
 | .string s=>k [.string s]
 | .pointer a=>k [.pointer a]
 | .slice a n c=>k [.slice a n c]
 | .map r=>k [.map r]
 | .func f a b=>k [.func f a b]
 | .nilFunc=>k [.nilFunc]
 | _=> .bad
def Qgi:IntKind→IntKind→Bool
 | .i8,.i8=>true | .i16,.i16=>true | .i32,.i32=>true | .i64,.i64=>true
 | .u8,.u8=>true | .u16,.u16=>true | .u32,.u32=>true | .u64,.u64=>true
 | _,_=>false
def Qbt (x y:Value) (k:IntKind→Int→Int→Out):Out:=match x,y with
 | .int kd a,.int kd' b=>(match Qgi kd kd' with | true=>k kd a b | false=> .bad)
 | _,_=> .bad
def Wp (b:Bool) (x:Out):Out:=match b with | true=>x | false=> .bad
def tyK (T:TT) (t:TypeId) (k:TyI→Out):Out:=match T t with | some i=>k i | none=> .bad
def eqV (T:TT) (t:TypeId) (x y:Value) (k:Bool→Out):Out:=match x,y with
 | .int kd a,.int kd' b=>Wp (Qgi kd kd') (k (decide (a=b)))
 | .bool a,.bool b=>tyK T t fun i=>Wp (Qd3 i.u) (k (a==b))
 | .pointer none,.pointer none=>tyK T t fun i=>Wp (QaF i.u) (k true)
 | .pointer (some _),.pointer none=>tyK T t fun i=>Wp (QaF i.u) (k false)
 | _,_=> .bad
def QhA (T:TT) (op:BinOp) (t:TypeId) (x y:Value) (k:Value→Out):Out:=match op with
 | .add=>Qbt x y fun kd a b=>k (.int kd (kd.wrap (a+b)))
 | .sub=>Qbt x y fun kd a b=>k (.int kd (kd.wrap (a-b)))
 | .mul=>Qbt x y fun kd a b=>k (.int kd (kd.wrap (a*b)))
 | .lss=>Qbt x y fun kd a b=>k (.bool (decide (a<b)))
 | .leq=>Qbt x y fun kd a b=>k (.bool (decide (a≤b)))
 | .gtr=>Qbt x y fun kd a b=>k (.bool (decide (b<a)))
 | .geq=>Qbt x y fun kd a b=>k (.bool (decide (b≤a)))
 | .eql=>eqV T t x y fun b=>k (.bool b)
 | .neq=>eqV T t x y fun b=>k (.bool !b)
 | _=> .bad
def Qev (pl:Nat→Option (Nat×Nat)) (cells:List Value) (parts:List (Nat×Value)) (k:List Value→Out):Out:=match parts with
 | []=>k cells
 | p::r=>match pl p.1 with
  | some (q1,q2)=>QcD p.2 fun vs=>Wp (Nat.beq vs.length q2) <| Wp (Nat.blt 0 q2) (Qgj cells q1 vs fun cells'=>Qev pl cells' r k)
  | none=> .bad
def QhG (T:TT) (s:TypeId) (f:Nat) (k:Nat→Nat→Bool→Out):Out:=tyK T s fun i=>Wp (Wh i.u) (match i.flds[f]? with
 | some (some (q1,q2,q3))=>k q1 q2 q3
 | _=> .bad)
def opV (T:TT) (fr:Fr) (o:Op) (k:Value→Out):Out:=match o with
 | .move x=>evK fr x k
 | .assign x=>evK fr x k
 | .nilCheck x=>evK fr x fun v=>(match v with
  | .pointer (some a)=>k (.pointer (some a))
  | .func (.func f) fi ca=>k (.func (.func f) fi ca)
  | _=> .bad)
 | .binOp op t x y _=>evK fr x fun a=>evK fr y fun b=>QhA T op t a b k
 | .unOp .not _ x=>evK fr x fun a=>(match a with | .bool b=>k (.bool !b) | _=> .bad)
 | .unOp .neg _ x=>evK fr x fun a=>(match a with | .int kd n=>k (.int kd (kd.wrap (0-n))) | _=> .bad)
 | .convert s d x=>evK fr x fun a=>(match a with
  | .int _ n=>tyK T s fun _=>tyK T d fun i=>(match i.u with | .int kd=>k (.int kd (kd.wrap n)) | _=> .bad)
  | _=> .bad)
 | .build t ps=>QhF fr ps.toList fun vs=>tyK T t fun i=>Wp (Wh i.u) (Wp (i.flds.all (·.isSome)) (Qev (Qf9 i) i.zero.cells.toList vs fun cs=>k (.agg ⟨cs⟩)))
 | .fieldAddr s x f=>evK fr x fun v=>(match v with
  | .pointer (some a)=>QhG T s f fun q1 q2 _=>(match Nat.beq q2 0 with
   | false=>(match Nat.beq q1 0 with | true=>k (.pointer (some a)) | false=>k (.pointer (some (a.add q1))))
   | true=> .bad)
  | _=> .bad)
 | .field s x f=>evK fr x fun v=>(match v with
  | .agg ⟨cs⟩=>QhG T s f fun q1 q2 q3=>(match q3 with
   | true=>Qdc q1 cs fun d=>QdN q2 d fun vs=>k (.agg ⟨vs⟩)
   | false=>Qf5 q1 cs k)
  | _=> .bad)
 | .extract x i=>evK fr x fun v=>(match v with | .tuple ⟨vs⟩=>Qf5 i vs k | _=> .bad)
 | .makeFunc f fi ca=>QfK fr fi.toList fun a=>QfK fr ca.toList fun b=>k (.func f ⟨a⟩ ⟨b⟩)
 | .call ⟨.builtin b,args,tys⟩=>QfK fr args.toList fun vs=>(match b with
  | .len=>(match vs,tys.toList with
   | [.slice _ n _],[t]=>tyK T t fun i=>Wp (W9 i.u) (k (.int .i64 n))
   | [.string s],[t]=>tyK T t fun i=>Wp (QhI i.u) (k (.int .i64 s.size))
   | _,_=> .bad)
  | .cap=>(match vs,tys.toList with
   | [.slice _ _ c],[t]=>tyK T t fun i=>Wp (W9 i.u) (k (.int .i64 c))
   | _,_=> .bad)
  | .min=>(match vs with | [.int kd x,.int _ y]=>k (.int kd (min x y)) | _=> .bad)
  | .max=>(match vs with | [.int kd x,.int _ y]=>k (.int kd (max x y)) | _=> .bad)
  | _=> .bad)
 | _=> .bad
section
variable {fr:Fr} {o:Out}
theorem Yd {x:Operand} {k:Value→Out} (h:evK fr x k=o) (ho:o≠ .bad): ∃v,evV fr x=some v∧k v=o:=by
 unfold evK at h
 split at h
 ·exact ⟨_,by assumption,h⟩
 ·exact absurd h.symm ho
theorem Vp: ∀{xs:List Operand} {k:List Value→Out},QfK fr xs k=o→o≠ .bad→ ∃vs,Wl fr xs=some vs∧k vs=o
 | [],k,h,ho=>⟨[],rfl,h⟩
 | x::xs,k,h,ho=>by
  obtain ⟨v,h1,h2⟩:=Yd (x:=x) h ho;obtain ⟨vs,h3,h4⟩:=Vp h2 ho;exact ⟨v::vs,by simp only[Wl,h1,h3],h4⟩
theorem Qb5: ∀{xs:List (Nat×Operand)} {k:List (Nat×Value)→Out},QhF fr xs k=o→o≠ .bad→ ∃vs,QcF fr xs=some vs∧k vs=o
 | [],k,h,ho=>⟨[],rfl,h⟩
 | x::xs,k,h,ho=>by
  obtain ⟨v,h1,h2⟩:=Yd (x:=x.2) h ho;obtain ⟨vs,h3,h4⟩:=Qb5 h2 ho;exact ⟨(x.1,v)::vs,by simp only[QcF,h1,h3],h4⟩
theorem VW: ∀{n:Nat} {l:List Value} {k:List Value→Out},QdN n l k=o→o≠ .bad→k (l.take n)=o∧(l.take n).length=n
 | 0,l,k,h,_=>⟨by simpa [QdN] using h,by simp⟩
 | n+1,[],k,h,ho=>absurd h.symm ho
 | n+1,v::r,k,h,ho=>by
  obtain ⟨h1,h2⟩:=VW (n:=n) (l:=r) h ho;exact ⟨by simpa using h1,by simpa using h2⟩
theorem VH: ∀{n:Nat} {l:List Value} {k:List Value→Out},Qdc n l k=o→o≠ .bad→k (l.drop n)=o
 | 0,l,k,h,_=>by simpa [Qdc] using h
 | n+1,[],k,h,ho=>absurd h.symm ho
 | n+1,v::r,k,h,ho=>by simpa using VH (n:=n) (l:=r) h ho
theorem Vr: ∀{n:Nat} {l:List Value} {k:Value→Out},Qf5 n l k=o→o≠ .bad→ ∃v,l[n]? =some v∧k v=o
 | n,[],k,h,ho=>absurd (by cases n<;>exact h.symm) ho
 | 0,v::r,k,h,ho=>⟨v,rfl,h⟩
 | n+1,v::r,k,h,ho=>by simpa using Vr (n:=n) (l:=r) h ho
theorem Qau (c:Value): ∀(vs r:List Value) (o:Nat),JG (c::r) (o+1) vs=c::JG r o vs
 | [],r,o=>rfl
 | v::vs,r,o=>by simp only[JG,List.set_cons_succ];exact Qau c vs _ (o+1)
theorem Vt: ∀{cs:List Value} {q:Nat} {vs:List Value} {k:List Value→Out},Qgj cs q vs k=o→o≠ .bad→k (JG cs q vs)=o∧(vs≠[]→q+vs.length≤cs.length)
 | [],q,[],k,h,ho=>⟨by cases q<;>exact h,fun h=>absurd rfl h⟩
 | c::r,q,[],k,h,ho=>⟨by cases q<;>exact h,fun h=>absurd rfl h⟩
 | [],q,v::vs,k,h,ho=>absurd (by cases q<;>exact h.symm) ho
 | c::r,0,v::vs,k,h,ho=>by
  obtain ⟨h1,h2⟩:=Vt (cs:=r) (q:=0) (vs:=vs) h ho;refine ⟨?_,fun _=> ?_⟩
  ·rw[JG,List.set_cons_zero,Nat.zero_add,Qau];exact h1
  ·cases vs with
   | nil=>simp
   | cons u us=>have:=h2 (by simp);simp at this ⊢;omega
 | c::r,q+1,v::vs,k,h,ho=>by
  obtain ⟨h1,h2⟩:=Vt (cs:=r) (q:=q) (vs:=v::vs) h ho;refine ⟨?_,fun _=> ?_⟩
  ·rw[Qau];exact h1
  ·have:=h2 (by simp);simp at this ⊢;omega
theorem Qaz {v:Value} {k:List Value→Out} (h:QcD v k=o) (ho:o≠ .bad):k v.cells.toList=o:=by
 unfold QcD at h
 split at h<;>first | exact h | exact absurd h.symm ho
theorem QbE {a b:IntKind} (h:Qgi a b=true):a=b:=by
 cases a<;>cases b<;>first | rfl | cases h
theorem Qao {x y:Value} {k:IntKind→Int→Int→Out} (h:Qbt x y k=o) (ho:o≠ .bad): ∃kd a b,x= .int kd a∧y= .int kd b∧k kd a b=o:=by
 unfold Qbt at h
 split at h
 ·split at h
  ·rename_i hs
   have:=QbE hs;subst this;exact ⟨_,_,_,rfl,rfl,h⟩
  ·exact absurd h.symm ho
 ·exact absurd h.symm ho
theorem Yi {b:Bool} {x:Out} (h:Wp b x=o) (ho:o≠ .bad):b=true∧x=o:=by
 unfold Wp at h
 split at h
 ·exact ⟨rfl,h⟩
 ·exact absurd h.symm ho
theorem ZL {T:TT} {t:TypeId} {k:TyI→Out} (h:tyK T t k=o) (ho:o≠ .bad): ∃i,T t=some i∧k i=o:=by
 unfold tyK at h
 split at h
 ·exact ⟨_,by assumption,h⟩
 ·exact absurd h.symm ho
theorem Qb9 {T:TT} {s:TypeId} {f:Nat} {k:Nat→Nat→Bool→Out} (h:QhG T s f k=o) (ho:o≠ .bad): ∃i q1 q2 q3,T s=some i∧Wh i.u=true∧i.flds[f]? =some (some (q1,q2,q3))∧k q1 q2 q3=o:=by
 obtain ⟨i,h1,h2⟩:=ZL h ho;obtain ⟨h3,h4⟩:=Yi h2 ho
 split at h4
 ·exact ⟨i,_,_,_,h1,h3,by assumption,h4⟩
 ·exact absurd h4.symm ho
theorem Qbe {pl:Nat→Option (Nat×Nat)}: ∀{parts:List (Nat×Value)} {cells:List Value} {k:List Value→Out},Qev pl cells parts k=o→o≠ .bad→ ∃cs,k cs=o∧ ∀kk:List Value→Prop,kk cs→J5 pl cells parts kk
 | [],cells,k,h,ho=>⟨cells,h,fun _ h=>h⟩
 | p::r,cells,k,h,ho=>by
  unfold Qev at h
  split at h
  ·rename_i q1 q2 hq
   have h1:=Qaz h ho;obtain ⟨h2,h3⟩:=Yi h1 ho;obtain ⟨h8,h3⟩:=Yi h3 ho;have h2:=Nat.eq_of_beq_eq_true h2;have h8:0<q2:=by simpa [Nat.blt_eq] using h8
   obtain ⟨h4,h5⟩:=Vt h3 ho;obtain ⟨cs,h6,h7⟩:=Qbe (parts:=r) h4 ho;refine ⟨cs,h6,fun kk hkk=> ?_⟩;obtain ⟨n,v⟩:=p
   simp only at hq h2 h5 h7
   refine ZR (q1:=q1) (q2:=q2) hq (by rw[←h2];simp) ?_ rfl (h7 kk hkk);have:=h5 (by intro e;rw[e] at h2;simp at h2;omega)
   rw[h2] at this
   exact Nat.ble_eq_true_of_le this
  ·exact absurd h.symm ho
variable {T:TT} {P:Program} {μ:Gh} {L:List Seg}
theorem Qdd {t yt:TypeId} {x y:Operand} {u w:Value} {k:Bool→Out} (h:eqV T t u w k=o) (ho:o≠ .bad) (hx:evV fr x=some u) (hy:evV fr y=some w): ∃b,k b=o ∧
  (∀kk:Value→Prop,kk (.bool b)→vcR P T (.binOp .eql t x y yt) fr μ L kk)∧ ∀kk:Value→Prop,kk (.bool !b)→vcR P T (.binOp .neq t x y yt) fr μ L kk:=by
 unfold eqV at h
 split at h
 ·obtain ⟨h1,h2⟩:=Yi h ho;have:=QbE h1;subst this;exact ⟨_,h2,fun kk hk=>Qhg hx hy hk,fun kk hk=>Qhu hx hy hk⟩
 ·obtain ⟨i,h1,h2⟩:=ZL h ho;obtain ⟨h3,h4⟩:=Yi h2 ho;exact ⟨_,h4,fun kk hk=>Qhe hx hy h1 h3 hk,fun kk hk=>Qhr hx hy h1 h3 hk⟩
 ·obtain ⟨i,h1,h2⟩:=ZL h ho;obtain ⟨h3,h4⟩:=Yi h2 ho;exact ⟨_,h4,fun kk hk=>QdT hx hy h1 h3 hk,fun kk hk=>Qhs hx hy h1 h3 hk⟩
 ·obtain ⟨i,h1,h2⟩:=ZL h ho;obtain ⟨h3,h4⟩:=Yi h2 ho;exact ⟨_,h4,fun kk hk=>QdU hx hy h1 h3 hk,fun kk hk=>Qht hx hy h1 h3 hk⟩
 ·exact absurd h.symm ho
theorem Qe0 {op:BinOp} {t yt:TypeId} {x y:Operand} {u w:Value} {k:Value→Out} (h:QhA T op t u w k=o) (ho:o≠ .bad) (hx:evV fr x=some u) (hy:evV fr y=some w) :
  ∃v,k v=o∧ ∀kk:Value→Prop,kk v→vcR P T (.binOp op t x y yt) fr μ L kk:=by
 cases op<;>simp only[QhA] at h<;>try exact absurd h.symm ho
 case eql=>obtain ⟨b,h1,h2,_⟩:=Qdd (P:=P) (μ:=μ) (L:=L) (yt:=yt) h ho hx hy;exact ⟨_,h1,h2⟩
 case neq=>obtain ⟨b,h1,_,h2⟩:=Qdd (P:=P) (μ:=μ) (L:=L) (yt:=yt) h ho hx hy;exact ⟨_,h1,h2⟩
 all_goals
  obtain ⟨kd,a,b,rfl,rfl,h1⟩:=Qao h ho;refine ⟨_,h1,fun kk hk=> ?_⟩
 case add=>exact VY hx hy hk
 case sub=>exact W6 hx hy hk
 case mul=>exact Qg3 hx hy hk
 case lss=>exact Qhm hx hy hk
 case leq=>exact Qhl hx hy hk
 case gtr=>exact Qhj hx hy hk
 case geq=>exact Qhi hx hy hk
theorem Vg {α:Type} {a:Array α} {x:α} (h:a.toList=[x]):a= #[x]:=by rw[←Array.toList_inj];simp[h]
theorem Qf6 {op:Op} {k:Value→Out} (h:opV T fr op k=o) (ho:o≠ .bad): ∃v,k v=o∧Qdp op=true∧ ∀kk:Value→Prop,kk v→vcR P T op fr μ L kk:=by
 cases op with
 | move x=>obtain ⟨v,h1,h2⟩:=Yd h ho;exact ⟨v,h2,rfl,fun kk hk=>Qs h1 hk⟩
 | assign x=>obtain ⟨v,h1,h2⟩:=Yd h ho;exact ⟨v,h2,rfl,fun kk hk=>Qn h1 hk⟩
 | nilCheck x =>
  obtain ⟨v,h1,h2⟩:=Yd h ho
  split at h2
  ·exact ⟨_,h2,rfl,fun kk hk=>Qhw h1 hk⟩
  ·exact ⟨_,h2,rfl,fun kk hk=>Qhv h1 hk⟩
  ·exact absurd h2.symm ho
 | binOp op t x y yt =>
  obtain ⟨u,h1,h2⟩:=Yd h ho;obtain ⟨w,h3,h4⟩:=Yd h2 ho;obtain ⟨v,h5,h6⟩:=Qe0 (P:=P) (μ:=μ) (L:=L) (yt:=yt) h4 ho h1 h3;exact ⟨v,h5,rfl,h6⟩
 | unOp op t x =>
  cases op<;>simp only[opV] at h<;>try exact absurd h.symm ho
  case not =>
   obtain ⟨v,h1,h2⟩:=Yd h ho
   split at h2
   ·exact ⟨_,h2,rfl,fun kk hk=>Qib h1 hk⟩
   ·exact absurd h2.symm ho
  case neg =>
   obtain ⟨v,h1,h2⟩:=Yd h ho
   split at h2
   ·exact ⟨_,h2,rfl,fun kk hk=>Qh9 h1 hk⟩
   ·exact absurd h2.symm ho
 | convert s d x =>
  obtain ⟨v,h1,h2⟩:=Yd h ho
  split at h2
  ·obtain ⟨j,h3,h4⟩:=ZL h2 ho;obtain ⟨i,h5,h6⟩:=ZL h4 ho
   split at h6
   ·exact ⟨_,h6,rfl,fun kk hk=>Qhd h1 h3 h5 (by assumption) hk⟩
   ·exact absurd h6.symm ho
  ·exact absurd h2.symm ho
 | build t ps =>
  obtain ⟨vs,h1,h2⟩:=Qb5 h ho;obtain ⟨i,h3,h4⟩:=ZL h2 ho;obtain ⟨h5,h6⟩:=Yi h4 ho;obtain ⟨h7,h8⟩:=Yi h6 ho;obtain ⟨cs,h9,h10⟩:=Qbe h8 ho;exact ⟨_,h9,rfl,fun kk hk=>Qen h1 h3 h5 h7 (h10 _ hk)⟩
 | fieldAddr s x f =>
  obtain ⟨v,h1,h2⟩:=Yd h ho
  split at h2
  ·obtain ⟨i,q1,q2,q3,h3,h4,h5,h6⟩:=Qb9 h2 ho
   split at h6
   ·rename_i h7
    split at h6
    ·rename_i h8
     have:=Nat.eq_of_beq_eq_true h8;subst this;exact ⟨_,h6,rfl,fun kk hk=>Qh1 h1 h3 h4 h5 h7 hk⟩
    ·exact ⟨_,h6,rfl,fun kk hk=>Qhh h1 h3 h4 h5 h7 hk⟩
   ·exact absurd h6.symm ho
  ·exact absurd h2.symm ho
 | field s x f =>
  obtain ⟨v,h1,h2⟩:=Yd h ho
  split at h2
  ·obtain ⟨i,q1,q2,q3,h3,h4,h5,h6⟩:=Qb9 h2 ho;cases q3 with
   | true =>
    have h7:=VH h6 ho;obtain ⟨h8,_⟩:=VW h7 ho;exact ⟨_,h8,rfl,fun kk hk=>Qfy h1 h3 h4 h5 rfl hk⟩
   | false =>
    obtain ⟨u,h7,h8⟩:=Vr h6 ho;exact ⟨_,h8,rfl,fun kk hk=>Qgw h1 h3 h4 h5 h7 hk⟩
  ·exact absurd h2.symm ho
 | extract x i =>
  obtain ⟨v,h1,h2⟩:=Yd h ho
  split at h2
  ·obtain ⟨u,h7,h8⟩:=Vr h2 ho;exact ⟨_,h8,rfl,fun kk hk=>Qfx h1 h7 hk⟩
  ·exact absurd h2.symm ho
 | makeFunc f fi ca =>
  obtain ⟨a,h1,h2⟩:=Vp h ho;obtain ⟨b,h3,h4⟩:=Vp h2 ho;exact ⟨_,h4,rfl,fun kk hk=>Qh7 h1 h3 hk⟩
 | call c =>
  obtain ⟨ce,args,tys⟩:=c;cases ce with
  | value f=>exact absurd h.symm ho
  | invoke r m=>exact absurd h.symm ho
  | builtin b =>
   obtain ⟨vs,h1,h2⟩:=Vp h ho;cases b<;>simp only at h2<;>try exact absurd h2.symm ho
   case len =>
    split at h2
    ·rename_i ht
     obtain ⟨i,h3,h4⟩:=ZL h2 ho;obtain ⟨h5,h6⟩:=Yi h4 ho;have:=Vg ht;subst this;exact ⟨_,h6,rfl,fun kk hk=>Qcz h1 h3 h5 hk⟩
    ·rename_i ht
     obtain ⟨i,h3,h4⟩:=ZL h2 ho;obtain ⟨h5,h6⟩:=Yi h4 ho;have:=Vg ht;subst this;exact ⟨_,h6,rfl,fun kk hk=>Qhk h1 h3 h5 hk⟩
    ·exact absurd h2.symm ho
   case cap =>
    split at h2
    ·rename_i ht
     obtain ⟨i,h3,h4⟩:=ZL h2 ho;obtain ⟨h5,h6⟩:=Yi h4 ho;have:=Vg ht;subst this;exact ⟨_,h6,rfl,fun kk hk=>Qh0 h1 h3 h5 hk⟩
    ·exact absurd h2.symm ho
   case min =>
    split at h2
    ·exact ⟨_,h2,rfl,fun kk hk=>Qhq h1 hk⟩
    ·exact absurd h2.symm ho
   case max =>
    split at h2
    ·exact ⟨_,h2,rfl,fun kk hk=>Qho h1 hk⟩
    ·exact absurd h2.symm ho
 | _=>exact absurd h.symm ho
end
end Go.Proofs.Ytfdjjdhnfaklbaa
