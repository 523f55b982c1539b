/- ExactServes: for every input the given law returns true, and its arguments read as before. No condition. -/
import Derived.Test.YtilbengnjgglhaaGreatc2x2
import Derived.Test.YtilbengnjgglhaaGreatc2x1
namespace Go.Proofs.YtilbengnjgglhaaGreat
open Go.RowKit
set_option linter.unusedSimpArgs false
set_option linter.unusedVariables false
structure QM where
 From:Int
 To:Int
 Meters:Int
 Secs:Int
deriving DecidableEq
def QcB (x:QM):List Value:=[.int .i64 x.From,.int .i64 x.To,.int .i64 x.Meters,.int .i64 x.Secs]
def Qv:Rp QM:=Qdu 4 QcB (fun _=>rfl) (by intro x u hu;simp only[QcB,List.mem_cons,List.not_mem_nil,or_false] at hu;rcases hu with rfl | rfl | rfl | rfl<;>rfl)
structure QB where
 Nodes:Int
 Edges:(List QM)
deriving DecidableEq
def Qhn:Rp QB where
 sz:=2
 rep μ x cs:= ∃(A1:Option Addr) (c1:Nat),cs=[.int .i64 x.Nodes,.slice A1 x.Edges.length c1]∧(x.Edges.length≤c1∧c1≤maxLen)∧Qj Qv μ A1 x.Edges
 len:=by rintro μ x cs ⟨A1,c1,rfl,_⟩;rfl
 mono:=by rintro μ μ' x cs hm ⟨A1,c1,h,hl1,ha1⟩;exact ⟨A1,c1,h,hl1,ha1.mono hm⟩
 one:=by rintro μ x cs ⟨A1,c1,rfl,_⟩ u hu;simp only[List.mem_cons,List.not_mem_nil,or_false] at hu;rcases hu with rfl | rfl<;>rfl
structure Yd where
 From:Int
 To:Int
deriving DecidableEq
def Qbh (x:Yd):List Value:=[.int .i64 x.From,.int .i64 x.To]
def Qf2:Rp Yd:=Qdu 2 Qbh (fun _=>rfl) (by intro x u hu;simp only[Qbh,List.mem_cons,List.not_mem_nil,or_false] at hu;rcases hu with rfl | rfl<;>rfl)
structure Qo where
 ID:ByteArray
 Depot:Int
 Shift:Yd
 Grams:Int
 Kinds:Int
deriving DecidableEq
def Qa1 (x:Qo):List Value:=[.string x.ID,.int .i64 x.Depot,.int .i64 x.Shift.From,.int .i64 x.Shift.To,.int .i64 x.Grams,.int .i64 x.Kinds]
def Qq:Rp Qo:=Qdu 6 Qa1 (fun _=>rfl) (by intro x u hu;simp only[Qa1,List.mem_cons,List.not_mem_nil,or_false] at hu;rcases hu with rfl | rfl | rfl | rfl | rfl | rfl<;>rfl)
structure Qn where
 Container:Int
 Node:Int
 Kind:Int
 Grams:Int
 When:Yd
 Service:Int
deriving DecidableEq
def Qbg (x:Qn):List Value:=[.int .i64 x.Container,.int .i64 x.Node,.int .i64 x.Kind,.int .i64 x.Grams,.int .i64 x.When.From,.int .i64 x.When.To,.int .i64 x.Service]
def Qr:Rp Qn:=Qdu 7 Qbg (fun _=>rfl) (by intro x u hu;simp only[Qbg,List.mem_cons,List.not_mem_nil,or_false] at hu;rcases hu with rfl | rfl | rfl | rfl | rfl | rfl | rfl<;>rfl)
structure Qb where
 Road:QB
 Vehicles:(List Qo)
 Demands:(List Qn)
 Unload:Int
 UnloadSecs:Int
deriving DecidableEq
def QeU:Rp Qb where
 sz:=6
 rep μ x cs:= ∃(A1:Option Addr) (c1:Nat) (A2:Option Addr) (c2:Nat) (A3:Option Addr) (c3:Nat),cs=[.int .i64 x.Road.Nodes,.slice A1 x.Road.Edges.length c1,.slice A2 x.Vehicles.length c2,.slice A3 x.Demands.length c3,.int .i64 x.Unload,.int .i64 x.UnloadSecs]∧(x.Road.Edges.length≤c1∧c1≤maxLen)∧Qj Qv μ A1 x.Road.Edges∧(x.Vehicles.length≤c2∧c2≤maxLen)∧Qj Qq μ A2 x.Vehicles∧(x.Demands.length≤c3∧c3≤maxLen)∧Qj Qr μ A3 x.Demands
 len:=by rintro μ x cs ⟨A1,c1,A2,c2,A3,c3,rfl,_⟩;rfl
 mono:=by rintro μ μ' x cs hm ⟨A1,c1,A2,c2,A3,c3,h,hl1,ha1,hl2,ha2,hl3,ha3⟩;exact ⟨A1,c1,A2,c2,A3,c3,h,hl1,ha1.mono hm,hl2,ha2.mono hm,hl3,ha3.mono hm⟩
 one:=by rintro μ x cs ⟨A1,c1,A2,c2,A3,c3,rfl,_⟩ u hu;simp only[List.mem_cons,List.not_mem_nil,or_false] at hu;rcases hu with rfl | rfl | rfl | rfl | rfl | rfl<;>rfl
structure Y3 where
 From:Int
 To:Int
deriving DecidableEq
def Qdn (x:Y3):List Value:=[.int .i64 x.From,.int .i64 x.To]
def VD:Rp Y3:=Qdu 2 Qdn (fun _=>rfl) (by intro x u hu;simp only[Qdn,List.mem_cons,List.not_mem_nil,or_false] at hu;rcases hu with rfl | rfl<;>rfl)
structure Wy where
 Nodes:Int
 Arcs:(List Y3)
deriving DecidableEq
structure Ql where
 Vehicle:Int
 Stops:(List Int)
deriving DecidableEq
structure Qd where
 Secs:Int
 Meters:Int
deriving DecidableEq
def Qdo (x:Qd):List Value:=[.int .i64 x.Secs,.int .i64 x.Meters]
def QC:Rp Qd:=Qdu 2 Qdo (fun _=>rfl) (by intro x u hu;simp only[Qdo,List.mem_cons,List.not_mem_nil,or_false] at hu;rcases hu with rfl | rfl<;>rfl)
structure Y8 where
 node:Int
 time:Int
 load:Int
 meters:Int
deriving DecidableEq
structure QK where
 Stop:Int
 Node:Int
 Arrive:Int
 Start:Int
 Leave:Int
 Load:Int
deriving DecidableEq
def QbY (x:QK):List Value:=[.int .i64 x.Stop,.int .i64 x.Node,.int .i64 x.Arrive,.int .i64 x.Start,.int .i64 x.Leave,.int .i64 x.Load]
def Qbw:Rp QK:=Qdu 6 QbY (fun _=>rfl) (by intro x u hu;simp only[QbY,List.mem_cons,List.not_mem_nil,or_false] at hu;rcases hu with rfl | rfl | rfl | rfl | rfl | rfl<;>rfl)
structure Qs where
 place:Y8
 p:Qb
 v:Qo
 legs:(List (Int×(List Qd)))
 visits:(List QK)
deriving DecidableEq
def Qy (μ:Gh) (v:Value) (x:Qs) (so:Seg):Prop:= ∃(g:Nat) (A5:Option Addr) (c5:Nat) (A6:Option Addr) (c6:Nat) (A7:Option Addr) (c7:Nat) (m16:Nat) (es16:Array MapEntry) (cn16:Nat) (A17:Option Addr) (c17:Nat) (ch17:Seg),v= .pointer (some ⟨g,0,none⟩)∧so=((g,Obj.cells #[.int .i64 x.place.node,.int .i64 x.place.time,.int .i64 x.place.load,.int .i64 x.place.meters,.int .i64 x.p.Road.Nodes,.slice A5 x.p.Road.Edges.length c5,.slice A6 x.p.Vehicles.length c6,.slice A7 x.p.Demands.length c7,.int .i64 x.p.Unload,.int .i64 x.p.UnloadSecs,.string x.v.ID,.int .i64 x.v.Depot,.int .i64 x.v.Shift.From,.int .i64 x.v.Shift.To,.int .i64 x.v.Grams,.int .i64 x.v.Kinds,.map (some m16),.slice A17 x.visits.length c17] 97 (0,0))::((m16,Obj.map es16 cn16)::ch17))∧((x.p.Road.Edges.length≤c5∧c5≤maxLen)∧Qj Qv μ A5 x.p.Road.Edges)∧((x.p.Vehicles.length≤c6∧c6≤maxLen)∧Qj Qq μ A6 x.p.Vehicles)∧((x.p.Demands.length≤c7∧c7≤maxLen)∧Qj Qr μ A7 x.p.Demands)∧Qb9 QC μ es16 cn16 x.legs∧Own Qbw 158 μ (.slice A17 x.visits.length c17) x.visits ch17
theorem Qy.mono {μ μ':Gh} {v:Value} {x:Qs} {so:Seg} (h:Qy μ v x so) (hm:μ.le μ'):Qy μ' v x so:=by
 obtain ⟨g,A5,c5,A6,c6,A7,c7,m16,es16,cn16,A17,c17,ch17,hv,hs,h5,h6,h7,h16,h17⟩:=h;exact ⟨g,A5,c5,A6,c6,A7,c7,m16,es16,cn16,A17,c17,ch17,hv,hs,⟨h5.1,h5.2.mono hm⟩,⟨h6.1,h6.2.mono hm⟩,⟨h7.1,h7.2.mono hm⟩,h16.mono hm,h17.mono hm⟩
theorem Qy.fl {x:Qs} {g:Nat} {A5:Option Addr} {c5:Nat} {A6:Option Addr} {c6:Nat} {A7:Option Addr} {c7:Nat} {m16:Nat} {es16:Array MapEntry} {cn16:Nat} {A17:Option Addr} {c17:Nat} {ch17:Seg}:([[(g,Obj.cells #[.int .i64 x.place.node,.int .i64 x.place.time,.int .i64 x.place.load,.int .i64 x.place.meters,.int .i64 x.p.Road.Nodes,.slice A5 x.p.Road.Edges.length c5,.slice A6 x.p.Vehicles.length c6,.slice A7 x.p.Demands.length c7,.int .i64 x.p.Unload,.int .i64 x.p.UnloadSecs,.string x.v.ID,.int .i64 x.v.Depot,.int .i64 x.v.Shift.From,.int .i64 x.v.Shift.To,.int .i64 x.v.Grams,.int .i64 x.v.Kinds,.map (some m16),.slice A17 x.visits.length c17] 97 (0,0))],[(m16,Obj.map es16 cn16)],ch17]:List Seg).flatten=((g,Obj.cells #[.int .i64 x.place.node,.int .i64 x.place.time,.int .i64 x.place.load,.int .i64 x.place.meters,.int .i64 x.p.Road.Nodes,.slice A5 x.p.Road.Edges.length c5,.slice A6 x.p.Vehicles.length c6,.slice A7 x.p.Demands.length c7,.int .i64 x.p.Unload,.int .i64 x.p.UnloadSecs,.string x.v.ID,.int .i64 x.v.Depot,.int .i64 x.v.Shift.From,.int .i64 x.v.Shift.To,.int .i64 x.v.Grams,.int .i64 x.v.Kinds,.map (some m16),.slice A17 x.visits.length c17] 97 (0,0))::((m16,Obj.map es16 cn16)::ch17)):=by simp
structure QN where
 node:Int
 leg:Qd
deriving DecidableEq
structure QA where
 value:QN
 n:Int
deriving DecidableEq
def Vm (x:QA):List Value:=[.int .i64 x.value.node,.int .i64 x.value.leg.Secs,.int .i64 x.value.leg.Meters,.int .i64 x.n]
def Yf:Rp QA:=Qdu 4 Vm (fun _=>rfl) (by intro x u hu;simp only[Vm,List.mem_cons,List.not_mem_nil,or_false] at hu;rcases hu with rfl | rfl | rfl | rfl<;>rfl)
structure Qa where
 heap:(List QA)
 count:Int
deriving DecidableEq
def Qe (μ:Gh) (v:Value) (x:Qa) (so:Seg):Prop:= ∃(g:Nat) (A1:Option Addr) (c1:Nat) (ch1:Seg),v= .pointer (some ⟨g,0,none⟩)∧so=((g,Obj.cells #[.func (.func 104) #[] #[],.slice A1 x.heap.length c1,.int .i64 x.count] 176 (0,0))::ch1)∧Own Yf 178 μ (.slice A1 x.heap.length c1) x.heap ch1
theorem Qe.mono {μ μ':Gh} {v:Value} {x:Qa} {so:Seg} (h:Qe μ v x so) (hm:μ.le μ'):Qe μ' v x so:=by
 obtain ⟨g,A1,c1,ch1,hv,hs,h1⟩:=h;exact ⟨g,A1,c1,ch1,hv,hs,h1.mono hm⟩
theorem Qe.fl {x:Qa} {g:Nat} {A1:Option Addr} {c1:Nat} {ch1:Seg}:([[(g,Obj.cells #[.func (.func 104) #[] #[],.slice A1 x.heap.length c1,.int .i64 x.count] 176 (0,0))],ch1]:List Seg).flatten=((g,Obj.cells #[.func (.func 104) #[] #[],.slice A1 x.heap.length c1,.int .i64 x.count] 176 (0,0))::ch1):=by simp
structure Qw where
 P:Qb
 V:Qo
 Demands:(List Int)
 Legs:(List (List Qd))
deriving DecidableEq
structure Qk where
 Stops:(List Int)
 Served:(List Bool)
 At:Int
 Time:Int
 Load:Int
 Meters:Int
deriving DecidableEq
structure Qp where
 Ok:Bool
 Cost:Int
 Stops:(List Int)
deriving DecidableEq
def QX (μ:Gh) (v:Value) (x:(List Int)) (so:Seg):Prop:= ∃(g:Nat) (A0:Option Addr) (c0:Nat) (ch0:Seg),v= .pointer (some ⟨g,0,none⟩)∧so=((g,Obj.cells #[.slice A0 x.length c0] 29 (0,0))::ch0)∧Own QD 3 μ (.slice A0 x.length c0) x ch0
theorem QX.mono {μ μ':Gh} {v:Value} {x:(List Int)} {so:Seg} (h:QX μ v x so) (hm:μ.le μ'):QX μ' v x so:=by
 obtain ⟨g,A0,c0,ch0,hv,hs,h0⟩:=h;exact ⟨g,A0,c0,ch0,hv,hs,h0.mono hm⟩
theorem QX.fl {x:(List Int)} {g:Nat} {A0:Option Addr} {c0:Nat} {ch0:Seg}:([[(g,Obj.cells #[.slice A0 x.length c0] 29 (0,0))],ch0]:List Seg).flatten=((g,Obj.cells #[.slice A0 x.length c0] 29 (0,0))::ch0):=by simp
def ZO (μ:Gh) (v:Value) (x:(List Bool)) (so:Seg):Prop:= ∃(g:Nat) (A0:Option Addr) (c0:Nat) (ch0:Seg),v= .pointer (some ⟨g,0,none⟩)∧so=((g,Obj.cells #[.slice A0 x.length c0] 79 (0,0))::ch0)∧Own W0 4 μ (.slice A0 x.length c0) x ch0
theorem ZO.mono {μ μ':Gh} {v:Value} {x:(List Bool)} {so:Seg} (h:ZO μ v x so) (hm:μ.le μ'):ZO μ' v x so:=by
 obtain ⟨g,A0,c0,ch0,hv,hs,h0⟩:=h;exact ⟨g,A0,c0,ch0,hv,hs,h0.mono hm⟩
theorem ZO.fl {x:(List Bool)} {g:Nat} {A0:Option Addr} {c0:Nat} {ch0:Seg}:([[(g,Obj.cells #[.slice A0 x.length c0] 79 (0,0))],ch0]:List Seg).flatten=((g,Obj.cells #[.slice A0 x.length c0] 79 (0,0))::ch0):=by simp
def QdA (x:QM):Prop:=(wfI .i64) x.From∧(wfI .i64) x.To∧(wfI .i64) x.Meters∧(wfI .i64) x.Secs
def QdB (x:QB):Prop:=(wfI .i64) x.Nodes∧(fun xs:List QM=> ∀x∈xs,QdA x) x.Edges
def Qaj (x:Yd):Prop:=(wfI .i64) x.From∧(wfI .i64) x.To
def QbH (x:Qo):Prop:=(fun s:ByteArray=>s.size≤maxLen) x.ID∧(wfI .i64) x.Depot∧Qaj x.Shift∧(wfI .i64) x.Grams∧(wfI .i64) x.Kinds
def Qb8 (x:Qn):Prop:=(wfI .i64) x.Container∧(wfI .i64) x.Node∧(wfI .i64) x.Kind∧(wfI .i64) x.Grams∧Qaj x.When∧(wfI .i64) x.Service
def QbG (x:Qb):Prop:=QdB x.Road∧(fun xs:List Qo=> ∀x∈xs,QbH x) x.Vehicles∧(fun xs:List Qn=> ∀x∈xs,Qb8 x) x.Demands∧(wfI .i64) x.Unload∧(wfI .i64) x.UnloadSecs
def Zj (p1:Qb) (v2:Int):Option ((Int)⊕(Unit⊕Bool)) :=
 bif (decide (v2<((p1.Vehicles.length:Nat):Int))) then
  Option.bind (QJ p1.Vehicles v2) fun x1 =>
  bif (decide (200<((x1.ID.size:Nat):Int))) then
   some (.inr (.inr true))
  else
   some (.inl (w64 (v2+1)))
 else
  some (.inr (.inl ()))
def Zi (p1:Qb):Option (Bool) :=
 Option.bind (
  bif (decide (600<((p1.Road.Edges.length:Nat):Int))) then
   some true
  else
   bif (decide (30<((p1.Vehicles.length:Nat):Int))) then
    some true
   else
    some (decide (60<((p1.Demands.length:Nat):Int)))) (fun v1 =>
  bif v1 then
   some true
  else
   Option.bind (
    iter (Zj p1) (((p1.Vehicles.length:Nat):Int).toNat+1) 0) (fun o_=>QQ o_ (fun _ =>
    some false) (fun rv19=>some rv19)))
def Ze (p1:Qb) (demands1:(List Int)):Option (Bool) :=
 Option.bind (
  Option.bind (Zi p1) fun r1 =>
  bif r1 then
   some true
  else
   bif (decide (40<((p1.Demands.length:Nat):Int))) then
    some true
   else
    bif (decide (((demands1.length:Nat):Int)=5)) then
     some true
    else
     some (decide (10<((demands1.length:Nat):Int)))) (fun v1 =>
  some v1)
def QY (grams1:Int):Option (Qb) :=
 some (Qb.mk (QB.mk 3 [(QM.mk 0 1 100 60),(QM.mk 1 0 100 60),(QM.mk 1 2 100 60),(QM.mk 2 1 100 60)]) [(Qo.mk ⟨#[118]⟩ 0 (Yd.mk 0 86400) grams1 1)] [(Qn.mk 0 1 0 10 (Yd.mk 0 86400) 0),(Qn.mk 1 2 0 10 (Yd.mk 0 86400) 0)] 0 0)
def JM (r1:QB) (j_:(List Y3)×Int):Option (((List Y3)×Int)⊕((List Y3))) :=
 oun j_ fun f1 v1 =>
 bif (decide (v1<((r1.Edges.length:Nat):Int))) then
  Option.bind (QJ r1.Edges v1) fun x1 =>
  Option.bind (Wh f1 [(Y3.mk x1.From x1.To)]) fun l1 =>
  some (.inl (l1,w64 (v1+1)))
 else
  some (.inr f1)
def WS (r1:QB):Option (Wy) :=
 Option.bind (
  iter (JM r1) (((r1.Edges.length:Nat):Int).toNat+1) ([],0)) (fun f2 =>
  some (Wy.mk r1.Nodes f2))
def J5 (g1:Wy) (v2:Int):Option ((Int)⊕(Unit⊕Int)) :=
 bif (decide (v2<((g1.Arcs.length:Nat):Int))) then
  Option.bind (QJ g1.Arcs v2) fun x1 =>
  Option.bind (
   bif (decide (x1.From<0)) then
    some true
   else
    bif (decide (g1.Nodes≤x1.From)) then
     some true
    else
     bif (decide (x1.To<0)) then
      some true
     else
      some (decide (g1.Nodes≤x1.To))) (fun v3 =>
   bif v3 then
    some (.inr (.inr 7))
   else
    some (.inl (w64 (v2+1))))
 else
  some (.inr (.inl ()))
def Vo (g1:Wy):Option (Int) :=
 Option.bind (
  bif (decide (g1.Nodes<0)) then
   some true
  else
   some (decide (64<g1.Nodes))) (fun v1 =>
  bif v1 then
   some 1
  else
   bif (decide (512<((g1.Arcs.length:Nat):Int))) then
    some 8
   else
    Option.bind (
     iter (J5 g1) (((g1.Arcs.length:Nat):Int).toNat+1) 0) (fun o_=>QQ o_ (fun _ =>
     some 0) (fun rv238=>some rv238)))
def Vk (r1:QB) (v2:Int):Option ((Int)⊕(Unit⊕Int)) :=
 bif (decide (v2<((r1.Edges.length:Nat):Int))) then
  Option.bind (QJ r1.Edges v2) fun x1 =>
  Option.bind (
   bif (decide (x1.From<0)) then
    some true
   else
    bif (decide (r1.Nodes≤x1.From)) then
     some true
    else
     bif (decide (x1.To<0)) then
      some true
     else
      some (decide (r1.Nodes≤x1.To))) (fun v3 =>
   bif v3 then
    some (.inr (.inr 7))
   else
    Option.bind (
     bif (decide (x1.From=x1.To)) then
      some true
     else
      bif (decide (x1.Meters<1)) then
       some true
      else
       bif (decide (100000<x1.Meters)) then
        some true
       else
        bif (decide (x1.Secs<1)) then
         some true
        else
         some (decide (100000<x1.Secs))) (fun v4 =>
     bif v4 then
      some (.inr (.inr 1))
     else
      some (.inl (w64 (v2+1)))))
 else
  some (.inr (.inl ()))
def Wx (r1:QB):Option (Int) :=
 Option.bind (
  bif (decide (r1.Nodes<1)) then
   some true
  else
   some (decide (64<r1.Nodes))) (fun v1 =>
  bif v1 then
   some 1
  else
   bif (decide (512<((r1.Edges.length:Nat):Int))) then
    some 8
   else
    Option.bind (
     iter (Vk r1) (((r1.Edges.length:Nat):Int).toNat+1) 0) (fun o_=>QQ o_ (fun _ =>
     Option.bind (WS r1) fun r2 =>
     Option.bind (Vo r2) fun r3 =>
     some r3) (fun rv262=>some rv262)))
def Wd (c1:Int):Option (Bool) :=
 Option.bind (
  bif (decide (97≤c1)) then
   bif (decide (c1≤122)) then
    some true
   else
    bif (decide (65≤c1)) then
     some (decide (c1≤90))
    else
     some false
  else
   bif (decide (65≤c1)) then
    some (decide (c1≤90))
   else
    some false) (fun v1 =>
  some v1)
def WN (s1:ByteArray) (i1:Int):Option ((Int)⊕(Unit⊕Bool)) :=
 bif (decide (i1<((s1.size:Nat):Int))) then
  Option.bind (QeT s1 i1) fun x2 =>
  Option.bind (
   Option.bind (Wd x2) fun r2 =>
   bif (!r2) then
    bif (decide (x2<48)) then
     bif (!(decide (x2=45))) then
      bif (!(decide (x2=95))) then
       some (!(decide (x2=46)))
      else
       some false
     else
      some false
    else
     bif (decide (57<x2)) then
      bif (!(decide (x2=45))) then
       bif (!(decide (x2=95))) then
        some (!(decide (x2=46)))
       else
        some false
      else
       some false
     else
      some false
   else
    some false) (fun v2 =>
   bif v2 then
    some (.inr (.inr false))
   else
    some (.inl (w64 (i1+1))))
 else
  some (.inr (.inl ()))
def Vp (F:Nat) (s1:ByteArray):Option (Bool) :=
 Option.bind (
  bif (decide (((s1.size:Nat):Int)<1)) then
   some true
  else
   bif (decide (32<((s1.size:Nat):Int))) then
    some true
   else
    Option.bind (QeT s1 0) fun x1 =>
    Option.bind (Wd x1) fun r1 =>
    some (!r1)) (fun v1 =>
  bif v1 then
   some false
  else
   Option.bind (
    iter (WN s1) F 1) (fun o_=>QQ o_ (fun _ =>
    some true) (fun rv303=>some rv303)))
def Wr (F:Nat) (v1:Qo) (nodes1:Int) (materials1:Int):Option (Int) :=
 Option.bind (Vp F v1.ID) fun r1 =>
 bif (!r1) then
  some 5
 else
  Option.bind (
   bif (decide (v1.Depot<0)) then
    some true
   else
    some (decide (nodes1≤v1.Depot))) (fun v2 =>
   bif v2 then
    some 7
   else
    Option.bind (
     bif (decide (v1.Shift.From<0)) then
      some true
     else
      bif (decide (v1.Shift.To≤v1.Shift.From)) then
       some true
      else
       some (decide (86400<v1.Shift.To))) (fun v3 =>
     bif v3 then
      some 19
     else
      Option.bind (
       bif (decide (v1.Grams<1)) then
        some true
       else
        some (decide (1073741824<v1.Grams))) (fun v4 =>
       bif v4 then
        some 1
       else
        Option.bind (
         bif (decide (v1.Kinds<1)) then
          some true
         else
          Option.bind (W5 (0≤materials1∧materials1≤64)) fun _ =>
          some (decide ((w64 (1*2^materials1.toNat))≤v1.Kinds))) (fun v5 =>
         bif v5 then
          some 21
         else
          some 0))))
def Z9 (F:Nat) (l1:(List Qo)) (nodes1:Int) (materials1:Int) (v2:Int):Option ((Int)⊕(Unit⊕Int)) :=
 bif (decide (v2<((l1.length:Nat):Int))) then
  Option.bind (QJ l1 v2) fun x1 =>
  Option.bind (Wr F x1 nodes1 materials1) fun r1 =>
  bif (!(decide (r1=0))) then
   some (.inr (.inr r1))
  else
   some (.inl (w64 (v2+1)))
 else
  some (.inr (.inl ()))
def Ja (l1:(List Qo)) (j_:(List (ByteArray×Bool))×Int):Option (((List (ByteArray×Bool))×Int)⊕(Unit⊕Int)) :=
 oun j_ fun m1 v3 =>
 bif (decide (v3<((l1.length:Nat):Int))) then
  Option.bind (QJ l1 v3) fun x2 =>
  bif ((QaX x2.ID m1).getD false) then
   some (.inr (.inr 6))
  else
   some (.inl ((QeX x2.ID true m1),w64 (v3+1)))
 else
  some (.inr (.inl ()))
def JR (F:Nat) (l1:(List Qo)) (nodes1:Int) (materials1:Int):Option (Int) :=
 Option.bind (
  bif (decide (nodes1<1)) then
   some true
  else
   bif (decide (64<nodes1)) then
    some true
   else
    bif (decide (materials1<1)) then
     some true
    else
     some (decide (16<materials1))) (fun v1 =>
  bif v1 then
   some 1
  else
   bif (decide (((l1.length:Nat):Int)=0)) then
    some 10
   else
    bif (decide (16<((l1.length:Nat):Int))) then
     some 8
    else
     Option.bind (
      iter (Z9 F l1 nodes1 materials1) (((l1.length:Nat):Int).toNat+1) 0) (fun o_=>QQ o_ (fun _ =>
      Option.bind (
       iter (Ja l1) (((l1.length:Nat):Int).toNat+1) ([],0)) (fun o_=>QQ o_ (fun _ =>
       some 0) (fun rv322=>some rv322))) (fun rv296=>some rv296)))
def Jn (n1:Int) (low1:Int) (high1:Int):Option (Bool) :=
 Option.bind (
  bif (decide (low1≤n1)) then
   some (decide (n1≤high1))
  else
   some false) (fun v1 =>
  some v1)
def QaI (
        x1:Qn) (nodes1:Int) (materials1:Int):Option (Int) :=
 Option.bind (
  Option.bind (Jn x1.Container 0 255) fun r1 =>
  bif (!r1) then
   some true
  else
   bif (decide (x1.Node<0)) then
    some true
   else
    bif (decide (nodes1≤x1.Node)) then
     some true
    else
     bif (decide (x1.Kind<0)) then
      some true
     else
      some (decide (materials1≤x1.Kind))) (fun v1 =>
  bif v1 then
   some 7
  else
   Option.bind (
    Option.bind (Jn x1.Grams 0 1073741824) fun r2 =>
    bif (!r2) then
     some true
    else
     bif (decide (x1.When.From<0)) then
      some true
     else
      bif (decide (x1.When.To<x1.When.From)) then
       some true
      else
       bif (decide (86400<x1.When.To)) then
        some true
       else
        Option.bind (Jn x1.Service 0 3600) fun r3 =>
        some (!r3)) (fun v2 =>
    bif v2 then
     some 1
    else
     some 0))
def WL (y1:Qn) (b1:Qn):Option (Bool) :=
 some (decide (y1.Container=b1.Container))
def Yo (s1:(List Qn)) (b1:Qn) (v1:Int):Option ((Int)⊕(Unit⊕Int)) :=
 bif (decide (v1<((s1.length:Nat):Int))) then
  Option.bind (QJ s1 v1) fun x1 =>
  Option.bind (WL x1 b1) fun r1 =>
  bif r1 then
   some (.inr (.inr v1))
  else
   some (.inl (w64 (v1+1)))
 else
  some (.inr (.inl ()))
def Zn (s1:(List Qn)) (b1:Qn):Option (Int) :=
 Option.bind (
  iter (Yo s1 b1) (((s1.length:Nat):Int).toNat+1) 0) (fun o_=>QQ o_ (fun _ =>
  some (-1)) (fun rv356=>some rv356))
def Yn (s1:(List Qn)) (b1:Qn):Option (Bool) :=
 Option.bind (Zn s1 b1) fun r1 =>
 some (decide (0≤r1))
def Ws (l1:(List Qn)) (nodes1:Int) (materials1:Int) (v1:Int):Option ((Int)⊕(Unit⊕Int)) :=
 bif (decide (v1<((l1.length:Nat):Int))) then
  Option.bind (QJ l1 v1) fun x1 =>
  Option.bind (QaI x1 nodes1 materials1) fun r1 =>
  bif (!(decide (r1=0))) then
   some (.inr (.inr r1))
  else
   some (.inl (w64 (v1+1)))
 else
  some (.inr (.inl ()))
def JL (l1:(List Qn)) (v2:Int):Option ((Int)⊕(Unit⊕Int)) :=
 bif (decide (v2<((l1.length:Nat):Int))) then
  Option.bind (QJ l1 v2) fun x2 =>
  Option.bind (J0 l1 0 v2) fun l2 =>
  Option.bind (Yn l2 x2) fun r2 =>
  bif r2 then
   some (.inr (.inr 6))
  else
   some (.inl (w64 (v2+1)))
 else
  some (.inr (.inl ()))
def WK (l1:(List Qn)) (nodes1:Int) (materials1:Int):Option (Int) :=
 bif (decide (32<((l1.length:Nat):Int))) then
  some 8
 else
  Option.bind (
   iter (Ws l1 nodes1 materials1) (((l1.length:Nat):Int).toNat+1) 0) (fun o_=>QQ o_ (fun _ =>
   Option.bind (
    iter (JL l1) (((l1.length:Nat):Int).toNat+1) 0) (fun o_=>QQ o_ (fun _ =>
    some 0) (fun rv347=>some rv347))) (fun rv334=>some rv334))
def Vc (
        F:Nat) (p1:Qb):Option (Int) :=
 Option.bind (Wx p1.Road) fun r1 =>
 bif (!(decide (r1=0))) then
  some r1
 else
  Option.bind (JR F p1.Vehicles p1.Road.Nodes 16) fun r2 =>
  bif (!(decide (r2=0))) then
   some r2
  else
   Option.bind (WK p1.Demands p1.Road.Nodes 16) fun r3 =>
   bif (!(decide (r3=0))) then
    some r3
   else
    Option.bind (
     bif (decide (p1.Unload<0)) then
      some true
     else
      some (decide (p1.Road.Nodes≤p1.Unload))) (fun v2 =>
     bif v2 then
      some 7
     else
      Option.bind (
       bif (decide (p1.UnloadSecs<0)) then
        some true
       else
        some (decide (7200<p1.UnloadSecs))) (fun v3 =>
       bif v3 then
        some 1
       else
        some 0))
def Vf (d1:Int) (b1:Qb):Option (Bool) :=
 Option.bind (
  bif (decide (d1<0)) then
   some true
  else
   some (decide (((b1.Demands.length:Nat):Int)≤d1))) (fun v1 =>
  some v1)
def YI (s1:(List Int)) (b1:Qb) (v1:Int):Option ((Int)⊕(Unit⊕Int)) :=
 bif (decide (v1<((s1.length:Nat):Int))) then
  Option.bind (QJ s1 v1) fun x1 =>
  Option.bind (Vf x1 b1) fun r1 =>
  bif r1 then
   some (.inr (.inr v1))
  else
   some (.inl (w64 (v1+1)))
 else
  some (.inr (.inl ()))
def ZQ (s1:(List Int)) (b1:Qb):Option (Int) :=
 Option.bind (
  iter (YI s1 b1) (((s1.length:Nat):Int).toNat+1) 0) (fun o_=>QQ o_ (fun _ =>
  some (-1)) (fun rv403=>some rv403))
def YH (s1:(List Int)) (b1:Qb):Option (Bool) :=
 Option.bind (ZQ s1 b1) fun r1 =>
 some (decide (0≤r1))
def ZZ (s1:(List Int)) (v1:Int) (v2:Int):Option ((Int)⊕(Unit⊕Int)) :=
 bif (decide (v2<((s1.length:Nat):Int))) then
  Option.bind (QJ s1 v2) fun x1 =>
  bif (decide (v1=x1)) then
   some (.inr (.inr v2))
  else
   some (.inl (w64 (v2+1)))
 else
  some (.inr (.inl ()))
def We (s1:(List Int)) (v1:Int):Option (Int) :=
 Option.bind (
  iter (ZZ s1 v1) (((s1.length:Nat):Int).toNat+1) 0) (fun o_=>QQ o_ (fun _ =>
  some (-1)) (fun rv431=>some rv431))
def Y0 (s1:(List Int)) (v1:Int):Option (Bool) :=
 Option.bind (We s1 v1) fun r1 =>
 some (decide (0≤r1))
def Jw (demands1:(List Int)) (v3:Int):Option ((Int)⊕(Unit⊕Int)) :=
 bif (decide (v3<((demands1.length:Nat):Int))) then
  Option.bind (QJ demands1 v3) fun x1 =>
  Option.bind (J0 demands1 0 v3) fun l1 =>
  Option.bind (Y0 l1 x1) fun r3 =>
  bif r3 then
   some (.inr (.inr 6))
  else
   some (.inl (w64 (v3+1)))
 else
  some (.inr (.inl ()))
def J3 (F:Nat) (p1:Qb) (vehicle1:Int) (demands1:(List Int)):Option (Int) :=
 Option.bind (Vc F p1) fun r1 =>
 bif (!(decide (r1=0))) then
  some r1
 else
  Option.bind (
   bif (decide (vehicle1<0)) then
    some true
   else
    some (decide (((p1.Vehicles.length:Nat):Int)≤vehicle1))) (fun v2 =>
   bif v2 then
    some 7
   else
    bif (decide (5<((demands1.length:Nat):Int))) then
     some 8
    else
     Option.bind (YH demands1 p1) fun r2 =>
     bif r2 then
      some 7
     else
      Option.bind (
       iter (Jw demands1) (((demands1.length:Nat):Int).toNat+1) 0) (fun o_=>QQ o_ (fun _ =>
       some 0) (fun rv446=>some rv446)))
def JO (v1:Qo) (kind1:Int):Option (Bool) :=
 Option.bind (
  bif (decide (0≤kind1)) then
   bif (decide (kind1<16)) then
    Option.bind (W5 (0≤kind1∧kind1≤64)) fun _ =>
    some (decide ((QeO .i64 (v1.Kinds/2^kind1.toNat) 1)=1))
   else
    some false
  else
   some false) (fun v2 =>
  some v2)
def VF:Option (Qd) :=
 some (Qd.mk (-1) 0)
def Jl:Option (Qa) :=
 some (Qa.mk [] 0)
def WD (a1:Qd) (b1:Qd):Option (Bool) :=
 Option.bind (
  Option.bind (VF) fun r1 =>
  bif (decide (b1=r1)) then
   some true
  else
   bif (decide (a1.Secs<b1.Secs)) then
    some true
   else
    bif (decide (a1.Secs=b1.Secs)) then
     some (decide (a1.Meters<b1.Meters))
    else
     some false) (fun v1 =>
  some v1)
def JP (a1:QN) (b1:QN):Option (Bool) :=
 Option.bind (
  bif (!(decide (a1.leg=b1.leg))) then
   Option.bind (WD a1.leg b1.leg) fun r1 =>
   some r1
  else
   some false) (fun v1 =>
  some v1)
def Yz (q1:Qa) (i1:Int) (k1:Int):Option (Bool) :=
 Option.bind (
  Option.bind (QJ q1.heap i1) fun x1 =>
  Option.bind (QJ q1.heap k1) fun x2 =>
  some (x1.value.node,x1.value.leg.Secs,x1.value.leg.Meters,x1.n,x2.value.node,x2.value.leg.Secs,x2.value.leg.Meters,x2.n)) (fun j_=>oun j_ fun f1 j_=>oun j_ fun f2 j_=>oun j_ fun f3 j_=>oun j_ fun f4 j_=>oun j_ fun f5 j_=>oun j_ fun f6 j_=>oun j_ fun f7 f8 =>
  Option.bind (JP (QN.mk f1 (Qd.mk f2 f3)) (QN.mk f5 (Qd.mk f6 f7))) fun r1 =>
  bif r1 then
   some true
  else
   Option.bind (
    bif (decide (f4<f8)) then
     Option.bind (JP (QN.mk f5 (Qd.mk f6 f7)) (QN.mk f1 (Qd.mk f2 f3))) fun r2 =>
     some (!r2)
    else
     some false) (fun v1 =>
    some v1))
def Yv (q1:Qa) (i1:Int) (k1:Int):Option (Qa) :=
 Option.bind (QJ q1.heap k1) fun x1 =>
 Option.bind (QJ q1.heap i1) fun x2 =>
 Option.bind (QJ q1.heap i1) fun x3 =>
 Option.bind (QJ (Z2 q1.heap i1 x1) k1) fun x4 =>
 some (Qa.mk (Z2 (Z2 q1.heap i1 x1) k1 x2) q1.count)
def Yr (j_:Qa×Int):Option ((Qa×Int)⊕(Qa⊕Qa)) :=
 oun j_ fun q2 i1 =>
 bif (decide (0<i1)) then
  Option.bind (Yz q2 i1 (w64 (Int.tdiv (w64 (i1-1)) 2))) fun r1 =>
  bif (!r1) then
   some (.inr (.inr q2))
  else
   Option.bind (Yv q2 i1 (w64 (Int.tdiv (w64 (i1-1)) 2))) fun r2 =>
   some (.inl (r2,w64 (Int.tdiv (w64 (i1-1)) 2)))
 else
  some (.inr (.inl q2))
def YQ (F:Nat) (q1:Qa) (x1:QN):Option (Qa) :=
 Option.bind (Wh q1.heap [(QA.mk x1 q1.count)]) fun l1 =>
 Option.bind (
  iter (Yr) F ((Qa.mk l1 (w64 (q1.count+1))),w64 (((l1.length:Nat):Int)-1))) (fun o_=>QQ o_ (fun q3 =>
  some q3) (fun rv1036=>some rv1036))
def ZH (q1:Qa):Option (Int) :=
 some ((q1.heap.length:Nat):Int)
def Zu (q1:Qa):Option (QN×Bool) :=
 Option.bind (ZH q1) fun r1 =>
 bif (decide (r1=0)) then
  some ((QN.mk 0 (Qd.mk 0 0)),false)
 else
  Option.bind (QJ q1.heap 0) fun x1 =>
  some (x1.value,true)
def pqueue_Queue_stop_sink_l1 (i1:Int) (j_:(List QA)×Int×Int×Int):Option (((List QA)×Int×Int×Int)⊕(((List QA)×Int×Int))) :=
 oun j_ fun f3 j_=>oun j_ fun f4 j_=>oun j_ fun next1 k1 =>
 Option.bind (
  bif (decide (k1≤(w64 ((w64 (2*i1))+2)))) then
   some (decide (k1<((f3.length:Nat):Int)))
  else
   some false) (fun v1 =>
  bif v1 then
   Option.bind (
    Option.bind (Yz (Qa.mk f3 f4) k1 next1) fun r1 =>
    bif r1 then
     some ((Qa.mk f3 f4).heap,k1)
    else
     some ((Qa.mk f3 f4).heap,next1)) (fun j_=>oun j_ fun f5 next2 =>
    some (.inl (f5,(Qa.mk f3 f4).count,next2,w64 (k1+1))))
  else
   some (.inr (f3,f4,next1)))
def Ys (F:Nat) (j_:(List QA)×Int×Int):Option (((List QA)×Int×Int)⊕(Qa)) :=
 oun j_ fun f1 j_=>oun j_ fun f2 i1 =>
 Option.bind (
  iter (pqueue_Queue_stop_sink_l1 i1) F (f1,f2,i1,w64 ((w64 (2*i1))+1))) (fun j_=>oun j_ fun f6 j_=>oun j_ fun f7 next3 =>
  bif (decide (next3=i1)) then
   some (.inr (Qa.mk f6 f7))
  else
   Option.bind (Yv (Qa.mk f6 f7) i1 next3) fun r2 =>
   some (.inl (r2.heap,r2.count,next3)))
def Yu (F:Nat) (q1:Qa):Option (Qa) :=
 Option.bind (
  iter (Ys F) F (q1.heap,q1.count,0)) (fun rv1244=>some rv1244)
def YF (F:Nat) (q1:Qa):Option (QN×Bool×Qa) :=
 Option.bind (Zu q1) fun j_=>oun j_ fun r1 r2 =>
 bif (!r2) then
  some (r1,false,q1)
 else
  Option.bind (Yv q1 0 (w64 (((q1.heap.length:Nat):Int)-1))) fun r3 =>
  Option.bind (J0 r3.heap (w64 (((q1.heap.length:Nat):Int)-1)) ((r3.heap.length:Nat):Int)) fun l1 =>
  Option.bind (J0 (Qd8 r3.heap (w64 (((q1.heap.length:Nat):Int)-1)) (QA.mk (QN.mk 0 (Qd.mk 0 0)) 0)) 0 (w64 (((q1.heap.length:Nat):Int)-1))) fun l2 =>
  Option.bind (Yu F (Qa.mk l2 r3.count)) fun r4 =>
  some (r1,true,r4)
def Vy (x1:QM):Option (Int×Int) :=
 some (x1.From,x1.To)
def VN (l1:Qd) (x1:QM):Option (Qd) :=
 some (Qd.mk (w64 (l1.Secs+x1.Secs)) (w64 (l1.Meters+x1.Meters)))
def ZD (l1:(List Qd)) (j_:(List Qd)×Int):Option (((List Qd)×Int)⊕((List Qd))) :=
 oun j_ fun out1 v1 =>
 bif (decide (v1<((l1.length:Nat):Int))) then
  Option.bind (VF) fun r2 =>
  Option.bind (QJ out1 v1) fun x1 =>
  some (.inl ((Z2 out1 v1 r2),w64 (v1+1)))
 else
  some (.inr out1)
def ZE (F:Nat) (r1:QB) (r5:QN) (j_:(List Qd)×Qa×Int):Option (((List Qd)×Qa×Int)⊕(((List Qd)×Qa))) :=
 oun j_ fun out4 j_=>oun j_ fun q2 v2 =>
 bif (decide (v2<((r1.Edges.length:Nat):Int))) then
  Option.bind (
   Option.bind (QJ r1.Edges v2) fun x4 =>
   Option.bind (Vy x4) fun j_=>oun j_ fun r8 r9 =>
   bif (!(decide (r8=r5.node))) then
    some (out4,q2)
   else
    Option.bind (VN r5.leg x4) fun r10 =>
    Option.bind (QJ out4 r9) fun x5 =>
    Option.bind (WD r10 x5) fun r11 =>
    bif r11 then
     Option.bind (QJ out4 r9) fun x6 =>
     Option.bind (YQ F q2 (QN.mk r9 r10)) fun r12 =>
     some ((Z2 out4 r9 r10),r12)
    else
     some (out4,q2)) (fun j_=>oun j_ fun out5 q3 =>
   some (.inl (out5,q3,w64 (v2+1))))
 else
  some (.inr (out4,q2))
def ZF (F:Nat) (r1:QB) (j_:(List Qd)×Qa):Option (((List Qd)×Qa)⊕((List Qd))) :=
 oun j_ fun out3 q1 =>
 Option.bind (YF F q1) fun j_=>oun j_ fun r5 j_=>oun j_ fun r6 r7 =>
 bif (!r6) then
  some (.inr out3)
 else
  Option.bind (QJ out3 r5.node) fun x3 =>
  bif (!(decide (x3=r5.leg))) then
   some (.inl (out3,r7))
  else
   Option.bind (
    iter (ZE F r1 r5) (((r1.Edges.length:Nat):Int).toNat+1) (out3,r7,0)) (fun j_=>oun j_ fun out6 q4 =>
    some (.inl (out6,q4)))
def JA (F:Nat) (r1:QB) (f_from1:Int):Option ((List Qd)) :=
 Option.bind (WO (Qd.mk 0 0) r1.Nodes) fun l1 =>
 Option.bind (
  iter (ZD l1) (((l1.length:Nat):Int).toNat+1) (l1,0)) (fun out2 =>
  Option.bind (QJ out2 f_from1) fun x2 =>
  Option.bind (Jl) fun r3 =>
  Option.bind (YQ F r3 (QN.mk f_from1 (Qd.mk 0 0))) fun r4 =>
  Option.bind (
   iter (ZF F r1) F ((Z2 out2 f_from1 (Qd.mk 0 0)),r4)) (fun rv1054=>some rv1054))
def VE (F:Nat) (r1:QB) (f_from1:Int):Option ((List Qd)×Int) :=
 Option.bind (Wx r1) fun r2 =>
 bif (!(decide (r2=0))) then
  some ([],r2)
 else
  Option.bind (
   bif (decide (f_from1<0)) then
    some true
   else
    some (decide (r1.Nodes≤f_from1))) (fun v2 =>
   bif v2 then
    some ([],7)
   else
    Option.bind (JA F r1 f_from1) fun r3 =>
    some (r3,0))
def JQ (F:Nat) (w1:Qs) (f_to1:Int):Option (Qd×Bool×Qs) :=
 Option.bind (
  bif (!((Wv w1.place.node w1.legs).isSome)) then
   Option.bind (VE F w1.p.Road w1.place.node) fun j_=>oun j_ fun r1 r2 =>
   some (r1,(Qaq w1.place.node r1 w1.legs))
  else
   some (((Wv w1.place.node w1.legs).getD []),w1.legs)) (fun j_=>oun j_ fun l1 m1 =>
  Option.bind (QJ l1 f_to1) fun x1 =>
  Option.bind (QJ l1 f_to1) fun x2 =>
  some (x1,(decide (0≤x2.Secs)),(Qs.mk w1.place w1.p w1.v m1 w1.visits)))
def Jb (w1:Qs) (stop1:Int) (arrive1:Int) (start1:Int):Option (Qs) :=
 Option.bind (Wh w1.visits [(QK.mk stop1 w1.place.node arrive1 start1 w1.place.time w1.place.load)]) fun l1 =>
 some (Qs.mk w1.place w1.p w1.v w1.legs l1)
def Jh (F:Nat) (w1:Qs) (t1:Ql) (i1:Int):Option (Int×Qs) :=
 Option.bind (QJ t1.Stops i1) fun x1 =>
 Option.bind (
  bif (!(decide (x1=(-1)))) then
   Option.bind (
    bif (decide (x1<0)) then
     some true
    else
     some (decide (((w1.p.Demands.length:Nat):Int)≤x1))) (fun v1 =>
    bif v1 then
     some (.inr (7,w1))
    else
     Option.bind (J0 t1.Stops 0 i1) fun l1 =>
     Option.bind (Y0 l1 x1) fun r1 =>
     bif r1 then
      some (.inr (6,w1))
     else
      Option.bind (QJ w1.p.Demands x1) fun x2 =>
      Option.bind (JO w1.v x2.Kind) fun r2 =>
      bif (!r2) then
       some (.inr (21,w1))
      else
       Option.bind (QJ w1.p.Demands x1) fun x3 =>
       some (.inl x3.Node))
  else
   some (.inl w1.p.Unload)) (fun o_=>QQ o_ (fun node1 =>
  Option.bind (JQ F w1 node1) fun j_=>oun j_ fun r3 j_=>oun j_ fun r4 r5 =>
  bif (!r4) then
   some (22,r5)
  else
   bif (decide (x1=(-1))) then
    Option.bind (Jb (Qs.mk (Y8.mk node1 (w64 ((w64 (r5.place.time+r3.Secs))+r5.p.UnloadSecs)) 0 (w64 (r5.place.meters+r3.Meters))) r5.p r5.v r5.legs r5.visits) x1 (w64 (r5.place.time+r3.Secs)) (w64 (r5.place.time+r3.Secs))) fun r6 =>
    some (0,r6)
   else
    Option.bind (QJ r5.p.Demands x1) fun x4 =>
    bif (decide (x4.When.To≤(max (w64 (r5.place.time+r3.Secs)) x4.When.From))) then
     some (19,(Qs.mk (Y8.mk node1 (w64 (r5.place.time+r3.Secs)) r5.place.load (w64 (r5.place.meters+r3.Meters))) r5.p r5.v r5.legs r5.visits))
    else
     bif (decide (r5.v.Grams<(w64 (r5.place.load+x4.Grams)))) then
      some (20,(Qs.mk (Y8.mk node1 (w64 (r5.place.time+r3.Secs)) r5.place.load (w64 (r5.place.meters+r3.Meters))) r5.p r5.v r5.legs r5.visits))
     else
      Option.bind (Jb (Qs.mk (Y8.mk node1 (w64 ((max (w64 (r5.place.time+r3.Secs)) x4.When.From)+x4.Service)) (w64 (r5.place.load+x4.Grams)) (w64 (r5.place.meters+r3.Meters))) r5.p r5.v r5.legs r5.visits) x1 (w64 (r5.place.time+r3.Secs)) (max (w64 (r5.place.time+r3.Secs)) x4.When.From)) fun r7 =>
      some (0,r7)) (fun rv2361=>some rv2361))
def JB (F:Nat) (w1:Qs):Option (Int×Qs) :=
 Option.bind (JQ F w1 w1.v.Depot) fun j_=>oun j_ fun r1 j_=>oun j_ fun r2 r3 =>
 bif (!r2) then
  some (22,r3)
 else
  bif (!(decide (r3.place.load=0))) then
   some (20,r3)
  else
   bif (decide (r3.v.Shift.To≤(w64 (r3.place.time+r1.Secs)))) then
    some (19,(Qs.mk (Y8.mk r3.v.Depot (w64 (r3.place.time+r1.Secs)) r3.place.load (w64 (r3.place.meters+r1.Meters))) r3.p r3.v r3.legs r3.visits))
   else
    Option.bind (Jb (Qs.mk (Y8.mk r3.v.Depot (w64 (r3.place.time+r1.Secs)) r3.place.load (w64 (r3.place.meters+r1.Meters))) r3.p r3.v r3.legs r3.visits) (-2) (w64 (r3.place.time+r1.Secs)) (w64 (r3.place.time+r1.Secs))) fun r4 =>
    some (0,r4)
def ZA (F:Nat) (t1:Ql) (j_:Qs×Int×Int):Option ((Qs×Int×Int)⊕((Qs×Int×Int))) :=
 oun j_ fun q1 j_=>oun j_ fun e1 f_at1 =>
 bif (decide (f_at1<((t1.Stops.length:Nat):Int))) then
  Option.bind (Jh F q1 t1 f_at1) fun j_=>oun j_ fun r1 r2 =>
  bif (!(decide (r1=0))) then
   some (.inr (r2,r1,f_at1))
  else
   some (.inl (r2,r1,w64 (f_at1+1)))
 else
  some (.inr (q1,e1,f_at1))
def WE (F:Nat) (p1:Qb) (t1:Ql):Option ((Option Qs)×Int×Int) :=
 Option.bind (
  bif (decide (t1.Vehicle<0)) then
   some true
  else
   some (decide (((p1.Vehicles.length:Nat):Int)≤t1.Vehicle))) (fun v1 =>
  bif v1 then
   some (none,7,0)
  else
   bif (decide (40<((t1.Stops.length:Nat):Int))) then
    some (none,8,0)
   else
    Option.bind (QJ p1.Vehicles t1.Vehicle) fun x1 =>
    Option.bind (
     iter (ZA F t1) (((t1.Stops.length:Nat):Int).toNat+1) ((Qs.mk (Y8.mk x1.Depot x1.Shift.From 0 0) p1 x1 [] []),0,0)) (fun j_=>oun j_ fun q2 j_=>oun j_ fun e2 f_at2 =>
     Option.bind (
      bif (decide (e2=0)) then
       Option.bind (JB F q2) fun j_=>oun j_ fun r3 r4 =>
       some (r4,r3)
      else
       some (q2,e2)) (fun j_=>oun j_ fun q3 e3 =>
      bif (!(decide (e3=0))) then
       some (none,e3,f_at2)
      else
       some ((some q3),0,0))))
def Qaz (F:Nat) (p1:Qb) (t1:Ql):Option (Int×Int) :=
 Option.bind (Vc F p1) fun r1 =>
 bif (!(decide (r1=0))) then
  some (0,r1)
 else
  Option.bind (WE F p1 t1) fun j_=>oun j_ fun r2 j_=>oun j_ fun r3 r4 =>
  bif (!(decide (r3=0))) then
   some (0,r3)
  else
   Option.bind (r2) fun q1 =>
   some (q1.place.meters,0)
def Wo (x1:Int):Option (Bool) :=
 some (!(decide (x1=x1)))
def JK (x1:Int) (y1:Int):Option (Int) :=
 Option.bind (Wo x1) fun r1 =>
 Option.bind (Wo y1) fun r2 =>
 bif r1 then
  bif r2 then
   some 0
  else
   some (-1)
 else
  bif r2 then
   some 1
  else
   bif (decide (x1<y1)) then
    some (-1)
   else
    bif (decide (y1<x1)) then
     some 1
    else
     some 0
def Q9 (s11:(List Int)) (s21:(List Int)) (v1:Int):Option ((Int)⊕(Unit⊕Int)) :=
 bif (decide (v1<((s11.length:Nat):Int))) then
  Option.bind (QJ s11 v1) fun x1 =>
  bif (decide (((s21.length:Nat):Int)≤v1)) then
   some (.inr (.inr 1))
  else
   Option.bind (QJ s21 v1) fun x2 =>
   Option.bind (JK x1 x2) fun r1 =>
   bif (!(decide (r1=0))) then
    some (.inr (.inr r1))
   else
    some (.inl (w64 (v1+1)))
 else
  some (.inr (.inl ()))
def ZM (s11:(List Int)) (s21:(List Int)):Option (Int) :=
 Option.bind (
  iter (Q9 s11 s21) (((s11.length:Nat):Int).toNat+1) 0) (fun o_=>QQ o_ (fun _ =>
  bif (decide (((s11.length:Nat):Int)<((s21.length:Nat):Int))) then
   some (-1)
  else
   some 0) (fun rv4416=>some rv4416))
def WM (F:Nat) (stops1:(List Int)) (b1:Qb) (b2:Int) (b3:Bool) (b4:Int) (b5:Ql):Option (Bool×Int×Ql) :=
 Option.bind (Qaz F b1 (Ql.mk b2 stops1)) fun j_=>oun j_ fun r1 r2 =>
 bif (!(decide (r2=0))) then
  some (b3,b4,b5)
 else
  Option.bind (
   bif (!b3) then
    some true
   else
    bif (decide (r1<b4)) then
     some true
    else
     bif (decide (r1=b4)) then
      Option.bind (ZM stops1 b5.Stops) fun r3 =>
      some (decide (r3<0))
     else
      some false) (fun v2 =>
   Option.bind (
    bif v2 then
     Option.bind (Qd7 stops1) fun l1 =>
     some (true,r1,l1)
    else
     some (b3,b4,b5.Stops)) (fun j_=>oun j_ fun f1 j_=>oun j_ fun f2 f3 =>
    some (f1,f2,(Ql.mk b5.Vehicle f3))))
def YD (left1:Int) (b2:Qb) (b3:Int) (b7:(List Int)) (b8:(List Int)) (rec_:Int→Unit→Qb→Int→Bool→Int→Ql→(List Int)→(List Int)→(List Bool)→Unit→Option (Bool×Int×Ql×(List Int)×(List Bool))) (j_:(List Int)×(List Bool)×Bool×Int×Int×(List Int)×Int):Option (((List Int)×(List Bool)×Bool×Int×Int×(List Int)×Int)⊕((Bool×Int×Int×(List Int)×(List Int)×(List Bool)))) :=
 oun j_ fun f1 j_=>oun j_ fun f2 j_=>oun j_ fun f3 j_=>oun j_ fun f4 j_=>oun j_ fun f5 j_=>oun j_ fun f6 v2 =>
 bif (decide (v2<((b8.length:Nat):Int))) then
  Option.bind (
   Option.bind (QJ b8 v2) fun x1 =>
   Option.bind (QJ f2 v2) fun x2 =>
   bif x2 then
    some (f1,f2,f3,f4,f5,f6)
   else
    Option.bind (QJ f2 v2) fun x3 =>
    Option.bind (J0 f1 0 ((b7.length:Nat):Int)) fun l1 =>
    Option.bind (Wh l1 [x1]) fun l2 =>
    Option.bind (rec_ (w64 (left1-1)) () b2 b3 f3 f4 (Ql.mk f5 f6) l2 b8 (Z2 f2 v2 true) ()) fun j_=>oun j_ fun r4 j_=>oun j_ fun r5 j_=>oun j_ fun r6 j_=>oun j_ fun r7 r8 =>
    Option.bind (J0 r7 0 ((b7.length:Nat):Int)) fun l3 =>
    Option.bind (Wh l3 [x1,(-1)]) fun l4 =>
    Option.bind (rec_ (w64 (left1-1)) () b2 b3 r4 r5 r6 l4 b8 r8 ()) fun j_=>oun j_ fun r9 j_=>oun j_ fun r10 j_=>oun j_ fun r11 j_=>oun j_ fun r12 r13 =>
    Option.bind (J0 r12 0 ((b7.length:Nat):Int)) fun l5 =>
    Option.bind (QJ r13 v2) fun x4 =>
    some (l5,(Z2 r13 v2 false),r9,r10,r11.Vehicle,r11.Stops)) (fun j_=>oun j_ fun f7 j_=>oun j_ fun f8 j_=>oun j_ fun f9 j_=>oun j_ fun f10 j_=>oun j_ fun f11 f12 =>
   some (.inl (f7,f8,f9,f10,f11,f12,w64 (v2+1))))
 else
  some (.inr (f3,f4,f5,f6,f1,f2))
def Jj (rec_:Int→Unit→Qb→Int→Bool→Int→Ql→(List Int)→(List Int)→(List Bool)→Unit→Option (Bool×Int×Ql×(List Int)×(List Bool))) (F:Nat) (left1:Int) (b1:Unit) (b2:Qb) (b3:Int) (b4:Bool) (b5:Int) (b6:Ql) (b7:(List Int)) (b8:(List Int)) (b9:(List Bool)) (b10:Unit):Option (Bool×Int×Ql×(List Int)×(List Bool)) :=
 bif (decide (left1=0)) then
  Option.bind (WM F b7 b2 b3 b4 b5 b6) fun j_=>oun j_ fun r1 j_=>oun j_ fun r2 r3 =>
  some (r1,r2,r3,b7,b9)
 else
  Option.bind (
   iter (YD left1 b2 b3 b7 b8 rec_) (((b8.length:Nat):Int).toNat+1) (b7,b9,b4,b5,b6.Vehicle,b6.Stops,0)) (fun j_=>oun j_ fun f13 j_=>oun j_ fun f14 j_=>oun j_ fun f15 j_=>oun j_ fun f16 j_=>oun j_ fun f17 f18 =>
   some (f13,f14,(Ql.mk f15 f16),f17,f18))
def YN:Nat→Int→Unit→Qb→Int→Bool→Int→Ql→(List Int)→(List Int)→(List Bool)→Unit→Option (Bool×Int×Ql×(List Int)×(List Bool))
 | 0,_,_,_,_,_,_,_,_,_,_,_=>none
 | F+1,left1,b1,b2,b3,b4,b5,b6,b7,b8,b9,b10=>Jj (YN F) F left1 b1 b2 b3 b4 b5 b6 b7 b8 b9 b10
def Jk (F:Nat) (demands1:(List Int)) (b1:Qb) (b2:Int) (b3:Bool) (b4:Int) (b5:Ql):Option (Bool×Int×Ql) :=
 Option.bind (WO false ((demands1.length:Nat):Int)) fun l1 =>
 Option.bind (WO (0:Int) (w64 (2*((demands1.length:Nat):Int)))) fun l2 =>
 Option.bind (YN F ((demands1.length:Nat):Int) () b1 b2 b3 b4 b5 [] demands1 l1 ()) fun j_=>oun j_ fun r1 j_=>oun j_ fun r2 j_=>oun j_ fun r3 j_=>oun j_ fun r4 r5 =>
 some (r1,r2,r3)
def Wu (F:Nat) (p1:Qb) (vehicle1:Int) (demands1:(List Int)):Option (Ql×Int×Bool) :=
 Option.bind (Jk F demands1 p1 vehicle1 false 0 (Ql.mk vehicle1 [])) fun j_=>oun j_ fun r1 j_=>oun j_ fun r2 r3 =>
 some (r3,r2,r1)
def Wt (F:Nat) (p1:Qb) (vehicle1:Int) (demands1:(List Int)):Option (Ql×Int×Int) :=
 Option.bind (J3 F p1 vehicle1 demands1) fun r1 =>
 bif (!(decide (r1=0))) then
  some ((Ql.mk 0 []),0,r1)
 else
  Option.bind (Wu F p1 vehicle1 demands1) fun j_=>oun j_ fun r2 j_=>oun j_ fun r3 r4 =>
  bif (!r4) then
   some ((Ql.mk 0 []),0,40)
  else
   some (r2,r3,0)
def JF (F:Nat) (p1:Qb) (vehicle1:Int) (demands1:(List Int)):Option (Bool×Int) :=
 Option.bind (J3 F p1 vehicle1 demands1) fun r1 =>
 bif (!(decide (r1=0))) then
  some (false,r1)
 else
  Option.bind (Wu F p1 vehicle1 demands1) fun j_=>oun j_ fun r2 j_=>oun j_ fun r3 r4 =>
  some (r4,0)
def Z3 (b1:(List Int)) (y1:Int):Option ((List Int)) :=
 Option.bind (Wh b1 [y1]) fun l2 =>
 some l2
def Yp (b2:(List Int)) (j_:Int×(List Int)):Option ((Int×(List Int))⊕((List Int))) :=
 oun j_ fun v1 q2 =>
 bif (decide (v1<((b2.length:Nat):Int))) then
  Option.bind (QJ b2 v1) fun x1 =>
  Option.bind (Z3 q2 x1) fun r1 =>
  some (.inl (w64 (v1+1),r1))
 else
  some (.inr q2)
def ZU (b1:(List Int)) (b2:(List Int)):Option ((List Int)) :=
 Option.bind (
  iter (Yp b2) (((b2.length:Nat):Int).toNat+1) (0,b1)) (fun q3 =>
  some q3)
def Y9 (b1:(List Int)):Option ((List Int)) :=
 Option.bind (ZU [] b1) fun r1 =>
 some r1
def Z4 (b1:(List Int)):Option ((List Int)) :=
 Option.bind (Y9 b1) fun r1 =>
 some r1
def ZL (b1:(List Int)):Option ((List Int)) :=
 Option.bind (Z4 b1) fun r1 =>
 Option.bind (Qft r1) fun l1 =>
 some l1
def Jo (r2:(List Int)) (v3:Int) (j_:(List Int)×Int):Option (((List Int)×Int)⊕((List Int))) :=
 oun j_ fun l1 v4 =>
 bif (decide (v4<((r2.length:Nat):Int))) then
  Option.bind (
   Option.bind (QJ r2 v4) fun x1 =>
   Option.bind (W5 (0≤v4∧v4≤64)) fun _ =>
   bif (decide ((QeO .i64 (v3/2^v4.toNat) 1)=1)) then
    Option.bind (Wh l1 [x1]) fun l2 =>
    some l2
   else
    some l1) (fun l3 =>
   some (.inl (l3,w64 (v4+1))))
 else
  some (.inr l1)
def Jp (F:Nat) (p1:Qb) (vehicle1:Int) (r2:(List Int)) (j_:(List Int)×Int×Int):Option (((List Int)×Int×Int)⊕((List Int))) :=
 oun j_ fun out1 j_=>oun j_ fun v2 v3 =>
 bif (decide (v3<v2)) then
  Option.bind (
   Option.bind (
    iter (Jo r2 v3) (((r2.length:Nat):Int).toNat+1) ([],0)) (fun l4 =>
    Option.bind (
     bif (decide (((l4.length:Nat):Int)<((out1.length:Nat):Int))) then
      some true
     else
      bif (decide (((l4.length:Nat):Int)=((out1.length:Nat):Int))) then
       Option.bind (ZM l4 out1) fun r3 =>
       some (decide (0≤r3))
      else
       some false) (fun v5 =>
     bif v5 then
      some out1
     else
      Option.bind (Wu F p1 vehicle1 l4) fun j_=>oun j_ fun r4 j_=>oun j_ fun r5 r6 =>
      bif r6 then
       some l4
      else
       some out1))) (fun out2 =>
   some (.inl (out2,v2,w64 (v3+1))))
 else
  some (.inr out1)
def W4 (F:Nat) (p1:Qb) (vehicle1:Int) (demands1:(List Int)):Option ((List Int)×Int) :=
 Option.bind (J3 F p1 vehicle1 demands1) fun r1 =>
 bif (!(decide (r1=0))) then
  some ([],r1)
 else
  Option.bind (ZL demands1) fun r2 =>
  Option.bind (W5 (0≤((r2.length:Nat):Int)∧((r2.length:Nat):Int)≤64)) fun _ =>
  Option.bind (
   iter (Jp F p1 vehicle1 r2) F ([],w64 (1*2^((r2.length:Nat):Int).toNat),0)) (fun out3 =>
   some (out3,0))
def YU (a1:(List Int)) (b1:(List Int)) (i1:Int):Option ((Int)⊕(Unit⊕Bool)) :=
 bif (decide (i1<((a1.length:Nat):Int))) then
  Option.bind (QJ a1 i1) fun x1 =>
  Option.bind (QJ b1 i1) fun x2 =>
  bif (!(decide (x1=x2))) then
   some (.inr (.inr false))
  else
   some (.inl (w64 (i1+1)))
 else
  some (.inr (.inl ()))
def YC (a1:(List Int)) (b1:(List Int)):Option (Bool) :=
 bif (!(decide (((a1.length:Nat):Int)=((b1.length:Nat):Int)))) then
  some false
 else
  Option.bind (
   iter (YU a1 b1) (((a1.length:Nat):Int).toNat+1) 0) (fun o_=>QQ o_ (fun _ =>
   some true) (fun rv8047=>some rv8047))
def Zd (
             F:Nat):Option (Bool) :=
 Option.bind (QY 20) fun r1 =>
 Option.bind (Wt F r1 0 [1,0]) fun j_=>oun j_ fun r2 j_=>oun j_ fun r3 r4 =>
 Option.bind (QY 10) fun r5 =>
 Option.bind (Wt F r5 0 [0,1]) fun j_=>oun j_ fun r6 j_=>oun j_ fun r7 r8 =>
 Option.bind (QY 9) fun r9 =>
 Option.bind (Wt F r9 0 [0,1]) fun j_=>oun j_ fun r10 j_=>oun j_ fun r11 r12 =>
 Option.bind (QY 9) fun r13 =>
 Option.bind (JF F r13 0 [0]) fun j_=>oun j_ fun r14 r15 =>
 Option.bind (QY 20) fun r16 =>
 Option.bind (JF F r16 0 [0,1]) fun j_=>oun j_ fun r17 r18 =>
 Option.bind (QY 10) fun r19 =>
 Option.bind (W4 F r19 0 [1,0]) fun j_=>oun j_ fun r20 r21 =>
 Option.bind (
  bif (decide (r4=0)) then
   bif (decide (r3=400)) then
    Option.bind (YC r2.Stops [0,1,(-1)]) fun r22 =>
    bif r22 then
     bif (decide (r8=0)) then
      bif (decide (r7=600)) then
       Option.bind (YC r6.Stops [0,(-1),1,(-1)]) fun r23 =>
       bif r23 then
        bif (decide (r12=40)) then
         bif (!r14) then
          bif (decide (r15=0)) then
           bif r17 then
            bif (decide (r18=0)) then
             Option.bind (YC r20 [0,1]) fun r24 =>
             bif r24 then
              some (decide (r21=0))
             else
              some false
            else
             some false
           else
            some false
          else
           some false
         else
          some false
        else
         some false
       else
        some false
      else
       some false
     else
      some false
    else
     some false
   else
    some false
  else
   some false) (fun v19 =>
  some v19)
def Yk (r1:QB) (v2:Int):Option ((Int)⊕(Unit⊕Int)) :=
 bif (decide (v2<((r1.Edges.length:Nat):Int))) then
  Option.bind (QJ r1.Edges v2) fun x1 =>
  Option.bind (
   bif (decide (x1.From<0)) then
    some true
   else
    bif (decide (r1.Nodes≤x1.From)) then
     some true
    else
     bif (decide (x1.To<0)) then
      some true
     else
      some (decide (r1.Nodes≤x1.To))) (fun v3 =>
   bif v3 then
    some (.inr (.inr 7))
   else
    Option.bind (
     bif (decide (x1.From=x1.To)) then
      some true
     else
      bif (decide (x1.Meters<1)) then
       some true
      else
       bif (decide (100000<x1.Meters)) then
        some true
       else
        bif (decide (x1.Secs<1)) then
         some true
        else
         some (decide (100000<x1.Secs))) (fun v4 =>
     bif v4 then
      some (.inr (.inr 1))
     else
      some (.inl (w64 (v2+1)))))
 else
  some (.inr (.inl ()))
def Zf (r1:QB):Option (Int) :=
 Option.bind (
  bif (decide (r1.Nodes<1)) then
   some true
  else
   some (decide (64<r1.Nodes))) (fun v1 =>
  bif v1 then
   some 1
  else
   bif (decide (512<((r1.Edges.length:Nat):Int))) then
    some 8
   else
    Option.bind (
     iter (Yk r1) (((r1.Edges.length:Nat):Int).toNat+1) 0) (fun o_=>QQ o_ (fun _ =>
     some 0) (fun rv8147=>some rv8147)))
def Yi (c1:Int):Option (Bool) :=
 Option.bind (
  bif (decide (65≤c1)) then
   bif (decide (c1≤90)) then
    some true
   else
    bif (decide (97≤c1)) then
     some (decide (c1≤122))
    else
     some false
  else
   bif (decide (97≤c1)) then
    some (decide (c1≤122))
   else
    some false) (fun v1 =>
  some v1)
def QG (s1:ByteArray) (i1:Int):Option ((Int)⊕(Unit⊕Bool)) :=
 bif (decide (i1<((s1.size:Nat):Int))) then
  Option.bind (QeT s1 i1) fun x2 =>
  Option.bind (
   Option.bind (Yi x2) fun r2 =>
   bif (!r2) then
    bif (decide (x2<48)) then
     bif (!(decide (x2=45))) then
      bif (!(decide (x2=95))) then
       some (!(decide (x2=46)))
      else
       some false
     else
      some false
    else
     bif (decide (57<x2)) then
      bif (!(decide (x2=45))) then
       bif (!(decide (x2=95))) then
        some (!(decide (x2=46)))
       else
        some false
      else
       some false
     else
      some false
   else
    some false) (fun v2 =>
   bif v2 then
    some (.inr (.inr false))
   else
    some (.inl (w64 (i1+1))))
 else
  some (.inr (.inl ()))
def YO (s1:ByteArray):Option (Bool) :=
 Option.bind (
  bif (decide (((s1.size:Nat):Int)<1)) then
   some true
  else
   bif (decide (32<((s1.size:Nat):Int))) then
    some true
   else
    Option.bind (QeT s1 0) fun x1 =>
    Option.bind (Yi x1) fun r1 =>
    some (!r1)) (fun v1 =>
  bif v1 then
   some false
  else
   Option.bind (
    iter (QG s1) (((s1.size:Nat):Int).toNat+1) 0) (fun o_=>QQ o_ (fun _ =>
    some true) (fun rv8183=>some rv8183)))
def QT (v1:Qo) (nodes1:Int) (materials1:Int):Option (Int) :=
 Option.bind (YO v1.ID) fun r1 =>
 bif (!r1) then
  some 5
 else
  Option.bind (
   bif (decide (v1.Depot<0)) then
    some true
   else
    some (decide (nodes1≤v1.Depot))) (fun v2 =>
   bif v2 then
    some 7
   else
    Option.bind (
     bif (decide (v1.Shift.From<0)) then
      some true
     else
      bif (decide (v1.Shift.To≤v1.Shift.From)) then
       some true
      else
       some (decide (86400<v1.Shift.To))) (fun v3 =>
     bif v3 then
      some 19
     else
      Option.bind (
       bif (decide (v1.Grams<1)) then
        some true
       else
        some (decide (1073741824<v1.Grams))) (fun v4 =>
       bif v4 then
        some 1
       else
        Option.bind (
         bif (decide (v1.Kinds<1)) then
          some true
         else
          Option.bind (W5 (0≤materials1∧materials1≤64)) fun _ =>
          some (decide ((w64 (1*2^materials1.toNat))≤v1.Kinds))) (fun v5 =>
         bif v5 then
          some 21
         else
          some 0))))
def QH (l1:(List Qo)) (nodes1:Int) (materials1:Int) (i1:Int):Option ((Int)⊕(Unit⊕Int)) :=
 bif (decide (i1<((l1.length:Nat):Int))) then
  Option.bind (QJ l1 i1) fun x1 =>
  Option.bind (QT x1 nodes1 materials1) fun r1 =>
  bif (!(decide (r1=0))) then
   some (.inr (.inr r1))
  else
   some (.inl (w64 (i1+1)))
 else
  some (.inr (.inl ()))
def Zg (l1:(List Qo)) (i2:Int) (k1:Int):Option ((Int)⊕(Unit⊕Int)) :=
 bif (decide (k1<i2)) then
  Option.bind (QJ l1 i2) fun x2 =>
  Option.bind (QJ l1 k1) fun x3 =>
  bif (decide (x2.ID=x3.ID)) then
   some (.inr (.inr 6))
  else
   some (.inl (w64 (k1+1)))
 else
  some (.inr (.inl ()))
def Zh (l1:(List Qo)) (i2:Int):Option ((Int)⊕(Unit⊕Int)) :=
 bif (decide (i2<((l1.length:Nat):Int))) then
  Option.bind (
   Option.bind (
    iter (Zg l1 i2) (i2.toNat+1) 0) (fun o_=>QQ o_ (fun _ =>
    some (.inl ())) (fun rv8207=>some (.inr rv8207)))) (fun o_=>QQ o_ (fun _ =>
   some (.inl (w64 (i2+1)))) (fun rv8206=>some (.inr (.inr rv8206))))
 else
  some (.inr (.inl ()))
def QZ (l1:(List Qo)) (nodes1:Int) (materials1:Int):Option (Int) :=
 Option.bind (
  bif (decide (nodes1<1)) then
   some true
  else
   bif (decide (64<nodes1)) then
    some true
   else
    bif (decide (materials1<1)) then
     some true
    else
     some (decide (16<materials1))) (fun v1 =>
  bif v1 then
   some 1
  else
   bif (decide (((l1.length:Nat):Int)=0)) then
    some 10
   else
    bif (decide (16<((l1.length:Nat):Int))) then
     some 8
    else
     Option.bind (
      iter (QH l1 nodes1 materials1) (((l1.length:Nat):Int).toNat+1) 0) (fun o_=>QQ o_ (fun _ =>
      Option.bind (
       iter (Zh l1) (((l1.length:Nat):Int).toNat+1) 0) (fun o_=>QQ o_ (fun _ =>
       some 0) (fun rv8199=>some rv8199))) (fun rv8178=>some rv8178)))
def QL (l1:(List Qn)) (nodes1:Int) (materials1:Int) (i1:Int):Option ((Int)⊕(Unit⊕Int)) :=
 bif (decide (i1<((
           l1.length:Nat):Int))) then
  Option.bind (QJ l1 i1) fun x1 =>
  Option.bind (
   bif (decide (x1.Container<0)) then
    some true
   else
    bif (decide (256≤x1.Container)) then
     some true
    else
     bif (decide (x1.Node<0)) then
      some true
     else
      bif (decide (nodes1≤x1.Node)) then
       some true
      else
       bif (decide (x1.Kind<0)) then
        some true
       else
        some (decide (materials1≤x1.Kind))) (fun v1 =>
   bif v1 then
    some (.inr (.inr 7))
   else
    Option.bind (
     bif (decide (x1.Grams<0)) then
      some true
     else
      bif (decide (1073741824<x1.Grams)) then
       some true
      else
       bif (decide (x1.When.From<0)) then
        some true
       else
        bif (decide (x1.When.To<x1.When.From)) then
         some true
        else
         bif (decide (86400<x1.When.To)) then
          some true
         else
          bif (decide (x1.Service<0)) then
           some true
          else
           some (decide (3600<x1.Service))) (fun v2 =>
     bif v2 then
      some (.inr (.inr 1))
     else
      some (.inl (w64 (i1+1)))))
 else
  some (.inr (.inl ()))
def Ya (l1:(List Qn)) (i2:Int) (k1:Int):Option ((Int)⊕(Unit⊕Int)) :=
 bif (decide (k1<i2)) then
  Option.bind (QJ l1 i2) fun x2 =>
  Option.bind (QJ l1 k1) fun x3 =>
  bif (decide (x2.Container=x3.Container)) then
   some (.inr (.inr 6))
  else
   some (.inl (w64 (k1+1)))
 else
  some (.inr (.inl ()))
def Yb (l1:(List Qn)) (i2:Int):Option ((Int)⊕(Unit⊕Int)) :=
 bif (decide (i2<((l1.length:Nat):Int))) then
  Option.bind (
   Option.bind (
    iter (Ya l1 i2) (i2.toNat+1) 0) (fun o_=>QQ o_ (fun _ =>
    some (.inl ())) (fun rv8234=>some (.inr rv8234)))) (fun o_=>QQ o_ (fun _ =>
   some (.inl (w64 (i2+1)))) (fun rv8233=>some (.inr (.inr rv8233))))
 else
  some (.inr (.inl ()))
def Q4 (l1:(List Qn)) (nodes1:Int) (materials1:Int):Option (Int) :=
 bif (decide (32<((l1.length:Nat):Int))) then
  some 8
 else
  Option.bind (
   iter (QL l1 nodes1 materials1) (((l1.length:Nat):Int).toNat+1) 0) (fun o_=>QQ o_ (fun _ =>
   Option.bind (
    iter (Yb l1) (((l1.length:Nat):Int).toNat+1) 0) (fun o_=>QQ o_ (fun _ =>
    some 0) (fun rv8226=>some rv8226))) (fun rv8211=>some rv8211))
def Qi (p1:Qb):Option (Int) :=
 Option.bind (Zf p1.Road) fun r1 =>
 bif (!(decide (r1=0))) then
  some r1
 else
  Option.bind (QZ p1.Vehicles p1.Road.Nodes 16) fun r2 =>
  bif (!(decide (r2=0))) then
   some r2
  else
   Option.bind (Q4 p1.Demands p1.Road.Nodes 16) fun r3 =>
   bif (!(decide (r3=0))) then
    some r3
   else
    Option.bind (
     bif (decide (p1.Unload<0)) then
      some true
     else
      some (decide (p1.Road.Nodes≤p1.Unload))) (fun v1 =>
     bif v1 then
      some 7
     else
      Option.bind (
       bif (decide (p1.UnloadSecs<0)) then
        some true
       else
        some (decide (7200<p1.UnloadSecs))) (fun v2 =>
       bif v2 then
        some 1
       else
        some 0))
def YJ (p1:Qb) (demands1:(List Int)) (i1:Int):Option ((Int)⊕(Unit⊕Int)) :=
 bif (decide (i1<((demands1.length:Nat):Int))) then
  Option.bind (
   Option.bind (QJ demands1 i1) fun x1 =>
   bif (decide (x1<0)) then
    some true
   else
    Option.bind (QJ demands1 i1) fun x2 =>
    some (decide (((p1.Demands.length:Nat):Int)≤x2))) (fun v2 =>
   bif v2 then
    some (.inr (.inr 7))
   else
    some (.inl (w64 (i1+1))))
 else
  some (.inr (.inl ()))
def YK (demands1:(List Int)) (i2:Int) (k1:Int):Option ((Int)⊕(Unit⊕Int)) :=
 bif (decide (k1<i2)) then
  Option.bind (QJ demands1 i2) fun x3 =>
  Option.bind (QJ demands1 k1) fun x4 =>
  bif (decide (x3=x4)) then
   some (.inr (.inr 6))
  else
   some (.inl (w64 (k1+1)))
 else
  some (.inr (.inl ()))
def YL (demands1:(List Int)) (i2:Int):Option ((Int)⊕(Unit⊕Int)) :=
 bif (decide (i2<((demands1.length:Nat):Int))) then
  Option.bind (
   Option.bind (
    iter (YK demands1 i2) (i2.toNat+1) 0) (fun o_=>QQ o_ (fun _ =>
    some (.inl ())) (fun rv8267=>some (.inr rv8267)))) (fun o_=>QQ o_ (fun _ =>
   some (.inl (w64 (i2+1)))) (fun rv8266=>some (.inr (.inr rv8266))))
 else
  some (.inr (.inl ()))
def Zl (p1:Qb) (vehicle1:Int) (demands1:(List Int)):Option (Int) :=
 Option.bind (Qi p1) fun r1 =>
 bif (!(decide (r1=0))) then
  some r1
 else
  Option.bind (
   bif (decide (vehicle1<0)) then
    some true
   else
    some (decide (((p1.Vehicles.length:Nat):Int)≤vehicle1))) (fun v1 =>
   bif v1 then
    some 7
   else
    bif (decide (5<((demands1.length:Nat):Int))) then
     some 8
    else
     Option.bind (
      iter (YJ p1 demands1) (((demands1.length:Nat):Int).toNat+1) 0) (fun o_=>QQ o_ (fun _ =>
      Option.bind (
       iter (YL demands1) (((demands1.length:Nat):Int).toNat+1) 0) (fun o_=>QQ o_ (fun _ =>
       some 0) (fun rv8259=>some rv8259))) (fun rv8244=>some rv8244)))
def Jr (r1:QB) (n1:Int):Option (Bool) :=
 Option.bind (
  bif (decide (0≤n1)) then
   some (decide (n1<r1.Nodes))
  else
   some false) (fun v1 =>
  some v1)
def Jm (a1:Qd) (b1:Qd):Option (Qd) :=
 some (Qd.mk (w64 (a1.Secs+b1.Secs)) (w64 (a1.Meters+b1.Meters)))
def Y5 (a1:Qd) (b1:Qd):Option (Bool) :=
 Option.bind (
  bif (decide (a1.Secs<0)) then
   some true
  else
   some (decide (b1.Secs<0))) (fun v1 =>
  bif v1 then
   some (decide (0≤a1.Secs))
  else
   Option.bind (
    bif (decide (a1.Secs<b1.Secs)) then
     some true
    else
     bif (decide (a1.Secs=b1.Secs)) then
      some (decide (a1.Meters<b1.Meters))
     else
      some false) (fun v2 =>
    some v2))
def YR (l1:(List Qd)) (j_:(List Qd)×Int):Option (((List Qd)×Int)⊕((List Qd))) :=
 oun j_ fun out1 v1 =>
 bif (decide (v1<((l1.length:Nat):Int))) then
  Option.bind (QJ out1 v1) fun x1 =>
  some (.inl ((Z2 out1 v1 (Qd.mk (-1) x1.Meters)),w64 (v1+1)))
 else
  some (.inr out1)
def YS (r1:QB) (j_:(List Qd)×Int):Option (((List Qd)×Int)⊕((List Qd))) :=
 oun j_ fun out4 v2 =>
 bif (decide (v2<((r1.Edges.length:Nat):Int))) then
  Option.bind (
   Option.bind (QJ r1.Edges v2) fun x3 =>
   Option.bind (QJ out4 x3.From) fun x4 =>
   bif (decide (0≤x4.Secs)) then
    Option.bind (
     Option.bind (QJ out4 x3.From) fun x5 =>
     Option.bind (Jm x5 (Qd.mk x3.Secs x3.Meters)) fun r4 =>
     some (r4.Secs,r4.Meters)) (fun j_=>oun j_ fun f1 f2 =>
     Option.bind (QJ out4 x3.To) fun x6 =>
     Option.bind (Y5 (Qd.mk f1 f2) x6) fun r5 =>
     bif r5 then
      Option.bind (QJ out4 x3.To) fun x7 =>
      some (Z2 out4 x3.To (Qd.mk f1 f2))
     else
      some out4)
   else
    some out4) (fun out5 =>
   some (.inl (out5,w64 (v2+1))))
 else
  some (.inr out4)
def Zx (r1:QB) (j_:(List Qd)×Int):Option (((List Qd)×Int)⊕((List Qd))) :=
 oun j_ fun out3 n1 =>
 bif (decide (n1<r1.Nodes)) then
  Option.bind (
   Option.bind (
    iter (YS r1) (((r1.Edges.length:Nat):Int).toNat+1) (out3,0)) (fun out6 =>
    some out6)) (fun out7 =>
   some (.inl (out7,w64 (n1+1))))
 else
  some (.inr out3)
def YB (r1:QB) (f_from1:Int):Option ((List Qd)×Int) :=
 Option.bind (Zf r1) fun r2 =>
 bif (!(decide (r2=0))) then
  some ([],r2)
 else
  Option.bind (Jr r1 f_from1) fun r3 =>
  bif (!r3) then
   some ([],7)
  else
   Option.bind (WO (Qd.mk 0 0) r1.Nodes) fun l1 =>
   Option.bind (
    iter (YR l1) (((l1.length:Nat):Int).toNat+1) (l1,0)) (fun out2 =>
    Option.bind (QJ out2 f_from1) fun x2 =>
    Option.bind (
     iter (Zx r1) (r1.Nodes.toNat+1) ((Z2 out2 f_from1 (Qd.mk 0 x2.Meters)),0)) (fun out8 =>
     some (out8,0)))
def YP (p1:Qb) (f_from1:Int) (f_to1:Int):Option (Qd) :=
 Option.bind (YB p1.Road f_from1) fun j_=>oun j_ fun r1 r2 =>
 Option.bind (
  bif (!(decide (r2=0))) then
   some true
  else
   bif (decide (f_to1<0)) then
    some true
   else
    some (decide (((r1.length:Nat):Int)≤f_to1))) (fun v1 =>
  bif v1 then
   some (Qd.mk (-1) 0)
  else
   Option.bind (QJ r1 f_to1) fun x1 =>
   some x1)
def Yl (p1:Qb) (demands1:(List Int)) (j_:(List Int)×Int):Option (((List Int)×Int)⊕((List Int))) :=
 oun j_ fun nodes1 i1 =>
 bif (decide (i1<((demands1.length:Nat):Int))) then
  Option.bind (QJ demands1 i1) fun x2 =>
  Option.bind (QJ p1.Demands x2) fun x3 =>
  Option.bind (Wh nodes1 [x3.Node]) fun l1 =>
  some (.inl (l1,w64 (i1+1)))
 else
  some (.inr nodes1)
def Ym (p1:Qb) (nodes2:(List Int)) (i2:Int) (j_:(List Qd)×Int):Option (((List Qd)×Int)⊕((List Qd))) :=
 oun j_ fun row1 k1 =>
 bif (decide (k1<((nodes2.length:Nat):Int))) then
  Option.bind (QJ nodes2 i2) fun x4 =>
  Option.bind (QJ nodes2 k1) fun x5 =>
  Option.bind (YP p1 x4 x5) fun r1 =>
  Option.bind (Wh row1 [r1]) fun l2 =>
  some (.inl (l2,w64 (k1+1)))
 else
  some (.inr row1)
def Q6 (p1:Qb) (nodes2:(List Int)) (j_:(List (List Qd))×Int):Option (((List (List Qd))×Int)⊕((List (List Qd)))) :=
 oun j_ fun f1 i2 =>
 bif (decide (i2<((nodes2.length:Nat):Int))) then
  Option.bind (
   Option.bind (
    iter (Ym p1 nodes2 i2) (((nodes2.length:Nat):Int).toNat+1) ([],0)) (fun row2 =>
    Option.bind (Wh f1 [row2]) fun l3 =>
    some l3)) (fun f2 =>
   some (.inl (f2,w64 (i2+1))))
 else
  some (.inr f1)
def Zm (p1:Qb) (vehicle1:Int) (demands1:(List Int)):Option (Qw) :=
 Option.bind (QJ p1.Vehicles vehicle1) fun x1 =>
 Option.bind (
  iter (Yl p1 demands1) (((demands1.length:Nat):Int).toNat+1) ([x1.Depot,p1.Unload],0)) (fun nodes2 =>
  Option.bind (
   iter (Q6 p1 nodes2) (((nodes2.length:Nat):Int).toNat+1) ([],0)) (fun f3 =>
   some (Qw.mk p1 x1 demands1 f3)))
def recyclingref24_moved (t1:Qw) (x1:Qk) (f_to1:Int):Option (Qk×Bool) :=
 Option.bind (QJ t1.Legs x1.At) fun x2 =>
 Option.bind (QJ x2 f_to1) fun x3 =>
 bif (decide (x3.Secs<0)) then
  some (x1,false)
 else
  some ((Qk.mk x1.Stops x1.Served f_to1 (w64 (x1.Time+x3.Secs)) x1.Load (w64 (x1.Meters+x3.Meters))),true)
def Y6 (t1:Qw) (x1:Qk) (i1:Int):Option (Qk×Bool) :=
 Option.bind (QJ t1.Demands i1) fun x2 =>
 Option.bind (QJ t1.P.Demands x2) fun x3 =>
 Option.bind (recyclingref24_moved t1 x1 (w64 (i1+2))) fun j_=>oun j_ fun r1 r2 =>
 Option.bind (
  bif (!r2) then
   some true
  else
   Option.bind (W5 (0≤(IntKind.u64.wrap (x3.Kind))∧(IntKind.u64.wrap (x3.Kind))≤64)) fun _ =>
   some (decide ((QeO .i64 (t1.V.Kinds/2^(IntKind.u64.wrap (x3.Kind)).toNat) 1)=0))) (fun v1 =>
  bif v1 then
   some (x1,false)
  else
   Option.bind (
    bif (decide (r1.Time<x3.When.From)) then
     some x3.When.From
    else
     some r1.Time) (fun f1 =>
    Option.bind (
     bif (decide (x3.When.To≤f1)) then
      some true
     else
      some (decide (t1.V.Grams<(w64 (r1.Load+x3.Grams))))) (fun v2 =>
     bif v2 then
      some (x1,false)
     else
      Option.bind (
       Option.bind (QJ t1.Demands i1) fun x4 =>
       Option.bind (Wh [] x1.Stops) fun l1 =>
       Option.bind (Wh l1 [x4]) fun l2 =>
       some (l2,w64 (f1+x3.Service),w64 (r1.Load+x3.Grams))) (fun j_=>oun j_ fun f2 j_=>oun j_ fun f3 f4 =>
       Option.bind (Wh [] x1.Served) fun l3 =>
       Option.bind (QJ l3 i1) fun x5 =>
       some ((Qk.mk f2 (Z2 l3 i1 true) r1.At f3 f4 r1.Meters),true)))))
def Ye (a1:(List Int)) (b1:(List Int)) (i1:Int):Option ((Int)⊕(Unit⊕Bool)) :=
 Option.bind (
  bif (decide (i1<((a1.length:Nat):Int))) then
   some (decide (i1<((b1.length:Nat):Int)))
  else
   some false) (fun v1 =>
  bif v1 then
   Option.bind (QJ a1 i1) fun x1 =>
   Option.bind (QJ b1 i1) fun x2 =>
   bif (!(decide (x1=x2))) then
    Option.bind (QJ a1 i1) fun x3 =>
    Option.bind (QJ b1 i1) fun x4 =>
    some (.inr (.inr (decide (x3<x4))))
   else
    some (.inl (w64 (i1+1)))
  else
   some (.inr (.inl ())))
def ZB (F:Nat) (a1:(List Int)) (b1:(List Int)):Option (Bool) :=
 Option.bind (
  iter (Ye a1 b1) F 0) (fun o_=>QQ o_ (fun _ =>
  some (decide (((a1.length:Nat):Int)<((b1.length:Nat):Int)))) (fun rv9854=>some rv9854))
def Q7 (F:Nat) (a1:Qp) (b1:Qp):Option (Qp) :=
 Option.bind (
  bif (!b1.Ok) then
   some true
  else
   bif a1.Ok then
    bif (decide (a1.Cost<b1.Cost)) then
     some true
    else
     bif (decide (a1.Cost=b1.Cost)) then
      Option.bind (ZB F a1.Stops b1.Stops) fun r1 =>
      some r1
     else
      some false
   else
    some false) (fun v1 =>
  bif v1 then
   some a1
  else
   some b1)
def YM (t1:Qw) (x1:Qk):Option (Qk×Bool) :=
 Option.bind (recyclingref24_moved t1 x1 1) fun j_=>oun j_ fun r1 r2 =>
 Option.bind (Wh [] x1.Stops) fun l1 =>
 Option.bind (Wh l1 [(-1)]) fun l2 =>
 some ((Qk.mk l2 r1.Served r1.At (w64 (r1.Time+t1.P.UnloadSecs)) 0 r1.Meters),r2)
def QO (F:Nat) (t1:Qw) (x1:Qk) (rec_:Qw→Qk→Option (Qp)) (j_:Bool×Int×(List Int)×Bool×Int):Option ((Bool×Int×(List Int)×Bool×Int)⊕((Bool×Int×(List Int)×Bool))) :=
 oun j_ fun f1 j_=>oun j_ fun f2 j_=>oun j_ fun f3 j_=>oun j_ fun all1 i1 =>
 bif (decide (i1<((t1.Demands.length:Nat):Int))) then
  Option.bind (
   Option.bind (QJ x1.Served i1) fun x2 =>
   bif x2 then
    some (f1,f2,f3,all1)
   else
    Option.bind (Y6 t1 x1 i1) fun j_=>oun j_ fun r1 r2 =>
    bif (!r2) then
     some (f1,f2,f3,false)
    else
     Option.bind (rec_ t1 r1) fun r3 =>
     Option.bind (Q7 F (Qp.mk f1 f2 f3) r3) fun r4 =>
     Option.bind (YM t1 r1) fun j_=>oun j_ fun r5 r6 =>
     bif r6 then
      Option.bind (rec_ t1 r5) fun r7 =>
      Option.bind (Q7 F r4 r7) fun r8 =>
      some (r8.Ok,r8.Cost,r8.Stops,false)
     else
      some (r4.Ok,r4.Cost,r4.Stops,false)) (fun j_=>oun j_ fun f4 j_=>oun j_ fun f5 j_=>oun j_ fun f6 all2 =>
   some (.inl (f4,f5,f6,all2,w64 (i1+1))))
 else
  some (.inr (f1,f2,f3,all1))
def Jz (rec_:Qw→Qk→Option (Qp)) (F:Nat) (t1:Qw) (x1:Qk):Option (Qp) :=
 Option.bind (
  iter (QO F t1 x1 rec_) (((t1.Demands.length:Nat):Int).toNat+1) (false,0,[],true,0)) (fun j_=>oun j_ fun f7 j_=>oun j_ fun f8 j_=>oun j_ fun f9 all3 =>
  Option.bind (
   bif (!all3) then
    some true
   else
    some (decide (0<x1.Load))) (fun v5 =>
   bif v5 then
    some (Qp.mk f7 f8 f9)
   else
    Option.bind (recyclingref24_moved t1 x1 0) fun j_=>oun j_ fun r9 r10 =>
    Option.bind (
     bif r10 then
      some (decide (r9.Time<t1.V.Shift.To))
     else
      some false) (fun v6 =>
     Option.bind (
      bif v6 then
       Option.bind (Q7 F (Qp.mk f7 f8 f9) (Qp.mk true r9.Meters x1.Stops)) fun r11 =>
       some (r11.Ok,r11.Cost,r11.Stops)
      else
       some (f7,f8,f9)) (fun j_=>oun j_ fun f10 j_=>oun j_ fun f11 f12 =>
      some (Qp.mk f10 f11 f12)))))
def Yj:Nat→Qw→Qk→Option (Qp)
 | 0,_,_=>none
 | F+1,t1,x1=>Jz (Yj F) F t1 x1
def ZC (F:Nat) (p1:Qb) (vehicle1:Int) (demands1:(List Int)):Option (Qp) :=
 Option.bind (Zm p1 vehicle1 demands1) fun r1 =>
 Option.bind (WO false ((demands1.length:Nat):Int)) fun l1 =>
 Option.bind (Yj F r1 (Qk.mk [] l1 0 r1.V.Shift.From 0 0)) fun r2 =>
 some r2
def ZI (F:Nat) (p1:Qb) (vehicle1:Int) (demands1:(List Int)):Option (Bool×Int) :=
 Option.bind (Zl p1 vehicle1 demands1) fun r1 =>
 bif (!(decide (r1=0))) then
  some (false,r1)
 else
  Option.bind (ZC F p1 vehicle1 demands1) fun r2 =>
  some (r2.Ok,0)
def Y7 (l1:(List Int)) (out1:(List Int)) (i1:Int) (k1:Int):Option ((Int)⊕(Int)) :=
 Option.bind (
  bif (decide (0<k1)) then
   Option.bind (QJ l1 i1) fun x1 =>
   Option.bind (QJ out1 (w64 (k1-1))) fun x2 =>
   some (decide (x1<x2))
  else
   some false) (fun v1 =>
  bif v1 then
   some (.inl (w64 (k1-1)))
  else
   some (.inr k1))
def Yg (F:Nat) (l1:(List Int)) (j_:(List Int)×Int):Option (((List Int)×Int)⊕((List Int))) :=
 oun j_ fun out1 i1 =>
 bif (decide (i1<((l1.length:Nat):Int))) then
  Option.bind (
   Option.bind (
    iter (Y7 l1 out1 i1) F ((out1.length:Nat):Int)) (fun k2 =>
    Option.bind (J0 out1 k2 ((out1.length:Nat):Int)) fun l2 =>
    Option.bind (Wh [] l2) fun l3 =>
    Option.bind (J0 out1 0 k2) fun l4 =>
    Option.bind (QJ l1 i1) fun x3 =>
    Option.bind (Wh l4 [x3]) fun l5 =>
    Option.bind (Wh l5 l3) fun l6 =>
    some l6)) (fun out2 =>
   some (.inl (out2,w64 (i1+1))))
 else
  some (.inr out1)
def ZJ (F:Nat) (l1:(List Int)):Option ((List Int)) :=
 Option.bind (
  iter (Yg F l1) (((l1.length:Nat):Int).toNat+1) ([],0)) (fun out3 =>
  some out3)
def Yw (r2:(List Int)) (bits1:Int) (j_:(List Int)×Int):Option (((List Int)×Int)⊕((List Int))) :=
 oun j_ fun l1 i1 =>
 bif (decide (i1<((r2.length:Nat):Int))) then
  Option.bind (
   Option.bind (W5 (0≤(IntKind.u64.wrap (i1))∧(IntKind.u64.wrap (i1))≤64)) fun _ =>
   bif (decide ((QeO .i64 (bits1/2^(IntKind.u64.wrap (i1)).toNat) 1)=1)) then
    Option.bind (QJ r2 i1) fun x1 =>
    Option.bind (Wh l1 [x1]) fun l2 =>
    some l2
   else
    some l1) (fun l3 =>
   some (.inl (l3,w64 (i1+1))))
 else
  some (.inr l1)
def Yx (F:Nat) (p1:Qb) (vehicle1:Int) (r2:(List Int)) (j_:(List Int)×Int):Option (((List Int)×Int)⊕((List Int))) :=
 oun j_ fun best1 bits1 =>
 Option.bind (W5 (0≤(IntKind.u64.wrap (((r2.length:Nat):Int)))∧(IntKind.u64.wrap (((r2.length:Nat):Int)))≤64)) fun _ =>
 bif (decide (bits1<(w64 (1*2^(IntKind.u64.wrap (((r2.length:Nat):Int))).toNat)))) then
  Option.bind (
   Option.bind (
    iter (Yw r2 bits1) (((r2.length:Nat):Int).toNat+1) ([],0)) (fun l4 =>
    Option.bind (
     bif (decide (((l4.length:Nat):Int)<((best1.length:Nat):Int))) then
      some true
     else
      bif (decide (((l4.length:Nat):Int)=((best1.length:Nat):Int))) then
       Option.bind (ZB F l4 best1) fun r3 =>
       some (!r3)
      else
       some false) (fun v2 =>
     bif v2 then
      some best1
     else
      Option.bind (ZC F p1 vehicle1 l4) fun r4 =>
      bif r4.Ok then
       some l4
      else
       some best1))) (fun best2 =>
   some (.inl (best2,w64 (bits1+1))))
 else
  some (.inr best1)
def ZY (F:Nat) (p1:Qb) (vehicle1:Int) (demands1:(List Int)):Option ((List Int)×Int) :=
 Option.bind (Zl p1 vehicle1 demands1) fun r1 =>
 bif (!(decide (r1=0))) then
  some ([],r1)
 else
  Option.bind (ZJ F demands1) fun r2 =>
  Option.bind (
   iter (Yx F p1 vehicle1 r2) F ([],0)) (fun best3 =>
   some (best3,0))
def Zw (F:Nat) (p1:Qb) (vehicle1:Int) (demands1:(List Int)):Option (Bool) :=
 Option.bind (Ze p1 demands1) fun r1 =>
 bif r1 then
  Option.bind (Zd F) fun r2 =>
  some r2
 else
  Option.bind (JF F p1 vehicle1 demands1) fun j_=>oun j_ fun r3 r4 =>
  Option.bind (ZI F p1 vehicle1 demands1) fun j_=>oun j_ fun r5 r6 =>
  Option.bind (W4 F p1 vehicle1 demands1) fun j_=>oun j_ fun r7 r8 =>
  Option.bind (ZY F p1 vehicle1 demands1) fun j_=>oun j_ fun r9 r10 =>
  Option.bind (
   bif (r3==r5) then
    bif (decide (r4=r6)) then
     Option.bind (YC r7 r9) fun r11 =>
     bif r11 then
      bif (decide (r8=r10)) then
       Option.bind (Zd F) fun r12 =>
       some r12
      else
       some false
     else
      some false
    else
     some false
   else
    some false) (fun v7 =>
   some v7)
structure QjW where
 Vehicle:Int
 Err:Int
deriving DecidableEq
def JI (v1:Qo) (kind1:Int):Option (Bool) :=
 Option.bind (
  bif (decide (kind1<0)) then
   some true
  else
   some (decide (16≤kind1))) (fun v2 =>
  bif v2 then
   some false
  else
   Option.bind (W5 (0≤kind1∧kind1≤64)) fun _ =>
   some (decide ((Int.tmod ((IntKind.u64.wrap (v1.Kinds))/2^kind1.toNat) 2)=1)))
def Zk (stops1:(List Int)) (i1:Int) (x1:Int) (k1:Int):Option ((Int)⊕(Unit⊕Int)) :=
 bif (decide (k1<i1)) then
  Option.bind (QJ stops1 k1) fun x2 =>
  bif (decide (x2=x1)) then
   some (.inr (.inr 6))
  else
   some (.inl (w64 (k1+1)))
 else
  some (.inr (.inl ()))
def Vr (p1:Qb) (v1:Qo) (stops1:(List Int)) (i1:Int):Option (Int) :=
 Option.bind (QJ stops1 i1) fun x1 =>
 bif (decide (x1=(-1))) then
  some 0
 else
  Option.bind (
   bif (decide (x1<0)) then
    some true
   else
    some (decide (((p1.Demands.length:Nat):Int)≤x1))) (fun v2 =>
   bif v2 then
    some 7
   else
    Option.bind (
     iter (Zk stops1 i1 x1) (i1.toNat+1) 0) (fun o_=>QQ o_ (fun _ =>
     Option.bind (QJ p1.Demands x1) fun x3 =>
     Option.bind (JI v1 x3.Kind) fun r1 =>
     bif (!r1) then
      some 21
     else
      some 0) (fun rv21561=>some rv21561)))
def J8 (p1:Qb) (v1:Qo) (x1:QK) (s1:Int):Option (QK×Int) :=
 Option.bind (
  bif (decide (0≤s1)) then
   Option.bind (QJ p1.Demands s1) fun x2 =>
   some x2.Node
  else
   some p1.Unload) (fun f1 =>
  Option.bind (YP p1 x1.Node f1) fun r1 =>
  bif (decide (r1.Secs<0)) then
   some ((QK.mk 0 0 0 0 0 0),22)
  else
   bif (decide (s1<0)) then
    some ((QK.mk s1 f1 (w64 (x1.Leave+r1.Secs)) (w64 (x1.Leave+r1.Secs)) (w64 ((w64 (x1.Leave+r1.Secs))+p1.UnloadSecs)) 0),0)
   else
    Option.bind (QJ p1.Demands s1) fun x3 =>
    bif (decide (x3.When.To≤(max (w64 (x1.Leave+r1.Secs)) x3.When.From))) then
     some ((QK.mk 0 0 0 0 0 0),19)
    else
     bif (decide (v1.Grams<(w64 (x1.Load+x3.Grams)))) then
      some ((QK.mk 0 0 0 0 0 0),20)
     else
      some ((QK.mk s1 f1 (w64 (x1.Leave+r1.Secs)) (max (w64 (x1.Leave+r1.Secs)) x3.When.From) (w64 ((max (w64 (x1.Leave+r1.Secs)) x3.When.From)+x3.Service)) (w64 (x1.Load+x3.Grams))),0))
def Js (p1:Qb) (v1:Qo) (x1:QK):Option (QK×Int) :=
 Option.bind (YP p1 x1.Node v1.Depot) fun r1 =>
 bif (decide (r1.Secs<0)) then
  some ((QK.mk 0 0 0 0 0 0),22)
 else
  bif (decide (0<x1.Load)) then
   some ((QK.mk 0 0 0 0 0 0),20)
  else
   bif (decide (v1.Shift.To≤(w64 (x1.Leave+r1.Secs)))) then
    some ((QK.mk 0 0 0 0 0 0),19)
   else
    some ((QK.mk (-2) v1.Depot (w64 (x1.Leave+r1.Secs)) (w64 (x1.Leave+r1.Secs)) (w64 (x1.Leave+r1.Secs)) 0),0)
def YT (p1:Qb) (t1:Ql) (x1:Qo) (j_:Int×Int×Int×Int×Int×Int×(List QK)×Int):Option ((Int×Int×Int×Int×Int×Int×(List QK)×Int)⊕((Int×Int×Int×Int×Int×Int×(List QK))⊕((List QK)×Int×Int))) :=
 oun j_ fun f1 j_=>oun j_ fun f2 j_=>oun j_ fun f3 j_=>oun j_ fun f4 j_=>oun j_ fun f5 j_=>oun j_ fun f6 j_=>oun j_ fun out1 v2 =>
 bif (decide (v2<((t1.Stops.length:Nat):Int))) then
  Option.bind (QJ t1.Stops v2) fun x2 =>
  Option.bind (Vr p1 x1 t1.Stops v2) fun r2 =>
  Option.bind (
   bif (decide (r2=0)) then
    Option.bind (J8 p1 x1 (QK.mk f1 f2 f3 f4 f5 f6) x2) fun j_=>oun j_ fun r3 r4 =>
    some (r3.Stop,r3.Node,r3.Arrive,r3.Start,r3.Leave,r3.Load,r4)
   else
    some (f1,f2,f3,f4,f5,f6,r2)) (fun j_=>oun j_ fun f7 j_=>oun j_ fun f8 j_=>oun j_ fun f9 j_=>oun j_ fun f10 j_=>oun j_ fun f11 j_=>oun j_ fun f12 e1 =>
   bif (!(decide (e1=0))) then
    some (.inr (.inr ([],e1,v2)))
   else
    Option.bind (Wh out1 [(QK.mk f7 f8 f9 f10 f11 f12)]) fun l1 =>
    some (.inl (f7,f8,f9,f10,f11,f12,l1,w64 (v2+1))))
 else
  some (.inr (.inl (f1,f2,f3,f4,f5,f6,out1)))
def Wj (p1:Qb) (t1:Ql):Option ((List QK)×Int×Int) :=
 Option.bind (Qi p1) fun r1 =>
 bif (!(decide (r1=0))) then
  some ([],r1,0)
 else
  Option.bind (
   bif (decide (t1.Vehicle<0)) then
    some true
   else
    some (decide (((p1.Vehicles.length:Nat):Int)≤t1.Vehicle))) (fun v1 =>
   bif v1 then
    some ([],7,0)
   else
    bif (decide (40<((t1.Stops.length:Nat):Int))) then
     some ([],8,0)
    else
     Option.bind (QJ p1.Vehicles t1.Vehicle) fun x1 =>
     Option.bind (
      iter (YT p1 t1 x1) (((t1.Stops.length:Nat):Int).toNat+1) (0,x1.Depot,0,0,x1.Shift.From,0,[],0)) (fun o_=>QQ o_ (fun j_=>oun j_ fun f13 j_=>oun j_ fun f14 j_=>oun j_ fun f15 j_=>oun j_ fun f16 j_=>oun j_ fun f17 j_=>oun j_ fun f18 out2 =>
      Option.bind (Js p1 x1 (QK.mk f13 f14 f15 f16 f17 f18)) fun j_=>oun j_ fun r5 r6 =>
      bif (!(decide (r6=0))) then
       some ([],r6,((t1.Stops.length:Nat):Int))
      else
       Option.bind (Wh out2 [r5]) fun l2 =>
       some (l2,0,0)) (fun rv21536=>some rv21536)))
def Zy (p1:Qb) (r1:(List QK)) (j_:Int×Int×Int):Option ((Int×Int×Int)⊕(Int)) :=
 oun j_ fun sum1 j_=>oun j_ fun f_at1 v1 =>
 bif (decide (v1<((r1.length:Nat):Int))) then
  Option.bind (QJ r1 v1) fun x2 =>
  Option.bind (YP p1 f_at1 x2.Node) fun r4 =>
  some (.inl (w64 (sum1+r4.Meters),x2.Node,w64 (v1+1)))
 else
  some (.inr sum1)
def Wi (p1:Qb) (t1:Ql):Option (Int×Int) :=
 Option.bind (Wj p1 t1) fun j_=>oun j_ fun r1 j_=>oun j_ fun r2 r3 =>
 bif (!(decide (r2=0))) then
  some (0,r2)
 else
  Option.bind (QJ p1.Vehicles t1.Vehicle) fun x1 =>
  Option.bind (
   iter (Zy p1 r1) (((r1.length:Nat):Int).toNat+1) (0,x1.Depot,0)) (fun sum2 =>
   some (sum2,0))
end Go.Proofs.YtilbengnjgglhaaGreat
namespace Go.Proofs.YtilbengnjgglhaaGreat
open Go.RowKit
set_option linter.unusedSimpArgs false
set_option linter.unusedVariables false
attribute [local irreducible] WP YV WH Fn AN Upd vcR vcO Qa7 ZN Zv Vn Vs Qa4 VY ZW QaG QI
theorem Qij {μ:Gh} {L:List Seg} {A:Option Addr} {n c:Nat} {css:List (List Value)} (hr:Rd μ L A 1 css) (hn:css.length=n) (h1: ∀cs∈css,∀u∈cs,u.oneCell'=true) (hb:n≤1000000)
  {R:Value→Gh→List Seg→Prop} (hR: ∀v ch,JD 3 1 v css ch→R v μ (ch::L)):Fn Tryz.prog 32 [.slice A n c] μ L R:=by
 refine Fn.of_body QU Tryz.func32 (by kernel_rfl) rfl Tryz.ntmps32 (by simp) ?_
 simp only[Tryz.f32,QhO,List.zipIdx,List.map,Nat.reduceAdd]
 repeat' first | (apply QiG) | (apply Yc;exact rfl) | (apply JS) | ((first | (apply VG;exact rfl));first | (apply YY;exact rfl) | (apply Qd0;exact rfl) | (apply QiI;exact rfl;exact rfl;all_goals (intro h;try (exfalso;omega))) | (apply Qga;exact rfl;exact rfl) | (apply Qg4;exact rfl;exact rfl;exact rfl;exact rfl) | (apply Qg5;exact rfl;exact rfl;exact rfl;exact rfl) | (apply Qkj;exact rfl;exact rfl;exact rfl;exact rfl;all_goals (intro h)) | (apply QiH;exact rfl;exact rfl;exact rfl;exact rfl;all_goals (intro h))) | (apply Qkh) | (apply Za) | (apply QP;exact rfl;exact rfl;exact rfl;(focus (simp only[WY,List.set_cons_zero,List.set_cons_succ,List.take_succ_cons,List.take_zero,List.drop_succ_cons,List.drop_zero,Value.cells,Nat.reduceAdd,Nat.reduceMul,Nat.zero_add,Nat.add_zero,List.toList_toArray,List.cons_append,List.nil_append,cyc];first | done | exact rfl))) | (apply WP.seq_k;intro K hK) | refine WP.region QU ?_ | (apply Qcw;exact rfl) | (apply Qcv;exact rfl) | (apply Qgd;exact rfl;all_goals (intro h)) | (apply WP.skip) | (apply WP.ret) | (apply Qkm) | (apply QiO;exact rfl) | (first | (apply Zp;exact rfl;exact rfl;exact rfl;exact rfl;exact rfl;exact rfl;(focus (simp only[WY,List.set_cons_zero,List.set_cons_succ,List.take_succ_cons,List.take_zero,List.drop_succ_cons,List.drop_zero,Value.cells,Nat.reduceAdd,Nat.reduceMul,Nat.zero_add,Nat.add_zero,List.toList_toArray,List.cons_append,List.nil_append,cyc];first | done | exact rfl))) | (apply Yy;exact rfl)) | (fail) | (first | (refine hK _ _ _ ?_;clear hK K) | (clear hK K;refine hK _ _ _ ?_;clear hK K) | (clear hK K;clear hK K;refine hK _ _ _ ?_;clear hK K) | (clear hK K;clear hK K;clear hK K;refine hK _ _ _ ?_;clear hK K)) | intro g
 ·subst h;obtain rfl:css=[]:=by
   cases css with
   | nil=>rfl
   | cons a r=>obtain ⟨a,ha,_⟩:=hr.2 (by simp);cases ha
  exact Upd.know fun ⟨w,hw⟩=>Upd.sub (L':=[]::L) (by simp) (Upd.done (hR _ _ JD.nil))
 ·refine Qh3 QU rfl rfl rfl rfl (by decide) 0 rfl (css:=[]) ⟨by simp,.inr ⟨g,0, #[],rfl,rfl,by simp,by simp[maxLen],by simp,by simp⟩⟩ hn hr.cons h1 (by simp;omega) (by simp;omega) fun v' ch' hv _=> ?_
  repeat' first | (apply QiG) | (apply Yc;exact rfl) | (apply JS) | ((first | (apply VG;exact rfl));first | (apply YY;exact rfl) | (apply Qd0;exact rfl) | (apply QiI;exact rfl;exact rfl;all_goals (intro h;try (exfalso;omega))) | (apply Qga;exact rfl;exact rfl) | (apply Qg4;exact rfl;exact rfl;exact rfl;exact rfl) | (apply Qg5;exact rfl;exact rfl;exact rfl;exact rfl) | (apply Qkj;exact rfl;exact rfl;exact rfl;exact rfl;all_goals (intro h)) | (apply QiH;exact rfl;exact rfl;exact rfl;exact rfl;all_goals (intro h))) | (apply Qkh) | (apply Za) | (apply QP;exact rfl;exact rfl;exact rfl;(focus (simp only[WY,List.set_cons_zero,List.set_cons_succ,List.take_succ_cons,List.take_zero,List.drop_succ_cons,List.drop_zero,Value.cells,Nat.reduceAdd,Nat.reduceMul,Nat.zero_add,Nat.add_zero,List.toList_toArray,List.cons_append,List.nil_append,cyc];first | done | exact rfl))) | (apply WP.seq_k;intro K hK) | refine WP.region QU ?_ | (apply Qcw;exact rfl) | (apply Qcv;exact rfl) | (apply Qgd;exact rfl;all_goals (intro h)) | (apply WP.skip) | (apply WP.ret) | (apply Qkm) | (apply QiO;exact rfl) | (first | (apply Zp;exact rfl;exact rfl;exact rfl;exact rfl;exact rfl;exact rfl;(focus (simp only[WY,List.set_cons_zero,List.set_cons_succ,List.take_succ_cons,List.take_zero,List.drop_succ_cons,List.drop_zero,Value.cells,Nat.reduceAdd,Nat.reduceMul,Nat.zero_add,Nat.add_zero,List.toList_toArray,List.cons_append,List.nil_append,cyc];first | done | exact rfl))) | (apply Yy;exact rfl)) | (fail) | (first | (refine hK _ _ _ ?_;clear hK K) | (clear hK K;refine hK _ _ _ ?_;clear hK K) | (clear hK K;clear hK K;refine hK _ _ _ ?_;clear hK K) | (clear hK K;clear hK K;clear hK K;refine hK _ _ _ ?_;clear hK K)) | intro g
  rw[List.nil_append] at hv
  exact Upd.done (hR _ _ hv)
end Go.Proofs.YtilbengnjgglhaaGreat
namespace Go.Proofs.YtilbengnjgglhaaGreat
open Go.RowKit
set_option linter.unusedSimpArgs false
set_option linter.unusedVariables false
section
variable {P:Program} {ops:Array Oper} {Q:Exit→Act→World→Prop} {S S0:World→Prop} {b:List Nat}
def Qgf (P:Program) (ops:Array Oper) (Q:Exit→Act→World→Prop) (S S0:World→Prop) (b:List Nat):Nat→Array Bool→Act→World→Prop
 | 0,listed,a,w=>Region.ready .any ops listed=[]∧Q .normal a w
 | fuel+1,listed,a,w=>(Region.ready .any ops listed=[]→Q .normal a w) ∧
  ∀i∈Region.ready .any ops listed,wpOp P ops Q i (fun a' w'=>S0 w'∧(i∉b→S w→S w')∧Qgf P ops Q S S0 b fuel (listed.setIfInBounds i true) a' w') a w
theorem Qgh: ∀(fuel:Nat) (listed:Array Bool) (a:Act) (w:World),Qgf P ops Q S S0 b fuel listed a w→wpAny P .any ops Q fuel listed a w
 | 0,_,_,_,h=>h
 | fuel+1,_,_,_,h=>⟨h.1,fun i hi=>wpOp_mono (fun a' w' h'=>Qgh fuel _ a' w' h'.2.2) (h.2 i hi)⟩
def WG (ops:Array Oper) (l:Array Bool):Prop:= ∀j oj,ops[j]? =some oj→l.getD j false=true→ ∀e∈oj.after,Region.binds .any e=true→l.getD e.on false=true
theorem WG.start (n:Nat):WG ops (List.replicate n false).toArray:=by
 intro j oj _ h;rcases Nat.lt_or_ge j n with h' | h'<;>simp[h'] at h
theorem WG.set {l:Array Bool} {i:Nat} (h:WG ops l) (hr:i∈Region.ready .any ops l):WG ops (l.setIfInBounds i true):=by
 intro j oj hj hl e he hb
 by_cases hij:i=j
 ·subst hij;obtain ⟨_,o,ho,hall⟩:=mem_ready.1 hr
  rw[hj] at ho;injection ho with ho;subst ho
  exact getD_set_true (hall e he hb)
 ·rw[getD_set_ne false hij] at hl
  exact getD_set_true (h j oj hj hl e he hb)
def WI (ops:Array Oper) (b i:Nat):Prop:= ∀l:Array Bool,WG ops l→(∃ob,ops[b]? =some ob∧ ∀e∈ob.after,Region.binds .any e=true→l.getD e.on false=true)→l.getD i false=true
theorem WI.trans {d c i:Nat} {oc:Oper} (h1:WI ops d c) (hc:ops[c]? =some oc) (h2:WI ops c i):WI ops d i:=fun l hl hd=>by
 have h3:=h1 l hl hd;exact h2 l hl ⟨oc,hc,fun e he hb=>hl c oc hc h3 e he hb⟩
theorem Qca {Sx:World→Prop} {i:Nat} {oi:Oper} {v:Value} (hi:ops[i]? =some oi) (hsel: ∀(j:Nat) (o:Oper) cs c,ops[j]? =some o→o.op≠ .select cs c)
  (hQ: ∀c a w,Q (.panic c) (a.put oi.dst v) w→Q (.panic c) a w) (hb:(∀w,S0 w→Sx w)∨(Sx=S∧ ∀d∈b,WI ops d i)) :
  ∀(fuel:Nat) (listed:Array Bool) (a:Act) (w:World),
   (∀j oj,ops[j]? =some oj→j≠i→listed.getD j true=false→(∀e∈oj.after,Region.binds .any e=true→e.on≠i)→oi.apart ops oj=true) →
   i∈Region.ready .any ops listed→WG ops listed→YieldsIf P ops Sx oi v a→S0 w→Sx w →
   Qgf P ops Q S S0 b fuel (listed.setIfInBounds i true) (a.put oi.dst v) w→Qgf P ops Q S S0 b (fuel+1) listed a w:=by
 intro fuel
 induction fuel with
 | zero =>
  intro listed a w _ hr _ hy hS0 hS H;refine ⟨fun h=>(by rw[h] at hr;cases hr),fun j hj=> ?_⟩
  by_cases hji:j=i
  ·subst hji;exact hy.wpOp hi hS ⟨hS0,fun _ h=>h,H⟩
  ·have:=ready_mono hj hji
   rw[H.1] at this
   cases this
 | succ fuel ih =>
  intro listed a w hfree hr hcl hy hS0 hS H;refine ⟨fun h=>(by rw[h] at hr;cases hr),fun j hj=> ?_⟩
  by_cases hji:j=i
  ·subst hji;exact hy.wpOp hi hS ⟨hS0,fun _ h=>h,H⟩
  ·have h1:=H.2 j (ready_mono hj hji);obtain ⟨hjun,oj,hoj,hall⟩:=mem_ready.1 hj;have hnot: ∀e∈oj.after,Region.binds .any e=true→e.on≠i:=fun e he hb heq=>by
    have h1:=hall e he hb;have h0:=(mem_ready.1 hr).1
    rw[heq] at h1
    rcases Nat.lt_or_ge i listed.size with h' | h'
    ·simp[h'] at h0 h1;rw[h0] at h1;cases h1
    ·simp[Array.getElem?_eq_none h'] at h1
   have hSx: ∀w',S0 w'→(j∉b→S w→S w')→Sx w':=fun w' q0 q1=>by
    rcases hb with hb | ⟨rfl,hb⟩
    ·exact hb w' q0
    ·refine q1 (fun hjm=> ?_) hS;have h3:=hb j hjm listed hcl ⟨oj,hoj,hall⟩;have h0:=(mem_ready.1 hr).1;rcases Nat.lt_or_ge i listed.size with h' | h'
     ·simp[h'] at h0 h3;rw[h0] at h3;cases h3
     ·simp[Array.getElem?_eq_none h'] at h3
   have h2:=wpOp_putIf hoj (hfree j oj hoj hji hjun hnot) (fun cs c=>hsel i oi cs c hi) (fun cs c=>hsel j oj cs c hoj) hQ hy h1;have hfree': ∀k ok,ops[k]? =some ok→k≠i→(listed.setIfInBounds j true).getD k true=false →
     (∀e∈ok.after,Region.binds .any e=true→e.on≠i)→oi.apart ops ok=true:=fun k ok hk hki hun hno=>by
    refine hfree k ok hk hki ?_ hno
    by_cases hjk:j=k
    ·subst hjk;exact hjun
    ·rw[getD_set_ne true hjk] at hun;exact hun
   refine wpOp_mono (fun a' w' h3=>⟨h3.2.1,h3.2.2.1,ih (listed.setIfInBounds j true) a' w' hfree' (ready_mono hr (Ne.symm hji)) (hcl.set hj) h3.1 h3.2.1 (hSx w' h3.2.1 h3.2.2.1) ?_⟩) h2
   rw[Array.setIfInBounds_comm _ _ hji]
   exact h3.2.2.2
end
def Qjl:Op→Bool
 | .load _ _ | .lookup _ _ _ _ | .call _=>false
 | _=>true
theorem QjM {P:Program} {T:TT} {o:Op} {fr:Fr} {μ μ':Gh} {L L':List Seg} {k:Value→Prop} (hp:Qjl o=true) (h:vcR P T o fr μ L k):vcR P T o fr μ' L' k:=by
 cases o<;>first | exact h | cases hp
def Qec (ops:List Oper) (b i:Nat):Bool:=match Jx ops b with
 | some o=>o.after.toList.any fun e=>Region.binds .any e&&e.on==i
 | none=>false
def Qdf (ops:List Oper):Nat→List Nat→Nat→Bool
 | b,[],i=>Qec ops b i
 | b,k::r,i=>Qec ops b k&&Qdf ops k r i
theorem QaJ {ops:List Oper} {b i:Nat} (h:Qec ops b i=true): ∃ob,ops.toArray[b]? =some ob∧ ∃e∈ob.after,Region.binds .any e=true∧e.on=i:=by
 unfold Qec at h
 rw[VK] at h
 cases hob:ops[b]? with
 | none=>rw[hob] at h;cases h
 | some ob =>
  rw[hob] at h
  simp only[List.any_eq_true,Bool.and_eq_true,beq_iff_eq] at h
  obtain ⟨e,h10,h11,h12⟩:=h;exact ⟨ob,by simpa using hob,e,by simpa using h10,h11,h12⟩
theorem QbF {ops:List Oper}: ∀{p:List Nat} {b i:Nat} (_:Qdf ops b p i=true),WI ops.toArray b i
 | [],b,i,h,l,hc,⟨ob,h1,h2⟩=>by
  obtain ⟨ob',h3,e,h4,h5,h6⟩:=QaJ h
  rw[h1] at h3;injection h3 with h3;subst h3
  rw[←h6];exact h2 e h4 h5
 | k::r,b,i,h,l,hc,⟨ob,h1,h2⟩=>by
  unfold Qdf at h
  rw[Bool.and_eq_true] at h
  obtain ⟨ob',h3,e,h4,h5,h6⟩:=QaJ h.1
  rw[h1] at h3;injection h3 with h3;subst h3
  have hk:l.getD k false=true:=by rw[←h6];exact h2 e h4 h5
  have hok: ∃ok,ops.toArray[k]? =some ok:=by
   cases r with
   | nil=>obtain ⟨o,h7,_⟩:=QaJ (show Qec ops k i=true from h.2);exact ⟨o,h7⟩
   | cons k' r'=>obtain ⟨o,h7,_⟩:=QaJ (Bool.and_eq_true _ _▸(show (Qec ops k k'&&Qdf ops k' r' i)=true from h.2):Qec ops k k'=true∧_).1;exact ⟨o,h7⟩
  obtain ⟨ok,h7⟩:=hok;exact QbF h.2 l hc ⟨ok,h7,fun e he hb=>hc k ok h7 hk e he hb⟩
def Qjd (ps:List (Nat×List Nat)) (i:Nat):List Nat:=match ps with
 | []=>[]
 | p::r=>bif p.1==i then p.2 else Qjd r i
def Qbt (ops:List Oper) (ps:List (Nat×List Nat)) (b:Nat):List (Bool×Nat)→List Bool→Option (List Bool)
 | [],l=>some l
 | p::r,l=>match (match p.1 with
   | true=>Region.free .any ops.toArray l.toArray p.2&&(Region.ready .any ops.toArray l.toArray).contains p.2&&((match Jx ops p.2 with | some o=>Qjl o.op | none=>false)||Qdf ops b (Qjd ps p.2) p.2)
   | false=>Region.ready .any ops.toArray l.toArray==[p.2]) with
  | true=>Qbt ops ps b r (l.set p.2 true)
  | false=>none
def QgB (ops:List Oper) (ps:List (Nat×List Nat)) (b:Nat):List Nat→Bool
 | []=>true
 | d::r=>Qdf ops d (Qjd ps d) b&&QgB ops ps b r
def Qco (ops:List Oper):List Nat→List Bool→Bool
 | [],l=>Region.ready .any ops.toArray l.toArray==[]
 | i::r,l=>(Region.ready .any ops.toArray l.toArray==[i])&&Qco ops r (l.set i true)
section
variable {P:Program} {T:TT} {N:NN} {ops:List Oper} {μ0:Gh} {keep:List Seg} {K:QW} {fr:Fr} {μ:Gh} {L:List Seg} {fuel:Nat} {listed:List Bool} {b:Nat} {ds:List Nat} {ps:List (Nat×List Nat)}
def ANB (P:Program) (N:NN) (ops:List Oper) (μ0:Gh) (keep:List Seg) (ds:List Nat) (fuel:Nat) (listed:List Bool) (K:QW) (fr:Fr) (μ:Gh) (L:List Seg):Prop :=
 μ0.le μ→QI keep L→ ∀(a:Act) (w:World) (Q:Exit→Act→World→Prop),Agr N fr a→Inv w μ L →
  (∀fr' μ' L' a' w',μ.le μ'→Agr N fr' a'→Inv w' μ' L'→K fr' μ' L'→Q .normal a' w') →
  (∀c a d v w,Q (.panic c) (Act.put a d v) w→Q (.panic c) a w)→Qgf P ops.toArray Q (fun w=>JC w μ0 keep) (fun w=>JC w μ0 []) ds fuel listed.toArray a w
def QgY (P:Program) (T:TT) (N:NN) (ops:List Oper):List Nat→QW→QW
 | [],K=>K
 | i::r,K=>fun fr μ L=> ∃o,Jx ops i=some o∧o.guard=none∧vcO P T o.op o.type fr μ L fun v μ' L'=>Zv N o.dst v fr fun fr'=>QgY P T N ops r K fr' μ' L'
theorem QlI {dst:Option Tmp} {op:Op} {ty:TypeId} {pos:String} {aft:Array Edge} {r:List Nat} (hi:Jx ops b=some ⟨dst,op,ty,pos,aft,none⟩) (h:vcO P T op ty fr μ L fun v μ' L'=>Zv N dst v fr fun fr'=>QgY P T N ops r K fr' μ' L'):QgY P T N ops (b::r) K fr μ L :=
 ⟨_,hi,rfl,h⟩
theorem Qep {dst:Option Tmp} {op:Op} {ty:TypeId} {pos:String} {aft:Array Edge} (hi:Jx ops b=some ⟨dst,op,ty,pos,aft,none⟩) (h:vcO P T op ty fr μ L fun v μ' L'=>Zv N dst v fr fun fr'=>K fr' μ' L'):QgY P T N ops [b] K fr μ L :=
 ⟨_,hi,rfl,h⟩
theorem Qgg {S:World→Prop} {μ0:Gh} {Q:Exit→Act→World→Prop} (hT:TOk P T): ∀(r:List Nat) (listed:List Bool) (_: ∀i∈r,i∈ds) (_:Qco ops r listed=true) {fr:Fr} {μ:Gh} {L:List Seg} (_:QgY P T N ops r K fr μ L) (_:μ0.le μ) (a:Act) (w:World) (_:Agr N fr a) (_:Inv w μ L)
  (_: ∀fr' μ' L' a' w',μ.le μ'→Agr N fr' a'→Inv w' μ' L'→K fr' μ' L'→Q .normal a' w'),Qgf P ops.toArray Q S (fun w=>JC w μ0 []) ds r.length listed.toArray a w
 | [],listed,_,hs,fr,μ,L,h,hm,a,w,ha,hw,hQ=>by
  simp only[Qco,beq_iff_eq] at hs
  exact ⟨hs,hQ fr μ L a w (Gh.le.refl _) ha hw h⟩
 | i::r,listed,hd,hs,fr,μ,L,h,hm,a,w,ha,hw,hQ=>by
  simp only[Qco,Bool.and_eq_true,beq_iff_eq] at hs
  obtain ⟨hr,hs⟩:=hs;obtain ⟨o,ho,hg,h⟩:=h
  rw[VK] at ho
  have ho':ops.toArray[i]? =some o:=by simpa using ho
  refine ⟨fun h0=>absurd (hr▸h0) (by simp),fun j hj=> ?_⟩
  rw[hr] at hj
  have hj':j=i:=by simpa using hj
  subst hj';unfold wpOp
  rw[ho']
  simp only
  have hwt:Region.wanted o (yielded ops.toArray a.tmps)=true:=by unfold Region.wanted;rw[hg]
  rw[if_pos hwt]
  refine .inl (Vd hT ha h hw fun v μ' L' w' hm' hw' hv=> ?_);obtain ⟨fr',hv',ha'⟩:=YG ha hv;refine ⟨ZX (hm.trans hm') QI.nil hw',fun hne=>absurd (hd j (by simp)) hne,?_⟩
  rw[Y2]
  exact Qgg hT r _ (fun k hk=>hd k (by simp[hk])) hs hv' (hm.trans hm') _ _ ha' hw' fun fr2 μ2 L2 a2 w2 h2=>hQ fr2 μ2 L2 a2 w2 (hm'.trans h2)
theorem Qeq: ∀{r:List Nat} (_:QgB ops ps b r=true),∀d∈r,WI ops.toArray d b
 | c::r,h,d,hd=>by
  simp only[QgB,Bool.and_eq_true] at h
  rcases List.mem_cons.1 hd with rfl | hd
  ·exact QbF h.1
  ·exact Qeq h.2 d hd
theorem ANB.steps (hT:TOk P T) (hs:Region.noSelect ops.toArray=true) {listed':List Bool} {r0:List Nat} (hsr:Qco ops (b::r0) listed'=true) (hlt:QgB ops ps b r0=true) :
  ∀(plan:List (Bool×Nat)) (listed:List Bool) (_:Qbt ops ps b plan listed=some listed') (_:WG ops.toArray listed.toArray) {fr:Fr} {μ:Gh} {L:List Seg}
  (_:ZN P T N ops μ0 keep plan fr μ L (QgY P T N ops (b::r0) K)),ANB P N ops μ0 keep (b::r0) ((b::r0).length+plan.length) listed K fr μ L
 | [],listed,hp,_,fr,μ,L,h=>by
  simp only[Qbt,Option.some.injEq] at hp
  subst hp;intro hm hk a w Q ha hw hQ hQp;exact Qgg hT (b::r0) _ (fun i hi=>hi) hsr h hm a w ha hw hQ
 | (q,i)::r,listed,hp,hcl,fr,μ,L,h=>by
  intro hm hk a w Qx ha hw hQ hQp;unfold Qbt at hp
  split at hp
  ·rename_i hc
   unfold ZN at h
   simp only[VK] at h hc
   cases ho:ops[i]? with
   | none=>rw[ho] at h;exact h.elim
   | some o =>
    rw[ho] at h
    have ho':ops.toArray[i]? =some o:=by simpa using ho
    show Qgf P ops.toArray Qx _ _ (b::r0) (((b::r0).length+r.length)+1) listed.toArray a w
    cases q with
    | true =>
     simp only[Bool.and_eq_true,Bool.or_eq_true,ho] at h hc
     have hri:i∈Region.ready .any ops.toArray listed.toArray:=by simpa using hc.1.2
     have hcl2:WG ops.toArray (listed.set i true).toArray:=by rw[←Y2];exact hcl.set hri
     have hcont: ∀v,Zv N o.dst v fr (fun fr'=>ZN P T N ops μ0 keep r fr' μ L (QgY P T N ops (b::r0) K)) →
       Qgf P ops.toArray Qx (fun w=>JC w μ0 keep) (fun w=>JC w μ0 []) (b::r0) ((b::r0).length+r.length) (listed.toArray.setIfInBounds i true) (a.put o.dst v) w:=by
      intro v hv;obtain ⟨fr',hv',ha'⟩:=YG ha hv
      rw[Y2]
      exact ANB.steps hT hs hsr hlt r _ hp hcl2 hv' hm hk _ w Qx ha' hw hQ hQp
     have h00:JC w μ0 []:=ZX hm QI.nil hw;rcases Z7 ha h with ⟨hg,h⟩ | ⟨hg,h⟩
     ·rcases hc.2 with hpu | hwt
      ·obtain ⟨v,hv,hrun⟩:=QaB hT ha (QjM (μ':=μ0) (L':=[]) hpu h);exact Qca (Sx:=fun w=>JC w μ0 []) ho' (Region.noSelect_spec hs) (fun c a w h=>hQp c a _ _ w h) (.inl fun _ h=>h) _ _ a w (Region.free_spec ho' hc.1.1) hri hcl (.inl ⟨hg,fun w hw=>hrun w hw⟩) h00 h00 (hcont v hv)
      ·have hw0:WI ops.toArray b i:=QbF hwt;have hwb: ∀d∈b::r0,WI ops.toArray d i:=fun d hd=>by
        rcases List.mem_cons.1 hd with rfl | hd
        ·exact hw0
        ·simp only[Qco,Bool.and_eq_true,beq_iff_eq] at hsr
         obtain ⟨_,ob,hob,_⟩:=mem_ready.1 (show b∈Region.ready .any ops.toArray listed'.toArray by rw[hsr.1];simp);exact (Qeq hlt d hd).trans hob hw0
       obtain ⟨v,hv,hrun⟩:=QaB hT ha h;exact Qca (Sx:=fun w=>JC w μ0 keep) ho' (Region.noSelect_spec hs) (fun c a w h=>hQp c a _ _ w h) (.inr ⟨rfl,hwb⟩) _ _ a w (Region.free_spec ho' hc.1.1) hri hcl (.inl ⟨hg,fun w hw=>hrun w hw⟩) h00 (ZX hm hk hw) (hcont v hv)
     ·exact Qca (Sx:=fun w=>JC w μ0 []) ho' (Region.noSelect_spec hs) (fun c a w h=>hQp c a _ _ w h) (.inl fun _ h=>h) _ _ a w (Region.free_spec ho' hc.1.1) hri hcl (.inr ⟨hg,rfl⟩) h00 h00 (hcont undef h)
    | false =>
     simp only[beq_iff_eq] at h hc
     refine ⟨fun h0=>absurd (hc▸h0) (by simp),fun j hj=> ?_⟩
     rw[hc] at hj
     have hj':j=i:=by simpa using hj
     subst hj';have hcl2:WG ops.toArray (listed.set j true).toArray:=by rw[←Y2];exact hcl.set (by rw[hc];simp)
     unfold wpOp
     rw[ho']
     simp only
     rcases Z7 ha h with ⟨hg,h⟩ | ⟨hg,h⟩
     ·rw[if_pos hg]
      refine .inl (Vd hT ha h hw fun v μ' L' w' hm' hw' hv=> ?_);obtain ⟨fr',hv',ha'⟩:=YG ha hv.2;refine ⟨ZX (hm.trans hm') QI.nil hw',fun _ _=>ZX (hm.trans hm') hv.1 hw',?_⟩
      rw[Y2]
      exact ANB.steps hT hs hsr hlt r _ hp hcl2 hv' (hm.trans hm') hv.1 _ w' Qx ha' hw' (fun fr2 μ2 L2 a2 w2 h2=>hQ fr2 μ2 L2 a2 w2 (hm'.trans h2)) hQp
     ·rw[if_neg (by rw[hg];exact Bool.false_ne_true)]
      obtain ⟨fr',hv',ha'⟩:=YG ha h;refine ⟨ZX hm QI.nil hw,fun _ h=>h,?_⟩
      rw[Y2]
      exact ANB.steps hT hs hsr hlt r _ hp hcl2 hv' hm hk _ w Qx ha' hw hQ hQp
  ·cases hp
theorem WP.drawB {B:Nat→QW} {R:QW} (hx:P.follows .mixedOrders=true) (hT:TOk P T) {id:Nat} (keep:List Seg) (hk:QI keep L) (b:Nat) (ps:List (Nat×List Nat)) (plan:List (Bool×Nat)) {l':List Bool}
  (hs:Region.noSelect ops.toArray=true) (hp:Qbt ops ps b plan (List.replicate ops.length false)=some l') (r0:List Nat) (hl:plan.length+(b::r0).length=ops.length)
  (hsr:Qco ops (b::r0) l'=true) (hlt:QgB ops ps b r0=true)
  (h:ZN P T N ops μ keep plan fr μ L (QgY P T N ops (b::r0) K)) (hnd:N.rd=none∨Qbo ops=true:=by first | exact .inl rfl | exact .inr (by kernel_rfl)):WP P N (.region id ops.toArray true) K B R fr μ L:=by
 intro a w ha hw;refine Qfm hx hnd QcG (Qgh (S:=fun w=>JC w μ keep) (S0:=fun w=>JC w μ []) (b:=b::r0) _ _ _ _ ?_);have e1:ops.toArray.size=(b::r0).length+plan.length:=by simp at hl ⊢;omega
 have e2:Array.replicate ((b::r0).length+plan.length) false=(List.replicate ops.length false).toArray:=by simp at hl ⊢;omega
 rw[e1,e2]
 exact ANB.steps hT hs hsr hlt plan _ hp (WG.start _) h (Gh.le.refl _) hk a _ _ ha hw.drew (fun fr' μ' L' a' w' hm ha' hw' hk'=>⟨fr',μ',L',ha',hm,hw',hk'⟩) (fun _ _ _ _ _ h=>h)
end
theorem E.{u} {α:Sort u} {a:α}:a=a:=rfl
section
variable {P:Program} {T:TT} {N:NN} {ops r:List Oper} {dst:Option Tmp} {op:Op} {ty:TypeId} {pos:String} {aft:Array Edge} {K:QW} {d:Tmp} {fr:Fr} {μ:Gh} {L:List Seg} {v:Value}
theorem Pt {μ0:Gh} {keep:List Seg} {pl:List (Bool×Nat)} {i:Nat} (hd:Nat.blt d N.n=true) (hi:Jx ops i=some ⟨dst,op,ty,pos,aft,none⟩) (h:vcR P T op ((d,v)::fr) μ0 keep fun u=>Zv N dst u ((d,v)::fr) fun fr'=>ZN P T N ops μ0 keep pl fr' μ L K) :
  Zv N (some d) v fr fun fr'=>ZN P T N ops μ0 keep ((true,i)::pl) fr' μ L K:=Yc hd (Qct hi h)
end
end Go.Proofs.YtilbengnjgglhaaGreat
