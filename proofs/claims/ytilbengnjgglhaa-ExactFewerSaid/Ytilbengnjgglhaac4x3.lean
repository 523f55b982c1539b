/- ExactFewer: for every input the given law returns true, and its arguments read as before. No condition. -/
import Derived.Test.Ytilbengnjgglhaac4x2
import Derived.Test.Ytilbengnjgglhaac4x1
namespace Go.Proofs.Ytilbengnjgglhaa
open Go.RowKit
set_option linter.unusedSimpArgs false
set_option linter.unusedVariables false
structure QB where
 From:Int
 To:Int
 Meters:Int
 Secs:Int
deriving DecidableEq
def QbE (x:QB):List Value:=[.int .i64 x.From,.int .i64 x.To,.int .i64 x.Meters,.int .i64 x.Secs]
def QE:Rp QB:=Qcu 4 QbE (fun _=>rfl) (by intro x u hu;simp only[QbE,List.mem_cons,List.not_mem_nil,or_false] at hu;rcases hu with rfl | rfl | rfl | rfl<;>rfl)
structure Qq where
 Nodes:Int
 Edges:(List QB)
deriving DecidableEq
def Qgg:Rp Qq where
 sz:=2
 rep μ x cs:= ∃(A1:Option Addr) (c1:Nat),cs=[.int .i64 x.Nodes,.slice A1 x.Edges.length c1]∧(x.Edges.length≤c1∧c1≤maxLen)∧Qn QE μ A1 x.Edges
 len:=by rintro μ x cs ⟨A1,c1,rfl,_⟩;rfl
 mono:=by rintro μ μ' x cs hm ⟨A1,c1,h,hl1,ha1⟩;exact ⟨A1,c1,h,hl1,ha1.mono hm⟩
 one:=by rintro μ x cs ⟨A1,c1,rfl,_⟩ u hu;simp only[List.mem_cons,List.not_mem_nil,or_false] at hu;rcases hu with rfl | rfl<;>rfl
structure QR where
 From:Int
 To:Int
deriving DecidableEq
def Qao (x:QR):List Value:=[.int .i64 x.From,.int .i64 x.To]
def QeQ:Rp QR:=Qcu 2 Qao (fun _=>rfl) (by intro x u hu;simp only[Qao,List.mem_cons,List.not_mem_nil,or_false] at hu;rcases hu with rfl | rfl<;>rfl)
structure Qk where
 ID:ByteArray
 Depot:Int
 Shift:QR
 Grams:Int
 Kinds:Int
deriving DecidableEq
def Qab (x:Qk):List Value:=[.string x.ID,.int .i64 x.Depot,.int .i64 x.Shift.From,.int .i64 x.Shift.To,.int .i64 x.Grams,.int .i64 x.Kinds]
def Qv:Rp Qk:=Qcu 6 Qab (fun _=>rfl) (by intro x u hu;simp only[Qab,List.mem_cons,List.not_mem_nil,or_false] at hu;rcases hu with rfl | rfl | rfl | rfl | rfl | rfl<;>rfl)
structure Qh where
 Container:Int
 Node:Int
 Kind:Int
 Grams:Int
 When:QR
 Service:Int
deriving DecidableEq
def Qan (x:Qh):List Value:=[.int .i64 x.Container,.int .i64 x.Node,.int .i64 x.Kind,.int .i64 x.Grams,.int .i64 x.When.From,.int .i64 x.When.To,.int .i64 x.Service]
def Qw:Rp Qh:=Qcu 7 Qan (fun _=>rfl) (by intro x u hu;simp only[Qan,List.mem_cons,List.not_mem_nil,or_false] at hu;rcases hu with rfl | rfl | rfl | rfl | rfl | rfl | rfl<;>rfl)
structure Qc where
 Road:Qq
 Vehicles:(List Qk)
 Demands:(List Qh)
 Unload:Int
 UnloadSecs:Int
deriving DecidableEq
def QdM:Rp Qc where
 sz:=6
 rep μ x cs:= ∃(A1:Option Addr) (c1:Nat) (A2:Option Addr) (c2:Nat) (A3:Option Addr) (c3:Nat),cs=[.int .i64 x.Road.Nodes,.slice A1 x.Road.Edges.length c1,.slice A2 x.Vehicles.length c2,.slice A3 x.Demands.length c3,.int .i64 x.Unload,.int .i64 x.UnloadSecs]∧(x.Road.Edges.length≤c1∧c1≤maxLen)∧Qn QE μ A1 x.Road.Edges∧(x.Vehicles.length≤c2∧c2≤maxLen)∧Qn Qv μ A2 x.Vehicles∧(x.Demands.length≤c3∧c3≤maxLen)∧Qn Qw μ A3 x.Demands
 len:=by rintro μ x cs ⟨A1,c1,A2,c2,A3,c3,rfl,_⟩;rfl
 mono:=by rintro μ μ' x cs hm ⟨A1,c1,A2,c2,A3,c3,h,hl1,ha1,hl2,ha2,hl3,ha3⟩;exact ⟨A1,c1,A2,c2,A3,c3,h,hl1,ha1.mono hm,hl2,ha2.mono hm,hl3,ha3.mono hm⟩
 one:=by rintro μ x cs ⟨A1,c1,A2,c2,A3,c3,rfl,_⟩ u hu;simp only[List.mem_cons,List.not_mem_nil,or_false] at hu;rcases hu with rfl | rfl | rfl | rfl | rfl | rfl<;>rfl
structure QU where
 Problem:Qc
 Vehicle:Int
 Demands:(List Int)
deriving DecidableEq
def Qaj:Rp QU where
 sz:=8
 rep μ x cs:= ∃(A1:Option Addr) (c1:Nat) (A2:Option Addr) (c2:Nat) (A3:Option Addr) (c3:Nat) (A7:Option Addr) (c7:Nat),cs=[.int .i64 x.Problem.Road.Nodes,.slice A1 x.Problem.Road.Edges.length c1,.slice A2 x.Problem.Vehicles.length c2,.slice A3 x.Problem.Demands.length c3,.int .i64 x.Problem.Unload,.int .i64 x.Problem.UnloadSecs,.int .i64 x.Vehicle,.slice A7 x.Demands.length c7]∧(x.Problem.Road.Edges.length≤c1∧c1≤maxLen)∧Qn QE μ A1 x.Problem.Road.Edges∧(x.Problem.Vehicles.length≤c2∧c2≤maxLen)∧Qn Qv μ A2 x.Problem.Vehicles∧(x.Problem.Demands.length≤c3∧c3≤maxLen)∧Qn Qw μ A3 x.Problem.Demands∧(x.Demands.length≤c7∧c7≤maxLen)∧Qn QV μ A7 x.Demands
 len:=by rintro μ x cs ⟨A1,c1,A2,c2,A3,c3,A7,c7,rfl,_⟩;rfl
 mono:=by rintro μ μ' x cs hm ⟨A1,c1,A2,c2,A3,c3,A7,c7,h,hl1,ha1,hl2,ha2,hl3,ha3,hl7,ha7⟩;exact ⟨A1,c1,A2,c2,A3,c3,A7,c7,h,hl1,ha1.mono hm,hl2,ha2.mono hm,hl3,ha3.mono hm,hl7,ha7.mono hm⟩
 one:=by rintro μ x cs ⟨A1,c1,A2,c2,A3,c3,A7,c7,rfl,_⟩ u hu;simp only[List.mem_cons,List.not_mem_nil,or_false] at hu;rcases hu with rfl | rfl | rfl | rfl | rfl | rfl | rfl | rfl<;>rfl
structure Qet where
 From:Int
 Unload:Int
deriving DecidableEq
structure Yy where
 From:Int
 To:Int
deriving DecidableEq
def Qcm (x:Yy):List Value:=[.int .i64 x.From,.int .i64 x.To]
def WZ:Rp Yy:=Qcu 2 Qcm (fun _=>rfl) (by intro x u hu;simp only[Qcm,List.mem_cons,List.not_mem_nil,or_false] at hu;rcases hu with rfl | rfl<;>rfl)
structure JU where
 Nodes:Int
 Arcs:(List Yy)
deriving DecidableEq
structure Qf where
 Vehicle:Int
 Stops:(List Int)
deriving DecidableEq
structure Qd where
 Secs:Int
 Meters:Int
deriving DecidableEq
def Qcn (x:Qd):List Value:=[.int .i64 x.Secs,.int .i64 x.Meters]
def YW:Rp Qd:=Qcu 2 Qcn (fun _=>rfl) (by intro x u hu;simp only[Qcn,List.mem_cons,List.not_mem_nil,or_false] at hu;rcases hu with rfl | rfl<;>rfl)
structure YC where
 node:Int
 time:Int
 load:Int
 meters:Int
deriving DecidableEq
structure Qy where
 Stop:Int
 Node:Int
 Arrive:Int
 Start:Int
 Leave:Int
 Load:Int
deriving DecidableEq
def Qa4 (x:Qy):List Value:=[.int .i64 x.Stop,.int .i64 x.Node,.int .i64 x.Arrive,.int .i64 x.Start,.int .i64 x.Leave,.int .i64 x.Load]
def QaC:Rp Qy:=Qcu 6 Qa4 (fun _=>rfl) (by intro x u hu;simp only[Qa4,List.mem_cons,List.not_mem_nil,or_false] at hu;rcases hu with rfl | rfl | rfl | rfl | rfl | rfl<;>rfl)
structure Ql where
 place:YC
 p:Qc
 v:Qk
 legs:(List (Int×(List Qd)))
 visits:(List Qy)
deriving DecidableEq
def Qo (μ:Gh) (v:Value) (x:Ql) (so:Seg):Prop:= ∃(g:Nat) (A5:Option Addr) (c5:Nat) (A6:Option Addr) (c6:Nat) (A7:Option Addr) (c7:Nat) (m16:Nat) (es16:Array MapEntry) (cn16:Nat) (A17:Option Addr) (c17:Nat) (ch17:Seg),v= .pointer (some ⟨g,0,none⟩)∧so=((g,Obj.cells #[.int .i64 x.place.node,.int .i64 x.place.time,.int .i64 x.place.load,.int .i64 x.place.meters,.int .i64 x.p.Road.Nodes,.slice A5 x.p.Road.Edges.length c5,.slice A6 x.p.Vehicles.length c6,.slice A7 x.p.Demands.length c7,.int .i64 x.p.Unload,.int .i64 x.p.UnloadSecs,.string x.v.ID,.int .i64 x.v.Depot,.int .i64 x.v.Shift.From,.int .i64 x.v.Shift.To,.int .i64 x.v.Grams,.int .i64 x.v.Kinds,.map (some m16),.slice A17 x.visits.length c17] 70 (0,0))::((m16,Obj.map es16 cn16)::ch17))∧((x.p.Road.Edges.length≤c5∧c5≤maxLen)∧Qn QE μ A5 x.p.Road.Edges)∧((x.p.Vehicles.length≤c6∧c6≤maxLen)∧Qn Qv μ A6 x.p.Vehicles)∧((x.p.Demands.length≤c7∧c7≤maxLen)∧Qn Qw μ A7 x.p.Demands)∧Qbd YW μ es16 cn16 x.legs∧Own QaC 126 μ (.slice A17 x.visits.length c17) x.visits ch17
theorem Qo.mono {μ μ':Gh} {v:Value} {x:Ql} {so:Seg} (h:Qo μ v x so) (hm:μ.le μ'):Qo μ' v x so:=by
 obtain ⟨g,A5,c5,A6,c6,A7,c7,m16,es16,cn16,A17,c17,ch17,hv,hs,h5,h6,h7,h16,h17⟩:=h;exact ⟨g,A5,c5,A6,c6,A7,c7,m16,es16,cn16,A17,c17,ch17,hv,hs,⟨h5.1,h5.2.mono hm⟩,⟨h6.1,h6.2.mono hm⟩,⟨h7.1,h7.2.mono hm⟩,h16.mono hm,h17.mono hm⟩
theorem Qo.fl {x:Ql} {g:Nat} {A5:Option Addr} {c5:Nat} {A6:Option Addr} {c6:Nat} {A7:Option Addr} {c7:Nat} {m16:Nat} {es16:Array MapEntry} {cn16:Nat} {A17:Option Addr} {c17:Nat} {ch17:Seg}:([[(g,Obj.cells #[.int .i64 x.place.node,.int .i64 x.place.time,.int .i64 x.place.load,.int .i64 x.place.meters,.int .i64 x.p.Road.Nodes,.slice A5 x.p.Road.Edges.length c5,.slice A6 x.p.Vehicles.length c6,.slice A7 x.p.Demands.length c7,.int .i64 x.p.Unload,.int .i64 x.p.UnloadSecs,.string x.v.ID,.int .i64 x.v.Depot,.int .i64 x.v.Shift.From,.int .i64 x.v.Shift.To,.int .i64 x.v.Grams,.int .i64 x.v.Kinds,.map (some m16),.slice A17 x.visits.length c17] 70 (0,0))],[(m16,Obj.map es16 cn16)],ch17]:List Seg).flatten=((g,Obj.cells #[.int .i64 x.place.node,.int .i64 x.place.time,.int .i64 x.place.load,.int .i64 x.place.meters,.int .i64 x.p.Road.Nodes,.slice A5 x.p.Road.Edges.length c5,.slice A6 x.p.Vehicles.length c6,.slice A7 x.p.Demands.length c7,.int .i64 x.p.Unload,.int .i64 x.p.UnloadSecs,.string x.v.ID,.int .i64 x.v.Depot,.int .i64 x.v.Shift.From,.int .i64 x.v.Shift.To,.int .i64 x.v.Grams,.int .i64 x.v.Kinds,.map (some m16),.slice A17 x.visits.length c17] 70 (0,0))::((m16,Obj.map es16 cn16)::ch17)):=by simp
structure QC where
 node:Int
 leg:Qd
deriving DecidableEq
structure Qp where
 value:QC
 n:Int
deriving DecidableEq
def WA (x:Qp):List Value:=[.int .i64 x.value.node,.int .i64 x.value.leg.Secs,.int .i64 x.value.leg.Meters,.int .i64 x.n]
def QS:Rp Qp:=Qcu 4 WA (fun _=>rfl) (by intro x u hu;simp only[WA,List.mem_cons,List.not_mem_nil,or_false] at hu;rcases hu with rfl | rfl | rfl | rfl<;>rfl)
structure Qa where
 heap:(List Qp)
 count:Int
deriving DecidableEq
def Qb (μ:Gh) (v:Value) (x:Qa) (so:Seg):Prop:= ∃(g:Nat) (A1:Option Addr) (c1:Nat) (ch1:Seg),v= .pointer (some ⟨g,0,none⟩)∧so=((g,Obj.cells #[.func (.func 82) #[] #[],.slice A1 x.heap.length c1,.int .i64 x.count] 165 (0,0))::ch1)∧Own QS 167 μ (.slice A1 x.heap.length c1) x.heap ch1
theorem Qb.mono {μ μ':Gh} {v:Value} {x:Qa} {so:Seg} (h:Qb μ v x so) (hm:μ.le μ'):Qb μ' v x so:=by
 obtain ⟨g,A1,c1,ch1,hv,hs,h1⟩:=h;exact ⟨g,A1,c1,ch1,hv,hs,h1.mono hm⟩
theorem Qb.fl {x:Qa} {g:Nat} {A1:Option Addr} {c1:Nat} {ch1:Seg}:([[(g,Obj.cells #[.func (.func 82) #[] #[],.slice A1 x.heap.length c1,.int .i64 x.count] 165 (0,0))],ch1]:List Seg).flatten=((g,Obj.cells #[.func (.func 82) #[] #[],.slice A1 x.heap.length c1,.int .i64 x.count] 165 (0,0))::ch1):=by simp
def QI (μ:Gh) (v:Value) (x:(List Int)) (so:Seg):Prop:= ∃(g:Nat) (A0:Option Addr) (c0:Nat) (ch0:Seg),v= .pointer (some ⟨g,0,none⟩)∧so=((g,Obj.cells #[.slice A0 x.length c0] 29 (0,0))::ch0)∧Own QV 3 μ (.slice A0 x.length c0) x ch0
theorem QI.mono {μ μ':Gh} {v:Value} {x:(List Int)} {so:Seg} (h:QI μ v x so) (hm:μ.le μ'):QI μ' v x so:=by
 obtain ⟨g,A0,c0,ch0,hv,hs,h0⟩:=h;exact ⟨g,A0,c0,ch0,hv,hs,h0.mono hm⟩
theorem QI.fl {x:(List Int)} {g:Nat} {A0:Option Addr} {c0:Nat} {ch0:Seg}:([[(g,Obj.cells #[.slice A0 x.length c0] 29 (0,0))],ch0]:List Seg).flatten=((g,Obj.cells #[.slice A0 x.length c0] 29 (0,0))::ch0):=by simp
def Y7 (μ:Gh) (v:Value) (x:(List Bool)) (so:Seg):Prop:= ∃(g:Nat) (A0:Option Addr) (c0:Nat) (ch0:Seg),v= .pointer (some ⟨g,0,none⟩)∧so=((g,Obj.cells #[.slice A0 x.length c0] 94 (0,0))::ch0)∧Own Qdt 4 μ (.slice A0 x.length c0) x ch0
theorem Y7.mono {μ μ':Gh} {v:Value} {x:(List Bool)} {so:Seg} (h:Y7 μ v x so) (hm:μ.le μ'):Y7 μ' v x so:=by
 obtain ⟨g,A0,c0,ch0,hv,hs,h0⟩:=h;exact ⟨g,A0,c0,ch0,hv,hs,h0.mono hm⟩
theorem Y7.fl {x:(List Bool)} {g:Nat} {A0:Option Addr} {c0:Nat} {ch0:Seg}:([[(g,Obj.cells #[.slice A0 x.length c0] 94 (0,0))],ch0]:List Seg).flatten=((g,Obj.cells #[.slice A0 x.length c0] 94 (0,0))::ch0):=by simp
def QcA (x:QB):Prop:=(wfI .i64) x.From∧(wfI .i64) x.To∧(wfI .i64) x.Meters∧(wfI .i64) x.Secs
def QcB (x:Qq):Prop:=(wfI .i64) x.Nodes∧(fun xs:List QB=> ∀x∈xs,QcA x) x.Edges
def VB (x:QR):Prop:=(wfI .i64) x.From∧(wfI .i64) x.To
def QaN (x:Qk):Prop:=(fun s:ByteArray=>s.size≤maxLen) x.ID∧(wfI .i64) x.Depot∧VB x.Shift∧(wfI .i64) x.Grams∧(wfI .i64) x.Kinds
def Qbc (x:Qh):Prop:=(wfI .i64) x.Container∧(wfI .i64) x.Node∧(wfI .i64) x.Kind∧(wfI .i64) x.Grams∧VB x.When∧(wfI .i64) x.Service
def QaM (x:Qc):Prop:=QcB x.Road∧(fun xs:List Qk=> ∀x∈xs,QaN x) x.Vehicles∧(fun xs:List Qh=> ∀x∈xs,Qbc x) x.Demands∧(wfI .i64) x.Unload∧(wfI .i64) x.UnloadSecs
def We (x:QU):Prop:=QaM x.Problem∧(wfI .i64) x.Vehicle∧(fun xs:List Int=> ∀x∈xs,(wfI .i64) x) x.Demands
def YK (p1:Qc) (v2:Int):Option ((Int)⊕(Unit⊕Bool)) :=
 bif (decide (v2<((p1.Vehicles.length:Nat):Int))) then
  Option.bind (QM p1.Vehicles v2) fun x1 =>
  bif (decide (200<((x1.ID.size:Nat):Int))) then
   some (.inr (.inr true))
  else
   some (.inl (w64 (v2+1)))
 else
  some (.inr (.inl ()))
def YJ (p1:Qc):Option (Bool) :=
 Option.bind (
  bif (decide (600<((p1.Road.Edges.length:Nat):Int))) then
   some true
  else
   bif (decide (30<((p1.Vehicles.length:Nat):Int))) then
    some true
   else
    some (decide (60<((p1.Demands.length:Nat):Int)))) (fun v1 =>
  bif v1 then
   some true
  else
   Option.bind (
    iter (YK p1) (((p1.Vehicles.length:Nat):Int).toNat+1) 0) (fun o_=>QT o_ (fun _ =>
    some false) (fun rv20=>some rv20)))
def YI (x1:QU):Option (Bool) :=
 Option.bind (
  Option.bind (YJ x1.Problem) fun r1 =>
  bif (!r1) then
   bif (decide (((x1.Problem.Demands.length:Nat):Int)≤40)) then
    some (decide (((x1.Demands.length:Nat):Int)≤4))
   else
    some false
  else
   some false) (fun v1 =>
  some v1)
def QL (grams1:Int):Option (Qc) :=
 some (Qc.mk (Qq.mk 3 [(QB.mk 0 1 100 60),(QB.mk 1 0 100 60),(QB.mk 1 2 100 60),(QB.mk 2 1 100 60)]) [(Qk.mk ⟨#[118]⟩ 0 (QR.mk 0 86400) grams1 1)] [(Qh.mk 0 1 0 10 (QR.mk 0 86400) 0),(Qh.mk 1 2 0 10 (QR.mk 0 86400) 0)] 0 0)
def Z9 (r1:Qq) (j_:(List Yy)×Int):Option (((List Yy)×Int)⊕((List Yy))) :=
 oun j_ fun f1 v1 =>
 bif (decide (v1<((r1.Edges.length:Nat):Int))) then
  Option.bind (QM r1.Edges v1) fun x1 =>
  Option.bind (VT f1 [(Yy.mk x1.From x1.To)]) fun l1 =>
  some (.inl (l1,w64 (v1+1)))
 else
  some (.inr f1)
def J9 (r1:Qq):Option (JU) :=
 Option.bind (
  iter (Z9 r1) (((r1.Edges.length:Nat):Int).toNat+1) ([],0)) (fun f2 =>
  some (JU.mk r1.Nodes f2))
def Jo (g1:JU) (v2:Int):Option ((Int)⊕(Unit⊕Int)) :=
 bif (decide (v2<((g1.Arcs.length:Nat):Int))) then
  Option.bind (QM g1.Arcs v2) fun x1 =>
  Option.bind (
   bif (decide (x1.From<0)) then
    some true
   else
    bif (decide (g1.Nodes≤x1.From)) then
     some true
    else
     bif (decide (x1.To<0)) then
      some true
     else
      some (decide (g1.Nodes≤x1.To))) (fun v3 =>
   bif v3 then
    some (.inr (.inr 7))
   else
    some (.inl (w64 (v2+1))))
 else
  some (.inr (.inl ()))
def WB (g1:JU):Option (Int) :=
 Option.bind (
  bif (decide (g1.Nodes<0)) then
   some true
  else
   some (decide (64<g1.Nodes))) (fun v1 =>
  bif v1 then
   some 1
  else
   bif (decide (512<((g1.Arcs.length:Nat):Int))) then
    some 8
   else
    Option.bind (
     iter (Jo g1) (((g1.Arcs.length:Nat):Int).toNat+1) 0) (fun o_=>QT o_ (fun _ =>
     some 0) (fun rv239=>some rv239)))
def Wy (r1:Qq) (v2:Int):Option ((Int)⊕(Unit⊕Int)) :=
 bif (decide (v2<((r1.Edges.length:Nat):Int))) then
  Option.bind (QM r1.Edges v2) fun x1 =>
  Option.bind (
   bif (decide (x1.From<0)) then
    some true
   else
    bif (decide (r1.Nodes≤x1.From)) then
     some true
    else
     bif (decide (x1.To<0)) then
      some true
     else
      some (decide (r1.Nodes≤x1.To))) (fun v3 =>
   bif v3 then
    some (.inr (.inr 7))
   else
    Option.bind (
     bif (decide (x1.From=x1.To)) then
      some true
     else
      bif (decide (x1.Meters<1)) then
       some true
      else
       bif (decide (100000<x1.Meters)) then
        some true
       else
        bif (decide (x1.Secs<1)) then
         some true
        else
         some (decide (100000<x1.Secs))) (fun v4 =>
     bif v4 then
      some (.inr (.inr 1))
     else
      some (.inl (w64 (v2+1)))))
 else
  some (.inr (.inl ()))
def JT (r1:Qq):Option (Int) :=
 Option.bind (
  bif (decide (r1.Nodes<1)) then
   some true
  else
   some (decide (64<r1.Nodes))) (fun v1 =>
  bif v1 then
   some 1
  else
   bif (decide (512<((r1.Edges.length:Nat):Int))) then
    some 8
   else
    Option.bind (
     iter (Wy r1) (((r1.Edges.length:Nat):Int).toNat+1) 0) (fun o_=>QT o_ (fun _ =>
     Option.bind (J9 r1) fun r2 =>
     Option.bind (WB r2) fun r3 =>
     some r3) (fun rv263=>some rv263)))
def Jx (c1:Int):Option (Bool) :=
 Option.bind (
  bif (decide (97≤c1)) then
   bif (decide (c1≤122)) then
    some true
   else
    bif (decide (65≤c1)) then
     some (decide (c1≤90))
    else
     some false
  else
   bif (decide (65≤c1)) then
    some (decide (c1≤90))
   else
    some false) (fun v1 =>
  some v1)
def J8 (s1:ByteArray) (i1:Int):Option ((Int)⊕(Unit⊕Bool)) :=
 bif (decide (i1<((s1.size:Nat):Int))) then
  Option.bind (QdL s1 i1) fun x2 =>
  Option.bind (
   Option.bind (Jx x2) fun r2 =>
   bif (!r2) then
    bif (decide (x2<48)) then
     bif (!(decide (x2=45))) then
      bif (!(decide (x2=95))) then
       some (!(decide (x2=46)))
      else
       some false
     else
      some false
    else
     bif (decide (57<x2)) then
      bif (!(decide (x2=45))) then
       bif (!(decide (x2=95))) then
        some (!(decide (x2=46)))
       else
        some false
      else
       some false
     else
      some false
   else
    some false) (fun v2 =>
   bif v2 then
    some (.inr (.inr false))
   else
    some (.inl (w64 (i1+1))))
 else
  some (.inr (.inl ()))
def WD (F:Nat) (s1:ByteArray):Option (Bool) :=
 Option.bind (
  bif (decide (((s1.size:Nat):Int)<1)) then
   some true
  else
   bif (decide (32<((s1.size:Nat):Int))) then
    some true
   else
    Option.bind (QdL s1 0) fun x1 =>
    Option.bind (Jx x1) fun r1 =>
    some (!r1)) (fun v1 =>
  bif v1 then
   some false
  else
   Option.bind (
    iter (J8 s1) F 1) (fun o_=>QT o_ (fun _ =>
    some true) (fun rv304=>some rv304)))
def JL (F:Nat) (v1:Qk) (nodes1:Int) (materials1:Int):Option (Int) :=
 Option.bind (WD F v1.ID) fun r1 =>
 bif (!r1) then
  some 5
 else
  Option.bind (
   bif (decide (v1.Depot<0)) then
    some true
   else
    some (decide (nodes1≤v1.Depot))) (fun v2 =>
   bif v2 then
    some 7
   else
    Option.bind (
     bif (decide (v1.Shift.From<0)) then
      some true
     else
      bif (decide (v1.Shift.To≤v1.Shift.From)) then
       some true
      else
       some (decide (86400<v1.Shift.To))) (fun v3 =>
     bif v3 then
      some 19
     else
      Option.bind (
       bif (decide (v1.Grams<1)) then
        some true
       else
        some (decide (1073741824<v1.Grams))) (fun v4 =>
       bif v4 then
        some 1
       else
        Option.bind (
         bif (decide (v1.Kinds<1)) then
          some true
         else
          Option.bind (W7 (0≤materials1∧materials1≤64)) fun _ =>
          some (decide ((w64 (1*2^materials1.toNat))≤v1.Kinds))) (fun v5 =>
         bif v5 then
          some 21
         else
          some 0))))
def Zs (F:Nat) (l1:(List Qk)) (nodes1:Int) (materials1:Int) (v2:Int):Option ((Int)⊕(Unit⊕Int)) :=
 bif (decide (v2<((l1.length:Nat):Int))) then
  Option.bind (QM l1 v2) fun x1 =>
  Option.bind (JL F x1 nodes1 materials1) fun r1 =>
  bif (!(decide (r1=0))) then
   some (.inr (.inr r1))
  else
   some (.inl (w64 (v2+1)))
 else
  some (.inr (.inl ()))
def Zt (l1:(List Qk)) (j_:(List (ByteArray×Bool))×Int):Option (((List (ByteArray×Bool))×Int)⊕(Unit⊕Int)) :=
 oun j_ fun m1 v3 =>
 bif (decide (v3<((l1.length:Nat):Int))) then
  Option.bind (QM l1 v3) fun x2 =>
  bif ((V7 x2.ID m1).getD false) then
   some (.inr (.inr 6))
  else
   some (.inl ((QdO x2.ID true m1),w64 (v3+1)))
 else
  some (.inr (.inl ()))
def Jf (F:Nat) (l1:(List Qk)) (nodes1:Int) (materials1:Int):Option (Int) :=
 Option.bind (
  bif (decide (nodes1<1)) then
   some true
  else
   bif (decide (64<nodes1)) then
    some true
   else
    bif (decide (materials1<1)) then
     some true
    else
     some (decide (16<materials1))) (fun v1 =>
  bif v1 then
   some 1
  else
   bif (decide (((l1.length:Nat):Int)=0)) then
    some 10
   else
    bif (decide (16<((l1.length:Nat):Int))) then
     some 8
    else
     Option.bind (
      iter (Zs F l1 nodes1 materials1) (((l1.length:Nat):Int).toNat+1) 0) (fun o_=>QT o_ (fun _ =>
      Option.bind (
       iter (Zt l1) (((l1.length:Nat):Int).toNat+1) ([],0)) (fun o_=>QT o_ (fun _ =>
       some 0) (fun rv323=>some rv323))) (fun rv297=>some rv297)))
def ZJ (n1:Int) (low1:Int) (high1:Int):Option (Bool) :=
 Option.bind (
  bif (decide (low1≤n1)) then
   some (decide (n1≤high1))
  else
   some false) (fun v1 =>
  some v1)
def VU (
        x1:Qh) (nodes1:Int) (materials1:Int):Option (Int) :=
 Option.bind (
  Option.bind (ZJ x1.Container 0 255) fun r1 =>
  bif (!r1) then
   some true
  else
   bif (decide (x1.Node<0)) then
    some true
   else
    bif (decide (nodes1≤x1.Node)) then
     some true
    else
     bif (decide (x1.Kind<0)) then
      some true
     else
      some (decide (materials1≤x1.Kind))) (fun v1 =>
  bif v1 then
   some 7
  else
   Option.bind (
    Option.bind (ZJ x1.Grams 0 1073741824) fun r2 =>
    bif (!r2) then
     some true
    else
     bif (decide (x1.When.From<0)) then
      some true
     else
      bif (decide (x1.When.To<x1.When.From)) then
       some true
      else
       bif (decide (86400<x1.When.To)) then
        some true
       else
        Option.bind (ZJ x1.Service 0 3600) fun r3 =>
        some (!r3)) (fun v2 =>
    bif v2 then
     some 1
    else
     some 0))
def J5 (y1:Qh) (b1:Qh):Option (Bool) :=
 some (decide (y1.Container=b1.Container))
def QZ (s1:(List Qh)) (b1:Qh) (v1:Int):Option ((Int)⊕(Unit⊕Int)) :=
 bif (decide (v1<((s1.length:Nat):Int))) then
  Option.bind (QM s1 v1) fun x1 =>
  Option.bind (J5 x1 b1) fun r1 =>
  bif r1 then
   some (.inr (.inr v1))
  else
   some (.inl (w64 (v1+1)))
 else
  some (.inr (.inl ()))
def YN (s1:(List Qh)) (b1:Qh):Option (Int) :=
 Option.bind (
  iter (QZ s1 b1) (((s1.length:Nat):Int).toNat+1) 0) (fun o_=>QT o_ (fun _ =>
  some (-1)) (fun rv357=>some rv357))
def QY (s1:(List Qh)) (b1:Qh):Option (Bool) :=
 Option.bind (YN s1 b1) fun r1 =>
 some (decide (0≤r1))
def JM (l1:(List Qh)) (nodes1:Int) (materials1:Int) (v1:Int):Option ((Int)⊕(Unit⊕Int)) :=
 bif (decide (v1<((l1.length:Nat):Int))) then
  Option.bind (QM l1 v1) fun x1 =>
  Option.bind (VU x1 nodes1 materials1) fun r1 =>
  bif (!(decide (r1=0))) then
   some (.inr (.inr r1))
  else
   some (.inl (w64 (v1+1)))
 else
  some (.inr (.inl ()))
def Z8 (l1:(List Qh)) (v2:Int):Option ((Int)⊕(Unit⊕Int)) :=
 bif (decide (v2<((l1.length:Nat):Int))) then
  Option.bind (QM l1 v2) fun x2 =>
  Option.bind (Jw l1 0 v2) fun l2 =>
  Option.bind (QY l2 x2) fun r2 =>
  bif r2 then
   some (.inr (.inr 6))
  else
   some (.inl (w64 (v2+1)))
 else
  some (.inr (.inl ()))
def J4 (l1:(List Qh)) (nodes1:Int) (materials1:Int):Option (Int) :=
 bif (decide (32<((l1.length:Nat):Int))) then
  some 8
 else
  Option.bind (
   iter (JM l1 nodes1 materials1) (((l1.length:Nat):Int).toNat+1) 0) (fun o_=>QT o_ (fun _ =>
   Option.bind (
    iter (Z8 l1) (((l1.length:Nat):Int).toNat+1) 0) (fun o_=>QT o_ (fun _ =>
    some 0) (fun rv348=>some rv348))) (fun rv335=>some rv335))
def Ws (
        F:Nat) (p1:Qc):Option (Int) :=
 Option.bind (JT p1.Road) fun r1 =>
 bif (!(decide (r1=0))) then
  some r1
 else
  Option.bind (Jf F p1.Vehicles p1.Road.Nodes 16) fun r2 =>
  bif (!(decide (r2=0))) then
   some r2
  else
   Option.bind (J4 p1.Demands p1.Road.Nodes 16) fun r3 =>
   bif (!(decide (r3=0))) then
    some r3
   else
    Option.bind (
     bif (decide (p1.Unload<0)) then
      some true
     else
      some (decide (p1.Road.Nodes≤p1.Unload))) (fun v2 =>
     bif v2 then
      some 7
     else
      Option.bind (
       bif (decide (p1.UnloadSecs<0)) then
        some true
       else
        some (decide (7200<p1.UnloadSecs))) (fun v3 =>
       bif v3 then
        some 1
       else
        some 0))
def Wv (d1:Int) (b1:Qc):Option (Bool) :=
 Option.bind (
  bif (decide (d1<0)) then
   some true
  else
   some (decide (((b1.Demands.length:Nat):Int)≤d1))) (fun v1 =>
  some v1)
def Yl (s1:(List Int)) (b1:Qc) (v1:Int):Option ((Int)⊕(Unit⊕Int)) :=
 bif (decide (v1<((s1.length:Nat):Int))) then
  Option.bind (QM s1 v1) fun x1 =>
  Option.bind (Wv x1 b1) fun r1 =>
  bif r1 then
   some (.inr (.inr v1))
  else
   some (.inl (w64 (v1+1)))
 else
  some (.inr (.inl ()))
def Y8 (s1:(List Int)) (b1:Qc):Option (Int) :=
 Option.bind (
  iter (Yl s1 b1) (((s1.length:Nat):Int).toNat+1) 0) (fun o_=>QT o_ (fun _ =>
  some (-1)) (fun rv404=>some rv404))
def Yk (s1:(List Int)) (b1:Qc):Option (Bool) :=
 Option.bind (Y8 s1 b1) fun r1 =>
 some (decide (0≤r1))
def Zk (s1:(List Int)) (v1:Int) (v2:Int):Option ((Int)⊕(Unit⊕Int)) :=
 bif (decide (v2<((s1.length:Nat):Int))) then
  Option.bind (QM s1 v2) fun x1 =>
  bif (decide (v1=x1)) then
   some (.inr (.inr v2))
  else
   some (.inl (w64 (v2+1)))
 else
  some (.inr (.inl ()))
def Jy (s1:(List Int)) (v1:Int):Option (Int) :=
 Option.bind (
  iter (Zk s1 v1) (((s1.length:Nat):Int).toNat+1) 0) (fun o_=>QT o_ (fun _ =>
  some (-1)) (fun rv432=>some rv432))
def Yu (s1:(List Int)) (v1:Int):Option (Bool) :=
 Option.bind (Jy s1 v1) fun r1 =>
 some (decide (0≤r1))
def ZU (demands1:(List Int)) (v3:Int):Option ((Int)⊕(Unit⊕Int)) :=
 bif (decide (v3<((demands1.length:Nat):Int))) then
  Option.bind (QM demands1 v3) fun x1 =>
  Option.bind (Jw demands1 0 v3) fun l1 =>
  Option.bind (Yu l1 x1) fun r3 =>
  bif r3 then
   some (.inr (.inr 6))
  else
   some (.inl (w64 (v3+1)))
 else
  some (.inr (.inl ()))
def Jm (F:Nat) (p1:Qc) (vehicle1:Int) (demands1:(List Int)):Option (Int) :=
 Option.bind (Ws F p1) fun r1 =>
 bif (!(decide (r1=0))) then
  some r1
 else
  Option.bind (
   bif (decide (vehicle1<0)) then
    some true
   else
    some (decide (((p1.Vehicles.length:Nat):Int)≤vehicle1))) (fun v2 =>
   bif v2 then
    some 7
   else
    bif (decide (5<((demands1.length:Nat):Int))) then
     some 8
    else
     Option.bind (Yk demands1 p1) fun r2 =>
     bif r2 then
      some 7
     else
      Option.bind (
       iter (ZU demands1) (((demands1.length:Nat):Int).toNat+1) 0) (fun o_=>QT o_ (fun _ =>
       some 0) (fun rv447=>some rv447)))
def Jc (v1:Qk) (kind1:Int):Option (Bool) :=
 Option.bind (
  bif (decide (0≤kind1)) then
   bif (decide (kind1<16)) then
    Option.bind (W7 (0≤kind1∧kind1≤64)) fun _ =>
    some (decide ((Qha .i64 (v1.Kinds/2^kind1.toNat) 1)=1))
   else
    some false
  else
   some false) (fun v2 =>
  some v2)
def W1:Option (Qd) :=
 some (Qd.mk (-1) 0)
def ZO:Option (Qa) :=
 some (Qa.mk [] 0)
def JX (a1:Qd) (b1:Qd):Option (Bool) :=
 Option.bind (
  Option.bind (W1) fun r1 =>
  bif (decide (b1=r1)) then
   some true
  else
   bif (decide (a1.Secs<b1.Secs)) then
    some true
   else
    bif (decide (a1.Secs=b1.Secs)) then
     some (decide (a1.Meters<b1.Meters))
    else
     some false) (fun v1 =>
  some v1)
def Jd (a1:QC) (b1:QC):Option (Bool) :=
 Option.bind (
  bif (!(decide (a1.leg=b1.leg))) then
   Option.bind (JX a1.leg b1.leg) fun r1 =>
   some r1
  else
   some false) (fun v1 =>
  some v1)
def Yf (q1:Qa) (i1:Int) (k1:Int):Option (Bool) :=
 Option.bind (
  Option.bind (QM q1.heap i1) fun x1 =>
  Option.bind (QM q1.heap k1) fun x2 =>
  some (x1.value.node,x1.value.leg.Secs,x1.value.leg.Meters,x1.n,x2.value.node,x2.value.leg.Secs,x2.value.leg.Meters,x2.n)) (fun j_=>oun j_ fun f1 j_=>oun j_ fun f2 j_=>oun j_ fun f3 j_=>oun j_ fun f4 j_=>oun j_ fun f5 j_=>oun j_ fun f6 j_=>oun j_ fun f7 f8 =>
  Option.bind (Jd (QC.mk f1 (Qd.mk f2 f3)) (QC.mk f5 (Qd.mk f6 f7))) fun r1 =>
  bif r1 then
   some true
  else
   Option.bind (
    bif (decide (f4<f8)) then
     Option.bind (Jd (QC.mk f5 (Qd.mk f6 f7)) (QC.mk f1 (Qd.mk f2 f3))) fun r2 =>
     some (!r2)
    else
     some false) (fun v1 =>
    some v1))
def Yc (q1:Qa) (i1:Int) (k1:Int):Option (Qa) :=
 Option.bind (QM q1.heap k1) fun x1 =>
 Option.bind (QM q1.heap i1) fun x2 =>
 Option.bind (QM q1.heap i1) fun x3 =>
 Option.bind (QM (Zw q1.heap i1 x1) k1) fun x4 =>
 some (Qa.mk (Zw (Zw q1.heap i1 x1) k1 x2) q1.count)
def Q8 (j_:Qa×Int):Option ((Qa×Int)⊕(Qa⊕Qa)) :=
 oun j_ fun q2 i1 =>
 bif (decide (0<i1)) then
  Option.bind (Yf q2 i1 (w64 (Int.tdiv (w64 (i1-1)) 2))) fun r1 =>
  bif (!r1) then
   some (.inr (.inr q2))
  else
   Option.bind (Yc q2 i1 (w64 (Int.tdiv (w64 (i1-1)) 2))) fun r2 =>
   some (.inl (r2,w64 (Int.tdiv (w64 (i1-1)) 2)))
 else
  some (.inr (.inl q2))
def Yo (F:Nat) (q1:Qa) (x1:QC):Option (Qa) :=
 Option.bind (VT q1.heap [(Qp.mk x1 q1.count)]) fun l1 =>
 Option.bind (
  iter (Q8) F ((Qa.mk l1 (w64 (q1.count+1))),w64 (((l1.length:Nat):Int)-1))) (fun o_=>QT o_ (fun q3 =>
  some q3) (fun rv1037=>some rv1037))
def Y0 (q1:Qa):Option (Int) :=
 some ((q1.heap.length:Nat):Int)
def YQ (q1:Qa):Option (QC×Bool) :=
 Option.bind (Y0 q1) fun r1 =>
 bif (decide (r1=0)) then
  some ((QC.mk 0 (Qd.mk 0 0)),false)
 else
  Option.bind (QM q1.heap 0) fun x1 =>
  some (x1.value,true)
def pqueue_Queue_stop_sink_l1 (i1:Int) (j_:(List Qp)×Int×Int×Int):Option (((List Qp)×Int×Int×Int)⊕(((List Qp)×Int×Int))) :=
 oun j_ fun f3 j_=>oun j_ fun f4 j_=>oun j_ fun next1 k1 =>
 Option.bind (
  bif (decide (k1≤(w64 ((w64 (2*i1))+2)))) then
   some (decide (k1<((f3.length:Nat):Int)))
  else
   some false) (fun v1 =>
  bif v1 then
   Option.bind (
    Option.bind (Yf (Qa.mk f3 f4) k1 next1) fun r1 =>
    bif r1 then
     some ((Qa.mk f3 f4).heap,k1)
    else
     some ((Qa.mk f3 f4).heap,next1)) (fun j_=>oun j_ fun f5 next2 =>
    some (.inl (f5,(Qa.mk f3 f4).count,next2,w64 (k1+1))))
  else
   some (.inr (f3,f4,next1)))
def Q9 (F:Nat) (j_:(List Qp)×Int×Int):Option (((List Qp)×Int×Int)⊕(Qa)) :=
 oun j_ fun f1 j_=>oun j_ fun f2 i1 =>
 Option.bind (
  iter (pqueue_Queue_stop_sink_l1 i1) F (f1,f2,i1,w64 ((w64 (2*i1))+1))) (fun j_=>oun j_ fun f6 j_=>oun j_ fun f7 next3 =>
  bif (decide (next3=i1)) then
   some (.inr (Qa.mk f6 f7))
  else
   Option.bind (Yc (Qa.mk f6 f7) i1 next3) fun r2 =>
   some (.inl (r2.heap,r2.count,next3)))
def Yb (F:Nat) (q1:Qa):Option (Qa) :=
 Option.bind (
  iter (Q9 F) F (q1.heap,q1.count,0)) (fun rv1245=>some rv1245)
def Yi (F:Nat) (q1:Qa):Option (QC×Bool×Qa) :=
 Option.bind (YQ q1) fun j_=>oun j_ fun r1 r2 =>
 bif (!r2) then
  some (r1,false,q1)
 else
  Option.bind (Yc q1 0 (w64 (((q1.heap.length:Nat):Int)-1))) fun r3 =>
  Option.bind (Jw r3.heap (w64 (((q1.heap.length:Nat):Int)-1)) ((r3.heap.length:Nat):Int)) fun l1 =>
  Option.bind (Jw (Qc7 r3.heap (w64 (((q1.heap.length:Nat):Int)-1)) (Qp.mk (QC.mk 0 (Qd.mk 0 0)) 0)) 0 (w64 (((q1.heap.length:Nat):Int)-1))) fun l2 =>
  Option.bind (Yb F (Qa.mk l2 r3.count)) fun r4 =>
  some (r1,true,r4)
def WU (x1:QB):Option (Int×Int) :=
 some (x1.From,x1.To)
def W9 (l1:Qd) (x1:QB):Option (Qd) :=
 some (Qd.mk (w64 (l1.Secs+x1.Secs)) (w64 (l1.Meters+x1.Meters)))
def Y2 (l1:(List Qd)) (j_:(List Qd)×Int):Option (((List Qd)×Int)⊕((List Qd))) :=
 oun j_ fun out1 v1 =>
 bif (decide (v1<((l1.length:Nat):Int))) then
  Option.bind (W1) fun r2 =>
  Option.bind (QM out1 v1) fun x1 =>
  some (.inl ((Zw out1 v1 r2),w64 (v1+1)))
 else
  some (.inr out1)
def Y3 (F:Nat) (r1:Qq) (r5:QC) (j_:(List Qd)×Qa×Int):Option (((List Qd)×Qa×Int)⊕(((List Qd)×Qa))) :=
 oun j_ fun out4 j_=>oun j_ fun q2 v2 =>
 bif (decide (v2<((r1.Edges.length:Nat):Int))) then
  Option.bind (
   Option.bind (QM r1.Edges v2) fun x4 =>
   Option.bind (WU x4) fun j_=>oun j_ fun r8 r9 =>
   bif (!(decide (r8=r5.node))) then
    some (out4,q2)
   else
    Option.bind (W9 r5.leg x4) fun r10 =>
    Option.bind (QM out4 r9) fun x5 =>
    Option.bind (JX r10 x5) fun r11 =>
    bif r11 then
     Option.bind (QM out4 r9) fun x6 =>
     Option.bind (Yo F q2 (QC.mk r9 r10)) fun r12 =>
     some ((Zw out4 r9 r10),r12)
    else
     some (out4,q2)) (fun j_=>oun j_ fun out5 q3 =>
   some (.inl (out5,q3,w64 (v2+1))))
 else
  some (.inr (out4,q2))
def Y4 (F:Nat) (r1:Qq) (j_:(List Qd)×Qa):Option (((List Qd)×Qa)⊕((List Qd))) :=
 oun j_ fun out3 q1 =>
 Option.bind (Yi F q1) fun j_=>oun j_ fun r5 j_=>oun j_ fun r6 r7 =>
 bif (!r6) then
  some (.inr out3)
 else
  Option.bind (QM out3 r5.node) fun x3 =>
  bif (!(decide (x3=r5.leg))) then
   some (.inl (out3,r7))
  else
   Option.bind (
    iter (Y3 F r1 r5) (((r1.Edges.length:Nat):Int).toNat+1) (out3,r7,0)) (fun j_=>oun j_ fun out6 q4 =>
    some (.inl (out6,q4)))
def Ja (F:Nat) (r1:Qq) (f_from1:Int):Option ((List Qd)) :=
 Option.bind (WL (Qd.mk 0 0) r1.Nodes) fun l1 =>
 Option.bind (
  iter (Y2 l1) (((l1.length:Nat):Int).toNat+1) (l1,0)) (fun out2 =>
  Option.bind (QM out2 f_from1) fun x2 =>
  Option.bind (ZO) fun r3 =>
  Option.bind (Yo F r3 (QC.mk f_from1 (Qd.mk 0 0))) fun r4 =>
  Option.bind (
   iter (Y4 F r1) F ((Zw out2 f_from1 (Qd.mk 0 0)),r4)) (fun rv1055=>some rv1055))
def W0 (F:Nat) (r1:Qq) (f_from1:Int):Option ((List Qd)×Int) :=
 Option.bind (JT r1) fun r2 =>
 bif (!(decide (r2=0))) then
  some ([],r2)
 else
  Option.bind (
   bif (decide (f_from1<0)) then
    some true
   else
    some (decide (r1.Nodes≤f_from1))) (fun v2 =>
   bif v2 then
    some ([],7)
   else
    Option.bind (Ja F r1 f_from1) fun r3 =>
    some (r3,0))
def Je (F:Nat) (w1:Ql) (f_to1:Int):Option (Qd×Bool×Ql) :=
 Option.bind (
  bif (!((JR w1.place.node w1.legs).isSome)) then
   Option.bind (W0 F w1.p.Road w1.place.node) fun j_=>oun j_ fun r1 r2 =>
   some (r1,(VI w1.place.node r1 w1.legs))
  else
   some (((JR w1.place.node w1.legs).getD []),w1.legs)) (fun j_=>oun j_ fun l1 m1 =>
  Option.bind (QM l1 f_to1) fun x1 =>
  Option.bind (QM l1 f_to1) fun x2 =>
  some (x1,(decide (0≤x2.Secs)),(Ql.mk w1.place w1.p w1.v m1 w1.visits)))
def Zx (w1:Ql) (stop1:Int) (arrive1:Int) (start1:Int):Option (Ql) :=
 Option.bind (VT w1.visits [(Qy.mk stop1 w1.place.node arrive1 start1 w1.place.time w1.place.load)]) fun l1 =>
 some (Ql.mk w1.place w1.p w1.v w1.legs l1)
def ZC (F:Nat) (w1:Ql) (t1:Qf) (i1:Int):Option (Int×Ql) :=
 Option.bind (QM t1.Stops i1) fun x1 =>
 Option.bind (
  bif (!(decide (x1=(-1)))) then
   Option.bind (
    bif (decide (x1<0)) then
     some true
    else
     some (decide (((w1.p.Demands.length:Nat):Int)≤x1))) (fun v1 =>
    bif v1 then
     some (.inr (7,w1))
    else
     Option.bind (Jw t1.Stops 0 i1) fun l1 =>
     Option.bind (Yu l1 x1) fun r1 =>
     bif r1 then
      some (.inr (6,w1))
     else
      Option.bind (QM w1.p.Demands x1) fun x2 =>
      Option.bind (Jc w1.v x2.Kind) fun r2 =>
      bif (!r2) then
       some (.inr (21,w1))
      else
       Option.bind (QM w1.p.Demands x1) fun x3 =>
       some (.inl x3.Node))
  else
   some (.inl w1.p.Unload)) (fun o_=>QT o_ (fun node1 =>
  Option.bind (Je F w1 node1) fun j_=>oun j_ fun r3 j_=>oun j_ fun r4 r5 =>
  bif (!r4) then
   some (22,r5)
  else
   bif (decide (x1=(-1))) then
    Option.bind (Zx (Ql.mk (YC.mk node1 (w64 ((w64 (r5.place.time+r3.Secs))+r5.p.UnloadSecs)) 0 (w64 (r5.place.meters+r3.Meters))) r5.p r5.v r5.legs r5.visits) x1 (w64 (r5.place.time+r3.Secs)) (w64 (r5.place.time+r3.Secs))) fun r6 =>
    some (0,r6)
   else
    Option.bind (QM r5.p.Demands x1) fun x4 =>
    bif (decide (x4.When.To≤(max (w64 (r5.place.time+r3.Secs)) x4.When.From))) then
     some (19,(Ql.mk (YC.mk node1 (w64 (r5.place.time+r3.Secs)) r5.place.load (w64 (r5.place.meters+r3.Meters))) r5.p r5.v r5.legs r5.visits))
    else
     bif (decide (r5.v.Grams<(w64 (r5.place.load+x4.Grams)))) then
      some (20,(Ql.mk (YC.mk node1 (w64 (r5.place.time+r3.Secs)) r5.place.load (w64 (r5.place.meters+r3.Meters))) r5.p r5.v r5.legs r5.visits))
     else
      Option.bind (Zx (Ql.mk (YC.mk node1 (w64 ((max (w64 (r5.place.time+r3.Secs)) x4.When.From)+x4.Service)) (w64 (r5.place.load+x4.Grams)) (w64 (r5.place.meters+r3.Meters))) r5.p r5.v r5.legs r5.visits) x1 (w64 (r5.place.time+r3.Secs)) (max (w64 (r5.place.time+r3.Secs)) x4.When.From)) fun r7 =>
      some (0,r7)) (fun rv2362=>some rv2362))
def ZY (F:Nat) (w1:Ql):Option (Int×Ql) :=
 Option.bind (Je F w1 w1.v.Depot) fun j_=>oun j_ fun r1 j_=>oun j_ fun r2 r3 =>
 bif (!r2) then
  some (22,r3)
 else
  bif (!(decide (r3.place.load=0))) then
   some (20,r3)
  else
   bif (decide (r3.v.Shift.To≤(w64 (r3.place.time+r1.Secs)))) then
    some (19,(Ql.mk (YC.mk r3.v.Depot (w64 (r3.place.time+r1.Secs)) r3.place.load (w64 (r3.place.meters+r1.Meters))) r3.p r3.v r3.legs r3.visits))
   else
    Option.bind (Zx (Ql.mk (YC.mk r3.v.Depot (w64 (r3.place.time+r1.Secs)) r3.place.load (w64 (r3.place.meters+r1.Meters))) r3.p r3.v r3.legs r3.visits) (-2) (w64 (r3.place.time+r1.Secs)) (w64 (r3.place.time+r1.Secs))) fun r4 =>
    some (0,r4)
def YV (F:Nat) (t1:Qf) (j_:Ql×Int×Int):Option ((Ql×Int×Int)⊕((Ql×Int×Int))) :=
 oun j_ fun q1 j_=>oun j_ fun e1 f_at1 =>
 bif (decide (f_at1<((t1.Stops.length:Nat):Int))) then
  Option.bind (ZC F q1 t1 f_at1) fun j_=>oun j_ fun r1 r2 =>
  bif (!(decide (r1=0))) then
   some (.inr (r2,r1,f_at1))
  else
   some (.inl (r2,r1,w64 (f_at1+1)))
 else
  some (.inr (q1,e1,f_at1))
def JY (F:Nat) (p1:Qc) (t1:Qf):Option ((Option Ql)×Int×Int) :=
 Option.bind (
  bif (decide (t1.Vehicle<0)) then
   some true
  else
   some (decide (((p1.Vehicles.length:Nat):Int)≤t1.Vehicle))) (fun v1 =>
  bif v1 then
   some (none,7,0)
  else
   bif (decide (40<((t1.Stops.length:Nat):Int))) then
    some (none,8,0)
   else
    Option.bind (QM p1.Vehicles t1.Vehicle) fun x1 =>
    Option.bind (
     iter (YV F t1) (((t1.Stops.length:Nat):Int).toNat+1) ((Ql.mk (YC.mk x1.Depot x1.Shift.From 0 0) p1 x1 [] []),0,0)) (fun j_=>oun j_ fun q2 j_=>oun j_ fun e2 f_at2 =>
     Option.bind (
      bif (decide (e2=0)) then
       Option.bind (ZY F q2) fun j_=>oun j_ fun r3 r4 =>
       some (r4,r3)
      else
       some (q2,e2)) (fun j_=>oun j_ fun q3 e3 =>
      bif (!(decide (e3=0))) then
       some (none,e3,f_at2)
      else
       some ((some q3),0,0))))
def VN (F:Nat) (p1:Qc) (t1:Qf):Option (Int×Int) :=
 Option.bind (Ws F p1) fun r1 =>
 bif (!(decide (r1=0))) then
  some (0,r1)
 else
  Option.bind (JY F p1 t1) fun j_=>oun j_ fun r2 j_=>oun j_ fun r3 r4 =>
  bif (!(decide (r3=0))) then
   some (0,r3)
  else
   Option.bind (r2) fun q1 =>
   some (q1.place.meters,0)
def JI (x1:Int):Option (Bool) :=
 some (!(decide (x1=x1)))
def Z7 (x1:Int) (y1:Int):Option (Int) :=
 Option.bind (JI x1) fun r1 =>
 Option.bind (JI y1) fun r2 =>
 bif r1 then
  bif r2 then
   some 0
  else
   some (-1)
 else
  bif r2 then
   some 1
  else
   bif (decide (x1<y1)) then
    some (-1)
   else
    bif (decide (y1<x1)) then
     some 1
    else
     some 0
def QP (s11:(List Int)) (s21:(List Int)) (v1:Int):Option ((Int)⊕(Unit⊕Int)) :=
 bif (decide (v1<((s11.length:Nat):Int))) then
  Option.bind (QM s11 v1) fun x1 =>
  bif (decide (((s21.length:Nat):Int)≤v1)) then
   some (.inr (.inr 1))
  else
   Option.bind (QM s21 v1) fun x2 =>
   Option.bind (Z7 x1 x2) fun r1 =>
   bif (!(decide (r1=0))) then
    some (.inr (.inr r1))
   else
    some (.inl (w64 (v1+1)))
 else
  some (.inr (.inl ()))
def Y5 (s11:(List Int)) (s21:(List Int)):Option (Int) :=
 Option.bind (
  iter (QP s11 s21) (((s11.length:Nat):Int).toNat+1) 0) (fun o_=>QT o_ (fun _ =>
  bif (decide (((s11.length:Nat):Int)<((s21.length:Nat):Int))) then
   some (-1)
  else
   some 0) (fun rv4417=>some rv4417))
def J6 (F:Nat) (stops1:(List Int)) (b1:Qc) (b2:Int) (b3:Bool) (b4:Int) (b5:Qf):Option (Bool×Int×Qf) :=
 Option.bind (VN F b1 (Qf.mk b2 stops1)) fun j_=>oun j_ fun r1 r2 =>
 bif (!(decide (r2=0))) then
  some (b3,b4,b5)
 else
  Option.bind (
   bif (!b3) then
    some true
   else
    bif (decide (r1<b4)) then
     some true
    else
     bif (decide (r1=b4)) then
      Option.bind (Y5 stops1 b5.Stops) fun r3 =>
      some (decide (r3<0))
     else
      some false) (fun v2 =>
   Option.bind (
    bif v2 then
     Option.bind (Qc6 stops1) fun l1 =>
     some (true,r1,l1)
    else
     some (b3,b4,b5.Stops)) (fun j_=>oun j_ fun f1 j_=>oun j_ fun f2 f3 =>
    some (f1,f2,(Qf.mk b5.Vehicle f3))))
def Yg (left1:Int) (b2:Qc) (b3:Int) (b7:(List Int)) (b8:(List Int)) (rec_:Int→Unit→Qc→Int→Bool→Int→Qf→(List Int)→(List Int)→(List Bool)→Unit→Option (Bool×Int×Qf×(List Int)×(List Bool))) (j_:(List Int)×(List Bool)×Bool×Int×Int×(List Int)×Int):Option (((List Int)×(List Bool)×Bool×Int×Int×(List Int)×Int)⊕((Bool×Int×Int×(List Int)×(List Int)×(List Bool)))) :=
 oun j_ fun f1 j_=>oun j_ fun f2 j_=>oun j_ fun f3 j_=>oun j_ fun f4 j_=>oun j_ fun f5 j_=>oun j_ fun f6 v2 =>
 bif (decide (v2<((b8.length:Nat):Int))) then
  Option.bind (
   Option.bind (QM b8 v2) fun x1 =>
   Option.bind (QM f2 v2) fun x2 =>
   bif x2 then
    some (f1,f2,f3,f4,f5,f6)
   else
    Option.bind (QM f2 v2) fun x3 =>
    Option.bind (Jw f1 0 ((b7.length:Nat):Int)) fun l1 =>
    Option.bind (VT l1 [x1]) fun l2 =>
    Option.bind (rec_ (w64 (left1-1)) () b2 b3 f3 f4 (Qf.mk f5 f6) l2 b8 (Zw f2 v2 true) ()) fun j_=>oun j_ fun r4 j_=>oun j_ fun r5 j_=>oun j_ fun r6 j_=>oun j_ fun r7 r8 =>
    Option.bind (Jw r7 0 ((b7.length:Nat):Int)) fun l3 =>
    Option.bind (VT l3 [x1,(-1)]) fun l4 =>
    Option.bind (rec_ (w64 (left1-1)) () b2 b3 r4 r5 r6 l4 b8 r8 ()) fun j_=>oun j_ fun r9 j_=>oun j_ fun r10 j_=>oun j_ fun r11 j_=>oun j_ fun r12 r13 =>
    Option.bind (Jw r12 0 ((b7.length:Nat):Int)) fun l5 =>
    Option.bind (QM r13 v2) fun x4 =>
    some (l5,(Zw r13 v2 false),r9,r10,r11.Vehicle,r11.Stops)) (fun j_=>oun j_ fun f7 j_=>oun j_ fun f8 j_=>oun j_ fun f9 j_=>oun j_ fun f10 j_=>oun j_ fun f11 f12 =>
   some (.inl (f7,f8,f9,f10,f11,f12,w64 (v2+1))))
 else
  some (.inr (f3,f4,f5,f6,f1,f2))
def ZF (rec_:Int→Unit→Qc→Int→Bool→Int→Qf→(List Int)→(List Int)→(List Bool)→Unit→Option (Bool×Int×Qf×(List Int)×(List Bool))) (F:Nat) (left1:Int) (b1:Unit) (b2:Qc) (b3:Int) (b4:Bool) (b5:Int) (b6:Qf) (b7:(List Int)) (b8:(List Int)) (b9:(List Bool)) (b10:Unit):Option (Bool×Int×Qf×(List Int)×(List Bool)) :=
 bif (decide (left1=0)) then
  Option.bind (J6 F b7 b2 b3 b4 b5 b6) fun j_=>oun j_ fun r1 j_=>oun j_ fun r2 r3 =>
  some (r1,r2,r3,b7,b9)
 else
  Option.bind (
   iter (Yg left1 b2 b3 b7 b8 rec_) (((b8.length:Nat):Int).toNat+1) (b7,b9,b4,b5,b6.Vehicle,b6.Stops,0)) (fun j_=>oun j_ fun f13 j_=>oun j_ fun f14 j_=>oun j_ fun f15 j_=>oun j_ fun f16 j_=>oun j_ fun f17 f18 =>
   some (f13,f14,(Qf.mk f15 f16),f17,f18))
def Yn:Nat→Int→Unit→Qc→Int→Bool→Int→Qf→(List Int)→(List Int)→(List Bool)→Unit→Option (Bool×Int×Qf×(List Int)×(List Bool))
 | 0,_,_,_,_,_,_,_,_,_,_,_=>none
 | F+1,left1,b1,b2,b3,b4,b5,b6,b7,b8,b9,b10=>ZF (Yn F) F left1 b1 b2 b3 b4 b5 b6 b7 b8 b9 b10
def ZG (F:Nat) (demands1:(List Int)) (b1:Qc) (b2:Int) (b3:Bool) (b4:Int) (b5:Qf):Option (Bool×Int×Qf) :=
 Option.bind (WL false ((demands1.length:Nat):Int)) fun l1 =>
 Option.bind (WL (0:Int) (w64 (2*((demands1.length:Nat):Int)))) fun l2 =>
 Option.bind (Yn F ((demands1.length:Nat):Int) () b1 b2 b3 b4 b5 [] demands1 l1 ()) fun j_=>oun j_ fun r1 j_=>oun j_ fun r2 j_=>oun j_ fun r3 j_=>oun j_ fun r4 r5 =>
 some (r1,r2,r3)
def JP (F:Nat) (p1:Qc) (vehicle1:Int) (demands1:(List Int)):Option (Qf×Int×Bool) :=
 Option.bind (ZG F demands1 p1 vehicle1 false 0 (Qf.mk vehicle1 [])) fun j_=>oun j_ fun r1 j_=>oun j_ fun r2 r3 =>
 some (r3,r2,r1)
def Z0 (F:Nat) (p1:Qc) (vehicle1:Int) (demands1:(List Int)):Option (Qf×Int×Int) :=
 Option.bind (Jm F p1 vehicle1 demands1) fun r1 =>
 bif (!(decide (r1=0))) then
  some ((Qf.mk 0 []),0,r1)
 else
  Option.bind (JP F p1 vehicle1 demands1) fun j_=>oun j_ fun r2 j_=>oun j_ fun r3 r4 =>
  bif (!r4) then
   some ((Qf.mk 0 []),0,40)
  else
   some (r2,r3,0)
def ZE (F:Nat) (p1:Qc) (vehicle1:Int) (demands1:(List Int)):Option (Bool×Int) :=
 Option.bind (Jm F p1 vehicle1 demands1) fun r1 =>
 bif (!(decide (r1=0))) then
  some (false,r1)
 else
  Option.bind (JP F p1 vehicle1 demands1) fun j_=>oun j_ fun r2 j_=>oun j_ fun r3 r4 =>
  some (r4,0)
def Zo (b1:(List Int)) (y1:Int):Option ((List Int)) :=
 Option.bind (VT b1 [y1]) fun l2 =>
 some l2
def Q4 (b2:(List Int)) (j_:Int×(List Int)):Option ((Int×(List Int))⊕((List Int))) :=
 oun j_ fun v1 q2 =>
 bif (decide (v1<((b2.length:Nat):Int))) then
  Option.bind (QM b2 v1) fun x1 =>
  Option.bind (Zo q2 x1) fun r1 =>
  some (.inl (w64 (v1+1),r1))
 else
  some (.inr q2)
def Zf (b1:(List Int)) (b2:(List Int)):Option ((List Int)) :=
 Option.bind (
  iter (Q4 b2) (((b2.length:Nat):Int).toNat+1) (0,b1)) (fun q3 =>
  some q3)
def YD (b1:(List Int)):Option ((List Int)) :=
 Option.bind (Zf [] b1) fun r1 =>
 some r1
def Zp (b1:(List Int)):Option ((List Int)) :=
 Option.bind (YD b1) fun r1 =>
 some r1
def Y1 (b1:(List Int)):Option ((List Int)) :=
 Option.bind (Zp b1) fun r1 =>
 Option.bind (Qel r1) fun l1 =>
 some l1
def ZK (r2:(List Int)) (v3:Int) (j_:(List Int)×Int):Option (((List Int)×Int)⊕((List Int))) :=
 oun j_ fun l1 v4 =>
 bif (decide (v4<((r2.length:Nat):Int))) then
  Option.bind (
   Option.bind (QM r2 v4) fun x1 =>
   Option.bind (W7 (0≤v4∧v4≤64)) fun _ =>
   bif (decide ((Qha .i64 (v3/2^v4.toNat) 1)=1)) then
    Option.bind (VT l1 [x1]) fun l2 =>
    some l2
   else
    some l1) (fun l3 =>
   some (.inl (l3,w64 (v4+1))))
 else
  some (.inr l1)
def ZL (F:Nat) (p1:Qc) (vehicle1:Int) (r2:(List Int)) (j_:(List Int)×Int×Int):Option (((List Int)×Int×Int)⊕((List Int))) :=
 oun j_ fun out1 j_=>oun j_ fun v2 v3 =>
 bif (decide (v3<v2)) then
  Option.bind (
   Option.bind (
    iter (ZK r2 v3) (((r2.length:Nat):Int).toNat+1) ([],0)) (fun l4 =>
    Option.bind (
     bif (decide (((l4.length:Nat):Int)<((out1.length:Nat):Int))) then
      some true
     else
      bif (decide (((l4.length:Nat):Int)=((out1.length:Nat):Int))) then
       Option.bind (Y5 l4 out1) fun r3 =>
       some (decide (0≤r3))
      else
       some false) (fun v5 =>
     bif v5 then
      some out1
     else
      Option.bind (JP F p1 vehicle1 l4) fun j_=>oun j_ fun r4 j_=>oun j_ fun r5 r6 =>
      bif r6 then
       some l4
      else
       some out1))) (fun out2 =>
   some (.inl (out2,v2,w64 (v3+1))))
 else
  some (.inr out1)
def JO (F:Nat) (p1:Qc) (vehicle1:Int) (demands1:(List Int)):Option ((List Int)×Int) :=
 Option.bind (Jm F p1 vehicle1 demands1) fun r1 =>
 bif (!(decide (r1=0))) then
  some ([],r1)
 else
  Option.bind (Y1 demands1) fun r2 =>
  Option.bind (W7 (0≤((r2.length:Nat):Int)∧((r2.length:Nat):Int)≤64)) fun _ =>
  Option.bind (
   iter (ZL F p1 vehicle1 r2) F ([],w64 (1*2^((r2.length:Nat):Int).toNat),0)) (fun out3 =>
   some (out3,0))
def Yq (a1:(List Int)) (b1:(List Int)) (i1:Int):Option ((Int)⊕(Unit⊕Bool)) :=
 bif (decide (i1<((a1.length:Nat):Int))) then
  Option.bind (QM a1 i1) fun x1 =>
  Option.bind (QM b1 i1) fun x2 =>
  bif (!(decide (x1=x2))) then
   some (.inr (.inr false))
  else
   some (.inl (w64 (i1+1)))
 else
  some (.inr (.inl ()))
def QJ (a1:(List Int)) (b1:(List Int)):Option (Bool) :=
 bif (!(decide (((a1.length:Nat):Int)=((b1.length:Nat):Int)))) then
  some false
 else
  Option.bind (
   iter (Yq a1 b1) (((a1.length:Nat):Int).toNat+1) 0) (fun o_=>QT o_ (fun _ =>
   some true) (fun rv8048=>some rv8048))
def Q5 (
             F:Nat):Option (Bool) :=
 Option.bind (QL 20) fun r1 =>
 Option.bind (Z0 F r1 0 [1,0]) fun j_=>oun j_ fun r2 j_=>oun j_ fun r3 r4 =>
 Option.bind (QL 10) fun r5 =>
 Option.bind (Z0 F r5 0 [0,1]) fun j_=>oun j_ fun r6 j_=>oun j_ fun r7 r8 =>
 Option.bind (QL 9) fun r9 =>
 Option.bind (Z0 F r9 0 [0,1]) fun j_=>oun j_ fun r10 j_=>oun j_ fun r11 r12 =>
 Option.bind (QL 9) fun r13 =>
 Option.bind (ZE F r13 0 [0]) fun j_=>oun j_ fun r14 r15 =>
 Option.bind (QL 20) fun r16 =>
 Option.bind (ZE F r16 0 [0,1]) fun j_=>oun j_ fun r17 r18 =>
 Option.bind (QL 10) fun r19 =>
 Option.bind (JO F r19 0 [1,0]) fun j_=>oun j_ fun r20 r21 =>
 Option.bind (
  bif (decide (r4=0)) then
   bif (decide (r3=400)) then
    Option.bind (QJ r2.Stops [0,1,(-1)]) fun r22 =>
    bif r22 then
     bif (decide (r8=0)) then
      bif (decide (r7=600)) then
       Option.bind (QJ r6.Stops [0,(-1),1,(-1)]) fun r23 =>
       bif r23 then
        bif (decide (r12=40)) then
         bif (!r14) then
          bif (decide (r15=0)) then
           bif r17 then
            bif (decide (r18=0)) then
             Option.bind (QJ r20 [0,1]) fun r24 =>
             bif r24 then
              some (decide (r21=0))
             else
              some false
            else
             some false
           else
            some false
          else
           some false
         else
          some false
        else
         some false
       else
        some false
      else
       some false
     else
      some false
    else
     some false
   else
    some false
  else
   some false) (fun v19 =>
  some v19)
def YZ (F:Nat) (x1:QU) (which1:Int):Option (Bool) :=
 Option.bind (
  Option.bind (YI x1) fun r1 =>
  bif (!r1) then
   some true
  else
   some (decide (((x1.Demands.length:Nat):Int)=0))) (fun v1 =>
  bif v1 then
   Option.bind (Q5 F) fun r2 =>
   some r2
  else
   Option.bind (ZE F x1.Problem x1.Vehicle x1.Demands) fun j_=>oun j_ fun r3 r4 =>
   bif (!(decide (r4=0))) then
    Option.bind (
     bif (!r3) then
      Option.bind (Q5 F) fun r5 =>
      some r5
     else
      some false) (fun v5 =>
     some v5)
   else
    Option.bind (W7 (((x1.Demands.length:Nat):Int)≠0)) fun _ =>
    Option.bind (Jw x1.Demands 0 (Int.tmod (w64 (which1)) ((x1.Demands.length:Nat):Int))) fun l1 =>
    Option.bind (Jw x1.Demands (w64 ((Int.tmod (w64 (which1)) ((x1.Demands.length:Nat):Int))+1)) ((x1.Demands.length:Nat):Int)) fun l2 =>
    Option.bind (VT [] l1) fun l3 =>
    Option.bind (VT l3 l2) fun l4 =>
    Option.bind (ZE F x1.Problem x1.Vehicle l4) fun j_=>oun j_ fun r6 r7 =>
    Option.bind (Jw x1.Demands (Int.tmod (w64 (which1)) ((x1.Demands.length:Nat):Int)) ((x1.Demands.length:Nat):Int)) fun l5 =>
    Option.bind (Jw x1.Demands 0 (Int.tmod (w64 (which1)) ((x1.Demands.length:Nat):Int))) fun l6 =>
    Option.bind (VT [] l5) fun l7 =>
    Option.bind (VT l7 l6) fun l8 =>
    Option.bind (Z0 F x1.Problem x1.Vehicle x1.Demands) fun j_=>oun j_ fun r8 j_=>oun j_ fun r9 r10 =>
    Option.bind (Z0 F x1.Problem x1.Vehicle l8) fun j_=>oun j_ fun r11 j_=>oun j_ fun r12 r13 =>
    Option.bind (JO F x1.Problem x1.Vehicle x1.Demands) fun j_=>oun j_ fun r14 r15 =>
    Option.bind (JO F x1.Problem x1.Vehicle l8) fun j_=>oun j_ fun r16 r17 =>
    Option.bind (
     bif (decide (r7=0)) then
      bif (!r3) then
       Option.bind (QJ r8.Stops r11.Stops) fun r18 =>
       bif r18 then
        bif (decide (r9=r12)) then
         bif (decide (r10=r13)) then
          Option.bind (QJ r14 r16) fun r19 =>
          bif r19 then
           bif (decide (r15=r17)) then
            Option.bind (Q5 F) fun r20 =>
            some r20
           else
            some false
          else
           some false
         else
          some false
        else
         some false
       else
        some false
      else
       bif r6 then
        Option.bind (QJ r8.Stops r11.Stops) fun r21 =>
        bif r21 then
         bif (decide (r9=r12)) then
          bif (decide (r10=r13)) then
           Option.bind (QJ r14 r16) fun r22 =>
           bif r22 then
            bif (decide (r15=r17)) then
             Option.bind (Q5 F) fun r23 =>
             some r23
            else
             some false
           else
            some false
          else
           some false
         else
          some false
        else
         some false
       else
        some false
     else
      some false) (fun v15 =>
     some v15))
structure QiQ where
 Vehicle:Int
 Err:Int
deriving DecidableEq
def Ym (r1:Qq) (v2:Int):Option ((Int)⊕(Unit⊕Int)) :=
 bif (decide (v2<((r1.Edges.length:Nat):Int))) then
  Option.bind (QM r1.Edges v2) fun x1 =>
  Option.bind (
   bif (decide (x1.From<0)) then
    some true
   else
    bif (decide (r1.Nodes≤x1.From)) then
     some true
    else
     bif (decide (x1.To<0)) then
      some true
     else
      some (decide (r1.Nodes≤x1.To))) (fun v3 =>
   bif v3 then
    some (.inr (.inr 7))
   else
    Option.bind (
     bif (decide (x1.From=x1.To)) then
      some true
     else
      bif (decide (x1.Meters<1)) then
       some true
      else
       bif (decide (100000<x1.Meters)) then
        some true
       else
        bif (decide (x1.Secs<1)) then
         some true
        else
         some (decide (100000<x1.Secs))) (fun v4 =>
     bif v4 then
      some (.inr (.inr 1))
     else
      some (.inl (w64 (v2+1)))))
 else
  some (.inr (.inl ()))
def ZI (r1:Qq):Option (Int) :=
 Option.bind (
  bif (decide (r1.Nodes<1)) then
   some true
  else
   some (decide (64<r1.Nodes))) (fun v1 =>
  bif v1 then
   some 1
  else
   bif (decide (512<((r1.Edges.length:Nat):Int))) then
    some 8
   else
    Option.bind (
     iter (Ym r1) (((r1.Edges.length:Nat):Int).toNat+1) 0) (fun o_=>QT o_ (fun _ =>
     some 0) (fun rv21199=>some rv21199)))
def YA (c1:Int):Option (Bool) :=
 Option.bind (
  bif (decide (65≤c1)) then
   bif (decide (c1≤90)) then
    some true
   else
    bif (decide (97≤c1)) then
     some (decide (c1≤122))
    else
     some false
  else
   bif (decide (97≤c1)) then
    some (decide (c1≤122))
   else
    some false) (fun v1 =>
  some v1)
def Qz (s1:ByteArray) (i1:Int):Option ((Int)⊕(Unit⊕Bool)) :=
 bif (decide (i1<((s1.size:Nat):Int))) then
  Option.bind (QdL s1 i1) fun x2 =>
  Option.bind (
   Option.bind (YA x2) fun r2 =>
   bif (!r2) then
    bif (decide (x2<48)) then
     bif (!(decide (x2=45))) then
      bif (!(decide (x2=95))) then
       some (!(decide (x2=46)))
      else
       some false
     else
      some false
    else
     bif (decide (57<x2)) then
      bif (!(decide (x2=45))) then
       bif (!(decide (x2=95))) then
        some (!(decide (x2=46)))
       else
        some false
      else
       some false
     else
      some false
   else
    some false) (fun v2 =>
   bif v2 then
    some (.inr (.inr false))
   else
    some (.inl (w64 (i1+1))))
 else
  some (.inr (.inl ()))
def Za (s1:ByteArray):Option (Bool) :=
 Option.bind (
  bif (decide (((s1.size:Nat):Int)<1)) then
   some true
  else
   bif (decide (32<((s1.size:Nat):Int))) then
    some true
   else
    Option.bind (QdL s1 0) fun x1 =>
    Option.bind (YA x1) fun r1 =>
    some (!r1)) (fun v1 =>
  bif v1 then
   some false
  else
   Option.bind (
    iter (Qz s1) (((s1.size:Nat):Int).toNat+1) 0) (fun o_=>QT o_ (fun _ =>
    some true) (fun rv21235=>some rv21235)))
def QN (v1:Qk) (nodes1:Int) (materials1:Int):Option (Int) :=
 Option.bind (Za v1.ID) fun r1 =>
 bif (!r1) then
  some 5
 else
  Option.bind (
   bif (decide (v1.Depot<0)) then
    some true
   else
    some (decide (nodes1≤v1.Depot))) (fun v2 =>
   bif v2 then
    some 7
   else
    Option.bind (
     bif (decide (v1.Shift.From<0)) then
      some true
     else
      bif (decide (v1.Shift.To≤v1.Shift.From)) then
       some true
      else
       some (decide (86400<v1.Shift.To))) (fun v3 =>
     bif v3 then
      some 19
     else
      Option.bind (
       bif (decide (v1.Grams<1)) then
        some true
       else
        some (decide (1073741824<v1.Grams))) (fun v4 =>
       bif v4 then
        some 1
       else
        Option.bind (
         bif (decide (v1.Kinds<1)) then
          some true
         else
          Option.bind (W7 (0≤materials1∧materials1≤64)) fun _ =>
          some (decide ((w64 (1*2^materials1.toNat))≤v1.Kinds))) (fun v5 =>
         bif v5 then
          some 21
         else
          some 0))))
def QA (l1:(List Qk)) (nodes1:Int) (materials1:Int) (i1:Int):Option ((Int)⊕(Unit⊕Int)) :=
 bif (decide (i1<((l1.length:Nat):Int))) then
  Option.bind (QM l1 i1) fun x1 =>
  Option.bind (QN x1 nodes1 materials1) fun r1 =>
  bif (!(decide (r1=0))) then
   some (.inr (.inr r1))
  else
   some (.inl (w64 (i1+1)))
 else
  some (.inr (.inl ()))
def Zd (l1:(List Qk)) (i2:Int) (k1:Int):Option ((Int)⊕(Unit⊕Int)) :=
 bif (decide (k1<i2)) then
  Option.bind (QM l1 i2) fun x2 =>
  Option.bind (QM l1 k1) fun x3 =>
  bif (decide (x2.ID=x3.ID)) then
   some (.inr (.inr 6))
  else
   some (.inl (w64 (k1+1)))
 else
  some (.inr (.inl ()))
def Ze (l1:(List Qk)) (i2:Int):Option ((Int)⊕(Unit⊕Int)) :=
 bif (decide (i2<((l1.length:Nat):Int))) then
  Option.bind (
   Option.bind (
    iter (Zd l1 i2) (i2.toNat+1) 0) (fun o_=>QT o_ (fun _ =>
    some (.inl ())) (fun rv21259=>some (.inr rv21259)))) (fun o_=>QT o_ (fun _ =>
   some (.inl (w64 (i2+1)))) (fun rv21258=>some (.inr (.inr rv21258))))
 else
  some (.inr (.inl ()))
def Q6 (l1:(List Qk)) (nodes1:Int) (materials1:Int):Option (Int) :=
 Option.bind (
  bif (decide (nodes1<1)) then
   some true
  else
   bif (decide (64<nodes1)) then
    some true
   else
    bif (decide (materials1<1)) then
     some true
    else
     some (decide (16<materials1))) (fun v1 =>
  bif v1 then
   some 1
  else
   bif (decide (((l1.length:Nat):Int)=0)) then
    some 10
   else
    bif (decide (16<((l1.length:Nat):Int))) then
     some 8
    else
     Option.bind (
      iter (QA l1 nodes1 materials1) (((l1.length:Nat):Int).toNat+1) 0) (fun o_=>QT o_ (fun _ =>
      Option.bind (
       iter (Ze l1) (((l1.length:Nat):Int).toNat+1) 0) (fun o_=>QT o_ (fun _ =>
       some 0) (fun rv21251=>some rv21251))) (fun rv21230=>some rv21230)))
def QG (l1:(List Qh)) (nodes1:Int) (materials1:Int) (i1:Int):Option ((Int)⊕(Unit⊕Int)) :=
 bif (decide (i1<((
           l1.length:Nat):Int))) then
  Option.bind (QM l1 i1) fun x1 =>
  Option.bind (
   bif (decide (x1.Container<0)) then
    some true
   else
    bif (decide (256≤x1.Container)) then
     some true
    else
     bif (decide (x1.Node<0)) then
      some true
     else
      bif (decide (nodes1≤x1.Node)) then
       some true
      else
       bif (decide (x1.Kind<0)) then
        some true
       else
        some (decide (materials1≤x1.Kind))) (fun v1 =>
   bif v1 then
    some (.inr (.inr 7))
   else
    Option.bind (
     bif (decide (x1.Grams<0)) then
      some true
     else
      bif (decide (1073741824<x1.Grams)) then
       some true
      else
       bif (decide (x1.When.From<0)) then
        some true
       else
        bif (decide (x1.When.To<x1.When.From)) then
         some true
        else
         bif (decide (86400<x1.When.To)) then
          some true
         else
          bif (decide (x1.Service<0)) then
           some true
          else
           some (decide (3600<x1.Service))) (fun v2 =>
     bif v2 then
      some (.inr (.inr 1))
     else
      some (.inl (w64 (i1+1)))))
 else
  some (.inr (.inl ()))
def QW (l1:(List Qh)) (i2:Int) (k1:Int):Option ((Int)⊕(Unit⊕Int)) :=
 bif (decide (k1<i2)) then
  Option.bind (QM l1 i2) fun x2 =>
  Option.bind (QM l1 k1) fun x3 =>
  bif (decide (x2.Container=x3.Container)) then
   some (.inr (.inr 6))
  else
   some (.inl (w64 (k1+1)))
 else
  some (.inr (.inl ()))
def QX (l1:(List Qh)) (i2:Int):Option ((Int)⊕(Unit⊕Int)) :=
 bif (decide (i2<((l1.length:Nat):Int))) then
  Option.bind (
   Option.bind (
    iter (QW l1 i2) (i2.toNat+1) 0) (fun o_=>QT o_ (fun _ =>
    some (.inl ())) (fun rv21286=>some (.inr rv21286)))) (fun o_=>QT o_ (fun _ =>
   some (.inl (w64 (i2+1)))) (fun rv21285=>some (.inr (.inr rv21285))))
 else
  some (.inr (.inl ()))
def Q7 (l1:(List Qh)) (nodes1:Int) (materials1:Int):Option (Int) :=
 bif (decide (32<((l1.length:Nat):Int))) then
  some 8
 else
  Option.bind (
   iter (QG l1 nodes1 materials1) (((l1.length:Nat):Int).toNat+1) 0) (fun o_=>QT o_ (fun _ =>
   Option.bind (
    iter (QX l1) (((l1.length:Nat):Int).toNat+1) 0) (fun o_=>QT o_ (fun _ =>
    some 0) (fun rv21278=>some rv21278))) (fun rv21263=>some rv21263))
def Qj (p1:Qc):Option (Int) :=
 Option.bind (ZI p1.Road) fun r1 =>
 bif (!(decide (r1=0))) then
  some r1
 else
  Option.bind (Q6 p1.Vehicles p1.Road.Nodes 16) fun r2 =>
  bif (!(decide (r2=0))) then
   some r2
  else
   Option.bind (Q7 p1.Demands p1.Road.Nodes 16) fun r3 =>
   bif (!(decide (r3=0))) then
    some r3
   else
    Option.bind (
     bif (decide (p1.Unload<0)) then
      some true
     else
      some (decide (p1.Road.Nodes≤p1.Unload))) (fun v1 =>
     bif v1 then
      some 7
     else
      Option.bind (
       bif (decide (p1.UnloadSecs<0)) then
        some true
       else
        some (decide (7200<p1.UnloadSecs))) (fun v2 =>
       bif v2 then
        some 1
       else
        some 0))
def Z3 (v1:Qk) (kind1:Int):Option (Bool) :=
 Option.bind (
  bif (decide (kind1<0)) then
   some true
  else
   some (decide (16≤kind1))) (fun v2 =>
  bif v2 then
   some false
  else
   Option.bind (W7 (0≤kind1∧kind1≤64)) fun _ =>
   some (decide ((Int.tmod ((IntKind.u64.wrap (v1.Kinds))/2^kind1.toNat) 2)=1)))
def YL (stops1:(List Int)) (i1:Int) (x1:Int) (k1:Int):Option ((Int)⊕(Unit⊕Int)) :=
 bif (decide (k1<i1)) then
  Option.bind (QM stops1 k1) fun x2 =>
  bif (decide (x2=x1)) then
   some (.inr (.inr 6))
  else
   some (.inl (w64 (k1+1)))
 else
  some (.inr (.inl ()))
def WF (p1:Qc) (v1:Qk) (stops1:(List Int)) (i1:Int):Option (Int) :=
 Option.bind (QM stops1 i1) fun x1 =>
 bif (decide (x1=(-1))) then
  some 0
 else
  Option.bind (
   bif (decide (x1<0)) then
    some true
   else
    some (decide (((p1.Demands.length:Nat):Int)≤x1))) (fun v2 =>
   bif v2 then
    some 7
   else
    Option.bind (
     iter (YL stops1 i1 x1) (i1.toNat+1) 0) (fun o_=>QT o_ (fun _ =>
     Option.bind (QM p1.Demands x1) fun x3 =>
     Option.bind (Z3 v1 x3.Kind) fun r1 =>
     bif (!r1) then
      some 21
     else
      some 0) (fun rv21561=>some rv21561)))
def WM (r1:Qq) (n1:Int):Option (Bool) :=
 Option.bind (
  bif (decide (0≤n1)) then
   some (decide (n1<r1.Nodes))
  else
   some false) (fun v1 =>
  some v1)
def WE (a1:Qd) (b1:Qd):Option (Qd) :=
 some (Qd.mk (w64 (a1.Secs+b1.Secs)) (w64 (a1.Meters+b1.Meters)))
def Zy (a1:Qd) (b1:Qd):Option (Bool) :=
 Option.bind (
  bif (decide (a1.Secs<0)) then
   some true
  else
   some (decide (b1.Secs<0))) (fun v1 =>
  bif v1 then
   some (decide (0≤a1.Secs))
  else
   Option.bind (
    bif (decide (a1.Secs<b1.Secs)) then
     some true
    else
     bif (decide (a1.Secs=b1.Secs)) then
      some (decide (a1.Meters<b1.Meters))
     else
      some false) (fun v2 =>
    some v2))
def YR (l1:(List Qd)) (j_:(List Qd)×Int):Option (((List Qd)×Int)⊕((List Qd))) :=
 oun j_ fun out1 v1 =>
 bif (decide (v1<((l1.length:Nat):Int))) then
  Option.bind (QM out1 v1) fun x1 =>
  some (.inl ((Zw out1 v1 (Qd.mk (-1) x1.Meters)),w64 (v1+1)))
 else
  some (.inr out1)
def YS (r1:Qq) (j_:(List Qd)×Int):Option (((List Qd)×Int)⊕((List Qd))) :=
 oun j_ fun out4 v2 =>
 bif (decide (v2<((r1.Edges.length:Nat):Int))) then
  Option.bind (
   Option.bind (QM r1.Edges v2) fun x3 =>
   Option.bind (QM out4 x3.From) fun x4 =>
   bif (decide (0≤x4.Secs)) then
    Option.bind (
     Option.bind (QM out4 x3.From) fun x5 =>
     Option.bind (WE x5 (Qd.mk x3.Secs x3.Meters)) fun r4 =>
     some (r4.Secs,r4.Meters)) (fun j_=>oun j_ fun f1 f2 =>
     Option.bind (QM out4 x3.To) fun x6 =>
     Option.bind (Zy (Qd.mk f1 f2) x6) fun r5 =>
     bif r5 then
      Option.bind (QM out4 x3.To) fun x7 =>
      some (Zw out4 x3.To (Qd.mk f1 f2))
     else
      some out4)
   else
    some out4) (fun out5 =>
   some (.inl (out5,w64 (v2+1))))
 else
  some (.inr out4)
def Zn (r1:Qq) (j_:(List Qd)×Int):Option (((List Qd)×Int)⊕((List Qd))) :=
 oun j_ fun out3 n1 =>
 bif (decide (n1<r1.Nodes)) then
  Option.bind (
   Option.bind (
    iter (YS r1) (((r1.Edges.length:Nat):Int).toNat+1) (out3,0)) (fun out6 =>
    some out6)) (fun out7 =>
   some (.inl (out7,w64 (n1+1))))
 else
  some (.inr out3)
def YX (r1:Qq) (f_from1:Int):Option ((List Qd)×Int) :=
 Option.bind (ZI r1) fun r2 =>
 bif (!(decide (r2=0))) then
  some ([],r2)
 else
  Option.bind (WM r1 f_from1) fun r3 =>
  bif (!r3) then
   some ([],7)
  else
   Option.bind (WL (Qd.mk 0 0) r1.Nodes) fun l1 =>
   Option.bind (
    iter (YR l1) (((l1.length:Nat):Int).toNat+1) (l1,0)) (fun out2 =>
    Option.bind (QM out2 f_from1) fun x2 =>
    Option.bind (
     iter (Zn r1) (r1.Nodes.toNat+1) ((Zw out2 f_from1 (Qd.mk 0 x2.Meters)),0)) (fun out8 =>
     some (out8,0)))
def Zv (p1:Qc) (f_from1:Int) (f_to1:Int):Option (Qd) :=
 Option.bind (YX p1.Road f_from1) fun j_=>oun j_ fun r1 r2 =>
 Option.bind (
  bif (!(decide (r2=0))) then
   some true
  else
   bif (decide (f_to1<0)) then
    some true
   else
    some (decide (((r1.length:Nat):Int)≤f_to1))) (fun v1 =>
  bif v1 then
   some (Qd.mk (-1) 0)
  else
   Option.bind (QM r1 f_to1) fun x1 =>
   some x1)
def Js (p1:Qc) (v1:Qk) (x1:Qy) (s1:Int):Option (Qy×Int) :=
 Option.bind (
  bif (decide (0≤s1)) then
   Option.bind (QM p1.Demands s1) fun x2 =>
   some x2.Node
  else
   some p1.Unload) (fun f1 =>
  Option.bind (Zv p1 x1.Node f1) fun r1 =>
  bif (decide (r1.Secs<0)) then
   some ((Qy.mk 0 0 0 0 0 0),22)
  else
   bif (decide (s1<0)) then
    some ((Qy.mk s1 f1 (w64 (x1.Leave+r1.Secs)) (w64 (x1.Leave+r1.Secs)) (w64 ((w64 (x1.Leave+r1.Secs))+p1.UnloadSecs)) 0),0)
   else
    Option.bind (QM p1.Demands s1) fun x3 =>
    bif (decide (x3.When.To≤(max (w64 (x1.Leave+r1.Secs)) x3.When.From))) then
     some ((Qy.mk 0 0 0 0 0 0),19)
    else
     bif (decide (v1.Grams<(w64 (x1.Load+x3.Grams)))) then
      some ((Qy.mk 0 0 0 0 0 0),20)
     else
      some ((Qy.mk s1 f1 (w64 (x1.Leave+r1.Secs)) (max (w64 (x1.Leave+r1.Secs)) x3.When.From) (w64 ((max (w64 (x1.Leave+r1.Secs)) x3.When.From)+x3.Service)) (w64 (x1.Load+x3.Grams))),0))
def ZP (p1:Qc) (v1:Qk) (x1:Qy):Option (Qy×Int) :=
 Option.bind (Zv p1 x1.Node v1.Depot) fun r1 =>
 bif (decide (r1.Secs<0)) then
  some ((Qy.mk 0 0 0 0 0 0),22)
 else
  bif (decide (0<x1.Load)) then
   some ((Qy.mk 0 0 0 0 0 0),20)
  else
   bif (decide (v1.Shift.To≤(w64 (x1.Leave+r1.Secs)))) then
    some ((Qy.mk 0 0 0 0 0 0),19)
   else
    some ((Qy.mk (-2) v1.Depot (w64 (x1.Leave+r1.Secs)) (w64 (x1.Leave+r1.Secs)) (w64 (x1.Leave+r1.Secs)) 0),0)
def Yp (p1:Qc) (t1:Qf) (x1:Qk) (j_:Int×Int×Int×Int×Int×Int×(List Qy)×Int):Option ((Int×Int×Int×Int×Int×Int×(List Qy)×Int)⊕((Int×Int×Int×Int×Int×Int×(List Qy))⊕((List Qy)×Int×Int))) :=
 oun j_ fun f1 j_=>oun j_ fun f2 j_=>oun j_ fun f3 j_=>oun j_ fun f4 j_=>oun j_ fun f5 j_=>oun j_ fun f6 j_=>oun j_ fun out1 v2 =>
 bif (decide (v2<((t1.Stops.length:Nat):Int))) then
  Option.bind (QM t1.Stops v2) fun x2 =>
  Option.bind (WF p1 x1 t1.Stops v2) fun r2 =>
  Option.bind (
   bif (decide (r2=0)) then
    Option.bind (Js p1 x1 (Qy.mk f1 f2 f3 f4 f5 f6) x2) fun j_=>oun j_ fun r3 r4 =>
    some (r3.Stop,r3.Node,r3.Arrive,r3.Start,r3.Leave,r3.Load,r4)
   else
    some (f1,f2,f3,f4,f5,f6,r2)) (fun j_=>oun j_ fun f7 j_=>oun j_ fun f8 j_=>oun j_ fun f9 j_=>oun j_ fun f10 j_=>oun j_ fun f11 j_=>oun j_ fun f12 e1 =>
   bif (!(decide (e1=0))) then
    some (.inr (.inr ([],e1,v2)))
   else
    Option.bind (VT out1 [(Qy.mk f7 f8 f9 f10 f11 f12)]) fun l1 =>
    some (.inl (f7,f8,f9,f10,f11,f12,l1,w64 (v2+1))))
 else
  some (.inr (.inl (f1,f2,f3,f4,f5,f6,out1)))
def JF (p1:Qc) (t1:Qf):Option ((List Qy)×Int×Int) :=
 Option.bind (Qj p1) fun r1 =>
 bif (!(decide (r1=0))) then
  some ([],r1,0)
 else
  Option.bind (
   bif (decide (t1.Vehicle<0)) then
    some true
   else
    some (decide (((p1.Vehicles.length:Nat):Int)≤t1.Vehicle))) (fun v1 =>
   bif v1 then
    some ([],7,0)
   else
    bif (decide (40<((t1.Stops.length:Nat):Int))) then
     some ([],8,0)
    else
     Option.bind (QM p1.Vehicles t1.Vehicle) fun x1 =>
     Option.bind (
      iter (Yp p1 t1 x1) (((t1.Stops.length:Nat):Int).toNat+1) (0,x1.Depot,0,0,x1.Shift.From,0,[],0)) (fun o_=>QT o_ (fun j_=>oun j_ fun f13 j_=>oun j_ fun f14 j_=>oun j_ fun f15 j_=>oun j_ fun f16 j_=>oun j_ fun f17 j_=>oun j_ fun f18 out2 =>
      Option.bind (ZP p1 x1 (Qy.mk f13 f14 f15 f16 f17 f18)) fun j_=>oun j_ fun r5 r6 =>
      bif (!(decide (r6=0))) then
       some ([],r6,((t1.Stops.length:Nat):Int))
      else
       Option.bind (VT out2 [r5]) fun l2 =>
       some (l2,0,0)) (fun rv21536=>some rv21536)))
def YT (p1:Qc) (r1:(List Qy)) (j_:Int×Int×Int):Option ((Int×Int×Int)⊕(Int)) :=
 oun j_ fun sum1 j_=>oun j_ fun f_at1 v1 =>
 bif (decide (v1<((r1.length:Nat):Int))) then
  Option.bind (QM r1 v1) fun x2 =>
  Option.bind (Zv p1 f_at1 x2.Node) fun r4 =>
  some (.inl (w64 (sum1+r4.Meters),x2.Node,w64 (v1+1)))
 else
  some (.inr sum1)
def JE (p1:Qc) (t1:Qf):Option (Int×Int) :=
 Option.bind (JF p1 t1) fun j_=>oun j_ fun r1 j_=>oun j_ fun r2 r3 =>
 bif (!(decide (r2=0))) then
  some (0,r2)
 else
  Option.bind (QM p1.Vehicles t1.Vehicle) fun x1 =>
  Option.bind (
   iter (YT p1 r1) (((r1.length:Nat):Int).toNat+1) (0,x1.Depot,0)) (fun sum2 =>
   some (sum2,0))
end Go.Proofs.Ytilbengnjgglhaa
namespace Go.Proofs.Ytilbengnjgglhaa
open Go.RowKit
set_option linter.unusedSimpArgs false
set_option linter.unusedVariables false
attribute [local irreducible] WP YF Wf Fn AN Upd vcR vcO QaJ Zb YY WK WJ Qaq VX ZQ Qag QK
theorem Qhg {μ:Gh} {L:List Seg} {A:Option Addr} {n c:Nat} {css:List (List Value)} (hr:Rd μ L A 1 css) (hn:css.length=n) (h1: ∀cs∈css,∀u∈cs,u.oneCell'=true) (hb:n≤1000000)
  {R:Value→Gh→List Seg→Prop} (hR: ∀v ch,Z6 3 1 v css ch→R v μ (ch::L)):Fn Try.prog 30 [.slice A n c] μ L R:=by
 refine Fn.of_body YB Try.func30 (by kernel_rfl) rfl Try.ntmps30 (by simp) ?_
 simp only[Try.f30,QgF,List.zipIdx,List.map,Nat.reduceAdd]
 repeat' first | (apply QhD) | (apply Zz;exact rfl) | (apply W4) | ((first | (apply W3;exact rfl));first | (apply YE;exact rfl) | (apply QcY;exact rfl) | (apply QhF;exact rfl;exact rfl;all_goals (intro h;try (exfalso;omega))) | (apply Qe2;exact rfl;exact rfl) | (apply QfU;exact rfl;exact rfl;exact rfl;exact rfl) | (apply QfV;exact rfl;exact rfl;exact rfl;exact rfl) | (apply Qjb;exact rfl;exact rfl;exact rfl;exact rfl;all_goals (intro h)) | (apply QhE;exact rfl;exact rfl;exact rfl;exact rfl;all_goals (intro h))) | (apply Qi8) | (apply Z5) | (apply QQ;exact rfl;exact rfl;exact rfl;(focus (simp only[Wg,List.set_cons_zero,List.set_cons_succ,List.take_succ_cons,List.take_zero,List.drop_succ_cons,List.drop_zero,Value.cells,Nat.reduceAdd,Nat.reduceMul,Nat.zero_add,Nat.add_zero,List.toList_toArray,List.cons_append,List.nil_append,cyc];first | done | exact rfl))) | (apply WP.seq_k;intro K hK) | refine WP.region YB ?_ | (apply Qbz;exact rfl) | (apply Qby;exact rfl) | (apply Qe5;exact rfl;all_goals (intro h)) | (apply WP.skip) | (apply WP.ret) | (apply Qjf) | (apply QhN;exact rfl) | (first | (apply Jk;exact rfl;exact rfl;exact rfl;exact rfl;exact rfl;exact rfl;(focus (simp only[Wg,List.set_cons_zero,List.set_cons_succ,List.take_succ_cons,List.take_zero,List.drop_succ_cons,List.drop_zero,Value.cells,Nat.reduceAdd,Nat.reduceMul,Nat.zero_add,Nat.add_zero,List.toList_toArray,List.cons_append,List.nil_append,cyc];first | done | exact rfl))) | (apply ZR;exact rfl)) | (fail) | (first | (refine hK _ _ _ ?_;clear hK K) | (clear hK K;refine hK _ _ _ ?_;clear hK K) | (clear hK K;clear hK K;refine hK _ _ _ ?_;clear hK K) | (clear hK K;clear hK K;clear hK K;refine hK _ _ _ ?_;clear hK K)) | intro g
 ·subst h;obtain rfl:css=[]:=by
   cases css with
   | nil=>rfl
   | cons a r=>obtain ⟨a,ha,_⟩:=hr.2 (by simp);cases ha
  exact Upd.know fun ⟨w,hw⟩=>Upd.sub (L':=[]::L) (by simp) (Upd.done (hR _ _ Z6.nil))
 ·refine QgX YB rfl rfl rfl rfl (by decide) 0 rfl (css:=[]) ⟨by simp,.inr ⟨g,0, #[],rfl,rfl,by simp,by simp[maxLen],by simp,by simp⟩⟩ hn hr.cons h1 (by simp;omega) (by simp;omega) fun v' ch' hv _=> ?_
  repeat' first | (apply QhD) | (apply Zz;exact rfl) | (apply W4) | ((first | (apply W3;exact rfl));first | (apply YE;exact rfl) | (apply QcY;exact rfl) | (apply QhF;exact rfl;exact rfl;all_goals (intro h;try (exfalso;omega))) | (apply Qe2;exact rfl;exact rfl) | (apply QfU;exact rfl;exact rfl;exact rfl;exact rfl) | (apply QfV;exact rfl;exact rfl;exact rfl;exact rfl) | (apply Qjb;exact rfl;exact rfl;exact rfl;exact rfl;all_goals (intro h)) | (apply QhE;exact rfl;exact rfl;exact rfl;exact rfl;all_goals (intro h))) | (apply Qi8) | (apply Z5) | (apply QQ;exact rfl;exact rfl;exact rfl;(focus (simp only[Wg,List.set_cons_zero,List.set_cons_succ,List.take_succ_cons,List.take_zero,List.drop_succ_cons,List.drop_zero,Value.cells,Nat.reduceAdd,Nat.reduceMul,Nat.zero_add,Nat.add_zero,List.toList_toArray,List.cons_append,List.nil_append,cyc];first | done | exact rfl))) | (apply WP.seq_k;intro K hK) | refine WP.region YB ?_ | (apply Qbz;exact rfl) | (apply Qby;exact rfl) | (apply Qe5;exact rfl;all_goals (intro h)) | (apply WP.skip) | (apply WP.ret) | (apply Qjf) | (apply QhN;exact rfl) | (first | (apply Jk;exact rfl;exact rfl;exact rfl;exact rfl;exact rfl;exact rfl;(focus (simp only[Wg,List.set_cons_zero,List.set_cons_succ,List.take_succ_cons,List.take_zero,List.drop_succ_cons,List.drop_zero,Value.cells,Nat.reduceAdd,Nat.reduceMul,Nat.zero_add,Nat.add_zero,List.toList_toArray,List.cons_append,List.nil_append,cyc];first | done | exact rfl))) | (apply ZR;exact rfl)) | (fail) | (first | (refine hK _ _ _ ?_;clear hK K) | (clear hK K;refine hK _ _ _ ?_;clear hK K) | (clear hK K;clear hK K;refine hK _ _ _ ?_;clear hK K) | (clear hK K;clear hK K;clear hK K;refine hK _ _ _ ?_;clear hK K)) | intro g
  rw[List.nil_append] at hv
  exact Upd.done (hR _ _ hv)
end Go.Proofs.Ytilbengnjgglhaa
namespace Go.Proofs.Ytilbengnjgglhaa
open Go.RowKit
set_option linter.unusedSimpArgs false
set_option linter.unusedVariables false
section
variable {P:Program} {ops:Array Oper} {Q:Exit→Act→World→Prop} {S S0:World→Prop} {b:List Nat}
def Qe8 (P:Program) (ops:Array Oper) (Q:Exit→Act→World→Prop) (S S0:World→Prop) (b:List Nat):Nat→Array Bool→Act→World→Prop
 | 0,listed,a,w=>Region.ready .any ops listed=[]∧Q .normal a w
 | fuel+1,listed,a,w=>(Region.ready .any ops listed=[]→Q .normal a w) ∧
  ∀i∈Region.ready .any ops listed,wpOp P ops Q i (fun a' w'=>S0 w'∧(i∉b→S w→S w')∧Qe8 P ops Q S S0 b fuel (listed.setIfInBounds i true) a' w') a w
theorem Qfa: ∀(fuel:Nat) (listed:Array Bool) (a:Act) (w:World),Qe8 P ops Q S S0 b fuel listed a w→wpAny P .any ops Q fuel listed a w
 | 0,_,_,_,h=>h
 | fuel+1,_,_,_,h=>⟨h.1,fun i hi=>wpOp_mono (fun a' w' h'=>Qfa fuel _ a' w' h'.2.2) (h.2 i hi)⟩
def J1 (ops:Array Oper) (l:Array Bool):Prop:= ∀j oj,ops[j]? =some oj→l.getD j false=true→ ∀e∈oj.after,Region.binds .any e=true→l.getD e.on false=true
theorem J1.start (n:Nat):J1 ops (List.replicate n false).toArray:=by
 intro j oj _ h;rcases Nat.lt_or_ge j n with h' | h'<;>simp[h'] at h
theorem J1.set {l:Array Bool} {i:Nat} (h:J1 ops l) (hr:i∈Region.ready .any ops l):J1 ops (l.setIfInBounds i true):=by
 intro j oj hj hl e he hb
 by_cases hij:i=j
 ·subst hij;obtain ⟨_,o,ho,hall⟩:=mem_ready.1 hr
  rw[hj] at ho;injection ho with ho;subst ho
  exact getD_set_true (hall e he hb)
 ·rw[getD_set_ne false hij] at hl
  exact getD_set_true (h j oj hj hl e he hb)
def J2 (ops:Array Oper) (b i:Nat):Prop:= ∀l:Array Bool,J1 ops l→(∃ob,ops[b]? =some ob∧ ∀e∈ob.after,Region.binds .any e=true→l.getD e.on false=true)→l.getD i false=true
theorem J2.trans {d c i:Nat} {oc:Oper} (h1:J2 ops d c) (hc:ops[c]? =some oc) (h2:J2 ops c i):J2 ops d i:=fun l hl hd=>by
 have h3:=h1 l hl hd;exact h2 l hl ⟨oc,hc,fun e he hb=>hl c oc hc h3 e he hb⟩
theorem Qbe {Sx:World→Prop} {i:Nat} {oi:Oper} {v:Value} (hi:ops[i]? =some oi) (hsel: ∀(j:Nat) (o:Oper) cs c,ops[j]? =some o→o.op≠ .select cs c)
  (hQ: ∀c a w,Q (.panic c) (a.put oi.dst v) w→Q (.panic c) a w) (hb:(∀w,S0 w→Sx w)∨(Sx=S∧ ∀d∈b,J2 ops d i)) :
  ∀(fuel:Nat) (listed:Array Bool) (a:Act) (w:World),
   (∀j oj,ops[j]? =some oj→j≠i→listed.getD j true=false→(∀e∈oj.after,Region.binds .any e=true→e.on≠i)→oi.apart ops oj=true) →
   i∈Region.ready .any ops listed→J1 ops listed→YieldsIf P ops Sx oi v a→S0 w→Sx w →
   Qe8 P ops Q S S0 b fuel (listed.setIfInBounds i true) (a.put oi.dst v) w→Qe8 P ops Q S S0 b (fuel+1) listed a w:=by
 intro fuel
 induction fuel with
 | zero =>
  intro listed a w _ hr _ hy hS0 hS H;refine ⟨fun h=>(by rw[h] at hr;cases hr),fun j hj=> ?_⟩
  by_cases hji:j=i
  ·subst hji;exact hy.wpOp hi hS ⟨hS0,fun _ h=>h,H⟩
  ·have:=ready_mono hj hji
   rw[H.1] at this
   cases this
 | succ fuel ih =>
  intro listed a w hfree hr hcl hy hS0 hS H;refine ⟨fun h=>(by rw[h] at hr;cases hr),fun j hj=> ?_⟩
  by_cases hji:j=i
  ·subst hji;exact hy.wpOp hi hS ⟨hS0,fun _ h=>h,H⟩
  ·have h1:=H.2 j (ready_mono hj hji);obtain ⟨hjun,oj,hoj,hall⟩:=mem_ready.1 hj;have hnot: ∀e∈oj.after,Region.binds .any e=true→e.on≠i:=fun e he hb heq=>by
    have h1:=hall e he hb;have h0:=(mem_ready.1 hr).1
    rw[heq] at h1
    rcases Nat.lt_or_ge i listed.size with h' | h'
    ·simp[h'] at h0 h1;rw[h0] at h1;cases h1
    ·simp[Array.getElem?_eq_none h'] at h1
   have hSx: ∀w',S0 w'→(j∉b→S w→S w')→Sx w':=fun w' q0 q1=>by
    rcases hb with hb | ⟨rfl,hb⟩
    ·exact hb w' q0
    ·refine q1 (fun hjm=> ?_) hS;have h3:=hb j hjm listed hcl ⟨oj,hoj,hall⟩;have h0:=(mem_ready.1 hr).1;rcases Nat.lt_or_ge i listed.size with h' | h'
     ·simp[h'] at h0 h3;rw[h0] at h3;cases h3
     ·simp[Array.getElem?_eq_none h'] at h3
   have h2:=wpOp_putIf hoj (hfree j oj hoj hji hjun hnot) (fun cs c=>hsel i oi cs c hi) (fun cs c=>hsel j oj cs c hoj) hQ hy h1;have hfree': ∀k ok,ops[k]? =some ok→k≠i→(listed.setIfInBounds j true).getD k true=false →
     (∀e∈ok.after,Region.binds .any e=true→e.on≠i)→oi.apart ops ok=true:=fun k ok hk hki hun hno=>by
    refine hfree k ok hk hki ?_ hno
    by_cases hjk:j=k
    ·subst hjk;exact hjun
    ·rw[getD_set_ne true hjk] at hun;exact hun
   refine wpOp_mono (fun a' w' h3=>⟨h3.2.1,h3.2.2.1,ih (listed.setIfInBounds j true) a' w' hfree' (ready_mono hr (Ne.symm hji)) (hcl.set hj) h3.1 h3.2.1 (hSx w' h3.2.1 h3.2.2.1) ?_⟩) h2
   rw[Array.setIfInBounds_comm _ _ hji]
   exact h3.2.2.2
end
def Qij:Op→Bool
 | .load _ _ | .lookup _ _ _ _ | .call _=>false
 | _=>true
theorem QiI {P:Program} {T:TT} {o:Op} {fr:Fr} {μ μ':Gh} {L L':List Seg} {k:Value→Prop} (hp:Qij o=true) (h:vcR P T o fr μ L k):vcR P T o fr μ' L' k:=by
 cases o<;>first | exact h | cases hp
def Qc9 (ops:List Oper) (b i:Nat):Bool:=match ZV ops b with
 | some o=>o.after.toList.any fun e=>Region.binds .any e&&e.on==i
 | none=>false
def Qcg (ops:List Oper):Nat→List Nat→Nat→Bool
 | b,[],i=>Qc9 ops b i
 | b,k::r,i=>Qc9 ops b k&&Qcg ops k r i
theorem VV {ops:List Oper} {b i:Nat} (h:Qc9 ops b i=true): ∃ob,ops.toArray[b]? =some ob∧ ∃e∈ob.after,Region.binds .any e=true∧e.on=i:=by
 unfold Qc9 at h
 rw[W8] at h
 cases hob:ops[b]? with
 | none=>rw[hob] at h;cases h
 | some ob =>
  rw[hob] at h
  simp only[List.any_eq_true,Bool.and_eq_true,beq_iff_eq] at h
  obtain ⟨e,h10,h11,h12⟩:=h;exact ⟨ob,by simpa using hob,e,by simpa using h10,h11,h12⟩
theorem QaL {ops:List Oper}: ∀{p:List Nat} {b i:Nat} (_:Qcg ops b p i=true),J2 ops.toArray b i
 | [],b,i,h,l,hc,⟨ob,h1,h2⟩=>by
  obtain ⟨ob',h3,e,h4,h5,h6⟩:=VV h
  rw[h1] at h3;injection h3 with h3;subst h3
  rw[←h6];exact h2 e h4 h5
 | k::r,b,i,h,l,hc,⟨ob,h1,h2⟩=>by
  unfold Qcg at h
  rw[Bool.and_eq_true] at h
  obtain ⟨ob',h3,e,h4,h5,h6⟩:=VV h.1
  rw[h1] at h3;injection h3 with h3;subst h3
  have hk:l.getD k false=true:=by rw[←h6];exact h2 e h4 h5
  have hok: ∃ok,ops.toArray[k]? =some ok:=by
   cases r with
   | nil=>obtain ⟨o,h7,_⟩:=VV (show Qc9 ops k i=true from h.2);exact ⟨o,h7⟩
   | cons k' r'=>obtain ⟨o,h7,_⟩:=VV (Bool.and_eq_true _ _▸(show (Qc9 ops k k'&&Qcg ops k' r' i)=true from h.2):Qc9 ops k k'=true∧_).1;exact ⟨o,h7⟩
  obtain ⟨ok,h7⟩:=hok;exact QaL h.2 l hc ⟨ok,h7,fun e he hb=>hc k ok h7 hk e he hb⟩
def Qie (ps:List (Nat×List Nat)) (i:Nat):List Nat:=match ps with
 | []=>[]
 | p::r=>bif p.1==i then p.2 else Qie r i
def QaB (ops:List Oper) (ps:List (Nat×List Nat)) (b:Nat):List (Bool×Nat)→List Bool→Option (List Bool)
 | [],l=>some l
 | p::r,l=>match (match p.1 with
   | true=>Region.free .any ops.toArray l.toArray p.2&&(Region.ready .any ops.toArray l.toArray).contains p.2&&((match ZV ops p.2 with | some o=>Qij o.op | none=>false)||Qcg ops b (Qie ps p.2) p.2)
   | false=>Region.ready .any ops.toArray l.toArray==[p.2]) with
  | true=>QaB ops ps b r (l.set p.2 true)
  | false=>none
def Qft (ops:List Oper) (ps:List (Nat×List Nat)) (b:Nat):List Nat→Bool
 | []=>true
 | d::r=>Qcg ops d (Qie ps d) b&&Qft ops ps b r
def Qbr (ops:List Oper):List Nat→List Bool→Bool
 | [],l=>Region.ready .any ops.toArray l.toArray==[]
 | i::r,l=>(Region.ready .any ops.toArray l.toArray==[i])&&Qbr ops r (l.set i true)
section
variable {P:Program} {T:TT} {N:NN} {ops:List Oper} {μ0:Gh} {keep:List Seg} {K:QH} {fr:Fr} {μ:Gh} {L:List Seg} {fuel:Nat} {listed:List Bool} {b:Nat} {ds:List Nat} {ps:List (Nat×List Nat)}
def ANB (P:Program) (N:NN) (ops:List Oper) (μ0:Gh) (keep:List Seg) (ds:List Nat) (fuel:Nat) (listed:List Bool) (K:QH) (fr:Fr) (μ:Gh) (L:List Seg):Prop :=
 μ0.le μ→QK keep L→ ∀(a:Act) (w:World) (Q:Exit→Act→World→Prop),Agr N fr a→Inv w μ L →
  (∀fr' μ' L' a' w',μ.le μ'→Agr N fr' a'→Inv w' μ' L'→K fr' μ' L'→Q .normal a' w') →
  (∀c a d v w,Q (.panic c) (Act.put a d v) w→Q (.panic c) a w)→Qe8 P ops.toArray Q (fun w=>ZZ w μ0 keep) (fun w=>ZZ w μ0 []) ds fuel listed.toArray a w
def QfQ (P:Program) (T:TT) (N:NN) (ops:List Oper):List Nat→QH→QH
 | [],K=>K
 | i::r,K=>fun fr μ L=> ∃o,ZV ops i=some o∧o.guard=none∧vcO P T o.op o.type fr μ L fun v μ' L'=>YY N o.dst v fr fun fr'=>QfQ P T N ops r K fr' μ' L'
theorem Qky {dst:Option Tmp} {op:Op} {ty:TypeId} {pos:String} {aft:Array Edge} {r:List Nat} (hi:ZV ops b=some ⟨dst,op,ty,pos,aft,none⟩) (h:vcO P T op ty fr μ L fun v μ' L'=>YY N dst v fr fun fr'=>QfQ P T N ops r K fr' μ' L'):QfQ P T N ops (b::r) K fr μ L :=
 ⟨_,hi,rfl,h⟩
theorem Qfs {dst:Option Tmp} {op:Op} {ty:TypeId} {pos:String} {aft:Array Edge} (hi:ZV ops b=some ⟨dst,op,ty,pos,aft,none⟩) (h:vcO P T op ty fr μ L fun v μ' L'=>YY N dst v fr fun fr'=>K fr' μ' L'):QfQ P T N ops [b] K fr μ L :=
 ⟨_,hi,rfl,h⟩
theorem Qe9 {S:World→Prop} {μ0:Gh} {Q:Exit→Act→World→Prop} (hT:TOk P T): ∀(r:List Nat) (listed:List Bool) (_: ∀i∈r,i∈ds) (_:Qbr ops r listed=true) {fr:Fr} {μ:Gh} {L:List Seg} (_:QfQ P T N ops r K fr μ L) (_:μ0.le μ) (a:Act) (w:World) (_:Agr N fr a) (_:Inv w μ L)
  (_: ∀fr' μ' L' a' w',μ.le μ'→Agr N fr' a'→Inv w' μ' L'→K fr' μ' L'→Q .normal a' w'),Qe8 P ops.toArray Q S (fun w=>ZZ w μ0 []) ds r.length listed.toArray a w
 | [],listed,_,hs,fr,μ,L,h,hm,a,w,ha,hw,hQ=>by
  simp only[Qbr,beq_iff_eq] at hs
  exact ⟨hs,hQ fr μ L a w (Gh.le.refl _) ha hw h⟩
 | i::r,listed,hd,hs,fr,μ,L,h,hm,a,w,ha,hw,hQ=>by
  simp only[Qbr,Bool.and_eq_true,beq_iff_eq] at hs
  obtain ⟨hr,hs⟩:=hs;obtain ⟨o,ho,hg,h⟩:=h
  rw[W8] at ho
  have ho':ops.toArray[i]? =some o:=by simpa using ho
  refine ⟨fun h0=>absurd (hr▸h0) (by simp),fun j hj=> ?_⟩
  rw[hr] at hj
  have hj':j=i:=by simpa using hj
  subst hj';unfold wpOp
  rw[ho']
  simp only
  have hwt:Region.wanted o (yielded ops.toArray a.tmps)=true:=by unfold Region.wanted;rw[hg]
  rw[if_pos hwt]
  refine .inl (Wt hT ha h hw fun v μ' L' w' hm' hw' hv=> ?_);obtain ⟨fr',hv',ha'⟩:=Yj ha hv;refine ⟨Zi (hm.trans hm') QK.nil hw',fun hne=>absurd (hd j (by simp)) hne,?_⟩
  rw[Yw]
  exact Qe9 hT r _ (fun k hk=>hd k (by simp[hk])) hs hv' (hm.trans hm') _ _ ha' hw' fun fr2 μ2 L2 a2 w2 h2=>hQ fr2 μ2 L2 a2 w2 (hm'.trans h2)
theorem Qdl: ∀{r:List Nat} (_:Qft ops ps b r=true),∀d∈r,J2 ops.toArray d b
 | c::r,h,d,hd=>by
  simp only[Qft,Bool.and_eq_true] at h
  rcases List.mem_cons.1 hd with rfl | hd
  ·exact QaL h.1
  ·exact Qdl h.2 d hd
theorem ANB.steps (hT:TOk P T) (hs:Region.noSelect ops.toArray=true) {listed':List Bool} {r0:List Nat} (hsr:Qbr ops (b::r0) listed'=true) (hlt:Qft ops ps b r0=true) :
  ∀(plan:List (Bool×Nat)) (listed:List Bool) (_:QaB ops ps b plan listed=some listed') (_:J1 ops.toArray listed.toArray) {fr:Fr} {μ:Gh} {L:List Seg}
  (_:Zb P T N ops μ0 keep plan fr μ L (QfQ P T N ops (b::r0) K)),ANB P N ops μ0 keep (b::r0) ((b::r0).length+plan.length) listed K fr μ L
 | [],listed,hp,_,fr,μ,L,h=>by
  simp only[QaB,Option.some.injEq] at hp
  subst hp;intro hm hk a w Q ha hw hQ hQp;exact Qe9 hT (b::r0) _ (fun i hi=>hi) hsr h hm a w ha hw hQ
 | (q,i)::r,listed,hp,hcl,fr,μ,L,h=>by
  intro hm hk a w Qx ha hw hQ hQp;unfold QaB at hp
  split at hp
  ·rename_i hc
   unfold Zb at h
   simp only[W8] at h hc
   cases ho:ops[i]? with
   | none=>rw[ho] at h;exact h.elim
   | some o =>
    rw[ho] at h
    have ho':ops.toArray[i]? =some o:=by simpa using ho
    show Qe8 P ops.toArray Qx _ _ (b::r0) (((b::r0).length+r.length)+1) listed.toArray a w
    cases q with
    | true =>
     simp only[Bool.and_eq_true,Bool.or_eq_true,ho] at h hc
     have hri:i∈Region.ready .any ops.toArray listed.toArray:=by simpa using hc.1.2
     have hcl2:J1 ops.toArray (listed.set i true).toArray:=by rw[←Yw];exact hcl.set hri
     have hcont: ∀v,YY N o.dst v fr (fun fr'=>Zb P T N ops μ0 keep r fr' μ L (QfQ P T N ops (b::r0) K)) →
       Qe8 P ops.toArray Qx (fun w=>ZZ w μ0 keep) (fun w=>ZZ w μ0 []) (b::r0) ((b::r0).length+r.length) (listed.toArray.setIfInBounds i true) (a.put o.dst v) w:=by
      intro v hv;obtain ⟨fr',hv',ha'⟩:=Yj ha hv
      rw[Yw]
      exact ANB.steps hT hs hsr hlt r _ hp hcl2 hv' hm hk _ w Qx ha' hw hQ hQp
     have h00:ZZ w μ0 []:=Zi hm QK.nil hw;rcases Zq ha h with ⟨hg,h⟩ | ⟨hg,h⟩
     ·rcases hc.2 with hpu | hwt
      ·obtain ⟨v,hv,hrun⟩:=VP hT ha (QiI (μ':=μ0) (L':=[]) hpu h);exact Qbe (Sx:=fun w=>ZZ w μ0 []) ho' (Region.noSelect_spec hs) (fun c a w h=>hQp c a _ _ w h) (.inl fun _ h=>h) _ _ a w (Region.free_spec ho' hc.1.1) hri hcl (.inl ⟨hg,fun w hw=>hrun w hw⟩) h00 h00 (hcont v hv)
      ·have hw0:J2 ops.toArray b i:=QaL hwt;have hwb: ∀d∈b::r0,J2 ops.toArray d i:=fun d hd=>by
        rcases List.mem_cons.1 hd with rfl | hd
        ·exact hw0
        ·simp only[Qbr,Bool.and_eq_true,beq_iff_eq] at hsr
         obtain ⟨_,ob,hob,_⟩:=mem_ready.1 (show b∈Region.ready .any ops.toArray listed'.toArray by rw[hsr.1];simp);exact (Qdl hlt d hd).trans hob hw0
       obtain ⟨v,hv,hrun⟩:=VP hT ha h;exact Qbe (Sx:=fun w=>ZZ w μ0 keep) ho' (Region.noSelect_spec hs) (fun c a w h=>hQp c a _ _ w h) (.inr ⟨rfl,hwb⟩) _ _ a w (Region.free_spec ho' hc.1.1) hri hcl (.inl ⟨hg,fun w hw=>hrun w hw⟩) h00 (Zi hm hk hw) (hcont v hv)
     ·exact Qbe (Sx:=fun w=>ZZ w μ0 []) ho' (Region.noSelect_spec hs) (fun c a w h=>hQp c a _ _ w h) (.inl fun _ h=>h) _ _ a w (Region.free_spec ho' hc.1.1) hri hcl (.inr ⟨hg,rfl⟩) h00 h00 (hcont undef h)
    | false =>
     simp only[beq_iff_eq] at h hc
     refine ⟨fun h0=>absurd (hc▸h0) (by simp),fun j hj=> ?_⟩
     rw[hc] at hj
     have hj':j=i:=by simpa using hj
     subst hj';have hcl2:J1 ops.toArray (listed.set j true).toArray:=by rw[←Yw];exact hcl.set (by rw[hc];simp)
     unfold wpOp
     rw[ho']
     simp only
     rcases Zq ha h with ⟨hg,h⟩ | ⟨hg,h⟩
     ·rw[if_pos hg]
      refine .inl (Wt hT ha h hw fun v μ' L' w' hm' hw' hv=> ?_);obtain ⟨fr',hv',ha'⟩:=Yj ha hv.2;refine ⟨Zi (hm.trans hm') QK.nil hw',fun _ _=>Zi (hm.trans hm') hv.1 hw',?_⟩
      rw[Yw]
      exact ANB.steps hT hs hsr hlt r _ hp hcl2 hv' (hm.trans hm') hv.1 _ w' Qx ha' hw' (fun fr2 μ2 L2 a2 w2 h2=>hQ fr2 μ2 L2 a2 w2 (hm'.trans h2)) hQp
     ·rw[if_neg (by rw[hg];exact Bool.false_ne_true)]
      obtain ⟨fr',hv',ha'⟩:=Yj ha h;refine ⟨Zi hm QK.nil hw,fun _ h=>h,?_⟩
      rw[Yw]
      exact ANB.steps hT hs hsr hlt r _ hp hcl2 hv' hm hk _ w Qx ha' hw hQ hQp
  ·cases hp
theorem WP.drawB {B:Nat→QH} {R:QH} (hx:P.follows .mixedOrders=true) (hT:TOk P T) {id:Nat} (keep:List Seg) (hk:QK keep L) (b:Nat) (ps:List (Nat×List Nat)) (plan:List (Bool×Nat)) {l':List Bool}
  (hs:Region.noSelect ops.toArray=true) (hp:QaB ops ps b plan (List.replicate ops.length false)=some l') (r0:List Nat) (hl:plan.length+(b::r0).length=ops.length)
  (hsr:Qbr ops (b::r0) l'=true) (hlt:Qft ops ps b r0=true)
  (h:Zb P T N ops μ keep plan fr μ L (QfQ P T N ops (b::r0) K)) (hnd:N.rd=none∨Qaw ops=true:=by first | exact .inl rfl | exact .inr (by kernel_rfl)):WP P N (.region id ops.toArray true) K B R fr μ L:=by
 intro a w ha hw;refine Qef hx hnd QbK (Qfa (S:=fun w=>ZZ w μ keep) (S0:=fun w=>ZZ w μ []) (b:=b::r0) _ _ _ _ ?_);have e1:ops.toArray.size=(b::r0).length+plan.length:=by simp at hl ⊢;omega
 have e2:Array.replicate ((b::r0).length+plan.length) false=(List.replicate ops.length false).toArray:=by simp at hl ⊢;omega
 rw[e1,e2]
 exact ANB.steps hT hs hsr hlt plan _ hp (J1.start _) h (Gh.le.refl _) hk a _ _ ha hw.drew (fun fr' μ' L' a' w' hm ha' hw' hk'=>⟨fr',μ',L',ha',hm,hw',hk'⟩) (fun _ _ _ _ _ h=>h)
end
theorem E.{u} {α:Sort u} {a:α}:a=a:=rfl
section
variable {P:Program} {T:TT} {N:NN} {ops r:List Oper} {dst:Option Tmp} {op:Op} {ty:TypeId} {pos:String} {aft:Array Edge} {K:QH} {d:Tmp} {fr:Fr} {μ:Gh} {L:List Seg} {v:Value}
theorem Pt {μ0:Gh} {keep:List Seg} {pl:List (Bool×Nat)} {i:Nat} (hd:Nat.blt d N.n=true) (hi:ZV ops i=some ⟨dst,op,ty,pos,aft,none⟩) (h:vcR P T op ((d,v)::fr) μ0 keep fun u=>YY N dst u ((d,v)::fr) fun fr'=>Zb P T N ops μ0 keep pl fr' μ L K) :
  YY N (some d) v fr fun fr'=>Zb P T N ops μ0 keep ((true,i)::pl) fr' μ L K:=Zz hd (Qeq hi h)
end
end Go.Proofs.Ytilbengnjgglhaa
