/- ExactMost: for every input the given law returns true, and its arguments read as before. No condition. -/
import Derived.Test.Ytilbengnjgglhaac3x2
import Derived.Test.Ytilbengnjgglhaac3x1
namespace Go.Proofs.Ytilbengnjgglhaa
open Go.RowKit
set_option linter.unusedSimpArgs false
set_option linter.unusedVariables false
structure QE where
 From:Int
 To:Int
 Meters:Int
 Secs:Int
deriving DecidableEq
def QbD (x:QE):List Value:=[.int .i64 x.From,.int .i64 x.To,.int .i64 x.Meters,.int .i64 x.Secs]
def QH:Rp QE:=Qcx 4 QbD (fun _=>rfl) (by intro x u hu;simp only[QbD,List.mem_cons,List.not_mem_nil,or_false] at hu;rcases hu with rfl | rfl | rfl | rfl<;>rfl)
structure Qr where
 Nodes:Int
 Edges:(List QE)
deriving DecidableEq
def Qgi:Rp Qr where
 sz:=2
 rep μ x cs:= ∃(A1:Option Addr) (c1:Nat),cs=[.int .i64 x.Nodes,.slice A1 x.Edges.length c1]∧(x.Edges.length≤c1∧c1≤maxLen)∧Qp QH μ A1 x.Edges
 len:=by rintro μ x cs ⟨A1,c1,rfl,_⟩;rfl
 mono:=by rintro μ μ' x cs hm ⟨A1,c1,h,hl1,ha1⟩;exact ⟨A1,c1,h,hl1,ha1.mono hm⟩
 one:=by rintro μ x cs ⟨A1,c1,rfl,_⟩ u hu;simp only[List.mem_cons,List.not_mem_nil,or_false] at hu;rcases hu with rfl | rfl<;>rfl
structure QT where
 From:Int
 To:Int
deriving DecidableEq
def Qao (x:QT):List Value:=[.int .i64 x.From,.int .i64 x.To]
def QeU:Rp QT:=Qcx 2 Qao (fun _=>rfl) (by intro x u hu;simp only[Qao,List.mem_cons,List.not_mem_nil,or_false] at hu;rcases hu with rfl | rfl<;>rfl)
structure Qk where
 ID:ByteArray
 Depot:Int
 Shift:QT
 Grams:Int
 Kinds:Int
deriving DecidableEq
def Qaa (x:Qk):List Value:=[.string x.ID,.int .i64 x.Depot,.int .i64 x.Shift.From,.int .i64 x.Shift.To,.int .i64 x.Grams,.int .i64 x.Kinds]
def Qv:Rp Qk:=Qcx 6 Qaa (fun _=>rfl) (by intro x u hu;simp only[Qaa,List.mem_cons,List.not_mem_nil,or_false] at hu;rcases hu with rfl | rfl | rfl | rfl | rfl | rfl<;>rfl)
structure Qg where
 Container:Int
 Node:Int
 Kind:Int
 Grams:Int
 When:QT
 Service:Int
deriving DecidableEq
def Qan (x:Qg):List Value:=[.int .i64 x.Container,.int .i64 x.Node,.int .i64 x.Kind,.int .i64 x.Grams,.int .i64 x.When.From,.int .i64 x.When.To,.int .i64 x.Service]
def Qy:Rp Qg:=Qcx 7 Qan (fun _=>rfl) (by intro x u hu;simp only[Qan,List.mem_cons,List.not_mem_nil,or_false] at hu;rcases hu with rfl | rfl | rfl | rfl | rfl | rfl | rfl<;>rfl)
structure Qc where
 Road:Qr
 Vehicles:(List Qk)
 Demands:(List Qg)
 Unload:Int
 UnloadSecs:Int
deriving DecidableEq
def QdQ:Rp Qc where
 sz:=6
 rep μ x cs:= ∃(A1:Option Addr) (c1:Nat) (A2:Option Addr) (c2:Nat) (A3:Option Addr) (c3:Nat),cs=[.int .i64 x.Road.Nodes,.slice A1 x.Road.Edges.length c1,.slice A2 x.Vehicles.length c2,.slice A3 x.Demands.length c3,.int .i64 x.Unload,.int .i64 x.UnloadSecs]∧(x.Road.Edges.length≤c1∧c1≤maxLen)∧Qp QH μ A1 x.Road.Edges∧(x.Vehicles.length≤c2∧c2≤maxLen)∧Qp Qv μ A2 x.Vehicles∧(x.Demands.length≤c3∧c3≤maxLen)∧Qp Qy μ A3 x.Demands
 len:=by rintro μ x cs ⟨A1,c1,A2,c2,A3,c3,rfl,_⟩;rfl
 mono:=by rintro μ μ' x cs hm ⟨A1,c1,A2,c2,A3,c3,h,hl1,ha1,hl2,ha2,hl3,ha3⟩;exact ⟨A1,c1,A2,c2,A3,c3,h,hl1,ha1.mono hm,hl2,ha2.mono hm,hl3,ha3.mono hm⟩
 one:=by rintro μ x cs ⟨A1,c1,A2,c2,A3,c3,rfl,_⟩ u hu;simp only[List.mem_cons,List.not_mem_nil,or_false] at hu;rcases hu with rfl | rfl | rfl | rfl | rfl | rfl<;>rfl
structure QF where
 Problem:Qc
 Vehicle:Int
 Demands:(List Int)
deriving DecidableEq
def Qai:Rp QF where
 sz:=8
 rep μ x cs:= ∃(A1:Option Addr) (c1:Nat) (A2:Option Addr) (c2:Nat) (A3:Option Addr) (c3:Nat) (A7:Option Addr) (c7:Nat),cs=[.int .i64 x.Problem.Road.Nodes,.slice A1 x.Problem.Road.Edges.length c1,.slice A2 x.Problem.Vehicles.length c2,.slice A3 x.Problem.Demands.length c3,.int .i64 x.Problem.Unload,.int .i64 x.Problem.UnloadSecs,.int .i64 x.Vehicle,.slice A7 x.Demands.length c7]∧(x.Problem.Road.Edges.length≤c1∧c1≤maxLen)∧Qp QH μ A1 x.Problem.Road.Edges∧(x.Problem.Vehicles.length≤c2∧c2≤maxLen)∧Qp Qv μ A2 x.Problem.Vehicles∧(x.Problem.Demands.length≤c3∧c3≤maxLen)∧Qp Qy μ A3 x.Problem.Demands∧(x.Demands.length≤c7∧c7≤maxLen)∧Qp QU μ A7 x.Demands
 len:=by rintro μ x cs ⟨A1,c1,A2,c2,A3,c3,A7,c7,rfl,_⟩;rfl
 mono:=by rintro μ μ' x cs hm ⟨A1,c1,A2,c2,A3,c3,A7,c7,h,hl1,ha1,hl2,ha2,hl3,ha3,hl7,ha7⟩;exact ⟨A1,c1,A2,c2,A3,c3,A7,c7,h,hl1,ha1.mono hm,hl2,ha2.mono hm,hl3,ha3.mono hm,hl7,ha7.mono hm⟩
 one:=by rintro μ x cs ⟨A1,c1,A2,c2,A3,c3,A7,c7,rfl,_⟩ u hu;simp only[List.mem_cons,List.not_mem_nil,or_false] at hu;rcases hu with rfl | rfl | rfl | rfl | rfl | rfl | rfl | rfl<;>rfl
structure Qew where
 From:Int
 Unload:Int
deriving DecidableEq
structure YA where
 From:Int
 To:Int
deriving DecidableEq
def Qco (x:YA):List Value:=[.int .i64 x.From,.int .i64 x.To]
def WS:Rp YA:=Qcx 2 Qco (fun _=>rfl) (by intro x u hu;simp only[Qco,List.mem_cons,List.not_mem_nil,or_false] at hu;rcases hu with rfl | rfl<;>rfl)
structure JN where
 Nodes:Int
 Arcs:(List YA)
deriving DecidableEq
structure Qf where
 Vehicle:Int
 Stops:(List Int)
deriving DecidableEq
structure Qd where
 Secs:Int
 Meters:Int
deriving DecidableEq
def Qcp (x:Qd):List Value:=[.int .i64 x.Secs,.int .i64 x.Meters]
def YV:Rp Qd:=Qcx 2 Qcp (fun _=>rfl) (by intro x u hu;simp only[Qcp,List.mem_cons,List.not_mem_nil,or_false] at hu;rcases hu with rfl | rfl<;>rfl)
structure YD where
 node:Int
 time:Int
 load:Int
 meters:Int
deriving DecidableEq
structure Qz where
 Stop:Int
 Node:Int
 Arrive:Int
 Start:Int
 Leave:Int
 Load:Int
deriving DecidableEq
def Qa1 (x:Qz):List Value:=[.int .i64 x.Stop,.int .i64 x.Node,.int .i64 x.Arrive,.int .i64 x.Start,.int .i64 x.Leave,.int .i64 x.Load]
def QaC:Rp Qz:=Qcx 6 Qa1 (fun _=>rfl) (by intro x u hu;simp only[Qa1,List.mem_cons,List.not_mem_nil,or_false] at hu;rcases hu with rfl | rfl | rfl | rfl | rfl | rfl<;>rfl)
structure Ql where
 place:YD
 p:Qc
 v:Qk
 legs:(List (Int×(List Qd)))
 visits:(List Qz)
deriving DecidableEq
def Qn (μ:Gh) (v:Value) (x:Ql) (so:Seg):Prop:= ∃(g:Nat) (A5:Option Addr) (c5:Nat) (A6:Option Addr) (c6:Nat) (A7:Option Addr) (c7:Nat) (m16:Nat) (es16:Array MapEntry) (cn16:Nat) (A17:Option Addr) (c17:Nat) (ch17:Seg),v= .pointer (some ⟨g,0,none⟩)∧so=((g,Obj.cells #[.int .i64 x.place.node,.int .i64 x.place.time,.int .i64 x.place.load,.int .i64 x.place.meters,.int .i64 x.p.Road.Nodes,.slice A5 x.p.Road.Edges.length c5,.slice A6 x.p.Vehicles.length c6,.slice A7 x.p.Demands.length c7,.int .i64 x.p.Unload,.int .i64 x.p.UnloadSecs,.string x.v.ID,.int .i64 x.v.Depot,.int .i64 x.v.Shift.From,.int .i64 x.v.Shift.To,.int .i64 x.v.Grams,.int .i64 x.v.Kinds,.map (some m16),.slice A17 x.visits.length c17] 70 (0,0))::((m16,Obj.map es16 cn16)::ch17))∧((x.p.Road.Edges.length≤c5∧c5≤maxLen)∧Qp QH μ A5 x.p.Road.Edges)∧((x.p.Vehicles.length≤c6∧c6≤maxLen)∧Qp Qv μ A6 x.p.Vehicles)∧((x.p.Demands.length≤c7∧c7≤maxLen)∧Qp Qy μ A7 x.p.Demands)∧Qbc YV μ es16 cn16 x.legs∧Own QaC 126 μ (.slice A17 x.visits.length c17) x.visits ch17
theorem Qn.mono {μ μ':Gh} {v:Value} {x:Ql} {so:Seg} (h:Qn μ v x so) (hm:μ.le μ'):Qn μ' v x so:=by
 obtain ⟨g,A5,c5,A6,c6,A7,c7,m16,es16,cn16,A17,c17,ch17,hv,hs,h5,h6,h7,h16,h17⟩:=h;exact ⟨g,A5,c5,A6,c6,A7,c7,m16,es16,cn16,A17,c17,ch17,hv,hs,⟨h5.1,h5.2.mono hm⟩,⟨h6.1,h6.2.mono hm⟩,⟨h7.1,h7.2.mono hm⟩,h16.mono hm,h17.mono hm⟩
theorem Qn.fl {x:Ql} {g:Nat} {A5:Option Addr} {c5:Nat} {A6:Option Addr} {c6:Nat} {A7:Option Addr} {c7:Nat} {m16:Nat} {es16:Array MapEntry} {cn16:Nat} {A17:Option Addr} {c17:Nat} {ch17:Seg}:([[(g,Obj.cells #[.int .i64 x.place.node,.int .i64 x.place.time,.int .i64 x.place.load,.int .i64 x.place.meters,.int .i64 x.p.Road.Nodes,.slice A5 x.p.Road.Edges.length c5,.slice A6 x.p.Vehicles.length c6,.slice A7 x.p.Demands.length c7,.int .i64 x.p.Unload,.int .i64 x.p.UnloadSecs,.string x.v.ID,.int .i64 x.v.Depot,.int .i64 x.v.Shift.From,.int .i64 x.v.Shift.To,.int .i64 x.v.Grams,.int .i64 x.v.Kinds,.map (some m16),.slice A17 x.visits.length c17] 70 (0,0))],[(m16,Obj.map es16 cn16)],ch17]:List Seg).flatten=((g,Obj.cells #[.int .i64 x.place.node,.int .i64 x.place.time,.int .i64 x.place.load,.int .i64 x.place.meters,.int .i64 x.p.Road.Nodes,.slice A5 x.p.Road.Edges.length c5,.slice A6 x.p.Vehicles.length c6,.slice A7 x.p.Demands.length c7,.int .i64 x.p.Unload,.int .i64 x.p.UnloadSecs,.string x.v.ID,.int .i64 x.v.Depot,.int .i64 x.v.Shift.From,.int .i64 x.v.Shift.To,.int .i64 x.v.Grams,.int .i64 x.v.Kinds,.map (some m16),.slice A17 x.visits.length c17] 70 (0,0))::((m16,Obj.map es16 cn16)::ch17)):=by simp
structure QG where
 node:Int
 leg:Qd
deriving DecidableEq
structure Qo where
 value:QG
 n:Int
deriving DecidableEq
def Wu (x:Qo):List Value:=[.int .i64 x.value.node,.int .i64 x.value.leg.Secs,.int .i64 x.value.leg.Meters,.int .i64 x.n]
def QV:Rp Qo:=Qcx 4 Wu (fun _=>rfl) (by intro x u hu;simp only[Wu,List.mem_cons,List.not_mem_nil,or_false] at hu;rcases hu with rfl | rfl | rfl | rfl<;>rfl)
structure Qa where
 heap:(List Qo)
 count:Int
deriving DecidableEq
def Qb (μ:Gh) (v:Value) (x:Qa) (so:Seg):Prop:= ∃(g:Nat) (A1:Option Addr) (c1:Nat) (ch1:Seg),v= .pointer (some ⟨g,0,none⟩)∧so=((g,Obj.cells #[.func (.func 82) #[] #[],.slice A1 x.heap.length c1,.int .i64 x.count] 165 (0,0))::ch1)∧Own QV 167 μ (.slice A1 x.heap.length c1) x.heap ch1
theorem Qb.mono {μ μ':Gh} {v:Value} {x:Qa} {so:Seg} (h:Qb μ v x so) (hm:μ.le μ'):Qb μ' v x so:=by
 obtain ⟨g,A1,c1,ch1,hv,hs,h1⟩:=h;exact ⟨g,A1,c1,ch1,hv,hs,h1.mono hm⟩
theorem Qb.fl {x:Qa} {g:Nat} {A1:Option Addr} {c1:Nat} {ch1:Seg}:([[(g,Obj.cells #[.func (.func 82) #[] #[],.slice A1 x.heap.length c1,.int .i64 x.count] 165 (0,0))],ch1]:List Seg).flatten=((g,Obj.cells #[.func (.func 82) #[] #[],.slice A1 x.heap.length c1,.int .i64 x.count] 165 (0,0))::ch1):=by simp
def QL (μ:Gh) (v:Value) (x:(List Int)) (so:Seg):Prop:= ∃(g:Nat) (A0:Option Addr) (c0:Nat) (ch0:Seg),v= .pointer (some ⟨g,0,none⟩)∧so=((g,Obj.cells #[.slice A0 x.length c0] 29 (0,0))::ch0)∧Own QU 3 μ (.slice A0 x.length c0) x ch0
theorem QL.mono {μ μ':Gh} {v:Value} {x:(List Int)} {so:Seg} (h:QL μ v x so) (hm:μ.le μ'):QL μ' v x so:=by
 obtain ⟨g,A0,c0,ch0,hv,hs,h0⟩:=h;exact ⟨g,A0,c0,ch0,hv,hs,h0.mono hm⟩
theorem QL.fl {x:(List Int)} {g:Nat} {A0:Option Addr} {c0:Nat} {ch0:Seg}:([[(g,Obj.cells #[.slice A0 x.length c0] 29 (0,0))],ch0]:List Seg).flatten=((g,Obj.cells #[.slice A0 x.length c0] 29 (0,0))::ch0):=by simp
def Y6 (μ:Gh) (v:Value) (x:(List Bool)) (so:Seg):Prop:= ∃(g:Nat) (A0:Option Addr) (c0:Nat) (ch0:Seg),v= .pointer (some ⟨g,0,none⟩)∧so=((g,Obj.cells #[.slice A0 x.length c0] 94 (0,0))::ch0)∧Own Qdy 4 μ (.slice A0 x.length c0) x ch0
theorem Y6.mono {μ μ':Gh} {v:Value} {x:(List Bool)} {so:Seg} (h:Y6 μ v x so) (hm:μ.le μ'):Y6 μ' v x so:=by
 obtain ⟨g,A0,c0,ch0,hv,hs,h0⟩:=h;exact ⟨g,A0,c0,ch0,hv,hs,h0.mono hm⟩
theorem Y6.fl {x:(List Bool)} {g:Nat} {A0:Option Addr} {c0:Nat} {ch0:Seg}:([[(g,Obj.cells #[.slice A0 x.length c0] 94 (0,0))],ch0]:List Seg).flatten=((g,Obj.cells #[.slice A0 x.length c0] 94 (0,0))::ch0):=by simp
def QcD (x:QE):Prop:=(wfI .i64) x.From∧(wfI .i64) x.To∧(wfI .i64) x.Meters∧(wfI .i64) x.Secs
def QcE (x:Qr):Prop:=(wfI .i64) x.Nodes∧(fun xs:List QE=> ∀x∈xs,QcD x) x.Edges
def Vy (x:QT):Prop:=(wfI .i64) x.From∧(wfI .i64) x.To
def QaO (x:Qk):Prop:=(fun s:ByteArray=>s.size≤maxLen) x.ID∧(wfI .i64) x.Depot∧Vy x.Shift∧(wfI .i64) x.Grams∧(wfI .i64) x.Kinds
def Qbb (x:Qg):Prop:=(wfI .i64) x.Container∧(wfI .i64) x.Node∧(wfI .i64) x.Kind∧(wfI .i64) x.Grams∧Vy x.When∧(wfI .i64) x.Service
def QaN (x:Qc):Prop:=QcE x.Road∧(fun xs:List Qk=> ∀x∈xs,QaO x) x.Vehicles∧(fun xs:List Qg=> ∀x∈xs,Qbb x) x.Demands∧(wfI .i64) x.Unload∧(wfI .i64) x.UnloadSecs
def J8 (x:QF):Prop:=QaN x.Problem∧(wfI .i64) x.Vehicle∧(fun xs:List Int=> ∀x∈xs,(wfI .i64) x) x.Demands
def YJ (p1:Qc) (v2:Int):Option ((Int)⊕(Unit⊕Bool)) :=
 bif (decide (v2<((p1.Vehicles.length:Nat):Int))) then
  Option.bind (QP p1.Vehicles v2) fun x1 =>
  bif (decide (200<((x1.ID.size:Nat):Int))) then
   some (.inr (.inr true))
  else
   some (.inl (w64 (v2+1)))
 else
  some (.inr (.inl ()))
def YI (p1:Qc):Option (Bool) :=
 Option.bind (
  bif (decide (600<((p1.Road.Edges.length:Nat):Int))) then
   some true
  else
   bif (decide (30<((p1.Vehicles.length:Nat):Int))) then
    some true
   else
    some (decide (60<((p1.Demands.length:Nat):Int)))) (fun v1 =>
  bif v1 then
   some true
  else
   Option.bind (
    iter (YJ p1) (((p1.Vehicles.length:Nat):Int).toNat+1) 0) (fun o_=>QO o_ (fun _ =>
    some false) (fun rv20=>some rv20)))
def YH (x1:QF):Option (Bool) :=
 Option.bind (
  Option.bind (YI x1.Problem) fun r1 =>
  bif (!r1) then
   bif (decide (((x1.Problem.Demands.length:Nat):Int)≤40)) then
    some (decide (((x1.Demands.length:Nat):Int)≤4))
   else
    some false
  else
   some false) (fun v1 =>
  some v1)
def QN (grams1:Int):Option (Qc) :=
 some (Qc.mk (Qr.mk 3 [(QE.mk 0 1 100 60),(QE.mk 1 0 100 60),(QE.mk 1 2 100 60),(QE.mk 2 1 100 60)]) [(Qk.mk ⟨#[118]⟩ 0 (QT.mk 0 86400) grams1 1)] [(Qg.mk 0 1 0 10 (QT.mk 0 86400) 0),(Qg.mk 1 2 0 10 (QT.mk 0 86400) 0)] 0 0)
def Jb (r1:Qr) (j_:(List YA)×Int):Option (((List YA)×Int)⊕((List YA))) :=
 oun j_ fun f1 v1 =>
 bif (decide (v1<((r1.Edges.length:Nat):Int))) then
  Option.bind (QP r1.Edges v1) fun x1 =>
  Option.bind (Qak f1 [(YA.mk x1.From x1.To)]) fun l1 =>
  some (.inl (l1,w64 (v1+1)))
 else
  some (.inr f1)
def J4 (r1:Qr):Option (JN) :=
 Option.bind (
  iter (Jb r1) (((r1.Edges.length:Nat):Int).toNat+1) ([],0)) (fun f2 =>
  some (JN.mk r1.Nodes f2))
def Jo (g1:JN) (v2:Int):Option ((Int)⊕(Unit⊕Int)) :=
 bif (decide (v2<((g1.Arcs.length:Nat):Int))) then
  Option.bind (QP g1.Arcs v2) fun x1 =>
  Option.bind (
   bif (decide (x1.From<0)) then
    some true
   else
    bif (decide (g1.Nodes≤x1.From)) then
     some true
    else
     bif (decide (x1.To<0)) then
      some true
     else
      some (decide (g1.Nodes≤x1.To))) (fun v3 =>
   bif v3 then
    some (.inr (.inr 7))
   else
    some (.inl (w64 (v2+1))))
 else
  some (.inr (.inl ()))
def Wv (g1:JN):Option (Int) :=
 Option.bind (
  bif (decide (g1.Nodes<0)) then
   some true
  else
   some (decide (64<g1.Nodes))) (fun v1 =>
  bif v1 then
   some 1
  else
   bif (decide (512<((g1.Arcs.length:Nat):Int))) then
    some 8
   else
    Option.bind (
     iter (Jo g1) (((g1.Arcs.length:Nat):Int).toNat+1) 0) (fun o_=>QO o_ (fun _ =>
     some 0) (fun rv239=>some rv239)))
def Wr (r1:Qr) (v2:Int):Option ((Int)⊕(Unit⊕Int)) :=
 bif (decide (v2<((r1.Edges.length:Nat):Int))) then
  Option.bind (QP r1.Edges v2) fun x1 =>
  Option.bind (
   bif (decide (x1.From<0)) then
    some true
   else
    bif (decide (r1.Nodes≤x1.From)) then
     some true
    else
     bif (decide (x1.To<0)) then
      some true
     else
      some (decide (r1.Nodes≤x1.To))) (fun v3 =>
   bif v3 then
    some (.inr (.inr 7))
   else
    Option.bind (
     bif (decide (x1.From=x1.To)) then
      some true
     else
      bif (decide (x1.Meters<1)) then
       some true
      else
       bif (decide (100000<x1.Meters)) then
        some true
       else
        bif (decide (x1.Secs<1)) then
         some true
        else
         some (decide (100000<x1.Secs))) (fun v4 =>
     bif v4 then
      some (.inr (.inr 1))
     else
      some (.inl (w64 (v2+1)))))
 else
  some (.inr (.inl ()))
def JM (r1:Qr):Option (Int) :=
 Option.bind (
  bif (decide (r1.Nodes<1)) then
   some true
  else
   some (decide (64<r1.Nodes))) (fun v1 =>
  bif v1 then
   some 1
  else
   bif (decide (512<((r1.Edges.length:Nat):Int))) then
    some 8
   else
    Option.bind (
     iter (Wr r1) (((r1.Edges.length:Nat):Int).toNat+1) 0) (fun o_=>QO o_ (fun _ =>
     Option.bind (J4 r1) fun r2 =>
     Option.bind (Wv r2) fun r3 =>
     some r3) (fun rv263=>some rv263)))
def Jv (c1:Int):Option (Bool) :=
 Option.bind (
  bif (decide (97≤c1)) then
   bif (decide (c1≤122)) then
    some true
   else
    bif (decide (65≤c1)) then
     some (decide (c1≤90))
    else
     some false
  else
   bif (decide (65≤c1)) then
    some (decide (c1≤90))
   else
    some false) (fun v1 =>
  some v1)
def J2 (s1:ByteArray) (i1:Int):Option ((Int)⊕(Unit⊕Bool)) :=
 bif (decide (i1<((s1.size:Nat):Int))) then
  Option.bind (QdP s1 i1) fun x2 =>
  Option.bind (
   Option.bind (Jv x2) fun r2 =>
   bif (!r2) then
    bif (decide (x2<48)) then
     bif (!(decide (x2=45))) then
      bif (!(decide (x2=95))) then
       some (!(decide (x2=46)))
      else
       some false
     else
      some false
    else
     bif (decide (57<x2)) then
      bif (!(decide (x2=45))) then
       bif (!(decide (x2=95))) then
        some (!(decide (x2=46)))
       else
        some false
      else
       some false
     else
      some false
   else
    some false) (fun v2 =>
   bif v2 then
    some (.inr (.inr false))
   else
    some (.inl (w64 (i1+1))))
 else
  some (.inr (.inl ()))
def Ww (F:Nat) (s1:ByteArray):Option (Bool) :=
 Option.bind (
  bif (decide (((s1.size:Nat):Int)<1)) then
   some true
  else
   bif (decide (32<((s1.size:Nat):Int))) then
    some true
   else
    Option.bind (QdP s1 0) fun x1 =>
    Option.bind (Jv x1) fun r1 =>
    some (!r1)) (fun v1 =>
  bif v1 then
   some false
  else
   Option.bind (
    iter (J2 s1) F 1) (fun o_=>QO o_ (fun _ =>
    some true) (fun rv304=>some rv304)))
def JF (F:Nat) (v1:Qk) (nodes1:Int) (materials1:Int):Option (Int) :=
 Option.bind (Ww F v1.ID) fun r1 =>
 bif (!r1) then
  some 5
 else
  Option.bind (
   bif (decide (v1.Depot<0)) then
    some true
   else
    some (decide (nodes1≤v1.Depot))) (fun v2 =>
   bif v2 then
    some 7
   else
    Option.bind (
     bif (decide (v1.Shift.From<0)) then
      some true
     else
      bif (decide (v1.Shift.To≤v1.Shift.From)) then
       some true
      else
       some (decide (86400<v1.Shift.To))) (fun v3 =>
     bif v3 then
      some 19
     else
      Option.bind (
       bif (decide (v1.Grams<1)) then
        some true
       else
        some (decide (1073741824<v1.Grams))) (fun v4 =>
       bif v4 then
        some 1
       else
        Option.bind (
         bif (decide (v1.Kinds<1)) then
          some true
         else
          Option.bind (Vo (0≤materials1∧materials1≤64)) fun _ =>
          some (decide ((w64 (1*2^materials1.toNat))≤v1.Kinds))) (fun v5 =>
         bif v5 then
          some 21
         else
          some 0))))
def Zt (F:Nat) (l1:(List Qk)) (nodes1:Int) (materials1:Int) (v2:Int):Option ((Int)⊕(Unit⊕Int)) :=
 bif (decide (v2<((l1.length:Nat):Int))) then
  Option.bind (QP l1 v2) fun x1 =>
  Option.bind (JF F x1 nodes1 materials1) fun r1 =>
  bif (!(decide (r1=0))) then
   some (.inr (.inr r1))
  else
   some (.inl (w64 (v2+1)))
 else
  some (.inr (.inl ()))
def Zu (l1:(List Qk)) (j_:(List (ByteArray×Bool))×Int):Option (((List (ByteArray×Bool))×Int)⊕(Unit⊕Int)) :=
 oun j_ fun m1 v3 =>
 bif (decide (v3<((l1.length:Nat):Int))) then
  Option.bind (QP l1 v3) fun x2 =>
  bif ((V6 x2.ID m1).getD false) then
   some (.inr (.inr 6))
  else
   some (.inl ((QdS x2.ID true m1),w64 (v3+1)))
 else
  some (.inr (.inl ()))
def Jh (F:Nat) (l1:(List Qk)) (nodes1:Int) (materials1:Int):Option (Int) :=
 Option.bind (
  bif (decide (nodes1<1)) then
   some true
  else
   bif (decide (64<nodes1)) then
    some true
   else
    bif (decide (materials1<1)) then
     some true
    else
     some (decide (16<materials1))) (fun v1 =>
  bif v1 then
   some 1
  else
   bif (decide (((l1.length:Nat):Int)=0)) then
    some 10
   else
    bif (decide (16<((l1.length:Nat):Int))) then
     some 8
    else
     Option.bind (
      iter (Zt F l1 nodes1 materials1) (((l1.length:Nat):Int).toNat+1) 0) (fun o_=>QO o_ (fun _ =>
      Option.bind (
       iter (Zu l1) (((l1.length:Nat):Int).toNat+1) ([],0)) (fun o_=>QO o_ (fun _ =>
       some 0) (fun rv323=>some rv323))) (fun rv297=>some rv297)))
def ZN (n1:Int) (low1:Int) (high1:Int):Option (Bool) :=
 Option.bind (
  bif (decide (low1≤n1)) then
   some (decide (n1≤high1))
  else
   some false) (fun v1 =>
  some v1)
def VT (
        x1:Qg) (nodes1:Int) (materials1:Int):Option (Int) :=
 Option.bind (
  Option.bind (ZN x1.Container 0 255) fun r1 =>
  bif (!r1) then
   some true
  else
   bif (decide (x1.Node<0)) then
    some true
   else
    bif (decide (nodes1≤x1.Node)) then
     some true
    else
     bif (decide (x1.Kind<0)) then
      some true
     else
      some (decide (materials1≤x1.Kind))) (fun v1 =>
  bif v1 then
   some 7
  else
   Option.bind (
    Option.bind (ZN x1.Grams 0 1073741824) fun r2 =>
    bif (!r2) then
     some true
    else
     bif (decide (x1.When.From<0)) then
      some true
     else
      bif (decide (x1.When.To<x1.When.From)) then
       some true
      else
       bif (decide (86400<x1.When.To)) then
        some true
       else
        Option.bind (ZN x1.Service 0 3600) fun r3 =>
        some (!r3)) (fun v2 =>
    bif v2 then
     some 1
    else
     some 0))
def J0 (y1:Qg) (b1:Qg):Option (Bool) :=
 some (decide (y1.Container=b1.Container))
def Q6 (s1:(List Qg)) (b1:Qg) (v1:Int):Option ((Int)⊕(Unit⊕Int)) :=
 bif (decide (v1<((s1.length:Nat):Int))) then
  Option.bind (QP s1 v1) fun x1 =>
  Option.bind (J0 x1 b1) fun r1 =>
  bif r1 then
   some (.inr (.inr v1))
  else
   some (.inl (w64 (v1+1)))
 else
  some (.inr (.inl ()))
def YM (s1:(List Qg)) (b1:Qg):Option (Int) :=
 Option.bind (
  iter (Q6 s1 b1) (((s1.length:Nat):Int).toNat+1) 0) (fun o_=>QO o_ (fun _ =>
  some (-1)) (fun rv357=>some rv357))
def Q5 (s1:(List Qg)) (b1:Qg):Option (Bool) :=
 Option.bind (YM s1 b1) fun r1 =>
 some (decide (0≤r1))
def JG (l1:(List Qg)) (nodes1:Int) (materials1:Int) (v1:Int):Option ((Int)⊕(Unit⊕Int)) :=
 bif (decide (v1<((l1.length:Nat):Int))) then
  Option.bind (QP l1 v1) fun x1 =>
  Option.bind (VT x1 nodes1 materials1) fun r1 =>
  bif (!(decide (r1=0))) then
   some (.inr (.inr r1))
  else
   some (.inl (w64 (v1+1)))
 else
  some (.inr (.inl ()))
def Ja (l1:(List Qg)) (v2:Int):Option ((Int)⊕(Unit⊕Int)) :=
 bif (decide (v2<((l1.length:Nat):Int))) then
  Option.bind (QP l1 v2) fun x2 =>
  Option.bind (J6 l1 0 v2) fun l2 =>
  Option.bind (Q5 l2 x2) fun r2 =>
  bif r2 then
   some (.inr (.inr 6))
  else
   some (.inl (w64 (v2+1)))
 else
  some (.inr (.inl ()))
def JZ (l1:(List Qg)) (nodes1:Int) (materials1:Int):Option (Int) :=
 bif (decide (32<((l1.length:Nat):Int))) then
  some 8
 else
  Option.bind (
   iter (JG l1 nodes1 materials1) (((l1.length:Nat):Int).toNat+1) 0) (fun o_=>QO o_ (fun _ =>
   Option.bind (
    iter (Ja l1) (((l1.length:Nat):Int).toNat+1) 0) (fun o_=>QO o_ (fun _ =>
    some 0) (fun rv348=>some rv348))) (fun rv335=>some rv335))
def Wm (
        F:Nat) (p1:Qc):Option (Int) :=
 Option.bind (JM p1.Road) fun r1 =>
 bif (!(decide (r1=0))) then
  some r1
 else
  Option.bind (Jh F p1.Vehicles p1.Road.Nodes 16) fun r2 =>
  bif (!(decide (r2=0))) then
   some r2
  else
   Option.bind (JZ p1.Demands p1.Road.Nodes 16) fun r3 =>
   bif (!(decide (r3=0))) then
    some r3
   else
    Option.bind (
     bif (decide (p1.Unload<0)) then
      some true
     else
      some (decide (p1.Road.Nodes≤p1.Unload))) (fun v2 =>
     bif v2 then
      some 7
     else
      Option.bind (
       bif (decide (p1.UnloadSecs<0)) then
        some true
       else
        some (decide (7200<p1.UnloadSecs))) (fun v3 =>
       bif v3 then
        some 1
       else
        some 0))
def Wo (d1:Int) (b1:Qc):Option (Bool) :=
 Option.bind (
  bif (decide (d1<0)) then
   some true
  else
   some (decide (((b1.Demands.length:Nat):Int)≤d1))) (fun v1 =>
  some v1)
def Ym (s1:(List Int)) (b1:Qc) (v1:Int):Option ((Int)⊕(Unit⊕Int)) :=
 bif (decide (v1<((s1.length:Nat):Int))) then
  Option.bind (QP s1 v1) fun x1 =>
  Option.bind (Wo x1 b1) fun r1 =>
  bif r1 then
   some (.inr (.inr v1))
  else
   some (.inl (w64 (v1+1)))
 else
  some (.inr (.inl ()))
def Y9 (s1:(List Int)) (b1:Qc):Option (Int) :=
 Option.bind (
  iter (Ym s1 b1) (((s1.length:Nat):Int).toNat+1) 0) (fun o_=>QO o_ (fun _ =>
  some (-1)) (fun rv404=>some rv404))
def Yl (s1:(List Int)) (b1:Qc):Option (Bool) :=
 Option.bind (Y9 s1 b1) fun r1 =>
 some (decide (0≤r1))
def Zl (s1:(List Int)) (v1:Int) (v2:Int):Option ((Int)⊕(Unit⊕Int)) :=
 bif (decide (v2<((s1.length:Nat):Int))) then
  Option.bind (QP s1 v2) fun x1 =>
  bif (decide (v1=x1)) then
   some (.inr (.inr v2))
  else
   some (.inl (w64 (v2+1)))
 else
  some (.inr (.inl ()))
def Jw (s1:(List Int)) (v1:Int):Option (Int) :=
 Option.bind (
  iter (Zl s1 v1) (((s1.length:Nat):Int).toNat+1) 0) (fun o_=>QO o_ (fun _ =>
  some (-1)) (fun rv432=>some rv432))
def Yx (s1:(List Int)) (v1:Int):Option (Bool) :=
 Option.bind (Jw s1 v1) fun r1 =>
 some (decide (0≤r1))
def ZU (demands1:(List Int)) (v3:Int):Option ((Int)⊕(Unit⊕Int)) :=
 bif (decide (v3<((demands1.length:Nat):Int))) then
  Option.bind (QP demands1 v3) fun x1 =>
  Option.bind (J6 demands1 0 v3) fun l1 =>
  Option.bind (Yx l1 x1) fun r3 =>
  bif r3 then
   some (.inr (.inr 6))
  else
   some (.inl (w64 (v3+1)))
 else
  some (.inr (.inl ()))
def Jn (F:Nat) (p1:Qc) (vehicle1:Int) (demands1:(List Int)):Option (Int) :=
 Option.bind (Wm F p1) fun r1 =>
 bif (!(decide (r1=0))) then
  some r1
 else
  Option.bind (
   bif (decide (vehicle1<0)) then
    some true
   else
    some (decide (((p1.Vehicles.length:Nat):Int)≤vehicle1))) (fun v2 =>
   bif v2 then
    some 7
   else
    bif (decide (5<((demands1.length:Nat):Int))) then
     some 8
    else
     Option.bind (Yl demands1 p1) fun r2 =>
     bif r2 then
      some 7
     else
      Option.bind (
       iter (ZU demands1) (((demands1.length:Nat):Int).toNat+1) 0) (fun o_=>QO o_ (fun _ =>
       some 0) (fun rv447=>some rv447)))
def Je (v1:Qk) (kind1:Int):Option (Bool) :=
 Option.bind (
  bif (decide (0≤kind1)) then
   bif (decide (kind1<16)) then
    Option.bind (Vo (0≤kind1∧kind1≤64)) fun _ =>
    some (decide ((Qhb .i64 (v1.Kinds/2^kind1.toNat) 1)=1))
   else
    some false
  else
   some false) (fun v2 =>
  some v2)
def WU:Option (Qd) :=
 some (Qd.mk (-1) 0)
def ZR:Option (Qa) :=
 some (Qa.mk [] 0)
def JQ (a1:Qd) (b1:Qd):Option (Bool) :=
 Option.bind (
  Option.bind (WU) fun r1 =>
  bif (decide (b1=r1)) then
   some true
  else
   bif (decide (a1.Secs<b1.Secs)) then
    some true
   else
    bif (decide (a1.Secs=b1.Secs)) then
     some (decide (a1.Meters<b1.Meters))
    else
     some false) (fun v1 =>
  some v1)
def Jf (a1:QG) (b1:QG):Option (Bool) :=
 Option.bind (
  bif (!(decide (a1.leg=b1.leg))) then
   Option.bind (JQ a1.leg b1.leg) fun r1 =>
   some r1
  else
   some false) (fun v1 =>
  some v1)
def Yg (q1:Qa) (i1:Int) (k1:Int):Option (Bool) :=
 Option.bind (
  Option.bind (QP q1.heap i1) fun x1 =>
  Option.bind (QP q1.heap k1) fun x2 =>
  some (x1.value.node,x1.value.leg.Secs,x1.value.leg.Meters,x1.n,x2.value.node,x2.value.leg.Secs,x2.value.leg.Meters,x2.n)) (fun j_=>oun j_ fun f1 j_=>oun j_ fun f2 j_=>oun j_ fun f3 j_=>oun j_ fun f4 j_=>oun j_ fun f5 j_=>oun j_ fun f6 j_=>oun j_ fun f7 f8 =>
  Option.bind (Jf (QG.mk f1 (Qd.mk f2 f3)) (QG.mk f5 (Qd.mk f6 f7))) fun r1 =>
  bif r1 then
   some true
  else
   Option.bind (
    bif (decide (f4<f8)) then
     Option.bind (Jf (QG.mk f5 (Qd.mk f6 f7)) (QG.mk f1 (Qd.mk f2 f3))) fun r2 =>
     some (!r2)
    else
     some false) (fun v1 =>
    some v1))
def Ye (q1:Qa) (i1:Int) (k1:Int):Option (Qa) :=
 Option.bind (QP q1.heap k1) fun x1 =>
 Option.bind (QP q1.heap i1) fun x2 =>
 Option.bind (QP q1.heap i1) fun x3 =>
 Option.bind (QP (Zy q1.heap i1 x1) k1) fun x4 =>
 some (Qa.mk (Zy (Zy q1.heap i1 x1) k1 x2) q1.count)
def Ya (j_:Qa×Int):Option ((Qa×Int)⊕(Qa⊕Qa)) :=
 oun j_ fun q2 i1 =>
 bif (decide (0<i1)) then
  Option.bind (Yg q2 i1 (w64 (Int.tdiv (w64 (i1-1)) 2))) fun r1 =>
  bif (!r1) then
   some (.inr (.inr q2))
  else
   Option.bind (Ye q2 i1 (w64 (Int.tdiv (w64 (i1-1)) 2))) fun r2 =>
   some (.inl (r2,w64 (Int.tdiv (w64 (i1-1)) 2)))
 else
  some (.inr (.inl q2))
def Yr (F:Nat) (q1:Qa) (x1:QG):Option (Qa) :=
 Option.bind (Qak q1.heap [(Qo.mk x1 q1.count)]) fun l1 =>
 Option.bind (
  iter (Ya) F ((Qa.mk l1 (w64 (q1.count+1))),w64 (((l1.length:Nat):Int)-1))) (fun o_=>QO o_ (fun q3 =>
  some q3) (fun rv1037=>some rv1037))
def YZ (q1:Qa):Option (Int) :=
 some ((q1.heap.length:Nat):Int)
def YP (q1:Qa):Option (QG×Bool) :=
 Option.bind (YZ q1) fun r1 =>
 bif (decide (r1=0)) then
  some ((QG.mk 0 (Qd.mk 0 0)),false)
 else
  Option.bind (QP q1.heap 0) fun x1 =>
  some (x1.value,true)
def pqueue_Queue_stop_sink_l1 (i1:Int) (j_:(List Qo)×Int×Int×Int):Option (((List Qo)×Int×Int×Int)⊕(((List Qo)×Int×Int))) :=
 oun j_ fun f3 j_=>oun j_ fun f4 j_=>oun j_ fun next1 k1 =>
 Option.bind (
  bif (decide (k1≤(w64 ((w64 (2*i1))+2)))) then
   some (decide (k1<((f3.length:Nat):Int)))
  else
   some false) (fun v1 =>
  bif v1 then
   Option.bind (
    Option.bind (Yg (Qa.mk f3 f4) k1 next1) fun r1 =>
    bif r1 then
     some ((Qa.mk f3 f4).heap,k1)
    else
     some ((Qa.mk f3 f4).heap,next1)) (fun j_=>oun j_ fun f5 next2 =>
    some (.inl (f5,(Qa.mk f3 f4).count,next2,w64 (k1+1))))
  else
   some (.inr (f3,f4,next1)))
def Yb (F:Nat) (j_:(List Qo)×Int×Int):Option (((List Qo)×Int×Int)⊕(Qa)) :=
 oun j_ fun f1 j_=>oun j_ fun f2 i1 =>
 Option.bind (
  iter (pqueue_Queue_stop_sink_l1 i1) F (f1,f2,i1,w64 ((w64 (2*i1))+1))) (fun j_=>oun j_ fun f6 j_=>oun j_ fun f7 next3 =>
  bif (decide (next3=i1)) then
   some (.inr (Qa.mk f6 f7))
  else
   Option.bind (Ye (Qa.mk f6 f7) i1 next3) fun r2 =>
   some (.inl (r2.heap,r2.count,next3)))
def Yd (F:Nat) (q1:Qa):Option (Qa) :=
 Option.bind (
  iter (Yb F) F (q1.heap,q1.count,0)) (fun rv1245=>some rv1245)
def Yj (F:Nat) (q1:Qa):Option (QG×Bool×Qa) :=
 Option.bind (YP q1) fun j_=>oun j_ fun r1 r2 =>
 bif (!r2) then
  some (r1,false,q1)
 else
  Option.bind (Ye q1 0 (w64 (((q1.heap.length:Nat):Int)-1))) fun r3 =>
  Option.bind (J6 r3.heap (w64 (((q1.heap.length:Nat):Int)-1)) ((r3.heap.length:Nat):Int)) fun l1 =>
  Option.bind (J6 (Qdd r3.heap (w64 (((q1.heap.length:Nat):Int)-1)) (Qo.mk (QG.mk 0 (Qd.mk 0 0)) 0)) 0 (w64 (((q1.heap.length:Nat):Int)-1))) fun l2 =>
  Option.bind (Yd F (Qa.mk l2 r3.count)) fun r4 =>
  some (r1,true,r4)
def WM (x1:QE):Option (Int×Int) :=
 some (x1.From,x1.To)
def W3 (l1:Qd) (x1:QE):Option (Qd) :=
 some (Qd.mk (w64 (l1.Secs+x1.Secs)) (w64 (l1.Meters+x1.Meters)))
def Y1 (l1:(List Qd)) (j_:(List Qd)×Int):Option (((List Qd)×Int)⊕((List Qd))) :=
 oun j_ fun out1 v1 =>
 bif (decide (v1<((l1.length:Nat):Int))) then
  Option.bind (WU) fun r2 =>
  Option.bind (QP out1 v1) fun x1 =>
  some (.inl ((Zy out1 v1 r2),w64 (v1+1)))
 else
  some (.inr out1)
def Y2 (F:Nat) (r1:Qr) (r5:QG) (j_:(List Qd)×Qa×Int):Option (((List Qd)×Qa×Int)⊕(((List Qd)×Qa))) :=
 oun j_ fun out4 j_=>oun j_ fun q2 v2 =>
 bif (decide (v2<((r1.Edges.length:Nat):Int))) then
  Option.bind (
   Option.bind (QP r1.Edges v2) fun x4 =>
   Option.bind (WM x4) fun j_=>oun j_ fun r8 r9 =>
   bif (!(decide (r8=r5.node))) then
    some (out4,q2)
   else
    Option.bind (W3 r5.leg x4) fun r10 =>
    Option.bind (QP out4 r9) fun x5 =>
    Option.bind (JQ r10 x5) fun r11 =>
    bif r11 then
     Option.bind (QP out4 r9) fun x6 =>
     Option.bind (Yr F q2 (QG.mk r9 r10)) fun r12 =>
     some ((Zy out4 r9 r10),r12)
    else
     some (out4,q2)) (fun j_=>oun j_ fun out5 q3 =>
   some (.inl (out5,q3,w64 (v2+1))))
 else
  some (.inr (out4,q2))
def Y3 (F:Nat) (r1:Qr) (j_:(List Qd)×Qa):Option (((List Qd)×Qa)⊕((List Qd))) :=
 oun j_ fun out3 q1 =>
 Option.bind (Yj F q1) fun j_=>oun j_ fun r5 j_=>oun j_ fun r6 r7 =>
 bif (!r6) then
  some (.inr out3)
 else
  Option.bind (QP out3 r5.node) fun x3 =>
  bif (!(decide (x3=r5.leg))) then
   some (.inl (out3,r7))
  else
   Option.bind (
    iter (Y2 F r1 r5) (((r1.Edges.length:Nat):Int).toNat+1) (out3,r7,0)) (fun j_=>oun j_ fun out6 q4 =>
    some (.inl (out6,q4)))
def Jc (F:Nat) (r1:Qr) (f_from1:Int):Option ((List Qd)) :=
 Option.bind (WG (Qd.mk 0 0) r1.Nodes) fun l1 =>
 Option.bind (
  iter (Y1 l1) (((l1.length:Nat):Int).toNat+1) (l1,0)) (fun out2 =>
  Option.bind (QP out2 f_from1) fun x2 =>
  Option.bind (ZR) fun r3 =>
  Option.bind (Yr F r3 (QG.mk f_from1 (Qd.mk 0 0))) fun r4 =>
  Option.bind (
   iter (Y3 F r1) F ((Zy out2 f_from1 (Qd.mk 0 0)),r4)) (fun rv1055=>some rv1055))
def WT (F:Nat) (r1:Qr) (f_from1:Int):Option ((List Qd)×Int) :=
 Option.bind (JM r1) fun r2 =>
 bif (!(decide (r2=0))) then
  some ([],r2)
 else
  Option.bind (
   bif (decide (f_from1<0)) then
    some true
   else
    some (decide (r1.Nodes≤f_from1))) (fun v2 =>
   bif v2 then
    some ([],7)
   else
    Option.bind (Jc F r1 f_from1) fun r3 =>
    some (r3,0))
def Jg (F:Nat) (w1:Ql) (f_to1:Int):Option (Qd×Bool×Ql) :=
 Option.bind (
  bif (!((JK w1.place.node w1.legs).isSome)) then
   Option.bind (WT F w1.p.Road w1.place.node) fun j_=>oun j_ fun r1 r2 =>
   some (r1,(VG w1.place.node r1 w1.legs))
  else
   some (((JK w1.place.node w1.legs).getD []),w1.legs)) (fun j_=>oun j_ fun l1 m1 =>
  Option.bind (QP l1 f_to1) fun x1 =>
  Option.bind (QP l1 f_to1) fun x2 =>
  some (x1,(decide (0≤x2.Secs)),(Ql.mk w1.place w1.p w1.v m1 w1.visits)))
def Zz (w1:Ql) (stop1:Int) (arrive1:Int) (start1:Int):Option (Ql) :=
 Option.bind (Qak w1.visits [(Qz.mk stop1 w1.place.node arrive1 start1 w1.place.time w1.place.load)]) fun l1 =>
 some (Ql.mk w1.place w1.p w1.v w1.legs l1)
def ZH (F:Nat) (w1:Ql) (t1:Qf) (i1:Int):Option (Int×Ql) :=
 Option.bind (QP t1.Stops i1) fun x1 =>
 Option.bind (
  bif (!(decide (x1=(-1)))) then
   Option.bind (
    bif (decide (x1<0)) then
     some true
    else
     some (decide (((w1.p.Demands.length:Nat):Int)≤x1))) (fun v1 =>
    bif v1 then
     some (.inr (7,w1))
    else
     Option.bind (J6 t1.Stops 0 i1) fun l1 =>
     Option.bind (Yx l1 x1) fun r1 =>
     bif r1 then
      some (.inr (6,w1))
     else
      Option.bind (QP w1.p.Demands x1) fun x2 =>
      Option.bind (Je w1.v x2.Kind) fun r2 =>
      bif (!r2) then
       some (.inr (21,w1))
      else
       Option.bind (QP w1.p.Demands x1) fun x3 =>
       some (.inl x3.Node))
  else
   some (.inl w1.p.Unload)) (fun o_=>QO o_ (fun node1 =>
  Option.bind (Jg F w1 node1) fun j_=>oun j_ fun r3 j_=>oun j_ fun r4 r5 =>
  bif (!r4) then
   some (22,r5)
  else
   bif (decide (x1=(-1))) then
    Option.bind (Zz (Ql.mk (YD.mk node1 (w64 ((w64 (r5.place.time+r3.Secs))+r5.p.UnloadSecs)) 0 (w64 (r5.place.meters+r3.Meters))) r5.p r5.v r5.legs r5.visits) x1 (w64 (r5.place.time+r3.Secs)) (w64 (r5.place.time+r3.Secs))) fun r6 =>
    some (0,r6)
   else
    Option.bind (QP r5.p.Demands x1) fun x4 =>
    bif (decide (x4.When.To≤(max (w64 (r5.place.time+r3.Secs)) x4.When.From))) then
     some (19,(Ql.mk (YD.mk node1 (w64 (r5.place.time+r3.Secs)) r5.place.load (w64 (r5.place.meters+r3.Meters))) r5.p r5.v r5.legs r5.visits))
    else
     bif (decide (r5.v.Grams<(w64 (r5.place.load+x4.Grams)))) then
      some (20,(Ql.mk (YD.mk node1 (w64 (r5.place.time+r3.Secs)) r5.place.load (w64 (r5.place.meters+r3.Meters))) r5.p r5.v r5.legs r5.visits))
     else
      Option.bind (Zz (Ql.mk (YD.mk node1 (w64 ((max (w64 (r5.place.time+r3.Secs)) x4.When.From)+x4.Service)) (w64 (r5.place.load+x4.Grams)) (w64 (r5.place.meters+r3.Meters))) r5.p r5.v r5.legs r5.visits) x1 (w64 (r5.place.time+r3.Secs)) (max (w64 (r5.place.time+r3.Secs)) x4.When.From)) fun r7 =>
      some (0,r7)) (fun rv2362=>some rv2362))
def ZY (F:Nat) (w1:Ql):Option (Int×Ql) :=
 Option.bind (Jg F w1 w1.v.Depot) fun j_=>oun j_ fun r1 j_=>oun j_ fun r2 r3 =>
 bif (!r2) then
  some (22,r3)
 else
  bif (!(decide (r3.place.load=0))) then
   some (20,r3)
  else
   bif (decide (r3.v.Shift.To≤(w64 (r3.place.time+r1.Secs)))) then
    some (19,(Ql.mk (YD.mk r3.v.Depot (w64 (r3.place.time+r1.Secs)) r3.place.load (w64 (r3.place.meters+r1.Meters))) r3.p r3.v r3.legs r3.visits))
   else
    Option.bind (Zz (Ql.mk (YD.mk r3.v.Depot (w64 (r3.place.time+r1.Secs)) r3.place.load (w64 (r3.place.meters+r1.Meters))) r3.p r3.v r3.legs r3.visits) (-2) (w64 (r3.place.time+r1.Secs)) (w64 (r3.place.time+r1.Secs))) fun r4 =>
    some (0,r4)
def YU (F:Nat) (t1:Qf) (j_:Ql×Int×Int):Option ((Ql×Int×Int)⊕((Ql×Int×Int))) :=
 oun j_ fun q1 j_=>oun j_ fun e1 f_at1 =>
 bif (decide (f_at1<((t1.Stops.length:Nat):Int))) then
  Option.bind (ZH F q1 t1 f_at1) fun j_=>oun j_ fun r1 r2 =>
  bif (!(decide (r1=0))) then
   some (.inr (r2,r1,f_at1))
  else
   some (.inl (r2,r1,w64 (f_at1+1)))
 else
  some (.inr (q1,e1,f_at1))
def JR (F:Nat) (p1:Qc) (t1:Qf):Option ((Option Ql)×Int×Int) :=
 Option.bind (
  bif (decide (t1.Vehicle<0)) then
   some true
  else
   some (decide (((p1.Vehicles.length:Nat):Int)≤t1.Vehicle))) (fun v1 =>
  bif v1 then
   some (none,7,0)
  else
   bif (decide (40<((t1.Stops.length:Nat):Int))) then
    some (none,8,0)
   else
    Option.bind (QP p1.Vehicles t1.Vehicle) fun x1 =>
    Option.bind (
     iter (YU F t1) (((t1.Stops.length:Nat):Int).toNat+1) ((Ql.mk (YD.mk x1.Depot x1.Shift.From 0 0) p1 x1 [] []),0,0)) (fun j_=>oun j_ fun q2 j_=>oun j_ fun e2 f_at2 =>
     Option.bind (
      bif (decide (e2=0)) then
       Option.bind (ZY F q2) fun j_=>oun j_ fun r3 r4 =>
       some (r4,r3)
      else
       some (q2,e2)) (fun j_=>oun j_ fun q3 e3 =>
      bif (!(decide (e3=0))) then
       some (none,e3,f_at2)
      else
       some ((some q3),0,0))))
def VL (F:Nat) (p1:Qc) (t1:Qf):Option (Int×Int) :=
 Option.bind (Wm F p1) fun r1 =>
 bif (!(decide (r1=0))) then
  some (0,r1)
 else
  Option.bind (JR F p1 t1) fun j_=>oun j_ fun r2 j_=>oun j_ fun r3 r4 =>
  bif (!(decide (r3=0))) then
   some (0,r3)
  else
   Option.bind (r2) fun q1 =>
   some (q1.place.meters,0)
def JD (x1:Int):Option (Bool) :=
 some (!(decide (x1=x1)))
def Z9 (x1:Int) (y1:Int):Option (Int) :=
 Option.bind (JD x1) fun r1 =>
 Option.bind (JD y1) fun r2 =>
 bif r1 then
  bif r2 then
   some 0
  else
   some (-1)
 else
  bif r2 then
   some 1
  else
   bif (decide (x1<y1)) then
    some (-1)
   else
    bif (decide (y1<x1)) then
     some 1
    else
     some 0
def QS (s11:(List Int)) (s21:(List Int)) (v1:Int):Option ((Int)⊕(Unit⊕Int)) :=
 bif (decide (v1<((s11.length:Nat):Int))) then
  Option.bind (QP s11 v1) fun x1 =>
  bif (decide (((s21.length:Nat):Int)≤v1)) then
   some (.inr (.inr 1))
  else
   Option.bind (QP s21 v1) fun x2 =>
   Option.bind (Z9 x1 x2) fun r1 =>
   bif (!(decide (r1=0))) then
    some (.inr (.inr r1))
   else
    some (.inl (w64 (v1+1)))
 else
  some (.inr (.inl ()))
def Y4 (s11:(List Int)) (s21:(List Int)):Option (Int) :=
 Option.bind (
  iter (QS s11 s21) (((s11.length:Nat):Int).toNat+1) 0) (fun o_=>QO o_ (fun _ =>
  bif (decide (((s11.length:Nat):Int)<((s21.length:Nat):Int))) then
   some (-1)
  else
   some 0) (fun rv4417=>some rv4417))
def J1 (F:Nat) (stops1:(List Int)) (b1:Qc) (b2:Int) (b3:Bool) (b4:Int) (b5:Qf):Option (Bool×Int×Qf) :=
 Option.bind (VL F b1 (Qf.mk b2 stops1)) fun j_=>oun j_ fun r1 r2 =>
 bif (!(decide (r2=0))) then
  some (b3,b4,b5)
 else
  Option.bind (
   bif (!b3) then
    some true
   else
    bif (decide (r1<b4)) then
     some true
    else
     bif (decide (r1=b4)) then
      Option.bind (Y4 stops1 b5.Stops) fun r3 =>
      some (decide (r3<0))
     else
      some false) (fun v2 =>
   Option.bind (
    bif v2 then
     Option.bind (Qdc stops1) fun l1 =>
     some (true,r1,l1)
    else
     some (b3,b4,b5.Stops)) (fun j_=>oun j_ fun f1 j_=>oun j_ fun f2 f3 =>
    some (f1,f2,(Qf.mk b5.Vehicle f3))))
def Yi (left1:Int) (b2:Qc) (b3:Int) (b7:(List Int)) (b8:(List Int)) (rec_:Int→Unit→Qc→Int→Bool→Int→Qf→(List Int)→(List Int)→(List Bool)→Unit→Option (Bool×Int×Qf×(List Int)×(List Bool))) (j_:(List Int)×(List Bool)×Bool×Int×Int×(List Int)×Int):Option (((List Int)×(List Bool)×Bool×Int×Int×(List Int)×Int)⊕((Bool×Int×Int×(List Int)×(List Int)×(List Bool)))) :=
 oun j_ fun f1 j_=>oun j_ fun f2 j_=>oun j_ fun f3 j_=>oun j_ fun f4 j_=>oun j_ fun f5 j_=>oun j_ fun f6 v2 =>
 bif (decide (v2<((b8.length:Nat):Int))) then
  Option.bind (
   Option.bind (QP b8 v2) fun x1 =>
   Option.bind (QP f2 v2) fun x2 =>
   bif x2 then
    some (f1,f2,f3,f4,f5,f6)
   else
    Option.bind (QP f2 v2) fun x3 =>
    Option.bind (J6 f1 0 ((b7.length:Nat):Int)) fun l1 =>
    Option.bind (Qak l1 [x1]) fun l2 =>
    Option.bind (rec_ (w64 (left1-1)) () b2 b3 f3 f4 (Qf.mk f5 f6) l2 b8 (Zy f2 v2 true) ()) fun j_=>oun j_ fun r4 j_=>oun j_ fun r5 j_=>oun j_ fun r6 j_=>oun j_ fun r7 r8 =>
    Option.bind (J6 r7 0 ((b7.length:Nat):Int)) fun l3 =>
    Option.bind (Qak l3 [x1,(-1)]) fun l4 =>
    Option.bind (rec_ (w64 (left1-1)) () b2 b3 r4 r5 r6 l4 b8 r8 ()) fun j_=>oun j_ fun r9 j_=>oun j_ fun r10 j_=>oun j_ fun r11 j_=>oun j_ fun r12 r13 =>
    Option.bind (J6 r12 0 ((b7.length:Nat):Int)) fun l5 =>
    Option.bind (QP r13 v2) fun x4 =>
    some (l5,(Zy r13 v2 false),r9,r10,r11.Vehicle,r11.Stops)) (fun j_=>oun j_ fun f7 j_=>oun j_ fun f8 j_=>oun j_ fun f9 j_=>oun j_ fun f10 j_=>oun j_ fun f11 f12 =>
   some (.inl (f7,f8,f9,f10,f11,f12,w64 (v2+1))))
 else
  some (.inr (f3,f4,f5,f6,f1,f2))
def ZJ (rec_:Int→Unit→Qc→Int→Bool→Int→Qf→(List Int)→(List Int)→(List Bool)→Unit→Option (Bool×Int×Qf×(List Int)×(List Bool))) (F:Nat) (left1:Int) (b1:Unit) (b2:Qc) (b3:Int) (b4:Bool) (b5:Int) (b6:Qf) (b7:(List Int)) (b8:(List Int)) (b9:(List Bool)) (b10:Unit):Option (Bool×Int×Qf×(List Int)×(List Bool)) :=
 bif (decide (left1=0)) then
  Option.bind (J1 F b7 b2 b3 b4 b5 b6) fun j_=>oun j_ fun r1 j_=>oun j_ fun r2 r3 =>
  some (r1,r2,r3,b7,b9)
 else
  Option.bind (
   iter (Yi left1 b2 b3 b7 b8 rec_) (((b8.length:Nat):Int).toNat+1) (b7,b9,b4,b5,b6.Vehicle,b6.Stops,0)) (fun j_=>oun j_ fun f13 j_=>oun j_ fun f14 j_=>oun j_ fun f15 j_=>oun j_ fun f16 j_=>oun j_ fun f17 f18 =>
   some (f13,f14,(Qf.mk f15 f16),f17,f18))
def Yp:Nat→Int→Unit→Qc→Int→Bool→Int→Qf→(List Int)→(List Int)→(List Bool)→Unit→Option (Bool×Int×Qf×(List Int)×(List Bool))
 | 0,_,_,_,_,_,_,_,_,_,_,_=>none
 | F+1,left1,b1,b2,b3,b4,b5,b6,b7,b8,b9,b10=>ZJ (Yp F) F left1 b1 b2 b3 b4 b5 b6 b7 b8 b9 b10
def ZK (F:Nat) (demands1:(List Int)) (b1:Qc) (b2:Int) (b3:Bool) (b4:Int) (b5:Qf):Option (Bool×Int×Qf) :=
 Option.bind (WG false ((demands1.length:Nat):Int)) fun l1 =>
 Option.bind (WG (0:Int) (w64 (2*((demands1.length:Nat):Int)))) fun l2 =>
 Option.bind (Yp F ((demands1.length:Nat):Int) () b1 b2 b3 b4 b5 [] demands1 l1 ()) fun j_=>oun j_ fun r1 j_=>oun j_ fun r2 j_=>oun j_ fun r3 j_=>oun j_ fun r4 r5 =>
 some (r1,r2,r3)
def JJ (F:Nat) (p1:Qc) (vehicle1:Int) (demands1:(List Int)):Option (Qf×Int×Bool) :=
 Option.bind (ZK F demands1 p1 vehicle1 false 0 (Qf.mk vehicle1 [])) fun j_=>oun j_ fun r1 j_=>oun j_ fun r2 r3 =>
 some (r3,r2,r1)
def JI (F:Nat) (p1:Qc) (vehicle1:Int) (demands1:(List Int)):Option (Qf×Int×Int) :=
 Option.bind (Jn F p1 vehicle1 demands1) fun r1 =>
 bif (!(decide (r1=0))) then
  some ((Qf.mk 0 []),0,r1)
 else
  Option.bind (JJ F p1 vehicle1 demands1) fun j_=>oun j_ fun r2 j_=>oun j_ fun r3 r4 =>
  bif (!r4) then
   some ((Qf.mk 0 []),0,40)
  else
   some (r2,r3,0)
def Y7 (F:Nat) (p1:Qc) (vehicle1:Int) (demands1:(List Int)):Option (Bool×Int) :=
 Option.bind (Jn F p1 vehicle1 demands1) fun r1 =>
 bif (!(decide (r1=0))) then
  some (false,r1)
 else
  Option.bind (JJ F p1 vehicle1 demands1) fun j_=>oun j_ fun r2 j_=>oun j_ fun r3 r4 =>
  some (r4,0)
def Zo (b1:(List Int)) (y1:Int):Option ((List Int)) :=
 Option.bind (Qak b1 [y1]) fun l2 =>
 some l2
def Q7 (b2:(List Int)) (j_:Int×(List Int)):Option ((Int×(List Int))⊕((List Int))) :=
 oun j_ fun v1 q2 =>
 bif (decide (v1<((b2.length:Nat):Int))) then
  Option.bind (QP b2 v1) fun x1 =>
  Option.bind (Zo q2 x1) fun r1 =>
  some (.inl (w64 (v1+1),r1))
 else
  some (.inr q2)
def Zf (b1:(List Int)) (b2:(List Int)):Option ((List Int)) :=
 Option.bind (
  iter (Q7 b2) (((b2.length:Nat):Int).toNat+1) (0,b1)) (fun q3 =>
  some q3)
def YE (b1:(List Int)):Option ((List Int)) :=
 Option.bind (Zf [] b1) fun r1 =>
 some r1
def Zp (b1:(List Int)):Option ((List Int)) :=
 Option.bind (YE b1) fun r1 =>
 some r1
def Y0 (b1:(List Int)):Option ((List Int)) :=
 Option.bind (Zp b1) fun r1 =>
 Option.bind (Qeo r1) fun l1 =>
 some l1
def ZO (r2:(List Int)) (v3:Int) (j_:(List Int)×Int):Option (((List Int)×Int)⊕((List Int))) :=
 oun j_ fun l1 v4 =>
 bif (decide (v4<((r2.length:Nat):Int))) then
  Option.bind (
   Option.bind (QP r2 v4) fun x1 =>
   Option.bind (Vo (0≤v4∧v4≤64)) fun _ =>
   bif (decide ((Qhb .i64 (v3/2^v4.toNat) 1)=1)) then
    Option.bind (Qak l1 [x1]) fun l2 =>
    some l2
   else
    some l1) (fun l3 =>
   some (.inl (l3,w64 (v4+1))))
 else
  some (.inr l1)
def ZP (F:Nat) (p1:Qc) (vehicle1:Int) (r2:(List Int)) (j_:(List Int)×Int×Int):Option (((List Int)×Int×Int)⊕((List Int))) :=
 oun j_ fun out1 j_=>oun j_ fun v2 v3 =>
 bif (decide (v3<v2)) then
  Option.bind (
   Option.bind (
    iter (ZO r2 v3) (((r2.length:Nat):Int).toNat+1) ([],0)) (fun l4 =>
    Option.bind (
     bif (decide (((l4.length:Nat):Int)<((out1.length:Nat):Int))) then
      some true
     else
      bif (decide (((l4.length:Nat):Int)=((out1.length:Nat):Int))) then
       Option.bind (Y4 l4 out1) fun r3 =>
       some (decide (0≤r3))
      else
       some false) (fun v5 =>
     bif v5 then
      some out1
     else
      Option.bind (JJ F p1 vehicle1 l4) fun j_=>oun j_ fun r4 j_=>oun j_ fun r5 r6 =>
      bif r6 then
       some l4
      else
       some out1))) (fun out2 =>
   some (.inl (out2,v2,w64 (v3+1))))
 else
  some (.inr out1)
def Wg (F:Nat) (p1:Qc) (vehicle1:Int) (demands1:(List Int)):Option ((List Int)×Int) :=
 Option.bind (Jn F p1 vehicle1 demands1) fun r1 =>
 bif (!(decide (r1=0))) then
  some ([],r1)
 else
  Option.bind (Y0 demands1) fun r2 =>
  Option.bind (Vo (0≤((r2.length:Nat):Int)∧((r2.length:Nat):Int)≤64)) fun _ =>
  Option.bind (
   iter (ZP F p1 vehicle1 r2) F ([],w64 (1*2^((r2.length:Nat):Int).toNat),0)) (fun out3 =>
   some (out3,0))
def J3 (a1:(List Int)) (b1:(List Int)) (i1:Int):Option ((Int)⊕(Unit⊕Bool)) :=
 bif (decide (i1<((a1.length:Nat):Int))) then
  Option.bind (QP a1 i1) fun x1 =>
  Option.bind (QP b1 i1) fun x2 =>
  bif (!(decide (x1=x2))) then
   some (.inr (.inr false))
  else
   some (.inl (w64 (i1+1)))
 else
  some (.inr (.inl ()))
def Zk (a1:(List Int)) (b1:(List Int)):Option (Bool) :=
 bif (!(decide (((a1.length:Nat):Int)=((b1.length:Nat):Int)))) then
  some false
 else
  Option.bind (
   iter (J3 a1 b1) (((a1.length:Nat):Int).toNat+1) 0) (fun o_=>QO o_ (fun _ =>
   some true) (fun rv8048=>some rv8048))
def Yq (
             F:Nat):Option (Bool) :=
 Option.bind (QN 20) fun r1 =>
 Option.bind (JI F r1 0 [1,0]) fun j_=>oun j_ fun r2 j_=>oun j_ fun r3 r4 =>
 Option.bind (QN 10) fun r5 =>
 Option.bind (JI F r5 0 [0,1]) fun j_=>oun j_ fun r6 j_=>oun j_ fun r7 r8 =>
 Option.bind (QN 9) fun r9 =>
 Option.bind (JI F r9 0 [0,1]) fun j_=>oun j_ fun r10 j_=>oun j_ fun r11 r12 =>
 Option.bind (QN 9) fun r13 =>
 Option.bind (Y7 F r13 0 [0]) fun j_=>oun j_ fun r14 r15 =>
 Option.bind (QN 20) fun r16 =>
 Option.bind (Y7 F r16 0 [0,1]) fun j_=>oun j_ fun r17 r18 =>
 Option.bind (QN 10) fun r19 =>
 Option.bind (Wg F r19 0 [1,0]) fun j_=>oun j_ fun r20 r21 =>
 Option.bind (
  bif (decide (r4=0)) then
   bif (decide (r3=400)) then
    Option.bind (Zk r2.Stops [0,1,(-1)]) fun r22 =>
    bif r22 then
     bif (decide (r8=0)) then
      bif (decide (r7=600)) then
       Option.bind (Zk r6.Stops [0,(-1),1,(-1)]) fun r23 =>
       bif r23 then
        bif (decide (r12=40)) then
         bif (!r14) then
          bif (decide (r15=0)) then
           bif r17 then
            bif (decide (r18=0)) then
             Option.bind (Zk r20 [0,1]) fun r24 =>
             bif r24 then
              some (decide (r21=0))
             else
              some false
            else
             some false
           else
            some false
          else
           some false
         else
          some false
        else
         some false
       else
        some false
      else
       some false
     else
      some false
    else
     some false
   else
    some false
  else
   some false) (fun v19 =>
  some v19)
def QW (r3:(List Int)) (i1:Int):Option ((Int)⊕(Unit⊕Bool)) :=
 bif (decide (i1<((r3.length:Nat):Int))) then
  Option.bind (QP r3 i1) fun x2 =>
  Option.bind (QP r3 (w64 (i1-1))) fun x3 =>
  bif (decide (x2≤x3)) then
   some (.inr (.inr false))
  else
   some (.inl (w64 (i1+1)))
 else
  some (.inr (.inl ()))
def QX (x1:QF) (r3:(List Int)) (k1:Int) (j_:Bool×Int):Option ((Bool×Int)⊕(Bool)) :=
 oun j_ fun f_in1 i2 =>
 bif (decide (i2<((r3.length:Nat):Int))) then
  Option.bind (
   bif f_in1 then
    some true
   else
    Option.bind (QP r3 i2) fun x4 =>
    Option.bind (QP x1.Demands k1) fun x5 =>
    some (decide (x4=x5))) (fun f_in2 =>
   some (.inl (f_in2,w64 (i2+1))))
 else
  some (.inr f_in1)
def QD (F:Nat) (x1:QF) (r3:(List Int)) (j_:Int×Int):Option ((Int×Int)⊕(Int⊕Bool)) :=
 oun j_ fun left1 k1 =>
 bif (decide (k1<((x1.Demands.length:Nat):Int))) then
  Option.bind (
   Option.bind (
    iter (QX x1 r3 k1) (((r3.length:Nat):Int).toNat+1) (false,0)) (fun f_in3 =>
    bif f_in3 then
     some (.inl left1)
    else
     Option.bind (
      Option.bind (QP x1.Demands k1) fun x6 =>
      Option.bind (Qak [] r3) fun l1 =>
      Option.bind (Qak l1 [x6]) fun l2 =>
      Option.bind (Y7 F x1.Problem x1.Vehicle l2) fun j_=>oun j_ fun r8 r9 =>
      some (w64 (left1+1),r8,r9)) (fun j_=>oun j_ fun left2 j_=>oun j_ fun more1 g4 =>
      Option.bind (
       bif more1 then
        some true
       else
        some (!(decide (g4=0)))) (fun v9 =>
       bif v9 then
        some (.inr false)
       else
        some (.inl left2))))) (fun o_=>QO o_ (fun left3 =>
   some (.inl (left3,w64 (k1+1)))) (fun rv8850=>some (.inr (.inr rv8850))))
 else
  some (.inr (.inl left1))
def Y8 (F:Nat) (x1:QF):Option (Bool) :=
 Option.bind (YH x1) fun r1 =>
 bif (!r1) then
  Option.bind (Yq F) fun r2 =>
  some r2
 else
  Option.bind (Wg F x1.Problem x1.Vehicle x1.Demands) fun j_=>oun j_ fun r3 r4 =>
  bif (!(decide (r4=0))) then
   Option.bind (
    bif (decide (((r3.length:Nat):Int)=0)) then
     Option.bind (Yq F) fun r5 =>
     some r5
    else
     some false) (fun v4 =>
    some v4)
  else
   Option.bind (Y7 F x1.Problem x1.Vehicle r3) fun j_=>oun j_ fun r6 r7 =>
   Option.bind (
    bif (!r6) then
     some true
    else
     some (!(decide (r7=0)))) (fun v6 =>
    bif v6 then
     some false
    else
     Option.bind (
      iter (QW r3) F 1) (fun o_=>QO o_ (fun _ =>
      Option.bind (
       iter (QD F x1 r3) (((x1.Demands.length:Nat):Int).toNat+1) (0,0)) (fun o_=>QO o_ (fun left4 =>
       Option.bind (
        bif (decide ((w64 (left4+((r3.length:Nat):Int)))=((x1.Demands.length:Nat):Int))) then
         Option.bind (Yq F) fun r10 =>
         some r10
        else
         some false) (fun v11 =>
        some v11)) (fun rv8734=>some rv8734))) (fun rv8723=>some rv8723)))
structure QiI where
 Vehicle:Int
 Err:Int
deriving DecidableEq
def Yo (r1:Qr) (v2:Int):Option ((Int)⊕(Unit⊕Int)) :=
 bif (decide (v2<((r1.Edges.length:Nat):Int))) then
  Option.bind (QP r1.Edges v2) fun x1 =>
  Option.bind (
   bif (decide (x1.From<0)) then
    some true
   else
    bif (decide (r1.Nodes≤x1.From)) then
     some true
    else
     bif (decide (x1.To<0)) then
      some true
     else
      some (decide (r1.Nodes≤x1.To))) (fun v3 =>
   bif v3 then
    some (.inr (.inr 7))
   else
    Option.bind (
     bif (decide (x1.From=x1.To)) then
      some true
     else
      bif (decide (x1.Meters<1)) then
       some true
      else
       bif (decide (100000<x1.Meters)) then
        some true
       else
        bif (decide (x1.Secs<1)) then
         some true
        else
         some (decide (100000<x1.Secs))) (fun v4 =>
     bif v4 then
      some (.inr (.inr 1))
     else
      some (.inl (w64 (v2+1)))))
 else
  some (.inr (.inl ()))
def ZM (r1:Qr):Option (Int) :=
 Option.bind (
  bif (decide (r1.Nodes<1)) then
   some true
  else
   some (decide (64<r1.Nodes))) (fun v1 =>
  bif v1 then
   some 1
  else
   bif (decide (512<((r1.Edges.length:Nat):Int))) then
    some 8
   else
    Option.bind (
     iter (Yo r1) (((r1.Edges.length:Nat):Int).toNat+1) 0) (fun o_=>QO o_ (fun _ =>
     some 0) (fun rv21199=>some rv21199)))
def YC (c1:Int):Option (Bool) :=
 Option.bind (
  bif (decide (65≤c1)) then
   bif (decide (c1≤90)) then
    some true
   else
    bif (decide (97≤c1)) then
     some (decide (c1≤122))
    else
     some false
  else
   bif (decide (97≤c1)) then
    some (decide (c1≤122))
   else
    some false) (fun v1 =>
  some v1)
def QB (s1:ByteArray) (i1:Int):Option ((Int)⊕(Unit⊕Bool)) :=
 bif (decide (i1<((s1.size:Nat):Int))) then
  Option.bind (QdP s1 i1) fun x2 =>
  Option.bind (
   Option.bind (YC x2) fun r2 =>
   bif (!r2) then
    bif (decide (x2<48)) then
     bif (!(decide (x2=45))) then
      bif (!(decide (x2=95))) then
       some (!(decide (x2=46)))
      else
       some false
     else
      some false
    else
     bif (decide (57<x2)) then
      bif (!(decide (x2=45))) then
       bif (!(decide (x2=95))) then
        some (!(decide (x2=46)))
       else
        some false
      else
       some false
     else
      some false
   else
    some false) (fun v2 =>
   bif v2 then
    some (.inr (.inr false))
   else
    some (.inl (w64 (i1+1))))
 else
  some (.inr (.inl ()))
def Zb (s1:ByteArray):Option (Bool) :=
 Option.bind (
  bif (decide (((s1.size:Nat):Int)<1)) then
   some true
  else
   bif (decide (32<((s1.size:Nat):Int))) then
    some true
   else
    Option.bind (QdP s1 0) fun x1 =>
    Option.bind (YC x1) fun r1 =>
    some (!r1)) (fun v1 =>
  bif v1 then
   some false
  else
   Option.bind (
    iter (QB s1) (((s1.size:Nat):Int).toNat+1) 0) (fun o_=>QO o_ (fun _ =>
    some true) (fun rv21235=>some rv21235)))
def QQ (v1:Qk) (nodes1:Int) (materials1:Int):Option (Int) :=
 Option.bind (Zb v1.ID) fun r1 =>
 bif (!r1) then
  some 5
 else
  Option.bind (
   bif (decide (v1.Depot<0)) then
    some true
   else
    some (decide (nodes1≤v1.Depot))) (fun v2 =>
   bif v2 then
    some 7
   else
    Option.bind (
     bif (decide (v1.Shift.From<0)) then
      some true
     else
      bif (decide (v1.Shift.To≤v1.Shift.From)) then
       some true
      else
       some (decide (86400<v1.Shift.To))) (fun v3 =>
     bif v3 then
      some 19
     else
      Option.bind (
       bif (decide (v1.Grams<1)) then
        some true
       else
        some (decide (1073741824<v1.Grams))) (fun v4 =>
       bif v4 then
        some 1
       else
        Option.bind (
         bif (decide (v1.Kinds<1)) then
          some true
         else
          Option.bind (Vo (0≤materials1∧materials1≤64)) fun _ =>
          some (decide ((w64 (1*2^materials1.toNat))≤v1.Kinds))) (fun v5 =>
         bif v5 then
          some 21
         else
          some 0))))
def QC (l1:(List Qk)) (nodes1:Int) (materials1:Int) (i1:Int):Option ((Int)⊕(Unit⊕Int)) :=
 bif (decide (i1<((l1.length:Nat):Int))) then
  Option.bind (QP l1 i1) fun x1 =>
  Option.bind (QQ x1 nodes1 materials1) fun r1 =>
  bif (!(decide (r1=0))) then
   some (.inr (.inr r1))
  else
   some (.inl (w64 (i1+1)))
 else
  some (.inr (.inl ()))
def Zd (l1:(List Qk)) (i2:Int) (k1:Int):Option ((Int)⊕(Unit⊕Int)) :=
 bif (decide (k1<i2)) then
  Option.bind (QP l1 i2) fun x2 =>
  Option.bind (QP l1 k1) fun x3 =>
  bif (decide (x2.ID=x3.ID)) then
   some (.inr (.inr 6))
  else
   some (.inl (w64 (k1+1)))
 else
  some (.inr (.inl ()))
def Ze (l1:(List Qk)) (i2:Int):Option ((Int)⊕(Unit⊕Int)) :=
 bif (decide (i2<((l1.length:Nat):Int))) then
  Option.bind (
   Option.bind (
    iter (Zd l1 i2) (i2.toNat+1) 0) (fun o_=>QO o_ (fun _ =>
    some (.inl ())) (fun rv21259=>some (.inr rv21259)))) (fun o_=>QO o_ (fun _ =>
   some (.inl (w64 (i2+1)))) (fun rv21258=>some (.inr (.inr rv21258))))
 else
  some (.inr (.inl ()))
def Q8 (l1:(List Qk)) (nodes1:Int) (materials1:Int):Option (Int) :=
 Option.bind (
  bif (decide (nodes1<1)) then
   some true
  else
   bif (decide (64<nodes1)) then
    some true
   else
    bif (decide (materials1<1)) then
     some true
    else
     some (decide (16<materials1))) (fun v1 =>
  bif v1 then
   some 1
  else
   bif (decide (((l1.length:Nat):Int)=0)) then
    some 10
   else
    bif (decide (16<((l1.length:Nat):Int))) then
     some 8
    else
     Option.bind (
      iter (QC l1 nodes1 materials1) (((l1.length:Nat):Int).toNat+1) 0) (fun o_=>QO o_ (fun _ =>
      Option.bind (
       iter (Ze l1) (((l1.length:Nat):Int).toNat+1) 0) (fun o_=>QO o_ (fun _ =>
       some 0) (fun rv21251=>some rv21251))) (fun rv21230=>some rv21230)))
def QI (l1:(List Qg)) (nodes1:Int) (materials1:Int) (i1:Int):Option ((Int)⊕(Unit⊕Int)) :=
 bif (decide (i1<((
           l1.length:Nat):Int))) then
  Option.bind (QP l1 i1) fun x1 =>
  Option.bind (
   bif (decide (x1.Container<0)) then
    some true
   else
    bif (decide (256≤x1.Container)) then
     some true
    else
     bif (decide (x1.Node<0)) then
      some true
     else
      bif (decide (nodes1≤x1.Node)) then
       some true
      else
       bif (decide (x1.Kind<0)) then
        some true
       else
        some (decide (materials1≤x1.Kind))) (fun v1 =>
   bif v1 then
    some (.inr (.inr 7))
   else
    Option.bind (
     bif (decide (x1.Grams<0)) then
      some true
     else
      bif (decide (1073741824<x1.Grams)) then
       some true
      else
       bif (decide (x1.When.From<0)) then
        some true
       else
        bif (decide (x1.When.To<x1.When.From)) then
         some true
        else
         bif (decide (86400<x1.When.To)) then
          some true
         else
          bif (decide (x1.Service<0)) then
           some true
          else
           some (decide (3600<x1.Service))) (fun v2 =>
     bif v2 then
      some (.inr (.inr 1))
     else
      some (.inl (w64 (i1+1)))))
 else
  some (.inr (.inl ()))
def QZ (l1:(List Qg)) (i2:Int) (k1:Int):Option ((Int)⊕(Unit⊕Int)) :=
 bif (decide (k1<i2)) then
  Option.bind (QP l1 i2) fun x2 =>
  Option.bind (QP l1 k1) fun x3 =>
  bif (decide (x2.Container=x3.Container)) then
   some (.inr (.inr 6))
  else
   some (.inl (w64 (k1+1)))
 else
  some (.inr (.inl ()))
def Q4 (l1:(List Qg)) (i2:Int):Option ((Int)⊕(Unit⊕Int)) :=
 bif (decide (i2<((l1.length:Nat):Int))) then
  Option.bind (
   Option.bind (
    iter (QZ l1 i2) (i2.toNat+1) 0) (fun o_=>QO o_ (fun _ =>
    some (.inl ())) (fun rv21286=>some (.inr rv21286)))) (fun o_=>QO o_ (fun _ =>
   some (.inl (w64 (i2+1)))) (fun rv21285=>some (.inr (.inr rv21285))))
 else
  some (.inr (.inl ()))
def Q9 (l1:(List Qg)) (nodes1:Int) (materials1:Int):Option (Int) :=
 bif (decide (32<((l1.length:Nat):Int))) then
  some 8
 else
  Option.bind (
   iter (QI l1 nodes1 materials1) (((l1.length:Nat):Int).toNat+1) 0) (fun o_=>QO o_ (fun _ =>
   Option.bind (
    iter (Q4 l1) (((l1.length:Nat):Int).toNat+1) 0) (fun o_=>QO o_ (fun _ =>
    some 0) (fun rv21278=>some rv21278))) (fun rv21263=>some rv21263))
def Qj (p1:Qc):Option (Int) :=
 Option.bind (ZM p1.Road) fun r1 =>
 bif (!(decide (r1=0))) then
  some r1
 else
  Option.bind (Q8 p1.Vehicles p1.Road.Nodes 16) fun r2 =>
  bif (!(decide (r2=0))) then
   some r2
  else
   Option.bind (Q9 p1.Demands p1.Road.Nodes 16) fun r3 =>
   bif (!(decide (r3=0))) then
    some r3
   else
    Option.bind (
     bif (decide (p1.Unload<0)) then
      some true
     else
      some (decide (p1.Road.Nodes≤p1.Unload))) (fun v1 =>
     bif v1 then
      some 7
     else
      Option.bind (
       bif (decide (p1.UnloadSecs<0)) then
        some true
       else
        some (decide (7200<p1.UnloadSecs))) (fun v2 =>
       bif v2 then
        some 1
       else
        some 0))
def Z5 (v1:Qk) (kind1:Int):Option (Bool) :=
 Option.bind (
  bif (decide (kind1<0)) then
   some true
  else
   some (decide (16≤kind1))) (fun v2 =>
  bif v2 then
   some false
  else
   Option.bind (Vo (0≤kind1∧kind1≤64)) fun _ =>
   some (decide ((Int.tmod ((IntKind.u64.wrap (v1.Kinds))/2^kind1.toNat) 2)=1)))
def YK (stops1:(List Int)) (i1:Int) (x1:Int) (k1:Int):Option ((Int)⊕(Unit⊕Int)) :=
 bif (decide (k1<i1)) then
  Option.bind (QP stops1 k1) fun x2 =>
  bif (decide (x2=x1)) then
   some (.inr (.inr 6))
  else
   some (.inl (w64 (k1+1)))
 else
  some (.inr (.inl ()))
def WA (p1:Qc) (v1:Qk) (stops1:(List Int)) (i1:Int):Option (Int) :=
 Option.bind (QP stops1 i1) fun x1 =>
 bif (decide (x1=(-1))) then
  some 0
 else
  Option.bind (
   bif (decide (x1<0)) then
    some true
   else
    some (decide (((p1.Demands.length:Nat):Int)≤x1))) (fun v2 =>
   bif v2 then
    some 7
   else
    Option.bind (
     iter (YK stops1 i1 x1) (i1.toNat+1) 0) (fun o_=>QO o_ (fun _ =>
     Option.bind (QP p1.Demands x1) fun x3 =>
     Option.bind (Z5 v1 x3.Kind) fun r1 =>
     bif (!r1) then
      some 21
     else
      some 0) (fun rv21561=>some rv21561)))
def WH (r1:Qr) (n1:Int):Option (Bool) :=
 Option.bind (
  bif (decide (0≤n1)) then
   some (decide (n1<r1.Nodes))
  else
   some false) (fun v1 =>
  some v1)
def Wz (a1:Qd) (b1:Qd):Option (Qd) :=
 some (Qd.mk (w64 (a1.Secs+b1.Secs)) (w64 (a1.Meters+b1.Meters)))
def ZB (a1:Qd) (b1:Qd):Option (Bool) :=
 Option.bind (
  bif (decide (a1.Secs<0)) then
   some true
  else
   some (decide (b1.Secs<0))) (fun v1 =>
  bif v1 then
   some (decide (0≤a1.Secs))
  else
   Option.bind (
    bif (decide (a1.Secs<b1.Secs)) then
     some true
    else
     bif (decide (a1.Secs=b1.Secs)) then
      some (decide (a1.Meters<b1.Meters))
     else
      some false) (fun v2 =>
    some v2))
def YQ (l1:(List Qd)) (j_:(List Qd)×Int):Option (((List Qd)×Int)⊕((List Qd))) :=
 oun j_ fun out1 v1 =>
 bif (decide (v1<((l1.length:Nat):Int))) then
  Option.bind (QP out1 v1) fun x1 =>
  some (.inl ((Zy out1 v1 (Qd.mk (-1) x1.Meters)),w64 (v1+1)))
 else
  some (.inr out1)
def YR (r1:Qr) (j_:(List Qd)×Int):Option (((List Qd)×Int)⊕((List Qd))) :=
 oun j_ fun out4 v2 =>
 bif (decide (v2<((r1.Edges.length:Nat):Int))) then
  Option.bind (
   Option.bind (QP r1.Edges v2) fun x3 =>
   Option.bind (QP out4 x3.From) fun x4 =>
   bif (decide (0≤x4.Secs)) then
    Option.bind (
     Option.bind (QP out4 x3.From) fun x5 =>
     Option.bind (Wz x5 (Qd.mk x3.Secs x3.Meters)) fun r4 =>
     some (r4.Secs,r4.Meters)) (fun j_=>oun j_ fun f1 f2 =>
     Option.bind (QP out4 x3.To) fun x6 =>
     Option.bind (ZB (Qd.mk f1 f2) x6) fun r5 =>
     bif r5 then
      Option.bind (QP out4 x3.To) fun x7 =>
      some (Zy out4 x3.To (Qd.mk f1 f2))
     else
      some out4)
   else
    some out4) (fun out5 =>
   some (.inl (out5,w64 (v2+1))))
 else
  some (.inr out4)
def Zn (r1:Qr) (j_:(List Qd)×Int):Option (((List Qd)×Int)⊕((List Qd))) :=
 oun j_ fun out3 n1 =>
 bif (decide (n1<r1.Nodes)) then
  Option.bind (
   Option.bind (
    iter (YR r1) (((r1.Edges.length:Nat):Int).toNat+1) (out3,0)) (fun out6 =>
    some out6)) (fun out7 =>
   some (.inl (out7,w64 (n1+1))))
 else
  some (.inr out3)
def YW (r1:Qr) (f_from1:Int):Option ((List Qd)×Int) :=
 Option.bind (ZM r1) fun r2 =>
 bif (!(decide (r2=0))) then
  some ([],r2)
 else
  Option.bind (WH r1 f_from1) fun r3 =>
  bif (!r3) then
   some ([],7)
  else
   Option.bind (WG (Qd.mk 0 0) r1.Nodes) fun l1 =>
   Option.bind (
    iter (YQ l1) (((l1.length:Nat):Int).toNat+1) (l1,0)) (fun out2 =>
    Option.bind (QP out2 f_from1) fun x2 =>
    Option.bind (
     iter (Zn r1) (r1.Nodes.toNat+1) ((Zy out2 f_from1 (Qd.mk 0 x2.Meters)),0)) (fun out8 =>
     some (out8,0)))
def Zx (p1:Qc) (f_from1:Int) (f_to1:Int):Option (Qd) :=
 Option.bind (YW p1.Road f_from1) fun j_=>oun j_ fun r1 r2 =>
 Option.bind (
  bif (!(decide (r2=0))) then
   some true
  else
   bif (decide (f_to1<0)) then
    some true
   else
    some (decide (((r1.length:Nat):Int)≤f_to1))) (fun v1 =>
  bif v1 then
   some (Qd.mk (-1) 0)
  else
   Option.bind (QP r1 f_to1) fun x1 =>
   some x1)
def Js (p1:Qc) (v1:Qk) (x1:Qz) (s1:Int):Option (Qz×Int) :=
 Option.bind (
  bif (decide (0≤s1)) then
   Option.bind (QP p1.Demands s1) fun x2 =>
   some x2.Node
  else
   some p1.Unload) (fun f1 =>
  Option.bind (Zx p1 x1.Node f1) fun r1 =>
  bif (decide (r1.Secs<0)) then
   some ((Qz.mk 0 0 0 0 0 0),22)
  else
   bif (decide (s1<0)) then
    some ((Qz.mk s1 f1 (w64 (x1.Leave+r1.Secs)) (w64 (x1.Leave+r1.Secs)) (w64 ((w64 (x1.Leave+r1.Secs))+p1.UnloadSecs)) 0),0)
   else
    Option.bind (QP p1.Demands s1) fun x3 =>
    bif (decide (x3.When.To≤(max (w64 (x1.Leave+r1.Secs)) x3.When.From))) then
     some ((Qz.mk 0 0 0 0 0 0),19)
    else
     bif (decide (v1.Grams<(w64 (x1.Load+x3.Grams)))) then
      some ((Qz.mk 0 0 0 0 0 0),20)
     else
      some ((Qz.mk s1 f1 (w64 (x1.Leave+r1.Secs)) (max (w64 (x1.Leave+r1.Secs)) x3.When.From) (w64 ((max (w64 (x1.Leave+r1.Secs)) x3.When.From)+x3.Service)) (w64 (x1.Load+x3.Grams))),0))
def ZS (p1:Qc) (v1:Qk) (x1:Qz):Option (Qz×Int) :=
 Option.bind (Zx p1 x1.Node v1.Depot) fun r1 =>
 bif (decide (r1.Secs<0)) then
  some ((Qz.mk 0 0 0 0 0 0),22)
 else
  bif (decide (0<x1.Load)) then
   some ((Qz.mk 0 0 0 0 0 0),20)
  else
   bif (decide (v1.Shift.To≤(w64 (x1.Leave+r1.Secs)))) then
    some ((Qz.mk 0 0 0 0 0 0),19)
   else
    some ((Qz.mk (-2) v1.Depot (w64 (x1.Leave+r1.Secs)) (w64 (x1.Leave+r1.Secs)) (w64 (x1.Leave+r1.Secs)) 0),0)
def Ys (p1:Qc) (t1:Qf) (x1:Qk) (j_:Int×Int×Int×Int×Int×Int×(List Qz)×Int):Option ((Int×Int×Int×Int×Int×Int×(List Qz)×Int)⊕((Int×Int×Int×Int×Int×Int×(List Qz))⊕((List Qz)×Int×Int))) :=
 oun j_ fun f1 j_=>oun j_ fun f2 j_=>oun j_ fun f3 j_=>oun j_ fun f4 j_=>oun j_ fun f5 j_=>oun j_ fun f6 j_=>oun j_ fun out1 v2 =>
 bif (decide (v2<((t1.Stops.length:Nat):Int))) then
  Option.bind (QP t1.Stops v2) fun x2 =>
  Option.bind (WA p1 x1 t1.Stops v2) fun r2 =>
  Option.bind (
   bif (decide (r2=0)) then
    Option.bind (Js p1 x1 (Qz.mk f1 f2 f3 f4 f5 f6) x2) fun j_=>oun j_ fun r3 r4 =>
    some (r3.Stop,r3.Node,r3.Arrive,r3.Start,r3.Leave,r3.Load,r4)
   else
    some (f1,f2,f3,f4,f5,f6,r2)) (fun j_=>oun j_ fun f7 j_=>oun j_ fun f8 j_=>oun j_ fun f9 j_=>oun j_ fun f10 j_=>oun j_ fun f11 j_=>oun j_ fun f12 e1 =>
   bif (!(decide (e1=0))) then
    some (.inr (.inr ([],e1,v2)))
   else
    Option.bind (Qak out1 [(Qz.mk f7 f8 f9 f10 f11 f12)]) fun l1 =>
    some (.inl (f7,f8,f9,f10,f11,f12,l1,w64 (v2+1))))
 else
  some (.inr (.inl (f1,f2,f3,f4,f5,f6,out1)))
def JA (p1:Qc) (t1:Qf):Option ((List Qz)×Int×Int) :=
 Option.bind (Qj p1) fun r1 =>
 bif (!(decide (r1=0))) then
  some ([],r1,0)
 else
  Option.bind (
   bif (decide (t1.Vehicle<0)) then
    some true
   else
    some (decide (((p1.Vehicles.length:Nat):Int)≤t1.Vehicle))) (fun v1 =>
   bif v1 then
    some ([],7,0)
   else
    bif (decide (40<((t1.Stops.length:Nat):Int))) then
     some ([],8,0)
    else
     Option.bind (QP p1.Vehicles t1.Vehicle) fun x1 =>
     Option.bind (
      iter (Ys p1 t1 x1) (((t1.Stops.length:Nat):Int).toNat+1) (0,x1.Depot,0,0,x1.Shift.From,0,[],0)) (fun o_=>QO o_ (fun j_=>oun j_ fun f13 j_=>oun j_ fun f14 j_=>oun j_ fun f15 j_=>oun j_ fun f16 j_=>oun j_ fun f17 j_=>oun j_ fun f18 out2 =>
      Option.bind (ZS p1 x1 (Qz.mk f13 f14 f15 f16 f17 f18)) fun j_=>oun j_ fun r5 r6 =>
      bif (!(decide (r6=0))) then
       some ([],r6,((t1.Stops.length:Nat):Int))
      else
       Option.bind (Qak out2 [r5]) fun l2 =>
       some (l2,0,0)) (fun rv21536=>some rv21536)))
def YS (p1:Qc) (r1:(List Qz)) (j_:Int×Int×Int):Option ((Int×Int×Int)⊕(Int)) :=
 oun j_ fun sum1 j_=>oun j_ fun f_at1 v1 =>
 bif (decide (v1<((r1.length:Nat):Int))) then
  Option.bind (QP r1 v1) fun x2 =>
  Option.bind (Zx p1 f_at1 x2.Node) fun r4 =>
  some (.inl (w64 (sum1+r4.Meters),x2.Node,w64 (v1+1)))
 else
  some (.inr sum1)
def Jz (p1:Qc) (t1:Qf):Option (Int×Int) :=
 Option.bind (JA p1 t1) fun j_=>oun j_ fun r1 j_=>oun j_ fun r2 r3 =>
 bif (!(decide (r2=0))) then
  some (0,r2)
 else
  Option.bind (QP p1.Vehicles t1.Vehicle) fun x1 =>
  Option.bind (
   iter (YS p1 r1) (((r1.length:Nat):Int).toNat+1) (0,x1.Depot,0)) (fun sum2 =>
   some (sum2,0))
end Go.Proofs.Ytilbengnjgglhaa
namespace Go.Proofs.Ytilbengnjgglhaa
open Go.RowKit
set_option linter.unusedSimpArgs false
set_option linter.unusedVariables false
attribute [local irreducible] WP YF J9 Fn AN Upd vcR vcO QaK Zc YX WF WE Qaq VW ZC Qaf QA
theorem Qhf {μ:Gh} {L:List Seg} {A:Option Addr} {n c:Nat} {css:List (List Value)} (hr:Rd μ L A 1 css) (hn:css.length=n) (h1: ∀cs∈css,∀u∈cs,u.oneCell'=true) (hb:n≤1000000)
  {R:Value→Gh→List Seg→Prop} (hR: ∀v ch,Z8 3 1 v css ch→R v μ (ch::L)):Fn Try.prog 30 [.slice A n c] μ L R:=by
 refine Fn.of_body Yf Try.func30 (by kernel_rfl) rfl Try.ntmps30 (by simp) ?_
 simp only[Try.f30,QgG,List.zipIdx,List.map,Nat.reduceAdd]
 repeat' first | (apply QhA) | (apply Yh;exact rfl) | (apply WY) | ((first | (apply WX;exact rfl));first | (apply Yn;exact rfl) | (apply JV;exact rfl) | (apply QhC;exact rfl;exact rfl;all_goals (intro h;try (exfalso;omega))) | (apply Qe4;exact rfl;exact rfl) | (apply QfX;exact rfl;exact rfl;exact rfl;exact rfl) | (apply QfY;exact rfl;exact rfl;exact rfl;exact rfl) | (apply Qi4;exact rfl;exact rfl;exact rfl;exact rfl;all_goals (intro h)) | (apply QhB;exact rfl;exact rfl;exact rfl;exact rfl;all_goals (intro h))) | (apply Qi1) | (apply ZQ) | (apply QM;exact rfl;exact rfl;exact rfl;(focus (simp only[Wb,List.set_cons_zero,List.set_cons_succ,List.take_succ_cons,List.take_zero,List.drop_succ_cons,List.drop_zero,Value.cells,Nat.reduceAdd,Nat.reduceMul,Nat.zero_add,Nat.add_zero,List.toList_toArray,List.cons_append,List.nil_append,cyc];first | done | exact rfl))) | (apply WP.seq_k;intro K hK) | refine WP.region Yf ?_ | (apply Qby;exact rfl) | (apply Qbx;exact rfl) | (apply Qe6;exact rfl;all_goals (intro h)) | (apply WP.skip) | (apply WP.ret) | (apply Qi7) | (apply QhK;exact rfl) | (first | (apply Z0;exact rfl;exact rfl;exact rfl;exact rfl;exact rfl;exact rfl;(focus (simp only[Wb,List.set_cons_zero,List.set_cons_succ,List.take_succ_cons,List.take_zero,List.drop_succ_cons,List.drop_zero,Value.cells,Nat.reduceAdd,Nat.reduceMul,Nat.zero_add,Nat.add_zero,List.toList_toArray,List.cons_append,List.nil_append,cyc];first | done | exact rfl))) | (apply Zv;exact rfl)) | (fail) | (first | (refine hK _ _ _ ?_;clear hK K) | (clear hK K;refine hK _ _ _ ?_;clear hK K) | (clear hK K;clear hK K;refine hK _ _ _ ?_;clear hK K) | (clear hK K;clear hK K;clear hK K;refine hK _ _ _ ?_;clear hK K)) | intro g
 ·subst h;obtain rfl:css=[]:=by
   cases css with
   | nil=>rfl
   | cons a r=>obtain ⟨a,ha,_⟩:=hr.2 (by simp);cases ha
  exact Upd.know fun ⟨w,hw⟩=>Upd.sub (L':=[]::L) (by simp) (Upd.done (hR _ _ Z8.nil))
 ·refine QgX Yf rfl rfl rfl rfl (by decide) 0 rfl (css:=[]) ⟨by simp,.inr ⟨g,0, #[],rfl,rfl,by simp,by simp[maxLen],by simp,by simp⟩⟩ hn hr.cons h1 (by simp;omega) (by simp;omega) fun v' ch' hv _=> ?_
  repeat' first | (apply QhA) | (apply Yh;exact rfl) | (apply WY) | ((first | (apply WX;exact rfl));first | (apply Yn;exact rfl) | (apply JV;exact rfl) | (apply QhC;exact rfl;exact rfl;all_goals (intro h;try (exfalso;omega))) | (apply Qe4;exact rfl;exact rfl) | (apply QfX;exact rfl;exact rfl;exact rfl;exact rfl) | (apply QfY;exact rfl;exact rfl;exact rfl;exact rfl) | (apply Qi4;exact rfl;exact rfl;exact rfl;exact rfl;all_goals (intro h)) | (apply QhB;exact rfl;exact rfl;exact rfl;exact rfl;all_goals (intro h))) | (apply Qi1) | (apply ZQ) | (apply QM;exact rfl;exact rfl;exact rfl;(focus (simp only[Wb,List.set_cons_zero,List.set_cons_succ,List.take_succ_cons,List.take_zero,List.drop_succ_cons,List.drop_zero,Value.cells,Nat.reduceAdd,Nat.reduceMul,Nat.zero_add,Nat.add_zero,List.toList_toArray,List.cons_append,List.nil_append,cyc];first | done | exact rfl))) | (apply WP.seq_k;intro K hK) | refine WP.region Yf ?_ | (apply Qby;exact rfl) | (apply Qbx;exact rfl) | (apply Qe6;exact rfl;all_goals (intro h)) | (apply WP.skip) | (apply WP.ret) | (apply Qi7) | (apply QhK;exact rfl) | (first | (apply Z0;exact rfl;exact rfl;exact rfl;exact rfl;exact rfl;exact rfl;(focus (simp only[Wb,List.set_cons_zero,List.set_cons_succ,List.take_succ_cons,List.take_zero,List.drop_succ_cons,List.drop_zero,Value.cells,Nat.reduceAdd,Nat.reduceMul,Nat.zero_add,Nat.add_zero,List.toList_toArray,List.cons_append,List.nil_append,cyc];first | done | exact rfl))) | (apply Zv;exact rfl)) | (fail) | (first | (refine hK _ _ _ ?_;clear hK K) | (clear hK K;refine hK _ _ _ ?_;clear hK K) | (clear hK K;clear hK K;refine hK _ _ _ ?_;clear hK K) | (clear hK K;clear hK K;clear hK K;refine hK _ _ _ ?_;clear hK K)) | intro g
  rw[List.nil_append] at hv
  exact Upd.done (hR _ _ hv)
end Go.Proofs.Ytilbengnjgglhaa
namespace Go.Proofs.Ytilbengnjgglhaa
open Go.RowKit
set_option linter.unusedSimpArgs false
set_option linter.unusedVariables false
section
variable {P:Program} {ops:Array Oper} {Q:Exit→Act→World→Prop} {S S0:World→Prop} {b:List Nat}
def Qe9 (P:Program) (ops:Array Oper) (Q:Exit→Act→World→Prop) (S S0:World→Prop) (b:List Nat):Nat→Array Bool→Act→World→Prop
 | 0,listed,a,w=>Region.ready .any ops listed=[]∧Q .normal a w
 | fuel+1,listed,a,w=>(Region.ready .any ops listed=[]→Q .normal a w) ∧
  ∀i∈Region.ready .any ops listed,wpOp P ops Q i (fun a' w'=>S0 w'∧(i∉b→S w→S w')∧Qe9 P ops Q S S0 b fuel (listed.setIfInBounds i true) a' w') a w
theorem Qfb: ∀(fuel:Nat) (listed:Array Bool) (a:Act) (w:World),Qe9 P ops Q S S0 b fuel listed a w→wpAny P .any ops Q fuel listed a w
 | 0,_,_,_,h=>h
 | fuel+1,_,_,_,h=>⟨h.1,fun i hi=>wpOp_mono (fun a' w' h'=>Qfb fuel _ a' w' h'.2.2) (h.2 i hi)⟩
def JU (ops:Array Oper) (l:Array Bool):Prop:= ∀j oj,ops[j]? =some oj→l.getD j false=true→ ∀e∈oj.after,Region.binds .any e=true→l.getD e.on false=true
theorem JU.start (n:Nat):JU ops (List.replicate n false).toArray:=by
 intro j oj _ h;rcases Nat.lt_or_ge j n with h' | h'<;>simp[h'] at h
theorem JU.set {l:Array Bool} {i:Nat} (h:JU ops l) (hr:i∈Region.ready .any ops l):JU ops (l.setIfInBounds i true):=by
 intro j oj hj hl e he hb
 by_cases hij:i=j
 ·subst hij;obtain ⟨_,o,ho,hall⟩:=mem_ready.1 hr
  rw[hj] at ho;injection ho with ho;subst ho
  exact getD_set_true (hall e he hb)
 ·rw[getD_set_ne false hij] at hl
  exact getD_set_true (h j oj hj hl e he hb)
def JW (ops:Array Oper) (b i:Nat):Prop:= ∀l:Array Bool,JU ops l→(∃ob,ops[b]? =some ob∧ ∀e∈ob.after,Region.binds .any e=true→l.getD e.on false=true)→l.getD i false=true
theorem JW.trans {d c i:Nat} {oc:Oper} (h1:JW ops d c) (hc:ops[c]? =some oc) (h2:JW ops c i):JW ops d i:=fun l hl hd=>by
 have h3:=h1 l hl hd;exact h2 l hl ⟨oc,hc,fun e he hb=>hl c oc hc h3 e he hb⟩
theorem Qbd {Sx:World→Prop} {i:Nat} {oi:Oper} {v:Value} (hi:ops[i]? =some oi) (hsel: ∀(j:Nat) (o:Oper) cs c,ops[j]? =some o→o.op≠ .select cs c)
  (hQ: ∀c a w,Q (.panic c) (a.put oi.dst v) w→Q (.panic c) a w) (hb:(∀w,S0 w→Sx w)∨(Sx=S∧ ∀d∈b,JW ops d i)) :
  ∀(fuel:Nat) (listed:Array Bool) (a:Act) (w:World),
   (∀j oj,ops[j]? =some oj→j≠i→listed.getD j true=false→(∀e∈oj.after,Region.binds .any e=true→e.on≠i)→oi.apart ops oj=true) →
   i∈Region.ready .any ops listed→JU ops listed→YieldsIf P ops Sx oi v a→S0 w→Sx w →
   Qe9 P ops Q S S0 b fuel (listed.setIfInBounds i true) (a.put oi.dst v) w→Qe9 P ops Q S S0 b (fuel+1) listed a w:=by
 intro fuel
 induction fuel with
 | zero =>
  intro listed a w _ hr _ hy hS0 hS H;refine ⟨fun h=>(by rw[h] at hr;cases hr),fun j hj=> ?_⟩
  by_cases hji:j=i
  ·subst hji;exact hy.wpOp hi hS ⟨hS0,fun _ h=>h,H⟩
  ·have:=ready_mono hj hji
   rw[H.1] at this
   cases this
 | succ fuel ih =>
  intro listed a w hfree hr hcl hy hS0 hS H;refine ⟨fun h=>(by rw[h] at hr;cases hr),fun j hj=> ?_⟩
  by_cases hji:j=i
  ·subst hji;exact hy.wpOp hi hS ⟨hS0,fun _ h=>h,H⟩
  ·have h1:=H.2 j (ready_mono hj hji);obtain ⟨hjun,oj,hoj,hall⟩:=mem_ready.1 hj;have hnot: ∀e∈oj.after,Region.binds .any e=true→e.on≠i:=fun e he hb heq=>by
    have h1:=hall e he hb;have h0:=(mem_ready.1 hr).1
    rw[heq] at h1
    rcases Nat.lt_or_ge i listed.size with h' | h'
    ·simp[h'] at h0 h1;rw[h0] at h1;cases h1
    ·simp[Array.getElem?_eq_none h'] at h1
   have hSx: ∀w',S0 w'→(j∉b→S w→S w')→Sx w':=fun w' q0 q1=>by
    rcases hb with hb | ⟨rfl,hb⟩
    ·exact hb w' q0
    ·refine q1 (fun hjm=> ?_) hS;have h3:=hb j hjm listed hcl ⟨oj,hoj,hall⟩;have h0:=(mem_ready.1 hr).1;rcases Nat.lt_or_ge i listed.size with h' | h'
     ·simp[h'] at h0 h3;rw[h0] at h3;cases h3
     ·simp[Array.getElem?_eq_none h'] at h3
   have h2:=wpOp_putIf hoj (hfree j oj hoj hji hjun hnot) (fun cs c=>hsel i oi cs c hi) (fun cs c=>hsel j oj cs c hoj) hQ hy h1;have hfree': ∀k ok,ops[k]? =some ok→k≠i→(listed.setIfInBounds j true).getD k true=false →
     (∀e∈ok.after,Region.binds .any e=true→e.on≠i)→oi.apart ops ok=true:=fun k ok hk hki hun hno=>by
    refine hfree k ok hk hki ?_ hno
    by_cases hjk:j=k
    ·subst hjk;exact hjun
    ·rw[getD_set_ne true hjk] at hun;exact hun
   refine wpOp_mono (fun a' w' h3=>⟨h3.2.1,h3.2.2.1,ih (listed.setIfInBounds j true) a' w' hfree' (ready_mono hr (Ne.symm hji)) (hcl.set hj) h3.1 h3.2.1 (hSx w' h3.2.1 h3.2.2.1) ?_⟩) h2
   rw[Array.setIfInBounds_comm _ _ hji]
   exact h3.2.2.2
end
def Qic:Op→Bool
 | .load _ _ | .lookup _ _ _ _ | .call _=>false
 | _=>true
theorem Qiz {P:Program} {T:TT} {o:Op} {fr:Fr} {μ μ':Gh} {L L':List Seg} {k:Value→Prop} (hp:Qic o=true) (h:vcR P T o fr μ L k):vcR P T o fr μ' L' k:=by
 cases o<;>first | exact h | cases hp
def Qdf (ops:List Oper) (b i:Nat):Bool:=match ZV ops b with
 | some o=>o.after.toList.any fun e=>Region.binds .any e&&e.on==i
 | none=>false
def Qcf (ops:List Oper):Nat→List Nat→Nat→Bool
 | b,[],i=>Qdf ops b i
 | b,k::r,i=>Qdf ops b k&&Qcf ops k r i
theorem VU {ops:List Oper} {b i:Nat} (h:Qdf ops b i=true): ∃ob,ops.toArray[b]? =some ob∧ ∃e∈ob.after,Region.binds .any e=true∧e.on=i:=by
 unfold Qdf at h
 rw[W2] at h
 cases hob:ops[b]? with
 | none=>rw[hob] at h;cases h
 | some ob =>
  rw[hob] at h
  simp only[List.any_eq_true,Bool.and_eq_true,beq_iff_eq] at h
  obtain ⟨e,h10,h11,h12⟩:=h;exact ⟨ob,by simpa using hob,e,by simpa using h10,h11,h12⟩
theorem QaM {ops:List Oper}: ∀{p:List Nat} {b i:Nat} (_:Qcf ops b p i=true),JW ops.toArray b i
 | [],b,i,h,l,hc,⟨ob,h1,h2⟩=>by
  obtain ⟨ob',h3,e,h4,h5,h6⟩:=VU h
  rw[h1] at h3;injection h3 with h3;subst h3
  rw[←h6];exact h2 e h4 h5
 | k::r,b,i,h,l,hc,⟨ob,h1,h2⟩=>by
  unfold Qcf at h
  rw[Bool.and_eq_true] at h
  obtain ⟨ob',h3,e,h4,h5,h6⟩:=VU h.1
  rw[h1] at h3;injection h3 with h3;subst h3
  have hk:l.getD k false=true:=by rw[←h6];exact h2 e h4 h5
  have hok: ∃ok,ops.toArray[k]? =some ok:=by
   cases r with
   | nil=>obtain ⟨o,h7,_⟩:=VU (show Qdf ops k i=true from h.2);exact ⟨o,h7⟩
   | cons k' r'=>obtain ⟨o,h7,_⟩:=VU (Bool.and_eq_true _ _▸(show (Qdf ops k k'&&Qcf ops k' r' i)=true from h.2):Qdf ops k k'=true∧_).1;exact ⟨o,h7⟩
  obtain ⟨ok,h7⟩:=hok;exact QaM h.2 l hc ⟨ok,h7,fun e he hb=>hc k ok h7 hk e he hb⟩
def Qh7 (ps:List (Nat×List Nat)) (i:Nat):List Nat:=match ps with
 | []=>[]
 | p::r=>bif p.1==i then p.2 else Qh7 r i
def QaB (ops:List Oper) (ps:List (Nat×List Nat)) (b:Nat):List (Bool×Nat)→List Bool→Option (List Bool)
 | [],l=>some l
 | p::r,l=>match (match p.1 with
   | true=>Region.free .any ops.toArray l.toArray p.2&&(Region.ready .any ops.toArray l.toArray).contains p.2&&((match ZV ops p.2 with | some o=>Qic o.op | none=>false)||Qcf ops b (Qh7 ps p.2) p.2)
   | false=>Region.ready .any ops.toArray l.toArray==[p.2]) with
  | true=>QaB ops ps b r (l.set p.2 true)
  | false=>none
def Qfu (ops:List Oper) (ps:List (Nat×List Nat)) (b:Nat):List Nat→Bool
 | []=>true
 | d::r=>Qcf ops d (Qh7 ps d) b&&Qfu ops ps b r
def Qbr (ops:List Oper):List Nat→List Bool→Bool
 | [],l=>Region.ready .any ops.toArray l.toArray==[]
 | i::r,l=>(Region.ready .any ops.toArray l.toArray==[i])&&Qbr ops r (l.set i true)
section
variable {P:Program} {T:TT} {N:NN} {ops:List Oper} {μ0:Gh} {keep:List Seg} {K:QK} {fr:Fr} {μ:Gh} {L:List Seg} {fuel:Nat} {listed:List Bool} {b:Nat} {ds:List Nat} {ps:List (Nat×List Nat)}
def ANB (P:Program) (N:NN) (ops:List Oper) (μ0:Gh) (keep:List Seg) (ds:List Nat) (fuel:Nat) (listed:List Bool) (K:QK) (fr:Fr) (μ:Gh) (L:List Seg):Prop :=
 μ0.le μ→QA keep L→ ∀(a:Act) (w:World) (Q:Exit→Act→World→Prop),Agr N fr a→Inv w μ L →
  (∀fr' μ' L' a' w',μ.le μ'→Agr N fr' a'→Inv w' μ' L'→K fr' μ' L'→Q .normal a' w') →
  (∀c a d v w,Q (.panic c) (Act.put a d v) w→Q (.panic c) a w)→Qe9 P ops.toArray Q (fun w=>ZZ w μ0 keep) (fun w=>ZZ w μ0 []) ds fuel listed.toArray a w
def QfR (P:Program) (T:TT) (N:NN) (ops:List Oper):List Nat→QK→QK
 | [],K=>K
 | i::r,K=>fun fr μ L=> ∃o,ZV ops i=some o∧o.guard=none∧vcO P T o.op o.type fr μ L fun v μ' L'=>YX N o.dst v fr fun fr'=>QfR P T N ops r K fr' μ' L'
theorem Qks {dst:Option Tmp} {op:Op} {ty:TypeId} {pos:String} {aft:Array Edge} {r:List Nat} (hi:ZV ops b=some ⟨dst,op,ty,pos,aft,none⟩) (h:vcO P T op ty fr μ L fun v μ' L'=>YX N dst v fr fun fr'=>QfR P T N ops r K fr' μ' L'):QfR P T N ops (b::r) K fr μ L :=
 ⟨_,hi,rfl,h⟩
theorem Qft {dst:Option Tmp} {op:Op} {ty:TypeId} {pos:String} {aft:Array Edge} (hi:ZV ops b=some ⟨dst,op,ty,pos,aft,none⟩) (h:vcO P T op ty fr μ L fun v μ' L'=>YX N dst v fr fun fr'=>K fr' μ' L'):QfR P T N ops [b] K fr μ L :=
 ⟨_,hi,rfl,h⟩
theorem Qfa {S:World→Prop} {μ0:Gh} {Q:Exit→Act→World→Prop} (hT:TOk P T): ∀(r:List Nat) (listed:List Bool) (_: ∀i∈r,i∈ds) (_:Qbr ops r listed=true) {fr:Fr} {μ:Gh} {L:List Seg} (_:QfR P T N ops r K fr μ L) (_:μ0.le μ) (a:Act) (w:World) (_:Agr N fr a) (_:Inv w μ L)
  (_: ∀fr' μ' L' a' w',μ.le μ'→Agr N fr' a'→Inv w' μ' L'→K fr' μ' L'→Q .normal a' w'),Qe9 P ops.toArray Q S (fun w=>ZZ w μ0 []) ds r.length listed.toArray a w
 | [],listed,_,hs,fr,μ,L,h,hm,a,w,ha,hw,hQ=>by
  simp only[Qbr,beq_iff_eq] at hs
  exact ⟨hs,hQ fr μ L a w (Gh.le.refl _) ha hw h⟩
 | i::r,listed,hd,hs,fr,μ,L,h,hm,a,w,ha,hw,hQ=>by
  simp only[Qbr,Bool.and_eq_true,beq_iff_eq] at hs
  obtain ⟨hr,hs⟩:=hs;obtain ⟨o,ho,hg,h⟩:=h
  rw[W2] at ho
  have ho':ops.toArray[i]? =some o:=by simpa using ho
  refine ⟨fun h0=>absurd (hr▸h0) (by simp),fun j hj=> ?_⟩
  rw[hr] at hj
  have hj':j=i:=by simpa using hj
  subst hj';unfold wpOp
  rw[ho']
  simp only
  have hwt:Region.wanted o (yielded ops.toArray a.tmps)=true:=by unfold Region.wanted;rw[hg]
  rw[if_pos hwt]
  refine .inl (Wn hT ha h hw fun v μ' L' w' hm' hw' hv=> ?_);obtain ⟨fr',hv',ha'⟩:=Yk ha hv;refine ⟨Zi (hm.trans hm') QA.nil hw',fun hne=>absurd (hd j (by simp)) hne,?_⟩
  rw[Yz]
  exact Qfa hT r _ (fun k hk=>hd k (by simp[hk])) hs hv' (hm.trans hm') _ _ ha' hw' fun fr2 μ2 L2 a2 w2 h2=>hQ fr2 μ2 L2 a2 w2 (hm'.trans h2)
theorem Qdr: ∀{r:List Nat} (_:Qfu ops ps b r=true),∀d∈r,JW ops.toArray d b
 | c::r,h,d,hd=>by
  simp only[Qfu,Bool.and_eq_true] at h
  rcases List.mem_cons.1 hd with rfl | hd
  ·exact QaM h.1
  ·exact Qdr h.2 d hd
theorem ANB.steps (hT:TOk P T) (hs:Region.noSelect ops.toArray=true) {listed':List Bool} {r0:List Nat} (hsr:Qbr ops (b::r0) listed'=true) (hlt:Qfu ops ps b r0=true) :
  ∀(plan:List (Bool×Nat)) (listed:List Bool) (_:QaB ops ps b plan listed=some listed') (_:JU ops.toArray listed.toArray) {fr:Fr} {μ:Gh} {L:List Seg}
  (_:Zc P T N ops μ0 keep plan fr μ L (QfR P T N ops (b::r0) K)),ANB P N ops μ0 keep (b::r0) ((b::r0).length+plan.length) listed K fr μ L
 | [],listed,hp,_,fr,μ,L,h=>by
  simp only[QaB,Option.some.injEq] at hp
  subst hp;intro hm hk a w Q ha hw hQ hQp;exact Qfa hT (b::r0) _ (fun i hi=>hi) hsr h hm a w ha hw hQ
 | (q,i)::r,listed,hp,hcl,fr,μ,L,h=>by
  intro hm hk a w Qx ha hw hQ hQp;unfold QaB at hp
  split at hp
  ·rename_i hc
   unfold Zc at h
   simp only[W2] at h hc
   cases ho:ops[i]? with
   | none=>rw[ho] at h;exact h.elim
   | some o =>
    rw[ho] at h
    have ho':ops.toArray[i]? =some o:=by simpa using ho
    show Qe9 P ops.toArray Qx _ _ (b::r0) (((b::r0).length+r.length)+1) listed.toArray a w
    cases q with
    | true =>
     simp only[Bool.and_eq_true,Bool.or_eq_true,ho] at h hc
     have hri:i∈Region.ready .any ops.toArray listed.toArray:=by simpa using hc.1.2
     have hcl2:JU ops.toArray (listed.set i true).toArray:=by rw[←Yz];exact hcl.set hri
     have hcont: ∀v,YX N o.dst v fr (fun fr'=>Zc P T N ops μ0 keep r fr' μ L (QfR P T N ops (b::r0) K)) →
       Qe9 P ops.toArray Qx (fun w=>ZZ w μ0 keep) (fun w=>ZZ w μ0 []) (b::r0) ((b::r0).length+r.length) (listed.toArray.setIfInBounds i true) (a.put o.dst v) w:=by
      intro v hv;obtain ⟨fr',hv',ha'⟩:=Yk ha hv
      rw[Yz]
      exact ANB.steps hT hs hsr hlt r _ hp hcl2 hv' hm hk _ w Qx ha' hw hQ hQp
     have h00:ZZ w μ0 []:=Zi hm QA.nil hw;rcases Zq ha h with ⟨hg,h⟩ | ⟨hg,h⟩
     ·rcases hc.2 with hpu | hwt
      ·obtain ⟨v,hv,hrun⟩:=VN hT ha (Qiz (μ':=μ0) (L':=[]) hpu h);exact Qbd (Sx:=fun w=>ZZ w μ0 []) ho' (Region.noSelect_spec hs) (fun c a w h=>hQp c a _ _ w h) (.inl fun _ h=>h) _ _ a w (Region.free_spec ho' hc.1.1) hri hcl (.inl ⟨hg,fun w hw=>hrun w hw⟩) h00 h00 (hcont v hv)
      ·have hw0:JW ops.toArray b i:=QaM hwt;have hwb: ∀d∈b::r0,JW ops.toArray d i:=fun d hd=>by
        rcases List.mem_cons.1 hd with rfl | hd
        ·exact hw0
        ·simp only[Qbr,Bool.and_eq_true,beq_iff_eq] at hsr
         obtain ⟨_,ob,hob,_⟩:=mem_ready.1 (show b∈Region.ready .any ops.toArray listed'.toArray by rw[hsr.1];simp);exact (Qdr hlt d hd).trans hob hw0
       obtain ⟨v,hv,hrun⟩:=VN hT ha h;exact Qbd (Sx:=fun w=>ZZ w μ0 keep) ho' (Region.noSelect_spec hs) (fun c a w h=>hQp c a _ _ w h) (.inr ⟨rfl,hwb⟩) _ _ a w (Region.free_spec ho' hc.1.1) hri hcl (.inl ⟨hg,fun w hw=>hrun w hw⟩) h00 (Zi hm hk hw) (hcont v hv)
     ·exact Qbd (Sx:=fun w=>ZZ w μ0 []) ho' (Region.noSelect_spec hs) (fun c a w h=>hQp c a _ _ w h) (.inl fun _ h=>h) _ _ a w (Region.free_spec ho' hc.1.1) hri hcl (.inr ⟨hg,rfl⟩) h00 h00 (hcont undef h)
    | false =>
     simp only[beq_iff_eq] at h hc
     refine ⟨fun h0=>absurd (hc▸h0) (by simp),fun j hj=> ?_⟩
     rw[hc] at hj
     have hj':j=i:=by simpa using hj
     subst hj';have hcl2:JU ops.toArray (listed.set j true).toArray:=by rw[←Yz];exact hcl.set (by rw[hc];simp)
     unfold wpOp
     rw[ho']
     simp only
     rcases Zq ha h with ⟨hg,h⟩ | ⟨hg,h⟩
     ·rw[if_pos hg]
      refine .inl (Wn hT ha h hw fun v μ' L' w' hm' hw' hv=> ?_);obtain ⟨fr',hv',ha'⟩:=Yk ha hv.2;refine ⟨Zi (hm.trans hm') QA.nil hw',fun _ _=>Zi (hm.trans hm') hv.1 hw',?_⟩
      rw[Yz]
      exact ANB.steps hT hs hsr hlt r _ hp hcl2 hv' (hm.trans hm') hv.1 _ w' Qx ha' hw' (fun fr2 μ2 L2 a2 w2 h2=>hQ fr2 μ2 L2 a2 w2 (hm'.trans h2)) hQp
     ·rw[if_neg (by rw[hg];exact Bool.false_ne_true)]
      obtain ⟨fr',hv',ha'⟩:=Yk ha h;refine ⟨Zi hm QA.nil hw,fun _ h=>h,?_⟩
      rw[Yz]
      exact ANB.steps hT hs hsr hlt r _ hp hcl2 hv' hm hk _ w Qx ha' hw hQ hQp
  ·cases hp
theorem WP.drawB {B:Nat→QK} {R:QK} (hx:P.follows .mixedOrders=true) (hT:TOk P T) {id:Nat} (keep:List Seg) (hk:QA keep L) (b:Nat) (ps:List (Nat×List Nat)) (plan:List (Bool×Nat)) {l':List Bool}
  (hs:Region.noSelect ops.toArray=true) (hp:QaB ops ps b plan (List.replicate ops.length false)=some l') (r0:List Nat) (hl:plan.length+(b::r0).length=ops.length)
  (hsr:Qbr ops (b::r0) l'=true) (hlt:Qfu ops ps b r0=true)
  (h:Zc P T N ops μ keep plan fr μ L (QfR P T N ops (b::r0) K)) (hnd:N.rd=none∨Qaw ops=true:=by first | exact .inl rfl | exact .inr (by kernel_rfl)):WP P N (.region id ops.toArray true) K B R fr μ L:=by
 intro a w ha hw;refine Qeh hx hnd QbI (Qfb (S:=fun w=>ZZ w μ keep) (S0:=fun w=>ZZ w μ []) (b:=b::r0) _ _ _ _ ?_);have e1:ops.toArray.size=(b::r0).length+plan.length:=by simp at hl ⊢;omega
 have e2:Array.replicate ((b::r0).length+plan.length) false=(List.replicate ops.length false).toArray:=by simp at hl ⊢;omega
 rw[e1,e2]
 exact ANB.steps hT hs hsr hlt plan _ hp (JU.start _) h (Gh.le.refl _) hk a _ _ ha hw.drew (fun fr' μ' L' a' w' hm ha' hw' hk'=>⟨fr',μ',L',ha',hm,hw',hk'⟩) (fun _ _ _ _ _ h=>h)
end
theorem E.{u} {α:Sort u} {a:α}:a=a:=rfl
section
variable {P:Program} {T:TT} {N:NN} {ops r:List Oper} {dst:Option Tmp} {op:Op} {ty:TypeId} {pos:String} {aft:Array Edge} {K:QK} {d:Tmp} {fr:Fr} {μ:Gh} {L:List Seg} {v:Value}
theorem Pt {μ0:Gh} {keep:List Seg} {pl:List (Bool×Nat)} {i:Nat} (hd:Nat.blt d N.n=true) (hi:ZV ops i=some ⟨dst,op,ty,pos,aft,none⟩) (h:vcR P T op ((d,v)::fr) μ0 keep fun u=>YX N dst u ((d,v)::fr) fun fr'=>Zc P T N ops μ0 keep pl fr' μ L K) :
  YX N (some d) v fr fun fr'=>Zc P T N ops μ0 keep ((true,i)::pl) fr' μ L K:=Yh hd (QdJ hi h)
end
end Go.Proofs.Ytilbengnjgglhaa
