/- DispatchBetter: for every input the given law returns true, and its arguments read as before. No condition. -/
import Derived.Test.YthpgjbbjpfiniaaGreatc6x2
namespace Go.Proofs.YthpgjbbjpfiniaaGreat
open Go.RowKit
set_option linter.unusedSimpArgs false
set_option linter.unusedVariables false
structure QG where
 From:Int
 To:Int
 Meters:Int
 Secs:Int
deriving DecidableEq
def Qfn (x:QG):List Value:=[.int .i64 x.From,.int .i64 x.To,.int .i64 x.Meters,.int .i64 x.Secs]
def QS:Rp QG:=QfB 4 Qfn (fun _=>rfl) (by intro x u hu;simp only[Qfn,List.mem_cons,List.not_mem_nil,or_false] at hu;rcases hu with rfl | rfl | rfl | rfl<;>rfl)
structure QK where
 Nodes:Int
 Edges:(List QG)
deriving DecidableEq
def Qlq:Rp QK where
 sz:=2
 rep μ x cs:= ∃(A1:Option Addr) (c1:Nat),cs=[.int .i64 x.Nodes,.slice A1 x.Edges.length c1]∧(x.Edges.length≤c1∧c1≤maxLen)∧Qv QS μ A1 x.Edges
 len:=by rintro μ x cs ⟨A1,c1,rfl,_⟩;rfl
 mono:=by rintro μ μ' x cs hm ⟨A1,c1,h,hl1,ha1⟩;exact ⟨A1,c1,h,hl1,ha1.mono hm⟩
 one:=by rintro μ x cs ⟨A1,c1,rfl,_⟩ u hu;simp only[List.mem_cons,List.not_mem_nil,or_false] at hu;rcases hu with rfl | rfl<;>rfl
structure Qz where
 From:Int
 To:Int
deriving DecidableEq
def QdM (x:Qz):List Value:=[.int .i64 x.From,.int .i64 x.To]
def Qjy:Rp Qz:=QfB 2 QdM (fun _=>rfl) (by intro x u hu;simp only[QdM,List.mem_cons,List.not_mem_nil,or_false] at hu;rcases hu with rfl | rfl<;>rfl)
structure Qn where
 ID:ByteArray
 Depot:Int
 Shift:Qz
 Grams:Int
 Kinds:Int
deriving DecidableEq
def Qdv (x:Qn):List Value:=[.string x.ID,.int .i64 x.Depot,.int .i64 x.Shift.From,.int .i64 x.Shift.To,.int .i64 x.Grams,.int .i64 x.Kinds]
def QE:Rp Qn:=QfB 6 Qdv (fun _=>rfl) (by intro x u hu;simp only[Qdv,List.mem_cons,List.not_mem_nil,or_false] at hu;rcases hu with rfl | rfl | rfl | rfl | rfl | rfl<;>rfl)
structure Qt where
 Container:Int
 Node:Int
 Kind:Int
 Grams:Int
 When:Qz
 Service:Int
deriving DecidableEq
def QdK (x:Qt):List Value:=[.int .i64 x.Container,.int .i64 x.Node,.int .i64 x.Kind,.int .i64 x.Grams,.int .i64 x.When.From,.int .i64 x.When.To,.int .i64 x.Service]
def QJ:Rp Qt:=QfB 7 QdK (fun _=>rfl) (by intro x u hu;simp only[QdK,List.mem_cons,List.not_mem_nil,or_false] at hu;rcases hu with rfl | rfl | rfl | rfl | rfl | rfl | rfl<;>rfl)
structure Qd where
 Road:QK
 Vehicles:(List Qn)
 Demands:(List Qt)
 Unload:Int
 UnloadSecs:Int
deriving DecidableEq
def Qij:Rp Qd where
 sz:=6
 rep μ x cs:= ∃(A1:Option Addr) (c1:Nat) (A2:Option Addr) (c2:Nat) (A3:Option Addr) (c3:Nat),cs=[.int .i64 x.Road.Nodes,.slice A1 x.Road.Edges.length c1,.slice A2 x.Vehicles.length c2,.slice A3 x.Demands.length c3,.int .i64 x.Unload,.int .i64 x.UnloadSecs]∧(x.Road.Edges.length≤c1∧c1≤maxLen)∧Qv QS μ A1 x.Road.Edges∧(x.Vehicles.length≤c2∧c2≤maxLen)∧Qv QE μ A2 x.Vehicles∧(x.Demands.length≤c3∧c3≤maxLen)∧Qv QJ μ A3 x.Demands
 len:=by rintro μ x cs ⟨A1,c1,A2,c2,A3,c3,rfl,_⟩;rfl
 mono:=by rintro μ μ' x cs hm ⟨A1,c1,A2,c2,A3,c3,h,hl1,ha1,hl2,ha2,hl3,ha3⟩;exact ⟨A1,c1,A2,c2,A3,c3,h,hl1,ha1.mono hm,hl2,ha2.mono hm,hl3,ha3.mono hm⟩
 one:=by rintro μ x cs ⟨A1,c1,A2,c2,A3,c3,rfl,_⟩ u hu;simp only[List.mem_cons,List.not_mem_nil,or_false] at hu;rcases hu with rfl | rfl | rfl | rfl | rfl | rfl<;>rfl
structure Qa where
 Vehicle:Int
 Stops:(List Int)
deriving DecidableEq
def Qy:Rp Qa where
 sz:=2
 rep μ x cs:= ∃(A1:Option Addr) (c1:Nat),cs=[.int .i64 x.Vehicle,.slice A1 x.Stops.length c1]∧(x.Stops.length≤c1∧c1≤maxLen)∧Qv Yb μ A1 x.Stops
 len:=by rintro μ x cs ⟨A1,c1,rfl,_⟩;rfl
 mono:=by rintro μ μ' x cs hm ⟨A1,c1,h,hl1,ha1⟩;exact ⟨A1,c1,h,hl1,ha1.mono hm⟩
 one:=by rintro μ x cs ⟨A1,c1,rfl,_⟩ u hu;simp only[List.mem_cons,List.not_mem_nil,or_false] at hu;rcases hu with rfl | rfl<;>rfl
structure Qg where
 Tours:(List Qa)
 Left:(List Int)
deriving DecidableEq
def Qbe:Rp Qg where
 sz:=2
 rep μ x cs:= ∃(A0:Option Addr) (c0:Nat) (A1:Option Addr) (c1:Nat),cs=[.slice A0 x.Tours.length c0,.slice A1 x.Left.length c1]∧(x.Tours.length≤c0∧c0≤maxLen)∧Qv Qy μ A0 x.Tours∧(x.Left.length≤c1∧c1≤maxLen)∧Qv Yb μ A1 x.Left
 len:=by rintro μ x cs ⟨A0,c0,A1,c1,rfl,_⟩;rfl
 mono:=by rintro μ μ' x cs hm ⟨A0,c0,A1,c1,h,hl0,ha0,hl1,ha1⟩;exact ⟨A0,c0,A1,c1,h,hl0,ha0.mono hm,hl1,ha1.mono hm⟩
 one:=by rintro μ x cs ⟨A0,c0,A1,c1,rfl,_⟩ u hu;simp only[List.mem_cons,List.not_mem_nil,or_false] at hu;rcases hu with rfl | rfl<;>rfl
structure ZE where
 From:Int
 To:Int
deriving DecidableEq
def Qgj (x:ZE):List Value:=[.int .i64 x.From,.int .i64 x.To]
def QbY:Rp ZE:=QfB 2 Qgj (fun _=>rfl) (by intro x u hu;simp only[Qgj,List.mem_cons,List.not_mem_nil,or_false] at hu;rcases hu with rfl | rfl<;>rfl)
structure Qay where
 Nodes:Int
 Arcs:(List ZE)
deriving DecidableEq
structure Qc where
 tour:Qa
 cost:Int
deriving DecidableEq
def Qi:Rp Qc where
 sz:=3
 rep μ x cs:= ∃(A1:Option Addr) (c1:Nat),cs=[.int .i64 x.tour.Vehicle,.slice A1 x.tour.Stops.length c1,.int .i64 x.cost]∧(x.tour.Stops.length≤c1∧c1≤maxLen)∧Qv Yb μ A1 x.tour.Stops
 len:=by rintro μ x cs ⟨A1,c1,rfl,_⟩;rfl
 mono:=by rintro μ μ' x cs hm ⟨A1,c1,h,hl1,ha1⟩;exact ⟨A1,c1,h,hl1,ha1.mono hm⟩
 one:=by rintro μ x cs ⟨A1,c1,rfl,_⟩ u hu;simp only[List.mem_cons,List.not_mem_nil,or_false] at hu;rcases hu with rfl | rfl | rfl<;>rfl
structure Qp where
 Secs:Int
 Meters:Int
deriving DecidableEq
def Qgk (x:Qp):List Value:=[.int .i64 x.Secs,.int .i64 x.Meters]
def Jp:Rp Qp:=QfB 2 Qgk (fun _=>rfl) (by intro x u hu;simp only[Qgk,List.mem_cons,List.not_mem_nil,or_false] at hu;rcases hu with rfl | rfl<;>rfl)
structure ZL where
 node:Int
 time:Int
 load:Int
 meters:Int
deriving DecidableEq
structure QT where
 Stop:Int
 Node:Int
 Arrive:Int
 Start:Int
 Leave:Int
 Load:Int
deriving DecidableEq
def QeC (x:QT):List Value:=[.int .i64 x.Stop,.int .i64 x.Node,.int .i64 x.Arrive,.int .i64 x.Start,.int .i64 x.Leave,.int .i64 x.Load]
def Qcq:Rp QT:=QfB 6 QeC (fun _=>rfl) (by intro x u hu;simp only[QeC,List.mem_cons,List.not_mem_nil,or_false] at hu;rcases hu with rfl | rfl | rfl | rfl | rfl | rfl<;>rfl)
structure QC where
 place:ZL
 p:Qd
 v:Qn
 legs:(List (Int×(List Qp)))
 visits:(List QT)
deriving DecidableEq
def QH (μ:Gh) (v:Value) (x:QC) (so:Seg):Prop:= ∃(g:Nat) (A5:Option Addr) (c5:Nat) (A6:Option Addr) (c6:Nat) (A7:Option Addr) (c7:Nat) (m16:Nat) (es16:Array MapEntry) (cn16:Nat) (A17:Option Addr) (c17:Nat) (ch17:Seg),v= .pointer (some ⟨g,0,none⟩)∧so=((g,Obj.cells #[.int .i64 x.place.node,.int .i64 x.place.time,.int .i64 x.place.load,.int .i64 x.place.meters,.int .i64 x.p.Road.Nodes,.slice A5 x.p.Road.Edges.length c5,.slice A6 x.p.Vehicles.length c6,.slice A7 x.p.Demands.length c7,.int .i64 x.p.Unload,.int .i64 x.p.UnloadSecs,.string x.v.ID,.int .i64 x.v.Depot,.int .i64 x.v.Shift.From,.int .i64 x.v.Shift.To,.int .i64 x.v.Grams,.int .i64 x.v.Kinds,.map (some m16),.slice A17 x.visits.length c17] 104 (0,0))::((m16,Obj.map es16 cn16)::ch17))∧((x.p.Road.Edges.length≤c5∧c5≤maxLen)∧Qv QS μ A5 x.p.Road.Edges)∧((x.p.Vehicles.length≤c6∧c6≤maxLen)∧Qv QE μ A6 x.p.Vehicles)∧((x.p.Demands.length≤c7∧c7≤maxLen)∧Qv QJ μ A7 x.p.Demands)∧QeL Jp μ es16 cn16 x.legs∧Own Qcq 135 μ (.slice A17 x.visits.length c17) x.visits ch17
theorem QH.mono {μ μ':Gh} {v:Value} {x:QC} {so:Seg} (h:QH μ v x so) (hm:μ.le μ'):QH μ' v x so:=by
 obtain ⟨g,A5,c5,A6,c6,A7,c7,m16,es16,cn16,A17,c17,ch17,hv,hs,h5,h6,h7,h16,h17⟩:=h;exact ⟨g,A5,c5,A6,c6,A7,c7,m16,es16,cn16,A17,c17,ch17,hv,hs,⟨h5.1,h5.2.mono hm⟩,⟨h6.1,h6.2.mono hm⟩,⟨h7.1,h7.2.mono hm⟩,h16.mono hm,h17.mono hm⟩
theorem QH.fl {x:QC} {g:Nat} {A5:Option Addr} {c5:Nat} {A6:Option Addr} {c6:Nat} {A7:Option Addr} {c7:Nat} {m16:Nat} {es16:Array MapEntry} {cn16:Nat} {A17:Option Addr} {c17:Nat} {ch17:Seg}:([[(g,Obj.cells #[.int .i64 x.place.node,.int .i64 x.place.time,.int .i64 x.place.load,.int .i64 x.place.meters,.int .i64 x.p.Road.Nodes,.slice A5 x.p.Road.Edges.length c5,.slice A6 x.p.Vehicles.length c6,.slice A7 x.p.Demands.length c7,.int .i64 x.p.Unload,.int .i64 x.p.UnloadSecs,.string x.v.ID,.int .i64 x.v.Depot,.int .i64 x.v.Shift.From,.int .i64 x.v.Shift.To,.int .i64 x.v.Grams,.int .i64 x.v.Kinds,.map (some m16),.slice A17 x.visits.length c17] 104 (0,0))],[(m16,Obj.map es16 cn16)],ch17]:List Seg).flatten=((g,Obj.cells #[.int .i64 x.place.node,.int .i64 x.place.time,.int .i64 x.place.load,.int .i64 x.place.meters,.int .i64 x.p.Road.Nodes,.slice A5 x.p.Road.Edges.length c5,.slice A6 x.p.Vehicles.length c6,.slice A7 x.p.Demands.length c7,.int .i64 x.p.Unload,.int .i64 x.p.UnloadSecs,.string x.v.ID,.int .i64 x.v.Depot,.int .i64 x.v.Shift.From,.int .i64 x.v.Shift.To,.int .i64 x.v.Grams,.int .i64 x.v.Kinds,.map (some m16),.slice A17 x.visits.length c17] 104 (0,0))::((m16,Obj.map es16 cn16)::ch17)):=by simp
structure Q5 where
 node:Int
 leg:Qp
deriving DecidableEq
structure QM where
 value:Q5
 n:Int
deriving DecidableEq
def Qbq (x:QM):List Value:=[.int .i64 x.value.node,.int .i64 x.value.leg.Secs,.int .i64 x.value.leg.Meters,.int .i64 x.n]
def YB:Rp QM:=QfB 4 Qbq (fun _=>rfl) (by intro x u hu;simp only[Qbq,List.mem_cons,List.not_mem_nil,or_false] at hu;rcases hu with rfl | rfl | rfl | rfl<;>rfl)
structure Qf where
 heap:(List QM)
 count:Int
deriving DecidableEq
def Qj (μ:Gh) (v:Value) (x:Qf) (so:Seg):Prop:= ∃(g:Nat) (A1:Option Addr) (c1:Nat) (ch1:Seg),v= .pointer (some ⟨g,0,none⟩)∧so=((g,Obj.cells #[.func (.func 153) #[] #[],.slice A1 x.heap.length c1,.int .i64 x.count] 211 (0,0))::ch1)∧Own YB 213 μ (.slice A1 x.heap.length c1) x.heap ch1
theorem Qj.mono {μ μ':Gh} {v:Value} {x:Qf} {so:Seg} (h:Qj μ v x so) (hm:μ.le μ'):Qj μ' v x so:=by
 obtain ⟨g,A1,c1,ch1,hv,hs,h1⟩:=h;exact ⟨g,A1,c1,ch1,hv,hs,h1.mono hm⟩
theorem Qj.fl {x:Qf} {g:Nat} {A1:Option Addr} {c1:Nat} {ch1:Seg}:([[(g,Obj.cells #[.func (.func 153) #[] #[],.slice A1 x.heap.length c1,.int .i64 x.count] 211 (0,0))],ch1]:List Seg).flatten=((g,Obj.cells #[.func (.func 153) #[] #[],.slice A1 x.heap.length c1,.int .i64 x.count] 211 (0,0))::ch1):=by simp
structure Qb where
 plan:Qg
 cost:Int
deriving DecidableEq
def Qm:Rp Qb where
 sz:=3
 rep μ x cs:= ∃(A0:Option Addr) (c0:Nat) (A1:Option Addr) (c1:Nat),cs=[.slice A0 x.plan.Tours.length c0,.slice A1 x.plan.Left.length c1,.int .i64 x.cost]∧(x.plan.Tours.length≤c0∧c0≤maxLen)∧Qv Qy μ A0 x.plan.Tours∧(x.plan.Left.length≤c1∧c1≤maxLen)∧Qv Yb μ A1 x.plan.Left
 len:=by rintro μ x cs ⟨A0,c0,A1,c1,rfl,_⟩;rfl
 mono:=by rintro μ μ' x cs hm ⟨A0,c0,A1,c1,h,hl0,ha0,hl1,ha1⟩;exact ⟨A0,c0,A1,c1,h,hl0,ha0.mono hm,hl1,ha1.mono hm⟩
 one:=by rintro μ x cs ⟨A0,c0,A1,c1,rfl,_⟩ u hu;simp only[List.mem_cons,List.not_mem_nil,or_false] at hu;rcases hu with rfl | rfl | rfl<;>rfl
structure QI where
 Vehicle:Int
 Err:Int
deriving DecidableEq
def QdL (x:QI):List Value:=[.int .i64 x.Vehicle,.int .i64 x.Err]
def Wt:Rp QI:=QfB 2 QdL (fun _=>rfl) (by intro x u hu;simp only[QdL,List.mem_cons,List.not_mem_nil,or_false] at hu;rcases hu with rfl | rfl<;>rfl)
def QF (μ:Gh) (v:Value) (x:(List Qb)) (so:Seg):Prop:= ∃(g:Nat) (A0:Option Addr) (c0:Nat) (ch0:Seg),v= .pointer (some ⟨g,0,none⟩)∧so=((g,Obj.cells #[.slice A0 x.length c0] 77 (0,0))::ch0)∧Own Qm 82 μ (.slice A0 x.length c0) x ch0
theorem QF.mono {μ μ':Gh} {v:Value} {x:(List Qb)} {so:Seg} (h:QF μ v x so) (hm:μ.le μ'):QF μ' v x so:=by
 obtain ⟨g,A0,c0,ch0,hv,hs,h0⟩:=h;exact ⟨g,A0,c0,ch0,hv,hs,h0.mono hm⟩
theorem QF.fl {x:(List Qb)} {g:Nat} {A0:Option Addr} {c0:Nat} {ch0:Seg}:([[(g,Obj.cells #[.slice A0 x.length c0] 77 (0,0))],ch0]:List Seg).flatten=((g,Obj.cells #[.slice A0 x.length c0] 77 (0,0))::ch0):=by simp
def Qgw (x:QG):Prop:=(wfI .i64) x.From∧(wfI .i64) x.To∧(wfI .i64) x.Meters∧(wfI .i64) x.Secs
def Qgy (x:QK):Prop:=(wfI .i64) x.Nodes∧(fun xs:List QG=> ∀x∈xs,Qgw x) x.Edges
def QcF (x:Qz):Prop:=(wfI .i64) x.From∧(wfI .i64) x.To
def Qej (x:Qn):Prop:=(fun s:ByteArray=>s.size≤maxLen) x.ID∧(wfI .i64) x.Depot∧QcF x.Shift∧(wfI .i64) x.Grams∧(wfI .i64) x.Kinds
def QeJ (x:Qt):Prop:=(wfI .i64) x.Container∧(wfI .i64) x.Node∧(wfI .i64) x.Kind∧(wfI .i64) x.Grams∧QcF x.When∧(wfI .i64) x.Service
def Qei (x:Qd):Prop:=Qgy x.Road∧(fun xs:List Qn=> ∀x∈xs,Qej x) x.Vehicles∧(fun xs:List Qt=> ∀x∈xs,QeJ x) x.Demands∧(wfI .i64) x.Unload∧(wfI .i64) x.UnloadSecs
def Qgz (x:Qa):Prop:=(wfI .i64) x.Vehicle∧(fun xs:List Int=> ∀x∈xs,(wfI .i64) x) x.Stops
def Qgx (x:Qg):Prop:=(fun xs:List Qa=> ∀x∈xs,Qgz x) x.Tours∧(fun xs:List Int=> ∀x∈xs,(wfI .i64) x) x.Left
def ZW (p1:Qd) (v2:Int):Option ((Int)⊕(Unit⊕Bool)) :=
 bif (decide (v2<((p1.Vehicles.length:Nat):Int))) then
  Option.bind (getI p1.Vehicles v2) fun x1 =>
  bif (decide (200<((x1.ID.size:Nat):Int))) then
   some (.inr (.inr true))
  else
   some (.inl (w64 (v2+1)))
 else
  some (.inr (.inl ()))
def ZV (p1:Qd):Option (Bool) :=
 Option.bind (
  bif (decide (600<((p1.Road.Edges.length:Nat):Int))) then
   some true
  else
   bif (decide (30<((p1.Vehicles.length:Nat):Int))) then
    some true
   else
    some (decide (60<((p1.Demands.length:Nat):Int)))) (fun v1 =>
  bif v1 then
   some true
  else
   Option.bind (
    iter (ZW p1) (((p1.Vehicles.length:Nat):Int).toNat+1) 0) (fun o_=>QD o_ (fun _ =>
    some false) (fun rv22=>some rv22)))
def Zc (x1:Qg) (v2:Int):Option ((Int)⊕(Unit⊕Bool)) :=
 bif (decide (v2<((x1.Tours.length:Nat):Int))) then
  Option.bind (getI x1.Tours v2) fun x2 =>
  bif (decide (100<((x2.Stops.length:Nat):Int))) then
   some (.inr (.inr true))
  else
   some (.inl (w64 (v2+1)))
 else
  some (.inr (.inl ()))
def Y7 (x1:Qg):Option (Bool) :=
 Option.bind (
  bif (decide (30<((x1.Tours.length:Nat):Int))) then
   some true
  else
   some (decide (100<((x1.Left.length:Nat):Int)))) (fun v1 =>
  bif v1 then
   some true
  else
   Option.bind (
    iter (Zc x1) (((x1.Tours.length:Nat):Int).toNat+1) 0) (fun o_=>QD o_ (fun _ =>
    some false) (fun rv37=>some rv37)))
def Z0 (x1:Qg) (v2:Int):Option ((Int)⊕(Unit⊕Bool)) :=
 bif (decide (v2<((x1.Tours.length:Nat):Int))) then
  Option.bind (getI x1.Tours v2) fun x2 =>
  bif (decide (16<((x2.Stops.length:Nat):Int))) then
   some (.inr (.inr true))
  else
   some (.inl (w64 (v2+1)))
 else
  some (.inr (.inl ()))
def YQ (p1:Qd) (x1:Qg):Option (Bool) :=
 Option.bind (
  Option.bind (ZV p1) fun r1 =>
  bif r1 then
   some true
  else
   Option.bind (Y7 x1) fun r2 =>
   bif r2 then
    some true
   else
    bif (decide (100<((p1.Road.Edges.length:Nat):Int))) then
     some true
    else
     bif (decide (4<((p1.Vehicles.length:Nat):Int))) then
      some true
     else
      bif (decide (8<((p1.Demands.length:Nat):Int))) then
       some true
      else
       some (decide (8<((x1.Tours.length:Nat):Int)))) (fun v1 =>
  bif v1 then
   some true
  else
   Option.bind (
    iter (Z0 x1) (((x1.Tours.length:Nat):Int).toNat+1) 0) (fun o_=>QD o_ (fun _ =>
    some false) (fun rv52=>some rv52)))
def VF (r1:QK) (j_:(List ZE)×Int):Option (((List ZE)×Int)⊕((List ZE))) :=
 oun j_ fun f1 v1 =>
 bif (decide (v1<((r1.Edges.length:Nat):Int))) then
  Option.bind (getI r1.Edges v1) fun x1 =>
  Option.bind (ZH f1 [(ZE.mk x1.From x1.To)]) fun l1 =>
  some (.inl (l1,w64 (v1+1)))
 else
  some (.inr f1)
def QaZ (r1:QK):Option (Qay) :=
 Option.bind (
  iter (VF r1) (((r1.Edges.length:Nat):Int).toNat+1) ([],0)) (fun f2 =>
  some (Qay.mk r1.Nodes f2))
def VW (g1:Qay) (v2:Int):Option ((Int)⊕(Unit⊕Int)) :=
 bif (decide (v2<((g1.Arcs.length:Nat):Int))) then
  Option.bind (getI g1.Arcs v2) fun x1 =>
  Option.bind (
   bif (decide (x1.From<0)) then
    some true
   else
    bif (decide (g1.Nodes≤x1.From)) then
     some true
    else
     bif (decide (x1.To<0)) then
      some true
     else
      some (decide (g1.Nodes≤x1.To))) (fun v3 =>
   bif v3 then
    some (.inr (.inr 7))
   else
    some (.inl (w64 (v2+1))))
 else
  some (.inr (.inl ()))
def Qbr (g1:Qay):Option (Int) :=
 Option.bind (
  bif (decide (g1.Nodes<0)) then
   some true
  else
   some (decide (64<g1.Nodes))) (fun v1 =>
  bif v1 then
   some 1
  else
   bif (decide (512<((g1.Arcs.length:Nat):Int))) then
    some 8
   else
    Option.bind (
     iter (VW g1) (((g1.Arcs.length:Nat):Int).toNat+1) 0) (fun o_=>QD o_ (fun _ =>
     some 0) (fun rv243=>some rv243)))
def Qbn (r1:QK) (v2:Int):Option ((Int)⊕(Unit⊕Int)) :=
 bif (decide (v2<((r1.Edges.length:Nat):Int))) then
  Option.bind (getI r1.Edges v2) fun x1 =>
  Option.bind (
   bif (decide (x1.From<0)) then
    some true
   else
    bif (decide (r1.Nodes≤x1.From)) then
     some true
    else
     bif (decide (x1.To<0)) then
      some true
     else
      some (decide (r1.Nodes≤x1.To))) (fun v3 =>
   bif v3 then
    some (.inr (.inr 7))
   else
    Option.bind (
     bif (decide (x1.From=x1.To)) then
      some true
     else
      bif (decide (x1.Meters<1)) then
       some true
      else
       bif (decide (100000<x1.Meters)) then
        some true
       else
        bif (decide (x1.Secs<1)) then
         some true
        else
         some (decide (100000<x1.Secs))) (fun v4 =>
     bif v4 then
      some (.inr (.inr 1))
     else
      some (.inl (w64 (v2+1)))))
 else
  some (.inr (.inl ()))
def Qau (r1:QK):Option (Int) :=
 Option.bind (
  bif (decide (r1.Nodes<1)) then
   some true
  else
   some (decide (64<r1.Nodes))) (fun v1 =>
  bif v1 then
   some 1
  else
   bif (decide (512<((r1.Edges.length:Nat):Int))) then
    some 8
   else
    Option.bind (
     iter (Qbn r1) (((r1.Edges.length:Nat):Int).toNat+1) 0) (fun o_=>QD o_ (fun _ =>
     Option.bind (QaZ r1) fun r2 =>
     Option.bind (Qbr r2) fun r3 =>
     some r3) (fun rv267=>some rv267)))
def V5 (c1:Int):Option (Bool) :=
 Option.bind (
  bif (decide (97≤c1)) then
   bif (decide (c1≤122)) then
    some true
   else
    bif (decide (65≤c1)) then
     some (decide (c1≤90))
    else
     some false
  else
   bif (decide (65≤c1)) then
    some (decide (c1≤90))
   else
    some false) (fun v1 =>
  some v1)
def QaS (s1:ByteArray) (i1:Int):Option ((Int)⊕(Unit⊕Bool)) :=
 bif (decide (i1<((s1.size:Nat):Int))) then
  Option.bind (Qii s1 i1) fun x2 =>
  Option.bind (
   Option.bind (V5 x2) fun r2 =>
   bif (!r2) then
    bif (decide (x2<48)) then
     bif (!(decide (x2=45))) then
      bif (!(decide (x2=95))) then
       some (!(decide (x2=46)))
      else
       some false
     else
      some false
    else
     bif (decide (57<x2)) then
      bif (!(decide (x2=45))) then
       bif (!(decide (x2=95))) then
        some (!(decide (x2=46)))
       else
        some false
      else
       some false
     else
      some false
   else
    some false) (fun v2 =>
   bif v2 then
    some (.inr (.inr false))
   else
    some (.inl (w64 (i1+1))))
 else
  some (.inr (.inl ()))
def Qbs (F:Nat) (s1:ByteArray):Option (Bool) :=
 Option.bind (
  bif (decide (((s1.size:Nat):Int)<1)) then
   some true
  else
   bif (decide (32<((s1.size:Nat):Int))) then
    some true
   else
    Option.bind (Qii s1 0) fun x1 =>
    Option.bind (V5 x1) fun r1 =>
    some (!r1)) (fun v1 =>
  bif v1 then
   some false
  else
   Option.bind (
    iter (QaS s1) F 1) (fun o_=>QD o_ (fun _ =>
    some true) (fun rv308=>some rv308)))
def Qap (F:Nat) (v1:Qn) (nodes1:Int) (materials1:Int):Option (Int) :=
 Option.bind (Qbs F v1.ID) fun r1 =>
 bif (!r1) then
  some 5
 else
  Option.bind (
   bif (decide (v1.Depot<0)) then
    some true
   else
    some (decide (nodes1≤v1.Depot))) (fun v2 =>
   bif v2 then
    some 7
   else
    Option.bind (
     bif (decide (v1.Shift.From<0)) then
      some true
     else
      bif (decide (v1.Shift.To≤v1.Shift.From)) then
       some true
      else
       some (decide (86400<v1.Shift.To))) (fun v3 =>
     bif v3 then
      some 19
     else
      Option.bind (
       bif (decide (v1.Grams<1)) then
        some true
       else
        some (decide (1073741824<v1.Grams))) (fun v4 =>
       bif v4 then
        some 1
       else
        Option.bind (
         bif (decide (v1.Kinds<1)) then
          some true
         else
          Option.bind (Ws (0≤materials1∧materials1≤64)) fun _ =>
          some (decide ((w64 (1*2^materials1.toNat))≤v1.Kinds))) (fun v5 =>
         bif v5 then
          some 21
         else
          some 0))))
def WK (F:Nat) (l1:(List Qn)) (nodes1:Int) (materials1:Int) (v2:Int):Option ((Int)⊕(Unit⊕Int)) :=
 bif (decide (v2<((l1.length:Nat):Int))) then
  Option.bind (getI l1 v2) fun x1 =>
  Option.bind (Qap F x1 nodes1 materials1) fun r1 =>
  bif (!(decide (r1=0))) then
   some (.inr (.inr r1))
  else
   some (.inl (w64 (v2+1)))
 else
  some (.inr (.inl ()))
def WL (l1:(List Qn)) (j_:(List (ByteArray×Bool))×Int):Option (((List (ByteArray×Bool))×Int)⊕(Unit⊕Int)) :=
 oun j_ fun m1 v3 =>
 bif (decide (v3<((l1.length:Nat):Int))) then
  Option.bind (getI l1 v3) fun x2 =>
  bif ((Qdq x2.ID m1).getD false) then
   some (.inr (.inr 6))
  else
   some (.inl ((Qil x2.ID true m1),w64 (v3+1)))
 else
  some (.inr (.inl ()))
def VL (F:Nat) (l1:(List Qn)) (nodes1:Int) (materials1:Int):Option (Int) :=
 Option.bind (
  bif (decide (nodes1<1)) then
   some true
  else
   bif (decide (64<nodes1)) then
    some true
   else
    bif (decide (materials1<1)) then
     some true
    else
     some (decide (16<materials1))) (fun v1 =>
  bif v1 then
   some 1
  else
   bif (decide (((l1.length:Nat):Int)=0)) then
    some 10
   else
    bif (decide (16<((l1.length:Nat):Int))) then
     some 8
    else
     Option.bind (
      iter (WK F l1 nodes1 materials1) (((l1.length:Nat):Int).toNat+1) 0) (fun o_=>QD o_ (fun _ =>
      Option.bind (
       iter (WL l1) (((l1.length:Nat):Int).toNat+1) ([],0)) (fun o_=>QD o_ (fun _ =>
       some 0) (fun rv327=>some rv327))) (fun rv301=>some rv301)))
def Va (n1:Int) (low1:Int) (high1:Int):Option (Bool) :=
 Option.bind (
  bif (decide (low1≤n1)) then
   some (decide (n1≤high1))
  else
   some false) (fun v1 =>
  some v1)
def Qc9 (
        x1:Qt) (nodes1:Int) (materials1:Int):Option (Int) :=
 Option.bind (
  Option.bind (Va x1.Container 0 255) fun r1 =>
  bif (!r1) then
   some true
  else
   bif (decide (x1.Node<0)) then
    some true
   else
    bif (decide (nodes1≤x1.Node)) then
     some true
    else
     bif (decide (x1.Kind<0)) then
      some true
     else
      some (decide (materials1≤x1.Kind))) (fun v1 =>
  bif v1 then
   some 7
  else
   Option.bind (
    Option.bind (Va x1.Grams 0 1073741824) fun r2 =>
    bif (!r2) then
     some true
    else
     bif (decide (x1.When.From<0)) then
      some true
     else
      bif (decide (x1.When.To<x1.When.From)) then
       some true
      else
       bif (decide (86400<x1.When.To)) then
        some true
       else
        Option.bind (Va x1.Service 0 3600) fun r3 =>
        some (!r3)) (fun v2 =>
    bif v2 then
     some 1
    else
     some 0))
def QaO (y1:Qt) (b1:Qt):Option (Bool) :=
 some (decide (y1.Container=b1.Container))
def YL (s1:(List Qt)) (b1:Qt) (v1:Int):Option ((Int)⊕(Unit⊕Int)) :=
 bif (decide (v1<((s1.length:Nat):Int))) then
  Option.bind (getI s1 v1) fun x1 =>
  Option.bind (QaO x1 b1) fun r1 =>
  bif r1 then
   some (.inr (.inr v1))
  else
   some (.inl (w64 (v1+1)))
 else
  some (.inr (.inl ()))
def Z4 (s1:(List Qt)) (b1:Qt):Option (Int) :=
 Option.bind (
  iter (YL s1 b1) (((s1.length:Nat):Int).toNat+1) 0) (fun o_=>QD o_ (fun _ =>
  some (-1)) (fun rv361=>some rv361))
def YK (s1:(List Qt)) (b1:Qt):Option (Bool) :=
 Option.bind (Z4 s1 b1) fun r1 =>
 some (decide (0≤r1))
def Qaq (l1:(List Qt)) (nodes1:Int) (materials1:Int) (v1:Int):Option ((Int)⊕(Unit⊕Int)) :=
 bif (decide (v1<((l1.length:Nat):Int))) then
  Option.bind (getI l1 v1) fun x1 =>
  Option.bind (Qc9 x1 nodes1 materials1) fun r1 =>
  bif (!(decide (r1=0))) then
   some (.inr (.inr r1))
  else
   some (.inl (w64 (v1+1)))
 else
  some (.inr (.inl ()))
def VD (l1:(List Qt)) (v2:Int):Option ((Int)⊕(Unit⊕Int)) :=
 bif (decide (v2<((l1.length:Nat):Int))) then
  Option.bind (getI l1 v2) fun x2 =>
  Option.bind (Wx l1 0 v2) fun l2 =>
  Option.bind (YK l2 x2) fun r2 =>
  bif r2 then
   some (.inr (.inr 6))
  else
   some (.inl (w64 (v2+1)))
 else
  some (.inr (.inl ()))
def QaN (l1:(List Qt)) (nodes1:Int) (materials1:Int):Option (Int) :=
 bif (decide (32<((l1.length:Nat):Int))) then
  some 8
 else
  Option.bind (
   iter (Qaq l1 nodes1 materials1) (((l1.length:Nat):Int).toNat+1) 0) (fun o_=>QD o_ (fun _ =>
   Option.bind (
    iter (VD l1) (((l1.length:Nat):Int).toNat+1) 0) (fun o_=>QD o_ (fun _ =>
    some 0) (fun rv352=>some rv352))) (fun rv339=>some rv339))
def VA (
        F:Nat) (p1:Qd):Option (Int) :=
 Option.bind (Qau p1.Road) fun r1 =>
 bif (!(decide (r1=0))) then
  some r1
 else
  Option.bind (VL F p1.Vehicles p1.Road.Nodes 16) fun r2 =>
  bif (!(decide (r2=0))) then
   some r2
  else
   Option.bind (QaN p1.Demands p1.Road.Nodes 16) fun r3 =>
   bif (!(decide (r3=0))) then
    some r3
   else
    Option.bind (
     bif (decide (p1.Unload<0)) then
      some true
     else
      some (decide (p1.Road.Nodes≤p1.Unload))) (fun v2 =>
     bif v2 then
      some 7
     else
      Option.bind (
       bif (decide (p1.UnloadSecs<0)) then
        some true
       else
        some (decide (7200<p1.UnloadSecs))) (fun v3 =>
       bif v3 then
        some 1
       else
        some 0))
def Wh (s1:(List Int)) (v1:Int) (v2:Int):Option ((Int)⊕(Unit⊕Int)) :=
 bif (decide (v2<((s1.length:Nat):Int))) then
  Option.bind (getI s1 v2) fun x1 =>
  bif (decide (v1=x1)) then
   some (.inr (.inr v2))
  else
   some (.inl (w64 (v2+1)))
 else
  some (.inr (.inl ()))
def V7 (s1:(List Int)) (v1:Int):Option (Int) :=
 Option.bind (
  iter (Wh s1 v1) (((s1.length:Nat):Int).toNat+1) 0) (fun o_=>QD o_ (fun _ =>
  some (-1)) (fun rv488=>some rv488))
def Yu (s1:(List Int)) (v1:Int):Option (Bool) :=
 Option.bind (V7 s1 v1) fun r1 =>
 some (decide (0≤r1))
def WB (stops1:(List Int)) (k1:Int) (more1:(List Int)):Option ((List Int)) :=
 Option.bind (Wx stops1 0 k1) fun l1 =>
 Option.bind (ZH [] l1) fun l2 =>
 Option.bind (ZH l2 more1) fun l3 =>
 Option.bind (Wx stops1 k1 ((stops1.length:Nat):Int)) fun l4 =>
 Option.bind (ZH l3 l4) fun l5 =>
 Option.bind (getI l5 (w64 (((l5.length:Nat):Int)-1))) fun x1 =>
 Option.bind (
  bif (!(decide (x1=(-1)))) then
   Option.bind (ZH l5 [(-1)]) fun l6 =>
   some l6
  else
   some l5) (fun out1 =>
  some out1)
def JS (t1:Qa) (d1:Int) (j_:(List Qa)×Int×Int):Option (((List Qa)×Int×Int)⊕((List Qa))) :=
 oun j_ fun out1 j_=>oun j_ fun v1 v2 =>
 bif (decide (v2<v1)) then
  Option.bind (
   Option.bind (WB t1.Stops v2 [d1]) fun r1 =>
   Option.bind (ZH out1 [(Qa.mk t1.Vehicle r1)]) fun l1 =>
   bif (decide (v2<((t1.Stops.length:Nat):Int))) then
    Option.bind (WB t1.Stops v2 [d1,(-1)]) fun r2 =>
    Option.bind (ZH l1 [(Qa.mk t1.Vehicle r2)]) fun l2 =>
    some l2
   else
    some l1) (fun out2 =>
   some (.inl (out2,v1,w64 (v2+1))))
 else
  some (.inr out1)
def W5 (F:Nat) (t1:Qa) (d1:Int):Option ((List Qa)) :=
 Option.bind (
  iter (JS t1 d1) F ([],w64 (((t1.Stops.length:Nat):Int)+1),0)) (fun out3 =>
  some out3)
def ZP (v1:Qn) (kind1:Int):Option (Bool) :=
 Option.bind (
  bif (decide (0≤kind1)) then
   bif (decide (kind1<16)) then
    Option.bind (Ws (0≤kind1∧kind1≤64)) fun _ =>
    some (decide ((QoI .i64 (v1.Kinds/2^kind1.toNat) 1)=1))
   else
    some false
  else
   some false) (fun v2 =>
  some v2)
def Qb0:Option (Qp) :=
 some (Qp.mk (-1) 0)
def W6:Option (Qf) :=
 some (Qf.mk [] 0)
def QaC (a1:Qp) (b1:Qp):Option (Bool) :=
 Option.bind (
  Option.bind (Qb0) fun r1 =>
  bif (decide (b1=r1)) then
   some true
  else
   bif (decide (a1.Secs<b1.Secs)) then
    some true
   else
    bif (decide (a1.Secs=b1.Secs)) then
     some (decide (a1.Meters<b1.Meters))
    else
     some false) (fun v1 =>
  some v1)
def VI (a1:Q5) (b1:Q5):Option (Bool) :=
 Option.bind (
  bif (!(decide (a1.leg=b1.leg))) then
   Option.bind (QaC a1.leg b1.leg) fun r1 =>
   some r1
  else
   some false) (fun v1 =>
  some v1)
def Y6 (q1:Qf) (i1:Int) (k1:Int):Option (Bool) :=
 Option.bind (
  Option.bind (getI q1.heap i1) fun x1 =>
  Option.bind (getI q1.heap k1) fun x2 =>
  some (x1.value.node,x1.value.leg.Secs,x1.value.leg.Meters,x1.n,x2.value.node,x2.value.leg.Secs,x2.value.leg.Meters,x2.n)) (fun j_=>oun j_ fun f1 j_=>oun j_ fun f2 j_=>oun j_ fun f3 j_=>oun j_ fun f4 j_=>oun j_ fun f5 j_=>oun j_ fun f6 j_=>oun j_ fun f7 f8 =>
  Option.bind (VI (Q5.mk f1 (Qp.mk f2 f3)) (Q5.mk f5 (Qp.mk f6 f7))) fun r1 =>
  bif r1 then
   some true
  else
   Option.bind (
    bif (decide (f4<f8)) then
     Option.bind (VI (Q5.mk f5 (Qp.mk f6 f7)) (Q5.mk f1 (Qp.mk f2 f3))) fun r2 =>
     some (!r2)
    else
     some false) (fun v1 =>
    some v1))
def YV (q1:Qf) (i1:Int) (k1:Int):Option (Qf) :=
 Option.bind (getI q1.heap k1) fun x1 =>
 Option.bind (getI q1.heap i1) fun x2 =>
 Option.bind (getI q1.heap i1) fun x3 =>
 Option.bind (getI (Yg q1.heap i1 x1) k1) fun x4 =>
 some (Qf.mk (Yg (Yg q1.heap i1 x1) k1 x2) q1.count)
def YR (j_:Qf×Int):Option ((Qf×Int)⊕(Qf⊕Qf)) :=
 oun j_ fun q2 i1 =>
 bif (decide (0<i1)) then
  Option.bind (Y6 q2 i1 (w64 (Int.tdiv (w64 (i1-1)) 2))) fun r1 =>
  bif (!r1) then
   some (.inr (.inr q2))
  else
   Option.bind (YV q2 i1 (w64 (Int.tdiv (w64 (i1-1)) 2))) fun r2 =>
   some (.inl (r2,w64 (Int.tdiv (w64 (i1-1)) 2)))
 else
  some (.inr (.inl q2))
def Zr (F:Nat) (q1:Qf) (x1:Q5):Option (Qf) :=
 Option.bind (ZH q1.heap [(QM.mk x1 q1.count)]) fun l1 =>
 Option.bind (
  iter (YR) F ((Qf.mk l1 (w64 (q1.count+1))),w64 (((l1.length:Nat):Int)-1))) (fun o_=>QD o_ (fun q3 =>
  some q3) (fun rv1453=>some rv1453))
def JF (q1:Qf):Option (Int) :=
 some ((q1.heap.length:Nat):Int)
def Jf (q1:Qf):Option (Q5×Bool) :=
 Option.bind (JF q1) fun r1 =>
 bif (decide (r1=0)) then
  some ((Q5.mk 0 (Qp.mk 0 0)),false)
 else
  Option.bind (getI q1.heap 0) fun x1 =>
  some (x1.value,true)
def pqueue_Queue_stop_sink_l1 (i1:Int) (j_:(List QM)×Int×Int×Int):Option (((List QM)×Int×Int×Int)⊕(((List QM)×Int×Int))) :=
 oun j_ fun f3 j_=>oun j_ fun f4 j_=>oun j_ fun next1 k1 =>
 Option.bind (
  bif (decide (k1≤(w64 ((w64 (2*i1))+2)))) then
   some (decide (k1<((f3.length:Nat):Int)))
  else
   some false) (fun v1 =>
  bif v1 then
   Option.bind (
    Option.bind (Y6 (Qf.mk f3 f4) k1 next1) fun r1 =>
    bif r1 then
     some ((Qf.mk f3 f4).heap,k1)
    else
     some ((Qf.mk f3 f4).heap,next1)) (fun j_=>oun j_ fun f5 next2 =>
    some (.inl (f5,(Qf.mk f3 f4).count,next2,w64 (k1+1))))
  else
   some (.inr (f3,f4,next1)))
def YS (F:Nat) (j_:(List QM)×Int×Int):Option (((List QM)×Int×Int)⊕(Qf)) :=
 oun j_ fun f1 j_=>oun j_ fun f2 i1 =>
 Option.bind (
  iter (pqueue_Queue_stop_sink_l1 i1) F (f1,f2,i1,w64 ((w64 (2*i1))+1))) (fun j_=>oun j_ fun f6 j_=>oun j_ fun f7 next3 =>
  bif (decide (next3=i1)) then
   some (.inr (Qf.mk f6 f7))
  else
   Option.bind (YV (Qf.mk f6 f7) i1 next3) fun r2 =>
   some (.inl (r2.heap,r2.count,next3)))
def YU (F:Nat) (q1:Qf):Option (Qf) :=
 Option.bind (
  iter (YS F) F (q1.heap,q1.count,0)) (fun rv1661=>some rv1661)
def Za (F:Nat) (q1:Qf):Option (Q5×Bool×Qf) :=
 Option.bind (Jf q1) fun j_=>oun j_ fun r1 r2 =>
 bif (!r2) then
  some (r1,false,q1)
 else
  Option.bind (YV q1 0 (w64 (((q1.heap.length:Nat):Int)-1))) fun r3 =>
  Option.bind (Wx r3.heap (w64 (((q1.heap.length:Nat):Int)-1)) ((r3.heap.length:Nat):Int)) fun l1 =>
  Option.bind (Wx (QeO r3.heap (w64 (((q1.heap.length:Nat):Int)-1)) (QM.mk (Q5.mk 0 (Qp.mk 0 0)) 0)) 0 (w64 (((q1.heap.length:Nat):Int)-1))) fun l2 =>
  Option.bind (YU F (Qf.mk l2 r3.count)) fun r4 =>
  some (r1,true,r4)
def QbO (x1:QG):Option (Int×Int) :=
 some (x1.From,x1.To)
def Qca (l1:Qp) (x1:QG):Option (Qp) :=
 some (Qp.mk (w64 (l1.Secs+x1.Secs)) (w64 (l1.Meters+x1.Meters)))
def Js (l1:(List Qp)) (j_:(List Qp)×Int):Option (((List Qp)×Int)⊕((List Qp))) :=
 oun j_ fun out1 v1 =>
 bif (decide (v1<((l1.length:Nat):Int))) then
  Option.bind (Qb0) fun r2 =>
  Option.bind (getI out1 v1) fun x1 =>
  some (.inl ((Yg out1 v1 r2),w64 (v1+1)))
 else
  some (.inr out1)
def Jt (F:Nat) (r1:QK) (r5:Q5) (j_:(List Qp)×Qf×Int):Option (((List Qp)×Qf×Int)⊕(((List Qp)×Qf))) :=
 oun j_ fun out4 j_=>oun j_ fun q2 v2 =>
 bif (decide (v2<((r1.Edges.length:Nat):Int))) then
  Option.bind (
   Option.bind (getI r1.Edges v2) fun x4 =>
   Option.bind (QbO x4) fun j_=>oun j_ fun r8 r9 =>
   bif (!(decide (r8=r5.node))) then
    some (out4,q2)
   else
    Option.bind (Qca r5.leg x4) fun r10 =>
    Option.bind (getI out4 r9) fun x5 =>
    Option.bind (QaC r10 x5) fun r11 =>
    bif r11 then
     Option.bind (getI out4 r9) fun x6 =>
     Option.bind (Zr F q2 (Q5.mk r9 r10)) fun r12 =>
     some ((Yg out4 r9 r10),r12)
    else
     some (out4,q2)) (fun j_=>oun j_ fun out5 q3 =>
   some (.inl (out5,q3,w64 (v2+1))))
 else
  some (.inr (out4,q2))
def Ju (F:Nat) (r1:QK) (j_:(List Qp)×Qf):Option (((List Qp)×Qf)⊕((List Qp))) :=
 oun j_ fun out3 q1 =>
 Option.bind (Za F q1) fun j_=>oun j_ fun r5 j_=>oun j_ fun r6 r7 =>
 bif (!r6) then
  some (.inr out3)
 else
  Option.bind (getI out3 r5.node) fun x3 =>
  bif (!(decide (x3=r5.leg))) then
   some (.inl (out3,r7))
  else
   Option.bind (
    iter (Jt F r1 r5) (((r1.Edges.length:Nat):Int).toNat+1) (out3,r7,0)) (fun j_=>oun j_ fun out6 q4 =>
    some (.inl (out6,q4)))
def Vn (F:Nat) (r1:QK) (f_from1:Int):Option ((List Qp)) :=
 Option.bind (QbD (Qp.mk 0 0) r1.Nodes) fun l1 =>
 Option.bind (
  iter (Js l1) (((l1.length:Nat):Int).toNat+1) (l1,0)) (fun out2 =>
  Option.bind (getI out2 f_from1) fun x2 =>
  Option.bind (W6) fun r3 =>
  Option.bind (Zr F r3 (Q5.mk f_from1 (Qp.mk 0 0))) fun r4 =>
  Option.bind (
   iter (Ju F r1) F ((Yg out2 f_from1 (Qp.mk 0 0)),r4)) (fun rv1471=>some rv1471))
def QbZ (F:Nat) (r1:QK) (f_from1:Int):Option ((List Qp)×Int) :=
 Option.bind (Qau r1) fun r2 =>
 bif (!(decide (r2=0))) then
  some ([],r2)
 else
  Option.bind (
   bif (decide (f_from1<0)) then
    some true
   else
    some (decide (r1.Nodes≤f_from1))) (fun v2 =>
   bif v2 then
    some ([],7)
   else
    Option.bind (Vn F r1 f_from1) fun r3 =>
    some (r3,0))
def VK (F:Nat) (w1:QC) (f_to1:Int):Option (Qp×Bool×QC) :=
 Option.bind (
  bif (!((Qar w1.place.node w1.legs).isSome)) then
   Option.bind (QbZ F w1.p.Road w1.place.node) fun j_=>oun j_ fun r1 r2 =>
   some (r1,(QcU w1.place.node r1 w1.legs))
  else
   some (((Qar w1.place.node w1.legs).getD []),w1.legs)) (fun j_=>oun j_ fun l1 m1 =>
  Option.bind (getI l1 f_to1) fun x1 =>
  Option.bind (getI l1 f_to1) fun x2 =>
  some (x1,(decide (0≤x2.Secs)),(QC.mk w1.place w1.p w1.v m1 w1.visits)))
def WT (w1:QC) (stop1:Int) (arrive1:Int) (start1:Int):Option (QC) :=
 Option.bind (ZH w1.visits [(QT.mk stop1 w1.place.node arrive1 start1 w1.place.time w1.place.load)]) fun l1 =>
 some (QC.mk w1.place w1.p w1.v w1.legs l1)
def W4 (F:Nat) (w1:QC) (t1:Qa) (i1:Int):Option (Int×QC) :=
 Option.bind (getI t1.Stops i1) fun x1 =>
 Option.bind (
  bif (!(decide (x1=(-1)))) then
   Option.bind (
    bif (decide (x1<0)) then
     some true
    else
     some (decide (((w1.p.Demands.length:Nat):Int)≤x1))) (fun v1 =>
    bif v1 then
     some (.inr (7,w1))
    else
     Option.bind (Wx t1.Stops 0 i1) fun l1 =>
     Option.bind (Yu l1 x1) fun r1 =>
     bif r1 then
      some (.inr (6,w1))
     else
      Option.bind (getI w1.p.Demands x1) fun x2 =>
      Option.bind (ZP w1.v x2.Kind) fun r2 =>
      bif (!r2) then
       some (.inr (21,w1))
      else
       Option.bind (getI w1.p.Demands x1) fun x3 =>
       some (.inl x3.Node))
  else
   some (.inl w1.p.Unload)) (fun o_=>QD o_ (fun node1 =>
  Option.bind (VK F w1 node1) fun j_=>oun j_ fun r3 j_=>oun j_ fun r4 r5 =>
  bif (!r4) then
   some (22,r5)
  else
   bif (decide (x1=(-1))) then
    Option.bind (WT (QC.mk (ZL.mk node1 (w64 ((w64 (r5.place.time+r3.Secs))+r5.p.UnloadSecs)) 0 (w64 (r5.place.meters+r3.Meters))) r5.p r5.v r5.legs r5.visits) x1 (w64 (r5.place.time+r3.Secs)) (w64 (r5.place.time+r3.Secs))) fun r6 =>
    some (0,r6)
   else
    Option.bind (getI r5.p.Demands x1) fun x4 =>
    bif (decide (x4.When.To≤(max (w64 (r5.place.time+r3.Secs)) x4.When.From))) then
     some (19,(QC.mk (ZL.mk node1 (w64 (r5.place.time+r3.Secs)) r5.place.load (w64 (r5.place.meters+r3.Meters))) r5.p r5.v r5.legs r5.visits))
    else
     bif (decide (r5.v.Grams<(w64 (r5.place.load+x4.Grams)))) then
      some (20,(QC.mk (ZL.mk node1 (w64 (r5.place.time+r3.Secs)) r5.place.load (w64 (r5.place.meters+r3.Meters))) r5.p r5.v r5.legs r5.visits))
     else
      Option.bind (WT (QC.mk (ZL.mk node1 (w64 ((max (w64 (r5.place.time+r3.Secs)) x4.When.From)+x4.Service)) (w64 (r5.place.load+x4.Grams)) (w64 (r5.place.meters+r3.Meters))) r5.p r5.v r5.legs r5.visits) x1 (w64 (r5.place.time+r3.Secs)) (max (w64 (r5.place.time+r3.Secs)) x4.When.From)) fun r7 =>
      some (0,r7)) (fun rv2778=>some rv2778))
def Vo (F:Nat) (w1:QC):Option (Int×QC) :=
 Option.bind (VK F w1 w1.v.Depot) fun j_=>oun j_ fun r1 j_=>oun j_ fun r2 r3 =>
 bif (!r2) then
  some (22,r3)
 else
  bif (!(decide (r3.place.load=0))) then
   some (20,r3)
  else
   bif (decide (r3.v.Shift.To≤(w64 (r3.place.time+r1.Secs)))) then
    some (19,(QC.mk (ZL.mk r3.v.Depot (w64 (r3.place.time+r1.Secs)) r3.place.load (w64 (r3.place.meters+r1.Meters))) r3.p r3.v r3.legs r3.visits))
   else
    Option.bind (WT (QC.mk (ZL.mk r3.v.Depot (w64 (r3.place.time+r1.Secs)) r3.place.load (w64 (r3.place.meters+r1.Meters))) r3.p r3.v r3.legs r3.visits) (-2) (w64 (r3.place.time+r1.Secs)) (w64 (r3.place.time+r1.Secs))) fun r4 =>
    some (0,r4)
def Jo (F:Nat) (t1:Qa) (j_:QC×Int×Int):Option ((QC×Int×Int)⊕((QC×Int×Int))) :=
 oun j_ fun q1 j_=>oun j_ fun e1 f_at1 =>
 bif (decide (f_at1<((t1.Stops.length:Nat):Int))) then
  Option.bind (W4 F q1 t1 f_at1) fun j_=>oun j_ fun r1 r2 =>
  bif (!(decide (r1=0))) then
   some (.inr (r2,r1,f_at1))
  else
   some (.inl (r2,r1,w64 (f_at1+1)))
 else
  some (.inr (q1,e1,f_at1))
def Vr (F:Nat) (p1:Qd) (t1:Qa):Option ((Option QC)×Int×Int) :=
 Option.bind (
  bif (decide (t1.Vehicle<0)) then
   some true
  else
   some (decide (((p1.Vehicles.length:Nat):Int)≤t1.Vehicle))) (fun v1 =>
  bif v1 then
   some (none,7,0)
  else
   bif (decide (40<((t1.Stops.length:Nat):Int))) then
    some (none,8,0)
   else
    Option.bind (getI p1.Vehicles t1.Vehicle) fun x1 =>
    Option.bind (
     iter (Jo F t1) (((t1.Stops.length:Nat):Int).toNat+1) ((QC.mk (ZL.mk x1.Depot x1.Shift.From 0 0) p1 x1 [] []),0,0)) (fun j_=>oun j_ fun q2 j_=>oun j_ fun e2 f_at2 =>
     Option.bind (
      bif (decide (e2=0)) then
       Option.bind (Vo F q2) fun j_=>oun j_ fun r3 r4 =>
       some (r4,r3)
      else
       some (q2,e2)) (fun j_=>oun j_ fun q3 e3 =>
      bif (!(decide (e3=0))) then
       some (none,e3,f_at2)
      else
       some ((some q3),0,0))))
def Qc0 (F:Nat) (p1:Qd) (t1:Qa):Option (Int×Int) :=
 Option.bind (VA F p1) fun r1 =>
 bif (!(decide (r1=0))) then
  some (0,r1)
 else
  Option.bind (Vr F p1 t1) fun j_=>oun j_ fun r2 j_=>oun j_ fun r3 r4 =>
  bif (!(decide (r3=0))) then
   some (0,r3)
  else
   Option.bind (r2) fun q1 =>
   some (q1.place.meters,0)
def Ya (a1:Qc) (b1:Qc):Option (Int) :=
 some (w64 (a1.cost-b1.cost))
def Jw (a1:Int) (j_:(List Qc)×Int):Option (((List Qc)×Int)⊕((List Qc))) :=
 oun j_ fun data3 j1 =>
 Option.bind (
  bif (decide (a1<j1)) then
   Option.bind (getI data3 j1) fun x1 =>
   Option.bind (getI data3 (w64 (j1-1))) fun x2 =>
   Option.bind (Ya x1 x2) fun r1 =>
   some (decide (r1<0))
  else
   some false) (fun v1 =>
  bif v1 then
   Option.bind (getI data3 (w64 (j1-1))) fun x3 =>
   Option.bind (getI data3 j1) fun x4 =>
   Option.bind (getI data3 j1) fun x5 =>
   Option.bind (getI (Yg data3 j1 x3) (w64 (j1-1))) fun x6 =>
   some (.inl ((Yg (Yg data3 j1 x3) (w64 (j1-1)) x4),w64 (j1-1)))
  else
   some (.inr data3))
def Jx (F:Nat) (a1:Int) (b1:Int) (j_:(List Qc)×Int):Option (((List Qc)×Int)⊕((List Qc))) :=
 oun j_ fun data2 i1 =>
 bif (decide (i1<b1)) then
  Option.bind (
   Option.bind (
    iter (Jw a1) F (data2,i1)) (fun data4 =>
    some data4)) (fun data5 =>
   some (.inl (data5,w64 (i1+1))))
 else
  some (.inr data2)
def Yy (F:Nat) (data1:(List Qc)) (a1:Int) (b1:Int):Option ((List Qc)) :=
 Option.bind (
  iter (Jx F a1 b1) F (data1,w64 (a1+1))) (fun data6 =>
  some data6)
def J5 (a1:Int) (b1:Int) (n2:Int) (j_:(List Qc)×Int):Option (((List Qc)×Int)⊕((List Qc))) :=
 oun j_ fun data2 i1 =>
 bif (decide (i1<n2)) then
  Option.bind (getI data2 (w64 (b1+i1))) fun x1 =>
  Option.bind (getI data2 (w64 (a1+i1))) fun x2 =>
  Option.bind (getI data2 (w64 (a1+i1))) fun x3 =>
  Option.bind (getI (Yg data2 (w64 (a1+i1)) x1) (w64 (b1+i1))) fun x4 =>
  some (.inl ((Yg (Yg data2 (w64 (a1+i1)) x1) (w64 (b1+i1)) x2),w64 (i1+1)))
 else
  some (.inr data2)
def Yp (data1:(List Qc)) (a1:Int) (b1:Int) (n2:Int):Option ((List Qc)) :=
 Option.bind (
  iter (J5 a1 b1 n2) (n2.toNat+1) (data1,0)) (fun data3 =>
  some data3)
def WR (m1:Int) (j_:(List Qc)×Int×Int):Option (((List Qc)×Int×Int)⊕(((List Qc)×Int))) :=
 oun j_ fun data2 j_=>oun j_ fun i1 j1 =>
 bif (!(decide (i1=j1))) then
  bif (decide (j1<i1)) then
   Option.bind (Yp data2 (w64 (m1-i1)) m1 j1) fun r1 =>
   some (.inl (r1,w64 (i1-j1),j1))
  else
   Option.bind (Yp data2 (w64 (m1-i1)) (w64 ((w64 (m1+j1))-i1)) i1) fun r2 =>
   some (.inl (r2,i1,w64 (j1-i1)))
 else
  some (.inr (data2,i1))
def Jy (F:Nat) (data1:(List Qc)) (a1:Int) (m1:Int) (b1:Int):Option ((List Qc)) :=
 Option.bind (
  iter (WR m1) F (data1,w64 (m1-a1),w64 (b1-m1))) (fun j_=>oun j_ fun data3 i2 =>
  Option.bind (Yp data3 (w64 (m1-i2)) m1 i2) fun r3 =>
  some r3)
def Wl (data1:(List Qc)) (a1:Int) (j_:Int×Int):Option ((Int×Int)⊕(Int)) :=
 oun j_ fun i1 j1 =>
 bif (decide (i1<j1)) then
  Option.bind (Ws (0≤1∧1≤64)) fun _ =>
  Option.bind (getI data1 (w64 ((IntKind.u64.wrap (w64 (i1+j1)))/2^(1:Int).toNat))) fun x1 =>
  Option.bind (getI data1 a1) fun x2 =>
  Option.bind (Ya x1 x2) fun r1 =>
  bif (decide (r1<0)) then
   some (.inl (w64 ((w64 ((IntKind.u64.wrap (w64 (i1+j1)))/2^(1:Int).toNat))+1),j1))
  else
   some (.inl (i1,w64 ((IntKind.u64.wrap (w64 (i1+j1)))/2^(1:Int).toNat)))
 else
  some (.inr i1)
def Wm (i2:Int) (j_:(List Qc)×Int):Option (((List Qc)×Int)⊕((List Qc))) :=
 oun j_ fun data2 k1 =>
 bif (decide (k1<(w64 (i2-1)))) then
  Option.bind (getI data2 (w64 (k1+1))) fun x3 =>
  Option.bind (getI data2 k1) fun x4 =>
  Option.bind (getI data2 k1) fun x5 =>
  Option.bind (getI (Yg data2 k1 x3) (w64 (k1+1))) fun x6 =>
  some (.inl ((Yg (Yg data2 k1 x3) (w64 (k1+1)) x4),w64 (k1+1)))
 else
  some (.inr data2)
def Wn (data1:(List Qc)) (m1:Int) (j_:Int×Int):Option ((Int×Int)⊕(Int)) :=
 oun j_ fun i3 j2 =>
 bif (decide (i3<j2)) then
  Option.bind (Ws (0≤1∧1≤64)) fun _ =>
  Option.bind (getI data1 m1) fun x7 =>
  Option.bind (getI data1 (w64 ((IntKind.u64.wrap (w64 (i3+j2)))/2^(1:Int).toNat))) fun x8 =>
  Option.bind (Ya x7 x8) fun r2 =>
  bif (!(decide (r2<0))) then
   some (.inl (w64 ((w64 ((IntKind.u64.wrap (w64 (i3+j2)))/2^(1:Int).toNat))+1),j2))
  else
   some (.inl (i3,w64 ((IntKind.u64.wrap (w64 (i3+j2)))/2^(1:Int).toNat)))
 else
  some (.inr i3)
def Wo (i4:Int) (j_:(List Qc)×Int):Option (((List Qc)×Int)⊕((List Qc))) :=
 oun j_ fun data4 k2 =>
 bif (decide (i4<k2)) then
  Option.bind (getI data4 (w64 (k2-1))) fun x9 =>
  Option.bind (getI data4 k2) fun x10 =>
  Option.bind (getI data4 k2) fun x11 =>
  Option.bind (getI (Yg data4 k2 x9) (w64 (k2-1))) fun x12 =>
  some (.inl ((Yg (Yg data4 k2 x9) (w64 (k2-1)) x10),w64 (k2-1)))
 else
  some (.inr data4)
def Wp (data1:(List Qc)) (j_:Int×Int×Int):Option ((Int×Int×Int)⊕(Int)) :=
 oun j_ fun start2 j_=>oun j_ fun r4 p1 =>
 bif (decide (start2<r4)) then
  Option.bind (Ws (0≤1∧1≤64)) fun _ =>
  Option.bind (getI data1 (w64 (p1-(w64 ((IntKind.u64.wrap (w64 (start2+r4)))/2^(1:Int).toNat))))) fun x13 =>
  Option.bind (getI data1 (w64 ((IntKind.u64.wrap (w64 (start2+r4)))/2^(1:Int).toNat))) fun x14 =>
  Option.bind (Ya x13 x14) fun r5 =>
  bif (!(decide (r5<0))) then
   some (.inl (w64 ((w64 ((IntKind.u64.wrap (w64 (start2+r4)))/2^(1:Int).toNat))+1),r4,p1))
  else
   some (.inl (start2,w64 ((IntKind.u64.wrap (w64 (start2+r4)))/2^(1:Int).toNat),p1))
 else
  some (.inr start2)
def YM (rec_:(List Qc)→Int→Int→Int→Option ((List Qc))) (F:Nat) (data1:(List Qc)) (a1:Int) (m1:Int) (b1:Int):Option ((List Qc)) :=
 bif (decide ((w64 (m1-a1))=1)) then
  Option.bind (
   iter (Wl data1 a1) F (m1,b1)) (fun i2 =>
   Option.bind (
    iter (Wm i2) F (data1,a1)) (fun data3 =>
    some data3))
 else
  bif (decide ((w64 (b1-m1))=1)) then
   Option.bind (
    iter (Wn data1 m1) F (a1,m1)) (fun i4 =>
    Option.bind (
     iter (Wo i4) F (data1,m1)) (fun data5 =>
     some data5))
  else
   Option.bind (Ws (0≤1∧1≤64)) fun _ =>
   Option.bind (
    bif (decide ((w64 ((IntKind.u64.wrap (w64 (a1+b1)))/2^(1:Int).toNat))<m1)) then
     some (w64 ((IntKind.u64.wrap (w64 (a1+b1)))/2^(1:Int).toNat),w64 ((w64 ((IntKind.u64.wrap (w64 (a1+b1)))/2^(1:Int).toNat))+m1),w64 ((w64 ((w64 ((IntKind.u64.wrap (w64 (a1+b1)))/2^(1:Int).toNat))+m1))-b1),w64 ((IntKind.u64.wrap (w64 (a1+b1)))/2^(1:Int).toNat))
    else
     some (w64 ((IntKind.u64.wrap (w64 (a1+b1)))/2^(1:Int).toNat),w64 ((w64 ((IntKind.u64.wrap (w64 (a1+b1)))/2^(1:Int).toNat))+m1),a1,m1)) (fun j_=>oun j_ fun mid1 j_=>oun j_ fun n2 j_=>oun j_ fun start1 r3 =>
    Option.bind (
     iter (Wp data1) F (start1,r3,w64 (n2-1))) (fun start3 =>
     Option.bind (
      bif (decide (start3<m1)) then
       some (w64 (n2-start3),(decide (m1<(w64 (n2-start3)))))
      else
       some (w64 (n2-start3),false)) (fun j_=>oun j_ fun f_end1 v1 =>
      Option.bind (
       bif v1 then
        Option.bind (Jy F data1 start3 m1 f_end1) fun r6 =>
        some r6
       else
        some data1) (fun data6 =>
       Option.bind (
        bif (decide (a1<start3)) then
         some (decide (start3<mid1))
        else
         some false) (fun v2 =>
        Option.bind (
         bif v2 then
          Option.bind (rec_ data6 a1 start3 mid1) fun r7 =>
          some r7
         else
          some data6) (fun data7 =>
         Option.bind (
          bif (decide (mid1<f_end1)) then
           some (decide (f_end1<b1))
          else
           some false) (fun v3 =>
          Option.bind (
           bif v3 then
            Option.bind (rec_ data7 mid1 f_end1 b1) fun r8 =>
            some r8
           else
            some data7) (fun data8 =>
           some data8))))))))
def QZ:Nat→(List Qc)→Int→Int→Int→Option ((List Qc))
 | 0,_,_,_,_=>none
 | F+1,data1,a1,m1,b1=>YM (QZ F) F data1 a1 m1 b1
def WS (F:Nat) (n2:Int) (j_:(List Qc)×Int×Int):Option (((List Qc)×Int×Int)⊕(((List Qc)×Int))) :=
 oun j_ fun data2 j_=>oun j_ fun a1 b1 =>
 bif (decide (b1≤n2)) then
  Option.bind (Yy F data2 a1 b1) fun r1 =>
  some (.inl (r1,b1,w64 (b1+20)))
 else
  some (.inr (data2,a1))
def YX (F:Nat) (n2:Int) (blockSize1:Int) (j_:(List Qc)×Int×Int):Option (((List Qc)×Int×Int)⊕(((List Qc)×Int))) :=
 oun j_ fun data5 j_=>oun j_ fun a3 b2 =>
 bif (decide (b2≤n2)) then
  Option.bind (QZ F data5 a3 (w64 (a3+blockSize1)) b2) fun r3 =>
  some (.inl (r3,b2,w64 (b2+(w64 (2*blockSize1)))))
 else
  some (.inr (data5,a3))
def YY (F:Nat) (n2:Int) (j_:(List Qc)×Int):Option (((List Qc)×Int)⊕((List Qc))) :=
 oun j_ fun data4 blockSize1 =>
 bif (decide (blockSize1<n2)) then
  Option.bind (
   iter (YX F n2 blockSize1) F (data4,0,w64 (2*blockSize1))) (fun j_=>oun j_ fun data6 a4 =>
   Option.bind (
    bif (decide ((w64 (a4+blockSize1))<n2)) then
     Option.bind (QZ F data6 a4 (w64 (a4+blockSize1)) n2) fun r4 =>
     some r4
    else
     some data6) (fun data7 =>
    some (.inl (data7,w64 (blockSize1*2)))))
 else
  some (.inr data4)
def Zl (F:Nat) (data1:(List Qc)) (n2:Int):Option ((List Qc)) :=
 Option.bind (
  iter (WS F n2) F (data1,0,20)) (fun j_=>oun j_ fun data3 a2 =>
  Option.bind (Yy F data3 a2 n2) fun r2 =>
  Option.bind (
   iter (YY F n2) F (r2,20)) (fun data8 =>
   some data8))
def Yk (F:Nat) (x1:(List Qc)):Option ((List Qc)) :=
 Option.bind (Zl F x1 ((x1.length:Nat):Int)) fun r1 =>
 some r1
def J0 (F:Nat) (p1:Qd) (r3:(List Qa)) (j_:(List Qc)×Int):Option (((List Qc)×Int)⊕((List Qc))) :=
 oun j_ fun out1 v4 =>
 bif (decide (v4<((r3.length:Nat):Int))) then
  Option.bind (
   Option.bind (getI r3 v4) fun x1 =>
   Option.bind (Qc0 F p1 x1) fun j_=>oun j_ fun r4 r5 =>
   bif (decide (r5=0)) then
    Option.bind (ZH out1 [(Qc.mk x1 r4)]) fun l1 =>
    some l1
   else
    some out1) (fun out2 =>
   some (.inl (out2,w64 (v4+1))))
 else
  some (.inr out1)
def QO (F:Nat) (p1:Qd) (t1:Qa) (d1:Int):Option ((List Qc)×Int) :=
 Option.bind (VA F p1) fun r1 =>
 bif (!(decide (r1=0))) then
  some ([],r1)
 else
  Option.bind (
   bif (decide (t1.Vehicle<0)) then
    some true
   else
    bif (decide (((p1.Vehicles.length:Nat):Int)≤t1.Vehicle)) then
     some true
    else
     bif (decide (d1<0)) then
      some true
     else
      some (decide (((p1.Demands.length:Nat):Int)≤d1))) (fun v2 =>
   bif v2 then
    some ([],7)
   else
    Option.bind (Yu t1.Stops d1) fun r2 =>
    bif r2 then
     some ([],6)
    else
     bif (decide (40≤((t1.Stops.length:Nat):Int))) then
      some ([],0)
     else
      Option.bind (W5 F t1 d1) fun r3 =>
      Option.bind (
       iter (J0 F p1 r3) (((r3.length:Nat):Int).toNat+1) ([],0)) (fun out3 =>
       Option.bind (Yk F out3) fun r6 =>
       some (r6,0)))
def W1 (l1:(List Qc)) (j_:(List Qc)×Int):Option (((List Qc)×Int)⊕((List Qc))) :=
 oun j_ fun tours1 v2 =>
 bif (decide (v2<((l1.length:Nat):Int))) then
  Option.bind (getI tours1 v2) fun x1 =>
  some (.inl ((Yg tours1 v2 (Qc.mk (Qa.mk v2 x1.tour.Stops) x1.cost)),w64 (v2+1)))
 else
  some (.inr tours1)
def ZM (F:Nat) (p1:Qd) (tours3:(List Qc)) (v3:Int) (j_:Int×(List Int)×Int×Int×Int):Option ((Int×(List Int)×Int×Int×Int)⊕((Int×(List Int)×Int×Int))) :=
 oun j_ fun f2 j_=>oun j_ fun f3 j_=>oun j_ fun f4 j_=>oun j_ fun f_at1 v4 =>
 bif (decide (v4<((tours3.length:Nat):Int))) then
  Option.bind (
   Option.bind (getI tours3 v4) fun x2 =>
   Option.bind (QO F p1 x2.tour v3) fun j_=>oun j_ fun r2 r3 =>
   Option.bind (
    bif (decide (0<((r2.length:Nat):Int))) then
     bif (decide (f_at1<0)) then
      some true
     else
      Option.bind (getI r2 0) fun x3 =>
      Option.bind (getI tours3 f_at1) fun x4 =>
      some (decide ((w64 (x3.cost-x2.cost))<(w64 (f4-x4.cost))))
    else
     some false) (fun v6 =>
    bif v6 then
     Option.bind (getI r2 0) fun x5 =>
     some (x5.tour.Vehicle,x5.tour.Stops,x5.cost,v4)
    else
     some (f2,f3,f4,f_at1))) (fun j_=>oun j_ fun f5 j_=>oun j_ fun f6 j_=>oun j_ fun f7 f_at2 =>
   some (.inl (f5,f6,f7,f_at2,w64 (v4+1))))
 else
  some (.inr (f2,f3,f4,f_at1))
def J8 (F:Nat) (p1:Qd) (j_:(List Qc)×(List Int)×Int):Option (((List Qc)×(List Int)×Int)⊕(((List Qc)×(List Int)))) :=
 oun j_ fun tours3 j_=>oun j_ fun f1 v3 =>
 bif (decide (v3<((p1.Demands.length:Nat):Int))) then
  Option.bind (
   Option.bind (
    iter (ZM F p1 tours3 v3) (((tours3.length:Nat):Int).toNat+1) (0,[],0,(-1),0)) (fun j_=>oun j_ fun f8 j_=>oun j_ fun f9 j_=>oun j_ fun f10 f_at3 =>
    bif (decide (f_at3<0)) then
     Option.bind (ZH f1 [v3]) fun l2 =>
     some (tours3,l2)
    else
     Option.bind (getI tours3 f_at3) fun x6 =>
     some ((Yg tours3 f_at3 (Qc.mk (Qa.mk f8 f9) f10)),f1))) (fun j_=>oun j_ fun tours4 f11 =>
   some (.inl (tours4,f11,w64 (v3+1))))
 else
  some (.inr (tours3,f1))
def W2 (tours5:(List Qc)) (j_:(List Qa)×Int):Option (((List Qa)×Int)⊕((List Qa))) :=
 oun j_ fun f13 v7 =>
 bif (decide (v7<((tours5.length:Nat):Int))) then
  Option.bind (
   Option.bind (getI tours5 v7) fun x7 =>
   bif (decide (0<((x7.tour.Stops.length:Nat):Int))) then
    Option.bind (ZH f13 [x7.tour]) fun l3 =>
    some l3
   else
    some f13) (fun f14 =>
   some (.inl (f14,w64 (v7+1))))
 else
  some (.inr f13)
def V6 (F:Nat) (p1:Qd):Option (Qg×Int) :=
 Option.bind (VA F p1) fun r1 =>
 bif (!(decide (r1=0))) then
  some ((Qg.mk [] []),r1)
 else
  Option.bind (QbD (Qc.mk (Qa.mk 0 []) 0) ((p1.Vehicles.length:Nat):Int)) fun l1 =>
  Option.bind (
   iter (W1 l1) (((l1.length:Nat):Int).toNat+1) (l1,0)) (fun tours2 =>
   Option.bind (
    iter (J8 F p1) (((p1.Demands.length:Nat):Int).toNat+1) (tours2,[],0)) (fun j_=>oun j_ fun tours5 f12 =>
    Option.bind (
     iter (W2 tours5) (((tours5.length:Nat):Int).toNat+1) ([],0)) (fun f15 =>
     some ((Qg.mk f15 f12),0))))
def Qcu (u1:Qa) (b1:Qa):Option (Bool) :=
 some (decide (u1.Vehicle=b1.Vehicle))
def Y2 (s1:(List Qa)) (b1:Qa) (v1:Int):Option ((Int)⊕(Unit⊕Int)) :=
 bif (decide (v1<((s1.length:Nat):Int))) then
  Option.bind (getI s1 v1) fun x1 =>
  Option.bind (Qcu x1 b1) fun r1 =>
  bif r1 then
   some (.inr (.inr v1))
  else
   some (.inl (w64 (v1+1)))
 else
  some (.inr (.inl ()))
def JC (s1:(List Qa)) (b1:Qa):Option (Int) :=
 Option.bind (
  iter (Y2 s1 b1) (((s1.length:Nat):Int).toNat+1) 0) (fun o_=>QD o_ (fun _ =>
  some (-1)) (fun rv10019=>some rv10019))
def Y1 (s1:(List Qa)) (b1:Qa):Option (Bool) :=
 Option.bind (JC s1 b1) fun r1 =>
 some (decide (0≤r1))
def Qcv (n1:Int):Option (Bool) :=
 some (decide (1<n1))
def Ze (s1:(List Int)) (v1:Int):Option ((Int)⊕(Unit⊕Int)) :=
 bif (decide (v1<((s1.length:Nat):Int))) then
  Option.bind (getI s1 v1) fun x1 =>
  Option.bind (Qcv x1) fun r1 =>
  bif r1 then
   some (.inr (.inr v1))
  else
   some (.inl (w64 (v1+1)))
 else
  some (.inr (.inl ()))
def JQ (s1:(List Int)):Option (Int) :=
 Option.bind (
  iter (Ze s1) (((s1.length:Nat):Int).toNat+1) 0) (fun o_=>QD o_ (fun _ =>
  some (-1)) (fun rv10164=>some rv10164))
def Zd (s1:(List Int)):Option (Bool) :=
 Option.bind (JQ s1) fun r1 =>
 some (decide (0≤r1))
def V9 (F:Nat) (p1:Qd) (x1:Qg) (j_:Int×Int):Option ((Int×Int)⊕(Int⊕(Int×Int))) :=
 oun j_ fun sum1 v2 =>
 bif (decide (v2<((x1.Tours.length:Nat):Int))) then
  Option.bind (getI x1.Tours v2) fun x2 =>
  Option.bind (Wx x1.Tours 0 v2) fun l1 =>
  Option.bind (Y1 l1 x2) fun r2 =>
  bif r2 then
   some (.inr (.inr (0,6)))
  else
   Option.bind (Vr F p1 x2) fun j_=>oun j_ fun r3 j_=>oun j_ fun r4 r5 =>
   bif (!(decide (r4=0))) then
    some (.inr (.inr (0,r4)))
   else
    Option.bind (r3) fun q1 =>
    some (.inl (w64 (sum1+q1.place.meters),w64 (v2+1)))
 else
  some (.inr (.inl sum1))
def Qaa (x1:Qg) (j_:(List Int)×Int):Option (((List Int)×Int)⊕((List Int)⊕(Int×Int))) :=
 oun j_ fun times1 v4 =>
 bif (decide (v4<((x1.Left.length:Nat):Int))) then
  Option.bind (getI x1.Left v4) fun x3 =>
  Option.bind (
   bif (decide (x3<0)) then
    some true
   else
    some (decide (((times1.length:Nat):Int)≤x3))) (fun v5 =>
   bif v5 then
    some (.inr (.inr (0,7)))
   else
    Option.bind (getI times1 x3) fun x4 =>
    Option.bind (getI times1 x3) fun x5 =>
    some (.inl ((Yg times1 x3 (w64 (x4+1))),w64 (v4+1))))
 else
  some (.inr (.inl times1))
def Qab (x6:Qa) (j_:(List Int)×Int):Option (((List Int)×Int)⊕((List Int))) :=
 oun j_ fun times4 v7 =>
 bif (decide (v7<((x6.Stops.length:Nat):Int))) then
  Option.bind (
   Option.bind (getI x6.Stops v7) fun x7 =>
   bif (!(decide (x7=(-1)))) then
    Option.bind (getI times4 x7) fun x8 =>
    Option.bind (getI times4 x7) fun x9 =>
    some (Yg times4 x7 (w64 (x8+1)))
   else
    some times4) (fun times5 =>
   some (.inl (times5,w64 (v7+1))))
 else
  some (.inr times4)
def Qac (x1:Qg) (j_:(List Int)×Int):Option (((List Int)×Int)⊕((List Int))) :=
 oun j_ fun times3 v6 =>
 bif (decide (v6<((x1.Tours.length:Nat):Int))) then
  Option.bind (
   Option.bind (getI x1.Tours v6) fun x6 =>
   Option.bind (
    iter (Qab x6) (((x6.Stops.length:Nat):Int).toNat+1) (times3,0)) (fun times6 =>
    some times6)) (fun times7 =>
   some (.inl (times7,w64 (v6+1))))
 else
  some (.inr times3)
def YT (F:Nat) (p1:Qd) (x1:Qg):Option (Int×Int) :=
 Option.bind (VA F p1) fun r1 =>
 bif (!(decide (r1=0))) then
  some (0,r1)
 else
  Option.bind (
   iter (V9 F p1 x1) (((x1.Tours.length:Nat):Int).toNat+1) (0,0)) (fun o_=>QD o_ (fun sum2 =>
   Option.bind (QbD (0:Int) ((p1.Demands.length:Nat):Int)) fun l2 =>
   Option.bind (
    iter (Qaa x1) (((x1.Left.length:Nat):Int).toNat+1) (l2,0)) (fun o_=>QD o_ (fun times2 =>
    Option.bind (
     iter (Qac x1) (((x1.Tours.length:Nat):Int).toNat+1) (times2,0)) (fun times8 =>
     Option.bind (Zd times8) fun r6 =>
     bif r6 then
      some (0,6)
     else
      Option.bind (Yu times8 0) fun r7 =>
      bif r7 then
       some (0,38)
      else
       some (sum2,0))) (fun rv10240=>some rv10240))) (fun rv10174=>some rv10174))
def JO (F:Nat) (p1:Qd) (x1:Qg):Option (Int×Int) :=
 Option.bind (YT F p1 x1) fun j_=>oun j_ fun r1 r2 =>
 some (r1,r2)
def QdI (x1:Qg) (v1:Int) (v2:Int):Option ((Int)⊕(Unit⊕Qa)) :=
 bif (decide (v2<((x1.Tours.length:Nat):Int))) then
  Option.bind (getI x1.Tours v2) fun x2 =>
  bif (decide (x2.Vehicle=v1)) then
   some (.inr (.inr x2))
  else
   some (.inl (w64 (v2+1)))
 else
  some (.inr (.inl ()))
def Qaz (x1:Qg) (v1:Int):Option (Qa) :=
 Option.bind (
  iter (QdI x1 v1) (((x1.Tours.length:Nat):Int).toNat+1) 0) (fun o_=>QD o_ (fun _ =>
  some (Qa.mk v1 [])) (fun rv10394=>some rv10394))
def JL (k1:Int) (b1:Int):Option (Bool) :=
 some (decide (k1=b1))
def J9 (s1:(List Int)) (b1:Int) (v1:Int):Option ((Int)⊕(Unit⊕Int)) :=
 bif (decide (v1<((s1.length:Nat):Int))) then
  Option.bind (getI s1 v1) fun x1 =>
  Option.bind (JL x1 b1) fun r1 =>
  bif r1 then
   some (.inr (.inr v1))
  else
   some (.inl (w64 (v1+1)))
 else
  some (.inr (.inl ()))
def JD (s1:(List Int)) (b1:Int):Option (Int) :=
 Option.bind (
  iter (J9 s1 b1) (((s1.length:Nat):Int).toNat+1) 0) (fun o_=>QD o_ (fun _ =>
  some (-1)) (fun rv10431=>some rv10431))
def Ys (s1:(List Int)) (b1:Int) (j_:(List Int)×Int×Int):Option (((List Int)×Int×Int)⊕(((List Int)×Int))) :=
 oun j_ fun s2 j_=>oun j_ fun i1 j1 =>
 bif (decide (j1<((s1.length:Nat):Int))) then
  Option.bind (
   Option.bind (getI s2 j1) fun x1 =>
   Option.bind (JL x1 b1) fun r2 =>
   bif (!r2) then
    Option.bind (getI s2 i1) fun x2 =>
    some ((Yg s2 i1 x1),w64 (i1+1))
   else
    some (s2,i1)) (fun j_=>oun j_ fun s3 i2 =>
   some (.inl (s3,i2,w64 (j1+1))))
 else
  some (.inr (s2,i1))
def Zp (F:Nat) (s1:(List Int)) (b1:Int):Option ((List Int)) :=
 Option.bind (JD s1 b1) fun r1 =>
 bif (decide (r1=(-1))) then
  some s1
 else
  Option.bind (
   iter (Ys s1 b1) F (s1,r1,w64 (r1+1))) (fun j_=>oun j_ fun s4 i3 =>
   Option.bind (Wx s4 i3 ((s4.length:Nat):Int)) fun l1 =>
   Option.bind (Wx (QeO s4 i3 0) 0 i3) fun l2 =>
   some l2)
def JK (F:Nat) (l1:(List Int)) (n1:Int):Option ((List Int)) :=
 Option.bind (Qg9 l1) fun l2 =>
 Option.bind (Zp F l2 n1) fun r1 =>
 some r1
def VX (F:Nat) (p1:Qd) (t1:Qa) (d1:Int):Option (Qa×Int) :=
 Option.bind (QO F p1 t1 d1) fun j_=>oun j_ fun r1 r2 =>
 bif (!(decide (r2=0))) then
  some ((Qa.mk 0 []),r2)
 else
  bif (decide (((r1.length:Nat):Int)=0)) then
   some ((Qa.mk 0 []),40)
  else
   Option.bind (getI r1 0) fun x1 =>
   some (x1.tour,0)
def QaR (s1:Int):Option (Bool) :=
 some (decide (0≤s1))
def Wb (s1:(List Int)) (v1:Int):Option ((Int)⊕(Unit⊕Int)) :=
 bif (decide (v1<((s1.length:Nat):Int))) then
  Option.bind (getI s1 v1) fun x1 =>
  Option.bind (QaR x1) fun r1 =>
  bif r1 then
   some (.inr (.inr v1))
  else
   some (.inl (w64 (v1+1)))
 else
  some (.inr (.inl ()))
def JE (s1:(List Int)):Option (Int) :=
 Option.bind (
  iter (Wb s1) (((s1.length:Nat):Int).toNat+1) 0) (fun o_=>QD o_ (fun _ =>
  some (-1)) (fun rv10789=>some rv10789))
def ZO (s1:(List Int)):Option (Bool) :=
 Option.bind (JE s1) fun r1 =>
 some (decide (0≤r1))
def W0 (t1:Qa):Option (Bool) :=
 Option.bind (ZO t1.Stops) fun r1 =>
 some r1
def JJ (F:Nat) (p1:Qd) (x1:Qg) (d1:Int) (v1:Int) (f1:Int) (f2:(List Int)) (j_:(List Qa)×Int):Option (((List Qa)×Int)⊕((List Qa))) :=
 oun j_ fun f3 v4 =>
 bif (decide (v4<((p1.Vehicles.length:Nat):Int))) then
  Option.bind (
   Option.bind (
    bif (!(decide (v4=v1))) then
     Option.bind (Qaz x1 v4) fun r5 =>
     Option.bind (JK F r5.Stops d1) fun r6 =>
     some (v4,r6)
    else
     some (f1,f2)) (fun j_=>oun j_ fun f4 f5 =>
    Option.bind (W0 (Qa.mk f4 f5)) fun r7 =>
    bif r7 then
     Option.bind (ZH f3 [(Qa.mk f4 f5)]) fun l1 =>
     some l1
    else
     some f3)) (fun f6 =>
   some (.inl (f6,w64 (v4+1))))
 else
  some (.inr f3)
def VH (F:Nat) (p1:Qd) (x1:Qg) (d1:Int) (v1:Int):Option (Qg×Bool) :=
 Option.bind (
  Option.bind (Qaz x1 v1) fun r1 =>
  Option.bind (JK F r1.Stops d1) fun r2 =>
  Option.bind (VX F p1 (Qa.mk v1 r2) d1) fun j_=>oun j_ fun r3 r4 =>
  some (r3.Vehicle,r3.Stops,r4)) (fun j_=>oun j_ fun f1 j_=>oun j_ fun f2 e1 =>
  bif (!(decide (e1=0))) then
   some ((Qg.mk [] []),false)
  else
   Option.bind (
    iter (JJ F p1 x1 d1 v1 f1 f2) (((p1.Vehicles.length:Nat):Int).toNat+1) ([],0)) (fun f7 =>
    Option.bind (JK F x1.Left d1) fun r8 =>
    Option.bind (QhW r8) fun l2 =>
    some ((Qg.mk f7 l2),true)))
def Qai (x1:Int):Option (Bool) :=
 some (!(decide (x1=x1)))
def WZ (x1:Int) (y1:Int):Option (Int) :=
 Option.bind (Qai x1) fun r1 =>
 Option.bind (Qai y1) fun r2 =>
 bif r1 then
  bif r2 then
   some 0
  else
   some (-1)
 else
  bif r2 then
   some 1
  else
   bif (decide (x1<y1)) then
    some (-1)
   else
    bif (decide (y1<x1)) then
     some 1
    else
     some 0
def Qbl (vals1:(List Int)) (v1:Int):Option ((Int)⊕(Unit⊕Int)) :=
 bif (decide (v1<((vals1.length:Nat):Int))) then
  Option.bind (getI vals1 v1) fun x1 =>
  bif (!(decide (x1=0))) then
   some (.inr (.inr x1))
  else
   some (.inl (w64 (v1+1)))
 else
  some (.inr (.inl ()))
def Qb5 (vals1:(List Int)):Option (Int) :=
 Option.bind (
  iter (Qbl vals1) (((vals1.length:Nat):Int).toNat+1) 0) (fun o_=>QD o_ (fun _ =>
  some 0) (fun rv11305=>some rv11305))
def QV (a1:Qb) (b1:Qb):Option (Int) :=
 Option.bind (WZ ((a1.plan.Left.length:Nat):Int) ((b1.plan.Left.length:Nat):Int)) fun r1 =>
 Option.bind (WZ a1.cost b1.cost) fun r2 =>
 Option.bind (Qb5 [r1,r2]) fun r3 =>
 some r3
def Vj (F:Nat) (b1:Qd) (b2:Qg) (b3:Int) (b4:(List Qb)) (y1:Qg):Option ((List Qb)) :=
 Option.bind (JO F b1 y1) fun j_=>oun j_ fun r1 r2 =>
 Option.bind (
  bif (decide (r2=0)) then
   Option.bind (QV (Qb.mk y1 r1) (Qb.mk b2 b3)) fun r3 =>
   some (decide (r3<0))
  else
   some false) (fun v2 =>
  bif v2 then
   Option.bind (ZH b4 [(Qb.mk y1 r1)]) fun l2 =>
   some l2
  else
   some b4)
def Zf (F:Nat) (b1:Qd) (b2:Qg) (b3:Int) (b5:Qd) (b6:Qg) (v1:Int) (j_:Int×(List Qb)):Option ((Int×(List Qb))⊕((List Qb))) :=
 oun j_ fun v2 q3 =>
 bif (decide (v2<((b5.Vehicles.length:Nat):Int))) then
  Option.bind (VH F b5 b6 v1 v2) fun j_=>oun j_ fun r1 r2 =>
  Option.bind (
   bif r2 then
    Option.bind (Vj F b1 b2 b3 q3 r1) fun r3 =>
    some r3
   else
    some q3) (fun q4 =>
   some (.inl (w64 (v2+1),q4)))
 else
  some (.inr q3)
def ZS (F:Nat) (b1:Qd) (b2:Qg) (b3:Int) (b5:Qd) (b6:Qg) (j_:Int×(List Qb)):Option ((Int×(List Qb))⊕((List Qb))) :=
 oun j_ fun v1 q2 =>
 bif (decide (v1<((b5.Demands.length:Nat):Int))) then
  Option.bind (
   Option.bind (
    iter (Zf F b1 b2 b3 b5 b6 v1) (((b5.Vehicles.length:Nat):Int).toNat+1) (0,q2)) (fun q5 =>
    some q5)) (fun q6 =>
   some (.inl (w64 (v1+1),q6)))
 else
  some (.inr q2)
def JR (F:Nat) (b1:Qd) (b2:Qg) (b3:Int) (b4:(List Qb)) (b5:Qd) (b6:Qg):Option ((List Qb)) :=
 Option.bind (
  iter (ZS F b1 b2 b3 b5 b6) (((b5.Demands.length:Nat):Int).toNat+1) (0,b4)) (fun q7 =>
  some q7)
def JH (a1:Int) (j_:(List Qb)×Int):Option (((List Qb)×Int)⊕((List Qb))) :=
 oun j_ fun data3 j1 =>
 Option.bind (
  bif (decide (a1<j1)) then
   Option.bind (getI data3 j1) fun x1 =>
   Option.bind (getI data3 (w64 (j1-1))) fun x2 =>
   Option.bind (QV x1 x2) fun r1 =>
   some (decide (r1<0))
  else
   some false) (fun v1 =>
  bif v1 then
   Option.bind (getI data3 (w64 (j1-1))) fun x3 =>
   Option.bind (getI data3 j1) fun x4 =>
   Option.bind (getI data3 j1) fun x5 =>
   Option.bind (getI (Yg data3 j1 x3) (w64 (j1-1))) fun x6 =>
   some (.inl ((Yg (Yg data3 j1 x3) (w64 (j1-1)) x4),w64 (j1-1)))
  else
   some (.inr data3))
def JI (F:Nat) (a1:Int) (b1:Int) (j_:(List Qb)×Int):Option (((List Qb)×Int)⊕((List Qb))) :=
 oun j_ fun data2 i1 =>
 bif (decide (i1<b1)) then
  Option.bind (
   Option.bind (
    iter (JH a1) F (data2,i1)) (fun data4 =>
    some data4)) (fun data5 =>
   some (.inl (data5,w64 (i1+1))))
 else
  some (.inr data2)
def YC (F:Nat) (data1:(List Qb)) (a1:Int) (b1:Int):Option ((List Qb)) :=
 Option.bind (
  iter (JI F a1 b1) F (data1,w64 (a1+1))) (fun data6 =>
  some data6)
def Wi (a1:Int) (b1:Int) (n2:Int) (j_:(List Qb)×Int):Option (((List Qb)×Int)⊕((List Qb))) :=
 oun j_ fun data2 i1 =>
 bif (decide (i1<n2)) then
  Option.bind (getI data2 (w64 (b1+i1))) fun x1 =>
  Option.bind (getI data2 (w64 (a1+i1))) fun x2 =>
  Option.bind (getI data2 (w64 (a1+i1))) fun x3 =>
  Option.bind (getI (Yg data2 (w64 (a1+i1)) x1) (w64 (b1+i1))) fun x4 =>
  some (.inl ((Yg (Yg data2 (w64 (a1+i1)) x1) (w64 (b1+i1)) x2),w64 (i1+1)))
 else
  some (.inr data2)
def Yv (data1:(List Qb)) (a1:Int) (b1:Int) (n2:Int):Option ((List Qb)) :=
 Option.bind (
  iter (Wi a1 b1 n2) (n2.toNat+1) (data1,0)) (fun data3 =>
  some data3)
def WW (m1:Int) (j_:(List Qb)×Int×Int):Option (((List Qb)×Int×Int)⊕(((List Qb)×Int))) :=
 oun j_ fun data2 j_=>oun j_ fun i1 j1 =>
 bif (!(decide (i1=j1))) then
  bif (decide (j1<i1)) then
   Option.bind (Yv data2 (w64 (m1-i1)) m1 j1) fun r1 =>
   some (.inl (r1,w64 (i1-j1),j1))
  else
   Option.bind (Yv data2 (w64 (m1-i1)) (w64 ((w64 (m1+j1))-i1)) i1) fun r2 =>
   some (.inl (r2,i1,w64 (j1-i1)))
 else
  some (.inr (data2,i1))
def JN (F:Nat) (data1:(List Qb)) (a1:Int) (m1:Int) (b1:Int):Option ((List Qb)) :=
 Option.bind (
  iter (WW m1) F (data1,w64 (m1-a1),w64 (b1-m1))) (fun j_=>oun j_ fun data3 i2 =>
  Option.bind (Yv data3 (w64 (m1-i2)) m1 i2) fun r3 =>
  some r3)
def WD (data1:(List Qb)) (a1:Int) (j_:Int×Int):Option ((Int×Int)⊕(Int)) :=
 oun j_ fun i1 j1 =>
 bif (decide (i1<j1)) then
  Option.bind (Ws (0≤1∧1≤64)) fun _ =>
  Option.bind (getI data1 (w64 ((IntKind.u64.wrap (w64 (i1+j1)))/2^(1:Int).toNat))) fun x1 =>
  Option.bind (getI data1 a1) fun x2 =>
  Option.bind (QV x1 x2) fun r1 =>
  bif (decide (r1<0)) then
   some (.inl (w64 ((w64 ((IntKind.u64.wrap (w64 (i1+j1)))/2^(1:Int).toNat))+1),j1))
  else
   some (.inl (i1,w64 ((IntKind.u64.wrap (w64 (i1+j1)))/2^(1:Int).toNat)))
 else
  some (.inr i1)
def WE (i2:Int) (j_:(List Qb)×Int):Option (((List Qb)×Int)⊕((List Qb))) :=
 oun j_ fun data2 k1 =>
 bif (decide (k1<(w64 (i2-1)))) then
  Option.bind (getI data2 (w64 (k1+1))) fun x3 =>
  Option.bind (getI data2 k1) fun x4 =>
  Option.bind (getI data2 k1) fun x5 =>
  Option.bind (getI (Yg data2 k1 x3) (w64 (k1+1))) fun x6 =>
  some (.inl ((Yg (Yg data2 k1 x3) (w64 (k1+1)) x4),w64 (k1+1)))
 else
  some (.inr data2)
def WF (data1:(List Qb)) (m1:Int) (j_:Int×Int):Option ((Int×Int)⊕(Int)) :=
 oun j_ fun i3 j2 =>
 bif (decide (i3<j2)) then
  Option.bind (Ws (0≤1∧1≤64)) fun _ =>
  Option.bind (getI data1 m1) fun x7 =>
  Option.bind (getI data1 (w64 ((IntKind.u64.wrap (w64 (i3+j2)))/2^(1:Int).toNat))) fun x8 =>
  Option.bind (QV x7 x8) fun r2 =>
  bif (!(decide (r2<0))) then
   some (.inl (w64 ((w64 ((IntKind.u64.wrap (w64 (i3+j2)))/2^(1:Int).toNat))+1),j2))
  else
   some (.inl (i3,w64 ((IntKind.u64.wrap (w64 (i3+j2)))/2^(1:Int).toNat)))
 else
  some (.inr i3)
def WG (i4:Int) (j_:(List Qb)×Int):Option (((List Qb)×Int)⊕((List Qb))) :=
 oun j_ fun data4 k2 =>
 bif (decide (i4<k2)) then
  Option.bind (getI data4 (w64 (k2-1))) fun x9 =>
  Option.bind (getI data4 k2) fun x10 =>
  Option.bind (getI data4 k2) fun x11 =>
  Option.bind (getI (Yg data4 k2 x9) (w64 (k2-1))) fun x12 =>
  some (.inl ((Yg (Yg data4 k2 x9) (w64 (k2-1)) x10),w64 (k2-1)))
 else
  some (.inr data4)
def WH (data1:(List Qb)) (j_:Int×Int×Int):Option ((Int×Int×Int)⊕(Int)) :=
 oun j_ fun start2 j_=>oun j_ fun r4 p1 =>
 bif (decide (start2<r4)) then
  Option.bind (Ws (0≤1∧1≤64)) fun _ =>
  Option.bind (getI data1 (w64 (p1-(w64 ((IntKind.u64.wrap (w64 (start2+r4)))/2^(1:Int).toNat))))) fun x13 =>
  Option.bind (getI data1 (w64 ((IntKind.u64.wrap (w64 (start2+r4)))/2^(1:Int).toNat))) fun x14 =>
  Option.bind (QV x13 x14) fun r5 =>
  bif (!(decide (r5<0))) then
   some (.inl (w64 ((w64 ((IntKind.u64.wrap (w64 (start2+r4)))/2^(1:Int).toNat))+1),r4,p1))
  else
   some (.inl (start2,w64 ((IntKind.u64.wrap (w64 (start2+r4)))/2^(1:Int).toNat),p1))
 else
  some (.inr start2)
def YZ (rec_:(List Qb)→Int→Int→Int→Option ((List Qb))) (F:Nat) (data1:(List Qb)) (a1:Int) (m1:Int) (b1:Int):Option ((List Qb)) :=
 bif (decide ((w64 (m1-a1))=1)) then
  Option.bind (
   iter (WD data1 a1) F (m1,b1)) (fun i2 =>
   Option.bind (
    iter (WE i2) F (data1,a1)) (fun data3 =>
    some data3))
 else
  bif (decide ((w64 (b1-m1))=1)) then
   Option.bind (
    iter (WF data1 m1) F (a1,m1)) (fun i4 =>
    Option.bind (
     iter (WG i4) F (data1,m1)) (fun data5 =>
     some data5))
  else
   Option.bind (Ws (0≤1∧1≤64)) fun _ =>
   Option.bind (
    bif (decide ((w64 ((IntKind.u64.wrap (w64 (a1+b1)))/2^(1:Int).toNat))<m1)) then
     some (w64 ((IntKind.u64.wrap (w64 (a1+b1)))/2^(1:Int).toNat),w64 ((w64 ((IntKind.u64.wrap (w64 (a1+b1)))/2^(1:Int).toNat))+m1),w64 ((w64 ((w64 ((IntKind.u64.wrap (w64 (a1+b1)))/2^(1:Int).toNat))+m1))-b1),w64 ((IntKind.u64.wrap (w64 (a1+b1)))/2^(1:Int).toNat))
    else
     some (w64 ((IntKind.u64.wrap (w64 (a1+b1)))/2^(1:Int).toNat),w64 ((w64 ((IntKind.u64.wrap (w64 (a1+b1)))/2^(1:Int).toNat))+m1),a1,m1)) (fun j_=>oun j_ fun mid1 j_=>oun j_ fun n2 j_=>oun j_ fun start1 r3 =>
    Option.bind (
     iter (WH data1) F (start1,r3,w64 (n2-1))) (fun start3 =>
     Option.bind (
      bif (decide (start3<m1)) then
       some (w64 (n2-start3),(decide (m1<(w64 (n2-start3)))))
      else
       some (w64 (n2-start3),false)) (fun j_=>oun j_ fun f_end1 v1 =>
      Option.bind (
       bif v1 then
        Option.bind (JN F data1 start3 m1 f_end1) fun r6 =>
        some r6
       else
        some data1) (fun data6 =>
       Option.bind (
        bif (decide (a1<start3)) then
         some (decide (start3<mid1))
        else
         some false) (fun v2 =>
        Option.bind (
         bif v2 then
          Option.bind (rec_ data6 a1 start3 mid1) fun r7 =>
          some r7
         else
          some data6) (fun data7 =>
         Option.bind (
          bif (decide (mid1<f_end1)) then
           some (decide (f_end1<b1))
          else
           some false) (fun v3 =>
          Option.bind (
           bif v3 then
            Option.bind (rec_ data7 mid1 f_end1 b1) fun r8 =>
            some r8
           else
            some data7) (fun data8 =>
           some data8))))))))
def Q7:Nat→(List Qb)→Int→Int→Int→Option ((List Qb))
 | 0,_,_,_,_=>none
 | F+1,data1,a1,m1,b1=>YZ (Q7 F) F data1 a1 m1 b1
def WX (F:Nat) (n2:Int) (j_:(List Qb)×Int×Int):Option (((List Qb)×Int×Int)⊕(((List Qb)×Int))) :=
 oun j_ fun data2 j_=>oun j_ fun a1 b1 =>
 bif (decide (b1≤n2)) then
  Option.bind (YC F data2 a1 b1) fun r1 =>
  some (.inl (r1,b1,w64 (b1+20)))
 else
  some (.inr (data2,a1))
def Y4 (F:Nat) (n2:Int) (blockSize1:Int) (j_:(List Qb)×Int×Int):Option (((List Qb)×Int×Int)⊕(((List Qb)×Int))) :=
 oun j_ fun data5 j_=>oun j_ fun a3 b2 =>
 bif (decide (b2≤n2)) then
  Option.bind (Q7 F data5 a3 (w64 (a3+blockSize1)) b2) fun r3 =>
  some (.inl (r3,b2,w64 (b2+(w64 (2*blockSize1)))))
 else
  some (.inr (data5,a3))
def Y5 (F:Nat) (n2:Int) (j_:(List Qb)×Int):Option (((List Qb)×Int)⊕((List Qb))) :=
 oun j_ fun data4 blockSize1 =>
 bif (decide (blockSize1<n2)) then
  Option.bind (
   iter (Y4 F n2 blockSize1) F (data4,0,w64 (2*blockSize1))) (fun j_=>oun j_ fun data6 a4 =>
   Option.bind (
    bif (decide ((w64 (a4+blockSize1))<n2)) then
     Option.bind (Q7 F data6 a4 (w64 (a4+blockSize1)) n2) fun r4 =>
     some r4
    else
     some data6) (fun data7 =>
    some (.inl (data7,w64 (blockSize1*2)))))
 else
  some (.inr data4)
def Zu (F:Nat) (data1:(List Qb)) (n2:Int):Option ((List Qb)) :=
 Option.bind (
  iter (WX F n2) F (data1,0,20)) (fun j_=>oun j_ fun data3 a2 =>
  Option.bind (YC F data3 a2 n2) fun r2 =>
  Option.bind (
   iter (Y5 F n2) F (r2,20)) (fun data8 =>
   some data8))
def Yn (F:Nat) (x1:(List Qb)):Option ((List Qb)) :=
 Option.bind (Zu F x1 ((x1.length:Nat):Int)) fun r1 =>
 some r1
def JY (r4:(List Qb)) (j_:(List Qg)×Int):Option (((List Qg)×Int)⊕((List Qg))) :=
 oun j_ fun out1 v3 =>
 bif (decide (v3<((r4.length:Nat):Int))) then
  Option.bind (getI r4 v3) fun x2 =>
  Option.bind (ZH out1 [x2.plan]) fun l2 =>
  some (.inl (l2,w64 (v3+1)))
 else
  some (.inr out1)
def Y0 (F:Nat) (p1:Qd) (x1:Qg):Option ((List Qg)×Int) :=
 Option.bind (JO F p1 x1) fun j_=>oun j_ fun r1 r2 =>
 bif (!(decide (r2=0))) then
  some ([],r2)
 else
  Option.bind (JR F p1 x1 r1 [] p1 x1) fun r3 =>
  Option.bind (Yn F r3) fun r4 =>
  Option.bind (
   iter (JY r4) (((r4.length:Nat):Int).toNat+1) ([],0)) (fun out2 =>
   some (out2,0))
def Vk (F:Nat) (p1:Qd) (j_:(List Qa)×(List Int)):Option (((List Qa)×(List Int))⊕((Qg×Int))) :=
 oun j_ fun f1 f2 =>
 Option.bind (Y0 F p1 (Qg.mk f1 f2)) fun j_=>oun j_ fun r3 r4 =>
 bif (!(decide (r4=0))) then
  some (.inr ((Qg.mk [] []),r4))
 else
  bif (decide (((r3.length:Nat):Int)=0)) then
   some (.inr ((Qg.mk f1 f2),0))
  else
   Option.bind (getI r3 0) fun x1 =>
   some (.inl (x1.Tours,x1.Left))
def Wy (F:Nat) (p1:Qd):Option (Qg×Int) :=
 Option.bind (V6 F p1) fun j_=>oun j_ fun r1 r2 =>
 bif (!(decide (r2=0))) then
  some ((Qg.mk [] []),r2)
 else
  Option.bind (
   iter (Vk F p1) F (r1.Tours,r1.Left)) (fun rv20105=>some rv20105)
def WJ (F:Nat) (p1:Qd) (x1:Qg):Option (Int) :=
 Option.bind (YT F p1 x1) fun j_=>oun j_ fun r1 r2 =>
 some r2
def Qb1 (F:Nat) (p1:Qd) (t1:Qa):Option ((List QT)×Int×Int) :=
 Option.bind (VA F p1) fun r1 =>
 bif (!(decide (r1=0))) then
  some ([],r1,0)
 else
  Option.bind (Vr F p1 t1) fun j_=>oun j_ fun r2 j_=>oun j_ fun r3 r4 =>
  bif (!(decide (r3=0))) then
   some ([],r3,r4)
  else
   Option.bind (r2) fun q1 =>
   some (q1.visits,0,0)
def JZ (r1:(List Qc)) (j_:(List Qa)×Int):Option (((List Qa)×Int)⊕((List Qa))) :=
 oun j_ fun out1 v2 =>
 bif (decide (v2<((r1.length:Nat):Int))) then
  Option.bind (getI r1 v2) fun x1 =>
  Option.bind (ZH out1 [x1.tour]) fun l1 =>
  some (.inl (l1,w64 (v2+1)))
 else
  some (.inr out1)
def Jd (F:Nat) (p1:Qd) (t1:Qa) (d1:Int):Option ((List Qa)×Int) :=
 Option.bind (QO F p1 t1 d1) fun j_=>oun j_ fun r1 r2 =>
 Option.bind (
  iter (JZ r1) (((r1.length:Nat):Int).toNat+1) ([],0)) (fun out2 =>
  some (out2,r2))
def Yl (F:Nat) (p1:Qd) (x1:Qg) (d1:Int) (v1:Int):Option (Int) :=
 Option.bind (getI p1.Vehicles v1) fun x2 =>
 Option.bind (getI p1.Demands d1) fun x3 =>
 Option.bind (ZP x2 x3.Kind) fun r1 =>
 bif (!r1) then
  some 21
 else
  Option.bind (getI p1.Demands d1) fun x4 =>
  Option.bind (getI p1.Vehicles v1) fun x5 =>
  bif (decide (x5.Grams<x4.Grams)) then
   some 20
  else
   Option.bind (Qb1 F p1 (Qa.mk v1 [d1,(-1)])) fun j_=>oun j_ fun r2 j_=>oun j_ fun r3 r4 =>
   bif (!(decide (r3=0))) then
    some r3
   else
    Option.bind (Qaz x1 v1) fun r5 =>
    Option.bind (Jd F p1 r5 d1) fun j_=>oun j_ fun r6 r7 =>
    bif (!(decide (r7=0))) then
     some r7
    else
     bif (decide (((r6.length:Nat):Int)=0)) then
      some 40
     else
      some 0
def Qbz (F:Nat) (p1:Qd) (x1:Qg) (d1:Int) (j_:(List QI)×Int):Option (((List QI)×Int)⊕((List QI))) :=
 oun j_ fun out1 v3 =>
 bif (decide (v3<((p1.Vehicles.length:Nat):Int))) then
  Option.bind (Yl F p1 x1 d1 v3) fun r3 =>
  Option.bind (ZH out1 [(QI.mk v3 r3)]) fun l1 =>
  some (.inl (l1,w64 (v3+1)))
 else
  some (.inr out1)
def Wr (F:Nat) (p1:Qd) (x1:Qg) (d1:Int):Option ((List QI)×Int) :=
 Option.bind (WJ F p1 x1) fun r1 =>
 bif (!(decide (r1=0))) then
  some ([],r1)
 else
  Option.bind (
   bif (decide (d1<0)) then
    some true
   else
    some (decide (((p1.Demands.length:Nat):Int)≤d1))) (fun v2 =>
   bif v2 then
    some ([],7)
   else
    Option.bind (Yu x1.Left d1) fun r2 =>
    bif (!r2) then
     some ([],13)
    else
     Option.bind (
      iter (Qbz F p1 x1 d1) (((p1.Vehicles.length:Nat):Int).toNat+1) ([],0)) (fun out2 =>
      some (out2,0)))
def Jk (a1:(List Int)) (b1:(List Int)) (i1:Int):Option ((Int)⊕(Unit⊕Bool)) :=
 bif (decide (i1<((a1.length:Nat):Int))) then
  Option.bind (getI a1 i1) fun x1 =>
  Option.bind (getI b1 i1) fun x2 =>
  bif (!(decide (x1=x2))) then
   some (.inr (.inr false))
  else
   some (.inl (w64 (i1+1)))
 else
  some (.inr (.inl ()))
def Jr (a1:(List Int)) (b1:(List Int)):Option (Bool) :=
 bif (!(decide (((a1.length:Nat):Int)=((b1.length:Nat):Int)))) then
  some false
 else
  Option.bind (
   iter (Jk a1 b1) (((a1.length:Nat):Int).toNat+1) 0) (fun o_=>QD o_ (fun _ =>
   some true) (fun rv20606=>some rv20606))
def Jl (a1:(List Qa)) (b1:(List Qa)) (i1:Int):Option ((Int)⊕(Unit⊕Bool)) :=
 bif (decide (i1<((a1.length:Nat):Int))) then
  Option.bind (
   Option.bind (getI a1 i1) fun x1 =>
   Option.bind (getI b1 i1) fun x2 =>
   bif (!(decide (x1.Vehicle=x2.Vehicle))) then
    some true
   else
    Option.bind (getI a1 i1) fun x3 =>
    Option.bind (getI b1 i1) fun x4 =>
    Option.bind (Jr x3.Stops x4.Stops) fun r1 =>
    some (!r1)) (fun v1 =>
   bif v1 then
    some (.inr (.inr false))
   else
    some (.inl (w64 (i1+1))))
 else
  some (.inr (.inl ()))
def Wg (a1:(List Qa)) (b1:(List Qa)):Option (Bool) :=
 bif (!(decide (((a1.length:Nat):Int)=((b1.length:Nat):Int)))) then
  some false
 else
  Option.bind (
   iter (Jl a1 b1) (((a1.length:Nat):Int).toNat+1) 0) (fun o_=>QD o_ (fun _ =>
   some true) (fun rv20598=>some rv20598))
def Yt (a1:Qg) (b1:Qg):Option (Bool) :=
 Option.bind (
  Option.bind (Wg a1.Tours b1.Tours) fun r1 =>
  bif r1 then
   Option.bind (Jr a1.Left b1.Left) fun r2 =>
   some r2
  else
   some false) (fun v1 =>
  some v1)
def JV (a1:(List QI)) (b1:(List QI)) (v1:Int):Option ((Int)⊕(Unit⊕Bool)) :=
 bif (decide (v1<((a1.length:Nat):Int))) then
  Option.bind (getI a1 v1) fun x1 =>
  Option.bind (getI b1 v1) fun x2 =>
  bif (!(decide (x1=x2))) then
   some (.inr (.inr false))
  else
   some (.inl (w64 (v1+1)))
 else
  some (.inr (.inl ()))
def Ye (a1:(List QI)) (b1:(List QI)):Option (Bool) :=
 bif (!(decide (((a1.length:Nat):Int)=((b1.length:Nat):Int)))) then
  some false
 else
  Option.bind (
   iter (JV a1 b1) (((a1.length:Nat):Int).toNat+1) 0) (fun o_=>QD o_ (fun _ =>
   some true) (fun rv20681=>some rv20681))
def Zm (F:Nat):Option (Bool) :=
 Option.bind (Wy F (Qd.mk (QK.mk 2 [(QG.mk 0 1 500 60),(QG.mk 1 0 500 60)]) [(Qn.mk ⟨#[118]⟩ 0 (Qz.mk 1000 2000) 1000 1)] [(Qt.mk 0 1 0 300 (Qz.mk 1100 1200) 30)] 0 20)) fun j_=>oun j_ fun r1 r2 =>
 Option.bind (Y0 F (Qd.mk (QK.mk 2 [(QG.mk 0 1 500 60),(QG.mk 1 0 500 60)]) [(Qn.mk ⟨#[118]⟩ 0 (Qz.mk 1000 2000) 1000 1)] [(Qt.mk 0 1 0 300 (Qz.mk 1100 1200) 30)] 0 20) (Qg.mk [] [0])) fun j_=>oun j_ fun r3 r4 =>
 Option.bind (Wr F (Qd.mk (QK.mk 2 [(QG.mk 0 1 500 60),(QG.mk 1 0 500 60)]) [(Qn.mk ⟨#[118]⟩ 0 (Qz.mk 1000 2000) 1000 1)] [(Qt.mk 0 1 0 300 (Qz.mk 1100 1200) 30)] 0 20) (Qg.mk [] [0]) 0) fun j_=>oun j_ fun r5 r6 =>
 Option.bind (getI [(Qn.mk ⟨#[118]⟩ 0 (Qz.mk 1000 2000) 1000 1)] 0) fun x1 =>
 Option.bind (Wy F (Qd.mk (QK.mk 2 [(QG.mk 0 1 500 60),(QG.mk 1 0 500 60)]) (Yg [(Qn.mk ⟨#[118]⟩ 0 (Qz.mk 1000 2000) 1000 1)] 0 (Qn.mk x1.ID x1.Depot x1.Shift 299 x1.Kinds)) [(Qt.mk 0 1 0 300 (Qz.mk 1100 1200) 30)] 0 20)) fun j_=>oun j_ fun r7 r8 =>
 Option.bind (Wr F (Qd.mk (QK.mk 2 [(QG.mk 0 1 500 60),(QG.mk 1 0 500 60)]) (Yg [(Qn.mk ⟨#[118]⟩ 0 (Qz.mk 1000 2000) 1000 1)] 0 (Qn.mk x1.ID x1.Depot x1.Shift 299 x1.Kinds)) [(Qt.mk 0 1 0 300 (Qz.mk 1100 1200) 30)] 0 20) r7 0) fun j_=>oun j_ fun r9 r10 =>
 Option.bind (
  Option.bind (Yt r1 (Qg.mk [(Qa.mk 0 [0,(-1)])] [])) fun r11 =>
  bif r11 then
   bif (decide (r2=0)) then
    bif (decide ((
           (r3.length:Nat):Int)=1)) then
     Option.bind (getI r3 0) fun x2 =>
     Option.bind (Yt x2 (Qg.mk [(Qa.mk 0 [0,(-1)])] [])) fun r12 =>
     bif r12 then
      bif (decide (r4=0)) then
       Option.bind (Ye r5 [(QI.mk 0 0)]) fun r13 =>
       bif r13 then
        bif (decide (r6=0)) then
         Option.bind (Yt r7 (Qg.mk [] [0])) fun r14 =>
         bif r14 then
          bif (decide (r8=0)) then
           Option.bind (Ye r9 [(QI.mk 0 20)]) fun r15 =>
           bif r15 then
            some (decide (r10=0))
           else
            some false
          else
           some false
         else
          some false
        else
         some false
       else
        some false
      else
       some false
     else
      some false
    else
     some false
   else
    some false
  else
   some false) (fun v23 =>
  some v23)
def Zg (r1:QK) (v2:Int):Option ((Int)⊕(Unit⊕Int)) :=
 bif (decide (v2<((r1.Edges.length:Nat):Int))) then
  Option.bind (getI r1.Edges v2) fun x1 =>
  Option.bind (
   bif (decide (x1.From<0)) then
    some true
   else
    bif (decide (r1.Nodes≤x1.From)) then
     some true
    else
     bif (decide (x1.To<0)) then
      some true
     else
      some (decide (r1.Nodes≤x1.To))) (fun v3 =>
   bif v3 then
    some (.inr (.inr 7))
   else
    Option.bind (
     bif (decide (x1.From=x1.To)) then
      some true
     else
      bif (decide (x1.Meters<1)) then
       some true
      else
       bif (decide (100000<x1.Meters)) then
        some true
       else
        bif (decide (x1.Secs<1)) then
         some true
        else
         some (decide (100000<x1.Secs))) (fun v4 =>
     bif v4 then
      some (.inr (.inr 1))
     else
      some (.inl (w64 (v2+1)))))
 else
  some (.inr (.inl ()))
def W7 (r1:QK):Option (Int) :=
 Option.bind (
  bif (decide (r1.Nodes<1)) then
   some true
  else
   some (decide (64<r1.Nodes))) (fun v1 =>
  bif v1 then
   some 1
  else
   bif (decide (512<((r1.Edges.length:Nat):Int))) then
    some 8
   else
    Option.bind (
     iter (Zg r1) (((r1.Edges.length:Nat):Int).toNat+1) 0) (fun o_=>QD o_ (fun _ =>
     some 0) (fun rv21199=>some rv21199)))
def ZG (c1:Int):Option (Bool) :=
 Option.bind (
  bif (decide (65≤c1)) then
   bif (decide (c1≤90)) then
    some true
   else
    bif (decide (97≤c1)) then
     some (decide (c1≤122))
    else
     some false
  else
   bif (decide (97≤c1)) then
    some (decide (c1≤122))
   else
    some false) (fun v1 =>
  some v1)
def QX (s1:ByteArray) (i1:Int):Option ((Int)⊕(Unit⊕Bool)) :=
 bif (decide (i1<((s1.size:Nat):Int))) then
  Option.bind (Qii s1 i1) fun x2 =>
  Option.bind (
   Option.bind (ZG x2) fun r2 =>
   bif (!r2) then
    bif (decide (x2<48)) then
     bif (!(decide (x2=45))) then
      bif (!(decide (x2=95))) then
       some (!(decide (x2=46)))
      else
       some false
     else
      some false
    else
     bif (decide (57<x2)) then
      bif (!(decide (x2=45))) then
       bif (!(decide (x2=95))) then
        some (!(decide (x2=46)))
       else
        some false
      else
       some false
     else
      some false
   else
    some false) (fun v2 =>
   bif v2 then
    some (.inr (.inr false))
   else
    some (.inl (w64 (i1+1))))
 else
  some (.inr (.inl ()))
def JU (s1:ByteArray):Option (Bool) :=
 Option.bind (
  bif (decide (((s1.size:Nat):Int)<1)) then
   some true
  else
   bif (decide (32<((s1.size:Nat):Int))) then
    some true
   else
    Option.bind (Qii s1 0) fun x1 =>
    Option.bind (ZG x1) fun r1 =>
    some (!r1)) (fun v1 =>
  bif v1 then
   some false
  else
   Option.bind (
    iter (QX s1) (((s1.size:Nat):Int).toNat+1) 0) (fun o_=>QD o_ (fun _ =>
    some true) (fun rv21235=>some rv21235)))
def Yo (v1:Qn) (nodes1:Int) (materials1:Int):Option (Int) :=
 Option.bind (JU v1.ID) fun r1 =>
 bif (!r1) then
  some 5
 else
  Option.bind (
   bif (decide (v1.Depot<0)) then
    some true
   else
    some (decide (nodes1≤v1.Depot))) (fun v2 =>
   bif v2 then
    some 7
   else
    Option.bind (
     bif (decide (v1.Shift.From<0)) then
      some true
     else
      bif (decide (v1.Shift.To≤v1.Shift.From)) then
       some true
      else
       some (decide (86400<v1.Shift.To))) (fun v3 =>
     bif v3 then
      some 19
     else
      Option.bind (
       bif (decide (v1.Grams<1)) then
        some true
       else
        some (decide (1073741824<v1.Grams))) (fun v4 =>
       bif v4 then
        some 1
       else
        Option.bind (
         bif (decide (v1.Kinds<1)) then
          some true
         else
          Option.bind (Ws (0≤materials1∧materials1≤64)) fun _ =>
          some (decide ((w64 (1*2^materials1.toNat))≤v1.Kinds))) (fun v5 =>
         bif v5 then
          some 21
         else
          some 0))))
def QY (l1:(List Qn)) (nodes1:Int) (materials1:Int) (i1:Int):Option ((Int)⊕(Unit⊕Int)) :=
 bif (decide (i1<((l1.length:Nat):Int))) then
  Option.bind (getI l1 i1) fun x1 =>
  Option.bind (Yo x1 nodes1 materials1) fun r1 =>
  bif (!(decide (r1=0))) then
   some (.inr (.inr r1))
  else
   some (.inl (w64 (i1+1)))
 else
  some (.inr (.inl ()))
def J2 (l1:(List Qn)) (i2:Int) (k1:Int):Option ((Int)⊕(Unit⊕Int)) :=
 bif (decide (k1<i2)) then
  Option.bind (getI l1 i2) fun x2 =>
  Option.bind (getI l1 k1) fun x3 =>
  bif (decide (x2.ID=x3.ID)) then
   some (.inr (.inr 6))
  else
   some (.inl (w64 (k1+1)))
 else
  some (.inr (.inl ()))
def J3 (l1:(List Qn)) (i2:Int):Option ((Int)⊕(Unit⊕Int)) :=
 bif (decide (i2<((l1.length:Nat):Int))) then
  Option.bind (
   Option.bind (
    iter (J2 l1 i2) (i2.toNat+1) 0) (fun o_=>QD o_ (fun _ =>
    some (.inl ())) (fun rv21259=>some (.inr rv21259)))) (fun o_=>QD o_ (fun _ =>
   some (.inl (w64 (i2+1)))) (fun rv21258=>some (.inr (.inr rv21258))))
 else
  some (.inr (.inl ()))
def YO (l1:(List Qn)) (nodes1:Int) (materials1:Int):Option (Int) :=
 Option.bind (
  bif (decide (nodes1<1)) then
   some true
  else
   bif (decide (64<nodes1)) then
    some true
   else
    bif (decide (materials1<1)) then
     some true
    else
     some (decide (16<materials1))) (fun v1 =>
  bif v1 then
   some 1
  else
   bif (decide (((l1.length:Nat):Int)=0)) then
    some 10
   else
    bif (decide (16<((l1.length:Nat):Int))) then
     some 8
    else
     Option.bind (
      iter (QY l1 nodes1 materials1) (((l1.length:Nat):Int).toNat+1) 0) (fun o_=>QD o_ (fun _ =>
      Option.bind (
       iter (J3 l1) (((l1.length:Nat):Int).toNat+1) 0) (fun o_=>QD o_ (fun _ =>
       some 0) (fun rv21251=>some rv21251))) (fun rv21230=>some rv21230)))
def Q9 (l1:(List Qt)) (nodes1:Int) (materials1:Int) (i1:Int):Option ((Int)⊕(Unit⊕Int)) :=
 bif (decide (i1<((
           l1.length:Nat):Int))) then
  Option.bind (getI l1 i1) fun x1 =>
  Option.bind (
   bif (decide (x1.Container<0)) then
    some true
   else
    bif (decide (256≤x1.Container)) then
     some true
    else
     bif (decide (x1.Node<0)) then
      some true
     else
      bif (decide (nodes1≤x1.Node)) then
       some true
      else
       bif (decide (x1.Kind<0)) then
        some true
       else
        some (decide (materials1≤x1.Kind))) (fun v1 =>
   bif v1 then
    some (.inr (.inr 7))
   else
    Option.bind (
     bif (decide (x1.Grams<0)) then
      some true
     else
      bif (decide (1073741824<x1.Grams)) then
       some true
      else
       bif (decide (x1.When.From<0)) then
        some true
       else
        bif (decide (x1.When.To<x1.When.From)) then
         some true
        else
         bif (decide (86400<x1.When.To)) then
          some true
         else
          bif (decide (x1.Service<0)) then
           some true
          else
           some (decide (3600<x1.Service))) (fun v2 =>
     bif v2 then
      some (.inr (.inr 1))
     else
      some (.inl (w64 (i1+1)))))
 else
  some (.inr (.inl ()))
def YH (l1:(List Qt)) (i2:Int) (k1:Int):Option ((Int)⊕(Unit⊕Int)) :=
 bif (decide (k1<i2)) then
  Option.bind (getI l1 i2) fun x2 =>
  Option.bind (getI l1 k1) fun x3 =>
  bif (decide (x2.Container=x3.Container)) then
   some (.inr (.inr 6))
  else
   some (.inl (w64 (k1+1)))
 else
  some (.inr (.inl ()))
def YI (l1:(List Qt)) (i2:Int):Option ((Int)⊕(Unit⊕Int)) :=
 bif (decide (i2<((l1.length:Nat):Int))) then
  Option.bind (
   Option.bind (
    iter (YH l1 i2) (i2.toNat+1) 0) (fun o_=>QD o_ (fun _ =>
    some (.inl ())) (fun rv21286=>some (.inr rv21286)))) (fun o_=>QD o_ (fun _ =>
   some (.inl (w64 (i2+1)))) (fun rv21285=>some (.inr (.inr rv21285))))
 else
  some (.inr (.inl ()))
def YP (l1:(List Qt)) (nodes1:Int) (materials1:Int):Option (Int) :=
 bif (decide (32<((l1.length:Nat):Int))) then
  some 8
 else
  Option.bind (
   iter (Q9 l1 nodes1 materials1) (((l1.length:Nat):Int).toNat+1) 0) (fun o_=>QD o_ (fun _ =>
   Option.bind (
    iter (YI l1) (((l1.length:Nat):Int).toNat+1) 0) (fun o_=>QD o_ (fun _ =>
    some 0) (fun rv21278=>some rv21278))) (fun rv21263=>some rv21263))
def Ql (p1:Qd):Option (Int) :=
 Option.bind (W7 p1.Road) fun r1 =>
 bif (!(decide (r1=0))) then
  some r1
 else
  Option.bind (YO p1.Vehicles p1.Road.Nodes 16) fun r2 =>
  bif (!(decide (r2=0))) then
   some r2
  else
   Option.bind (YP p1.Demands p1.Road.Nodes 16) fun r3 =>
   bif (!(decide (r3=0))) then
    some r3
   else
    Option.bind (
     bif (decide (p1.Unload<0)) then
      some true
     else
      some (decide (p1.Road.Nodes≤p1.Unload))) (fun v1 =>
     bif v1 then
      some 7
     else
      Option.bind (
       bif (decide (p1.UnloadSecs<0)) then
        some true
       else
        some (decide (7200<p1.UnloadSecs))) (fun v2 =>
       bif v2 then
        some 1
       else
        some 0))
def JP (stops1:(List Int)) (d1:Int) (k1:Int) (unload1:Bool):Option ((List Int)) :=
 Option.bind (Wx stops1 0 k1) fun l1 =>
 Option.bind (ZH [] l1) fun l2 =>
 Option.bind (ZH l2 [d1]) fun l3 =>
 Option.bind (
  bif unload1 then
   Option.bind (ZH l3 [(-1)]) fun l4 =>
   some l4
  else
   some l3) (fun l5 =>
  Option.bind (Wx stops1 k1 ((stops1.length:Nat):Int)) fun l6 =>
  Option.bind (ZH l5 l6) fun l7 =>
  Option.bind (getI l7 (w64 (((l7.length:Nat):Int)-1))) fun x1 =>
  Option.bind (
   bif (!(decide (x1=(-1)))) then
    Option.bind (ZH l7 [(-1)]) fun l8 =>
    some l8
   else
    some l7) (fun l9 =>
   some l9))
def Wv (v1:Qn) (kind1:Int):Option (Bool) :=
 Option.bind (
  bif (decide (kind1<0)) then
   some true
  else
   some (decide (16≤kind1))) (fun v2 =>
  bif v2 then
   some false
  else
   Option.bind (Ws (0≤kind1∧kind1≤64)) fun _ =>
   some (decide ((Int.tmod ((IntKind.u64.wrap (v1.Kinds))/2^kind1.toNat) 2)=1)))
def ZX (stops1:(List Int)) (i1:Int) (x1:Int) (k1:Int):Option ((Int)⊕(Unit⊕Int)) :=
 bif (decide (k1<i1)) then
  Option.bind (getI stops1 k1) fun x2 =>
  bif (decide (x2=x1)) then
   some (.inr (.inr 6))
  else
   some (.inl (w64 (k1+1)))
 else
  some (.inr (.inl ()))
def Qbv (p1:Qd) (v1:Qn) (stops1:(List Int)) (i1:Int):Option (Int) :=
 Option.bind (getI stops1 i1) fun x1 =>
 bif (decide (x1=(-1))) then
  some 0
 else
  Option.bind (
   bif (decide (x1<0)) then
    some true
   else
    some (decide (((p1.Demands.length:Nat):Int)≤x1))) (fun v2 =>
   bif v2 then
    some 7
   else
    Option.bind (
     iter (ZX stops1 i1 x1) (i1.toNat+1) 0) (fun o_=>QD o_ (fun _ =>
     Option.bind (getI p1.Demands x1) fun x3 =>
     Option.bind (Wv v1 x3.Kind) fun r1 =>
     bif (!r1) then
      some 21
     else
      some 0) (fun rv21561=>some rv21561)))
def QbF (r1:QK) (n1:Int):Option (Bool) :=
 Option.bind (
  bif (decide (0≤n1)) then
   some (decide (n1<r1.Nodes))
  else
   some false) (fun v1 =>
  some v1)
def Qbu (a1:Qp) (b1:Qp):Option (Qp) :=
 some (Qp.mk (w64 (a1.Secs+b1.Secs)) (w64 (a1.Meters+b1.Meters)))
def WV (a1:Qp) (b1:Qp):Option (Bool) :=
 Option.bind (
  bif (decide (a1.Secs<0)) then
   some true
  else
   some (decide (b1.Secs<0))) (fun v1 =>
  bif v1 then
   some (decide (0≤a1.Secs))
  else
   Option.bind (
    bif (decide (a1.Secs<b1.Secs)) then
     some true
    else
     bif (decide (a1.Secs=b1.Secs)) then
      some (decide (a1.Meters<b1.Meters))
     else
      some false) (fun v2 =>
    some v2))
def Jg (l1:(List Qp)) (j_:(List Qp)×Int):Option (((List Qp)×Int)⊕((List Qp))) :=
 oun j_ fun out1 v1 =>
 bif (decide (v1<((l1.length:Nat):Int))) then
  Option.bind (getI out1 v1) fun x1 =>
  some (.inl ((Yg out1 v1 (Qp.mk (-1) x1.Meters)),w64 (v1+1)))
 else
  some (.inr out1)
def Jh (r1:QK) (j_:(List Qp)×Int):Option (((List Qp)×Int)⊕((List Qp))) :=
 oun j_ fun out4 v2 =>
 bif (decide (v2<((r1.Edges.length:Nat):Int))) then
  Option.bind (
   Option.bind (getI r1.Edges v2) fun x3 =>
   Option.bind (getI out4 x3.From) fun x4 =>
   bif (decide (0≤x4.Secs)) then
    Option.bind (
     Option.bind (getI out4 x3.From) fun x5 =>
     Option.bind (Qbu x5 (Qp.mk x3.Secs x3.Meters)) fun r4 =>
     some (r4.Secs,r4.Meters)) (fun j_=>oun j_ fun f1 f2 =>
     Option.bind (getI out4 x3.To) fun x6 =>
     Option.bind (WV (Qp.mk f1 f2) x6) fun r5 =>
     bif r5 then
      Option.bind (getI out4 x3.To) fun x7 =>
      some (Yg out4 x3.To (Qp.mk f1 f2))
     else
      some out4)
   else
    some out4) (fun out5 =>
   some (.inl (out5,w64 (v2+1))))
 else
  some (.inr out4)
def Wu (r1:QK) (j_:(List Qp)×Int):Option (((List Qp)×Int)⊕((List Qp))) :=
 oun j_ fun out3 n1 =>
 bif (decide (n1<r1.Nodes)) then
  Option.bind (
   Option.bind (
    iter (Jh r1) (((r1.Edges.length:Nat):Int).toNat+1) (out3,0)) (fun out6 =>
    some out6)) (fun out7 =>
   some (.inl (out7,w64 (n1+1))))
 else
  some (.inr out3)
def Jq (r1:QK) (f_from1:Int):Option ((List Qp)×Int) :=
 Option.bind (W7 r1) fun r2 =>
 bif (!(decide (r2=0))) then
  some ([],r2)
 else
  Option.bind (QbF r1 f_from1) fun r3 =>
  bif (!r3) then
   some ([],7)
  else
   Option.bind (QbD (Qp.mk 0 0) r1.Nodes) fun l1 =>
   Option.bind (
    iter (Jg l1) (((l1.length:Nat):Int).toNat+1) (l1,0)) (fun out2 =>
    Option.bind (getI out2 f_from1) fun x2 =>
    Option.bind (
     iter (Wu r1) (r1.Nodes.toNat+1) ((Yg out2 f_from1 (Qp.mk 0 x2.Meters)),0)) (fun out8 =>
     some (out8,0)))
def WO (p1:Qd) (f_from1:Int) (f_to1:Int):Option (Qp) :=
 Option.bind (Jq p1.Road f_from1) fun j_=>oun j_ fun r1 r2 =>
 Option.bind (
  bif (!(decide (r2=0))) then
   some true
  else
   bif (decide (f_to1<0)) then
    some true
   else
    some (decide (((r1.length:Nat):Int)≤f_to1))) (fun v1 =>
  bif v1 then
   some (Qp.mk (-1) 0)
  else
   Option.bind (getI r1 f_to1) fun x1 =>
   some x1)
def V0 (p1:Qd) (v1:Qn) (x1:QT) (s1:Int):Option (QT×Int) :=
 Option.bind (
  bif (decide (0≤s1)) then
   Option.bind (getI p1.Demands s1) fun x2 =>
   some x2.Node
  else
   some p1.Unload) (fun f1 =>
  Option.bind (WO p1 x1.Node f1) fun r1 =>
  bif (decide (r1.Secs<0)) then
   some ((QT.mk 0 0 0 0 0 0),22)
  else
   bif (decide (s1<0)) then
    some ((QT.mk s1 f1 (w64 (x1.Leave+r1.Secs)) (w64 (x1.Leave+r1.Secs)) (w64 ((w64 (x1.Leave+r1.Secs))+p1.UnloadSecs)) 0),0)
   else
    Option.bind (getI p1.Demands s1) fun x3 =>
    bif (decide (x3.When.To≤(max (w64 (x1.Leave+r1.Secs)) x3.When.From))) then
     some ((QT.mk 0 0 0 0 0 0),19)
    else
     bif (decide (v1.Grams<(w64 (x1.Load+x3.Grams)))) then
      some ((QT.mk 0 0 0 0 0 0),20)
     else
      some ((QT.mk s1 f1 (w64 (x1.Leave+r1.Secs)) (max (w64 (x1.Leave+r1.Secs)) x3.When.From) (w64 ((max (w64 (x1.Leave+r1.Secs)) x3.When.From)+x3.Service)) (w64 (x1.Load+x3.Grams))),0))
def Vd (p1:Qd) (v1:Qn) (x1:QT):Option (QT×Int) :=
 Option.bind (WO p1 x1.Node v1.Depot) fun r1 =>
 bif (decide (r1.Secs<0)) then
  some ((QT.mk 0 0 0 0 0 0),22)
 else
  bif (decide (0<x1.Load)) then
   some ((QT.mk 0 0 0 0 0 0),20)
  else
   bif (decide (v1.Shift.To≤(w64 (x1.Leave+r1.Secs)))) then
    some ((QT.mk 0 0 0 0 0 0),19)
   else
    some ((QT.mk (-2) v1.Depot (w64 (x1.Leave+r1.Secs)) (w64 (x1.Leave+r1.Secs)) (w64 (x1.Leave+r1.Secs)) 0),0)
def Zs (p1:Qd) (t1:Qa) (x1:Qn) (j_:Int×Int×Int×Int×Int×Int×(List QT)×Int):Option ((Int×Int×Int×Int×Int×Int×(List QT)×Int)⊕((Int×Int×Int×Int×Int×Int×(List QT))⊕((List QT)×Int×Int))) :=
 oun j_ fun f1 j_=>oun j_ fun f2 j_=>oun j_ fun f3 j_=>oun j_ fun f4 j_=>oun j_ fun f5 j_=>oun j_ fun f6 j_=>oun j_ fun out1 v2 =>
 bif (decide (v2<((t1.Stops.length:Nat):Int))) then
  Option.bind (getI t1.Stops v2) fun x2 =>
  Option.bind (Qbv p1 x1 t1.Stops v2) fun r2 =>
  Option.bind (
   bif (decide (r2=0)) then
    Option.bind (V0 p1 x1 (QT.mk f1 f2 f3 f4 f5 f6) x2) fun j_=>oun j_ fun r3 r4 =>
    some (r3.Stop,r3.Node,r3.Arrive,r3.Start,r3.Leave,r3.Load,r4)
   else
    some (f1,f2,f3,f4,f5,f6,r2)) (fun j_=>oun j_ fun f7 j_=>oun j_ fun f8 j_=>oun j_ fun f9 j_=>oun j_ fun f10 j_=>oun j_ fun f11 j_=>oun j_ fun f12 e1 =>
   bif (!(decide (e1=0))) then
    some (.inr (.inr ([],e1,v2)))
   else
    Option.bind (ZH out1 [(QT.mk f7 f8 f9 f10 f11 f12)]) fun l1 =>
    some (.inl (f7,f8,f9,f10,f11,f12,l1,w64 (v2+1))))
 else
  some (.inr (.inl (f1,f2,f3,f4,f5,f6,out1)))
def Wf (p1:Qd) (t1:Qa):Option ((List QT)×Int×Int) :=
 Option.bind (Ql p1) fun r1 =>
 bif (!(decide (r1=0))) then
  some ([],r1,0)
 else
  Option.bind (
   bif (decide (t1.Vehicle<0)) then
    some true
   else
    some (decide (((p1.Vehicles.length:Nat):Int)≤t1.Vehicle))) (fun v1 =>
   bif v1 then
    some ([],7,0)
   else
    bif (decide (40<((t1.Stops.length:Nat):Int))) then
     some ([],8,0)
    else
     Option.bind (getI p1.Vehicles t1.Vehicle) fun x1 =>
     Option.bind (
      iter (Zs p1 t1 x1) (((t1.Stops.length:Nat):Int).toNat+1) (0,x1.Depot,0,0,x1.Shift.From,0,[],0)) (fun o_=>QD o_ (fun j_=>oun j_ fun f13 j_=>oun j_ fun f14 j_=>oun j_ fun f15 j_=>oun j_ fun f16 j_=>oun j_ fun f17 j_=>oun j_ fun f18 out2 =>
      Option.bind (Vd p1 x1 (QT.mk f13 f14 f15 f16 f17 f18)) fun j_=>oun j_ fun r5 r6 =>
      bif (!(decide (r6=0))) then
       some ([],r6,((t1.Stops.length:Nat):Int))
      else
       Option.bind (ZH out2 [r5]) fun l2 =>
       some (l2,0,0)) (fun rv21536=>some rv21536)))
def Ji (p1:Qd) (r1:(List QT)) (j_:Int×Int×Int):Option ((Int×Int×Int)⊕(Int)) :=
 oun j_ fun sum1 j_=>oun j_ fun f_at1 v1 =>
 bif (decide (v1<((r1.length:Nat):Int))) then
  Option.bind (getI r1 v1) fun x2 =>
  Option.bind (WO p1 f_at1 x2.Node) fun r4 =>
  some (.inl (w64 (sum1+r4.Meters),x2.Node,w64 (v1+1)))
 else
  some (.inr sum1)
def YE (p1:Qd) (t1:Qa):Option (Int×Int) :=
 Option.bind (Wf p1 t1) fun j_=>oun j_ fun r1 j_=>oun j_ fun r2 r3 =>
 bif (!(decide (r2=0))) then
  some (0,r2)
 else
  Option.bind (getI p1.Vehicles t1.Vehicle) fun x1 =>
  Option.bind (
   iter (Ji p1 r1) (((r1.length:Nat):Int).toNat+1) (0,x1.Depot,0)) (fun sum2 =>
   some (sum2,0))
def Zy (t1:Qa) (d1:Int) (i1:Int):Option ((Int)⊕(Unit⊕((List Qa)×Int))) :=
 bif (decide (i1<((t1.Stops.length:Nat):Int))) then
  Option.bind (getI t1.Stops i1) fun x1 =>
  bif (decide (x1=d1)) then
   some (.inr (.inr ([],6)))
  else
   some (.inl (w64 (i1+1)))
 else
  some (.inr (.inl ()))
def Zz (costs1:(List Int)) (r3:Int) (f_at1:Int):Option ((Int)⊕(Int)) :=
 Option.bind (
  bif (decide (0<f_at1)) then
   Option.bind (getI costs1 (w64 (f_at1-1))) fun x2 =>
   some (decide (r3<x2))
  else
   some false) (fun v3 =>
  bif v3 then
   some (.inl (w64 (f_at1-1)))
  else
   some (.inr f_at1))
def ZA (F:Nat) (p1:Qd) (t1:Qa) (d1:Int) (j_:(List Qa)×(List Int)×Int):Option (((List Qa)×(List Int)×Int)⊕((List Qa))) :=
 oun j_ fun out1 j_=>oun j_ fun costs1 i2 =>
 bif (decide (i2≤(w64 (2*((t1.Stops.length:Nat):Int))))) then
  Option.bind (
   Option.bind (
    Option.bind (JP t1.Stops d1 (w64 (Int.tdiv i2 2)) (decide ((Int.tmod i2 2)=1))) fun r2 =>
    some r2) (fun f1 =>
    Option.bind (YE p1 (Qa.mk t1.Vehicle f1)) fun j_=>oun j_ fun r3 r4 =>
    bif (!(decide (r4=0))) then
     some (out1,costs1)
    else
     Option.bind (
      iter (Zz costs1 r3) F ((out1.length:Nat):Int)) (fun f_at2 =>
      Option.bind (Wx out1 0 f_at2) fun l1 =>
      Option.bind (ZH [] l1) fun l2 =>
      Option.bind (ZH l2 [(Qa.mk t1.Vehicle f1)]) fun l3 =>
      Option.bind (Wx out1 f_at2 ((out1.length:Nat):Int)) fun l4 =>
      Option.bind (ZH l3 l4) fun l5 =>
      Option.bind (Wx costs1 0 f_at2) fun l6 =>
      Option.bind (ZH [] l6) fun l7 =>
      Option.bind (ZH l7 [r3]) fun l8 =>
      Option.bind (Wx costs1 f_at2 ((costs1.length:Nat):Int)) fun l9 =>
      Option.bind (ZH l8 l9) fun l10 =>
      some (l5,l10)))) (fun j_=>oun j_ fun out2 costs2 =>
   some (.inl (out2,costs2,w64 (i2+1))))
 else
  some (.inr out1)
def YW (F:Nat) (p1:Qd) (t1:Qa) (d1:Int):Option ((List Qa)×Int) :=
 Option.bind (Ql p1) fun r1 =>
 bif (!(decide (r1=0))) then
  some ([],r1)
 else
  Option.bind (
   bif (decide (t1.Vehicle<0)) then
    some true
   else
    bif (decide (((p1.Vehicles.length:Nat):Int)≤t1.Vehicle)) then
     some true
    else
     bif (decide (d1<0)) then
      some true
     else
      some (decide (((p1.Demands.length:Nat):Int)≤d1))) (fun v1 =>
   bif v1 then
    some ([],7)
   else
    Option.bind (
     iter (Zy t1 d1) (((t1.Stops.length:Nat):Int).toNat+1) 0) (fun o_=>QD o_ (fun _ =>
     Option.bind (
      iter (ZA F p1 t1 d1) F ([],[],0)) (fun out3 =>
      some (out3,0))) (fun rv22204=>some rv22204)))
def Y8 (F:Nat) (p1:Qd) (t1:Qa) (d1:Int):Option (Qa×Int) :=
 Option.bind (YW F p1 t1 d1) fun j_=>oun j_ fun r1 r2 =>
 bif (!(decide (r2=0))) then
  some ((Qa.mk 0 []),r2)
 else
  bif (decide (((r1.length:Nat):Int)=0)) then
   some ((Qa.mk 0 []),40)
  else
   Option.bind (getI r1 0) fun x1 =>
   some (x1,0)
def ZY (p1:Qd) (j_:(List Qa)×Int):Option (((List Qa)×Int)⊕((List Qa))) :=
 oun j_ fun tours1 v1 =>
 bif (decide (v1<((p1.Vehicles.length:Nat):Int))) then
  Option.bind (ZH tours1 [(Qa.mk v1 [])]) fun l1 =>
  some (.inl (l1,w64 (v1+1)))
 else
  some (.inr tours1)
def Yr (F:Nat) (p1:Qd) (tours3:(List Qa)) (d1:Int) (j_:Int×Int×Int×(List Int)×Int):Option ((Int×Int×Int×(List Int)×Int)⊕((Int×Int×(List Int)))) :=
 oun j_ fun f_at1 j_=>oun j_ fun least1 j_=>oun j_ fun f2 j_=>oun j_ fun f3 v2 =>
 bif (decide (v2<((tours3.length:Nat):Int))) then
  Option.bind (
   Option.bind (
    Option.bind (getI tours3 v2) fun x1 =>
    Option.bind (Y8 F p1 x1 d1) fun j_=>oun j_ fun r2 r3 =>
    some (r2.Vehicle,r2.Stops,r3)) (fun j_=>oun j_ fun f4 j_=>oun j_ fun f5 e1 =>
    bif (!(decide (e1=0))) then
     some (f_at1,least1,f2,f3)
    else
     Option.bind (YE p1 (Qa.mk f4 f5)) fun j_=>oun j_ fun r4 r5 =>
     Option.bind (getI tours3 v2) fun x2 =>
     Option.bind (YE p1 x2) fun j_=>oun j_ fun r6 r7 =>
     Option.bind (
      bif (decide (f_at1<0)) then
       some true
      else
       some (decide ((w64 (r4-r6))<least1))) (fun v4 =>
      bif v4 then
       some (v2,w64 (r4-r6),f4,f5)
      else
       some (f_at1,least1,f2,f3)))) (fun j_=>oun j_ fun f_at2 j_=>oun j_ fun least2 j_=>oun j_ fun f6 f7 =>
   some (.inl (f_at2,least2,f6,f7,w64 (v2+1))))
 else
  some (.inr (f_at1,f2,f3))
def Zh (F:Nat) (p1:Qd) (j_:(List Qa)×(List Int)×Int):Option (((List Qa)×(List Int)×Int)⊕(((List Qa)×(List Int)))) :=
 oun j_ fun tours3 j_=>oun j_ fun f1 d1 =>
 bif (decide (d1<((p1.Demands.length:Nat):Int))) then
  Option.bind (
   Option.bind (
    iter (Yr F p1 tours3 d1) (((tours3.length:Nat):Int).toNat+1) ((-1),0,0,[],0)) (fun j_=>oun j_ fun f_at3 j_=>oun j_ fun f8 f9 =>
    bif (decide (f_at3<0)) then
     Option.bind (ZH f1 [d1]) fun l2 =>
     some (tours3,l2)
    else
     Option.bind (getI tours3 f_at3) fun x3 =>
     some ((Yg tours3 f_at3 (Qa.mk f8 f9)),f1))) (fun j_=>oun j_ fun tours4 f10 =>
   some (.inl (tours4,f10,w64 (d1+1))))
 else
  some (.inr (tours3,f1))
def ZZ (tours5:(List Qa)) (j_:(List Qa)×Int):Option (((List Qa)×Int)⊕((List Qa))) :=
 oun j_ fun f12 v5 =>
 bif (decide (v5<((tours5.length:Nat):Int))) then
  Option.bind (
   Option.bind (getI tours5 v5) fun x4 =>
   bif (decide (0<((x4.Stops.length:Nat):Int))) then
    Option.bind (getI tours5 v5) fun x5 =>
    Option.bind (ZH f12 [x5]) fun l3 =>
    some l3
   else
    some f12) (fun f13 =>
   some (.inl (f13,w64 (v5+1))))
 else
  some (.inr f12)
def V3 (F:Nat) (p1:Qd):Option (Qg×Int) :=
 Option.bind (Ql p1) fun r1 =>
 bif (!(decide (r1=0))) then
  some ((Qg.mk [] []),r1)
 else
  Option.bind (
   iter (ZY p1) (((p1.Vehicles.length:Nat):Int).toNat+1) ([],0)) (fun tours2 =>
   Option.bind (
    iter (Zh F p1) (((p1.Demands.length:Nat):Int).toNat+1) (tours2,[],0)) (fun j_=>oun j_ fun tours5 f11 =>
    Option.bind (
     iter (ZZ tours5) (((tours5.length:Nat):Int).toNat+1) ([],0)) (fun f14 =>
     some ((Qg.mk f14 f11),0))))
def ZI (x2:Qa) (j_:(List Int)×Int):Option (((List Int)×Int)⊕((List Int))) :=
 oun j_ fun out2 v2 =>
 bif (decide (v2<((x2.Stops.length:Nat):Int))) then
  Option.bind (
   Option.bind (getI x2.Stops v2) fun x3 =>
   bif (decide (0≤x3)) then
    Option.bind (getI out2 x3) fun x4 =>
    Option.bind (getI out2 x3) fun x5 =>
    some (Yg out2 x3 (w64 (x4+1)))
   else
    some out2) (fun out3 =>
   some (.inl (out3,w64 (v2+1))))
 else
  some (.inr out2)
def ZJ (x1:Qg) (j_:(List Int)×Int):Option (((List Int)×Int)⊕((List Int))) :=
 oun j_ fun out1 v1 =>
 bif (decide (v1<((x1.Tours.length:Nat):Int))) then
  Option.bind (
   Option.bind (getI x1.Tours v1) fun x2 =>
   Option.bind (
    iter (ZI x2) (((x2.Stops.length:Nat):Int).toNat+1) (out1,0)) (fun out4 =>
    some out4)) (fun out5 =>
   some (.inl (out5,w64 (v1+1))))
 else
  some (.inr out1)
def ZK (x1:Qg) (j_:(List Int)×Int):Option (((List Int)×Int)⊕((List Int)⊕((List Int)×Int))) :=
 oun j_ fun out7 v3 =>
 bif (decide (v3<((x1.Left.length:Nat):Int))) then
  Option.bind (getI x1.Left v3) fun x6 =>
  Option.bind (
   bif (decide (x6<0)) then
    some true
   else
    some (decide (((out7.length:Nat):Int)≤x6))) (fun v4 =>
   bif v4 then
    some (.inr (.inr ([],7)))
   else
    Option.bind (getI out7 x6) fun x7 =>
    Option.bind (getI out7 x6) fun x8 =>
    some (.inl ((Yg out7 x6 (w64 (x7+1))),w64 (v3+1))))
 else
  some (.inr (.inl out7))
def Qa9 (p1:Qd) (x1:Qg):Option ((List Int)×Int) :=
 Option.bind (QbD (0:Int) ((p1.Demands.length:Nat):Int)) fun l1 =>
 Option.bind (
  iter (ZJ x1) (((x1.Tours.length:Nat):Int).toNat+1) (l1,0)) (fun out6 =>
  Option.bind (
   iter (ZK x1) (((x1.Left.length:Nat):Int).toNat+1) (out6,0)) (fun o_=>QD o_ (fun out8 =>
   some (out8,0)) (fun rv24113=>some rv24113)))
def Jj (x1:Qg) (v1:Int) (x2:Qa) (k1:Int):Option ((Int)⊕(Unit⊕Int)) :=
 bif (decide (k1<v1)) then
  Option.bind (getI x1.Tours k1) fun x3 =>
  bif (decide (x3.Vehicle=x2.Vehicle)) then
   some (.inr (.inr 6))
  else
   some (.inl (w64 (k1+1)))
 else
  some (.inr (.inl ()))
def Zn (p1:Qd) (x1:Qg) (v1:Int):Option ((Int)⊕(Unit⊕Int)) :=
 bif (decide (v1<((x1.Tours.length:Nat):Int))) then
  Option.bind (
   Option.bind (getI x1.Tours v1) fun x2 =>
   Option.bind (
    iter (Jj x1 v1 x2) (v1.toNat+1) 0) (fun o_=>QD o_ (fun _ =>
    Option.bind (Wf p1 x2) fun j_=>oun j_ fun r2 j_=>oun j_ fun r3 r4 =>
    bif (!(decide (r3=0))) then
     some (.inr r3)
    else
     some (.inl ())) (fun rv23970=>some (.inr rv23970)))) (fun o_=>QD o_ (fun _ =>
   some (.inl (w64 (v1+1)))) (fun rv23965=>some (.inr (.inr rv23965))))
 else
  some (.inr (.inl ()))
def Zo (r5:(List Int)) (j_:Bool×Int):Option ((Bool×Int)⊕(Bool⊕Int)) :=
 oun j_ fun missing1 v2 =>
 bif (decide (v2<((r5.length:Nat):Int))) then
  Option.bind (
   Option.bind (getI r5 v2) fun x4 =>
   bif (decide (1<x4)) then
    some (.inr 6)
   else
    bif missing1 then
     some (.inl true)
    else
     some (.inl (decide (x4=0)))) (fun o_=>QD o_ (fun missing2 =>
   some (.inl (missing2,w64 (v2+1)))) (fun rv24137=>some (.inr (.inr rv24137))))
 else
  some (.inr (.inl missing1))
def QN (p1:Qd) (x1:Qg):Option (Int) :=
 Option.bind (Ql p1) fun r1 =>
 bif (!(decide (r1=0))) then
  some r1
 else
  Option.bind (
   iter (Zn p1 x1) (((x1.Tours.length:Nat):Int).toNat+1) 0) (fun o_=>QD o_ (fun _ =>
   Option.bind (Qa9 p1 x1) fun j_=>oun j_ fun r5 r6 =>
   bif (!(decide (r6=0))) then
    some r6
   else
    Option.bind (
     iter (Zo r5) (((r5.length:Nat):Int).toNat+1) (false,0)) (fun o_=>QD o_ (fun missing3 =>
     bif missing3 then
      some 38
     else
      some 0) (fun rv24129=>some rv24129))) (fun rv23901=>some rv23901))
def J4 (p1:Qd) (x1:Qg) (j_:Int×Int):Option ((Int×Int)⊕(Int)) :=
 oun j_ fun sum1 v1 =>
 bif (decide (v1<((x1.Tours.length:Nat):Int))) then
  Option.bind (getI x1.Tours v1) fun x2 =>
  Option.bind (YE p1 x2) fun j_=>oun j_ fun r2 r3 =>
  some (.inl (w64 (sum1+r2),w64 (v1+1)))
 else
  some (.inr sum1)
def Yd (p1:Qd) (x1:Qg):Option (Int×Int) :=
 Option.bind (QN p1 x1) fun r1 =>
 bif (!(decide (r1=0))) then
  some (0,r1)
 else
  Option.bind (
   iter (J4 p1 x1) (((x1.Tours.length:Nat):Int).toNat+1) (0,0)) (fun sum2 =>
   some (sum2,0))
def Qd9 (x1:Qg) (v1:Int) (v2:Int):Option ((Int)⊕(Unit⊕Qa)) :=
 bif (decide (v2<((x1.Tours.length:Nat):Int))) then
  Option.bind (getI x1.Tours v2) fun x2 =>
  bif (decide (x2.Vehicle=v1)) then
   some (.inr (.inr x2))
  else
   some (.inl (w64 (v2+1)))
 else
  some (.inr (.inl ()))
def QaY (x1:Qg) (v1:Int):Option (Qa) :=
 Option.bind (
  iter (Qd9 x1 v1) (((x1.Tours.length:Nat):Int).toNat+1) 0) (fun o_=>QD o_ (fun _ =>
  some (Qa.mk v1 [])) (fun rv24224=>some rv24224))
def JB (stops1:(List Int)) (d1:Int) (j_:(List Int)×Int):Option (((List Int)×Int)⊕((List Int))) :=
 oun j_ fun out1 v1 =>
 bif (decide (v1<((stops1.length:Nat):Int))) then
  Option.bind (
   Option.bind (getI stops1 v1) fun x1 =>
   bif (!(decide (x1=d1))) then
    Option.bind (ZH out1 [x1]) fun l1 =>
    some l1
   else
    some out1) (fun out2 =>
   some (.inl (out2,w64 (v1+1))))
 else
  some (.inr out1)
def Vy (stops1:(List Int)) (d1:Int):Option ((List Int)) :=
 Option.bind (
  iter (JB stops1 d1) (((stops1.length:Nat):Int).toNat+1) ([],0)) (fun out3 =>
  some out3)
def Vb (t1:Qa) (v1:Int):Option ((Int)⊕(Unit⊕Bool)) :=
 bif (decide (v1<((t1.Stops.length:Nat):Int))) then
  Option.bind (getI t1.Stops v1) fun x1 =>
  bif (decide (0≤x1)) then
   some (.inr (.inr true))
  else
   some (.inl (w64 (v1+1)))
 else
  some (.inr (.inl ()))
def VO (t1:Qa):Option (Bool) :=
 Option.bind (
  iter (Vb t1) (((t1.Stops.length:Nat):Int).toNat+1) 0) (fun o_=>QD o_ (fun _ =>
  some false) (fun rv24320=>some rv24320))
def VN (l1:(List Int)) (n1:Int) (v1:Int):Option ((Int)⊕(Unit⊕Bool)) :=
 bif (decide (v1<((l1.length:Nat):Int))) then
  Option.bind (getI l1 v1) fun x1 =>
  bif (decide (x1=n1)) then
   some (.inr (.inr true))
  else
   some (.inl (w64 (v1+1)))
 else
  some (.inr (.inl ()))
def Vx (l1:(List Int)) (n1:Int):Option (Bool) :=
 Option.bind (
  iter (VN l1 n1) (((l1.length:Nat):Int).toNat+1) 0) (fun o_=>QD o_ (fun _ =>
  some false) (fun rv24441=>some rv24441))
def Zt (F:Nat) (p1:Qd) (x1:Qg) (d1:Int) (v1:Int) (j_:(List Qa)×Int):Option (((List Qa)×Int)⊕((List Qa)⊕(Qg×Bool))) :=
 oun j_ fun f1 v2 =>
 bif (decide (v2<((p1.Vehicles.length:Nat):Int))) then
  Option.bind (
   Option.bind (QaY x1 v2) fun r1 =>
   Option.bind (Vy r1.Stops d1) fun r2 =>
   Option.bind (
    bif (decide (v2=v1)) then
     Option.bind (Y8 F p1 (Qa.mk v2 r2) d1) fun j_=>oun j_ fun r3 r4 =>
     bif (!(decide (r4=0))) then
      some (.inr ((Qg.mk [] []),false))
     else
      some (.inl (r3.Vehicle,r3.Stops))
    else
     some (.inl (v2,r2))) (fun o_=>QD o_ (fun j_=>oun j_ fun f2 f3 =>
    Option.bind (VO (Qa.mk f2 f3)) fun r5 =>
    bif r5 then
     Option.bind (ZH f1 [(Qa.mk f2 f3)]) fun l1 =>
     some (.inl l1)
    else
     some (.inl f1)) (fun rv24645=>some (.inr rv24645)))) (fun o_=>QD o_ (fun f4 =>
   some (.inl (f4,w64 (v2+1)))) (fun rv24615=>some (.inr (.inr rv24615))))
 else
  some (.inr (.inl f1))
def Jm (p1:Qd) (x1:Qg) (d1:Int) (j_:(List Int)×Int):Option (((List Int)×Int)⊕((List Int))) :=
 oun j_ fun f6 v5 =>
 bif (decide (v5<((p1.Demands.length:Nat):Int))) then
  Option.bind (
   Option.bind (
    bif (!(decide (v5=d1))) then
     Option.bind (Vx x1.Left v5) fun r6 =>
     some r6
    else
     some false) (fun v6 =>
    bif v6 then
     Option.bind (ZH f6 [v5]) fun l2 =>
     some l2
    else
     some f6)) (fun f7 =>
   some (.inl (f7,w64 (v5+1))))
 else
  some (.inr f6)
def Vf (F:Nat) (p1:Qd) (x1:Qg) (d1:Int) (v1:Int):Option (Qg×Bool) :=
 Option.bind (
  iter (Zt F p1 x1 d1 v1) (((p1.Vehicles.length:Nat):Int).toNat+1) ([],0)) (fun o_=>QD o_ (fun f5 =>
  Option.bind (
   iter (Jm p1 x1 d1) (((p1.Demands.length:Nat):Int).toNat+1) ([],0)) (fun f8 =>
   some ((Qg.mk f5 f8),true))) (fun rv24522=>some rv24522))
def Q4 (left1:Int) (cost1:Int) (otherLeft1:Int) (otherCost1:Int):Option (Bool) :=
 Option.bind (
  bif (decide (left1<otherLeft1)) then
   some true
  else
   bif (decide (left1=otherLeft1)) then
    some (decide (cost1<otherCost1))
   else
    some false) (fun v1 =>
  some v1)
def Zi (out2:(List Qg)) (costs2:(List Int)) (r4:Qg) (r6:Int) (f_at1:Int):Option ((Int)⊕(Int)) :=
 Option.bind (
  bif (decide (0<f_at1)) then
   Option.bind (getI out2 (w64 (f_at1-1))) fun x2 =>
   Option.bind (getI costs2 (w64 (f_at1-1))) fun x3 =>
   Option.bind (Q4 ((r4.Left.length:Nat):Int) r6 ((x2.Left.length:Nat):Int) x3) fun r9 =>
   some r9
  else
   some false) (fun v5 =>
  bif v5 then
   some (.inl (w64 (f_at1-1)))
  else
   some (.inr f_at1))
def YJ (F:Nat) (p1:Qd) (x1:Qg) (r2:Int) (v1:Int) (j_:(List Qg)×(List Int)×Int):Option (((List Qg)×(List Int)×Int)⊕(((List Qg)×(List Int)))) :=
 oun j_ fun out2 j_=>oun j_ fun costs2 v2 =>
 bif (decide (v2<((p1.Vehicles.length:Nat):Int))) then
  Option.bind (
   Option.bind (Vf F p1 x1 v1 v2) fun j_=>oun j_ fun r4 r5 =>
   Option.bind (Yd p1 r4) fun j_=>oun j_ fun r6 r7 =>
   Option.bind (
    bif (!r5) then
     some true
    else
     bif (!(decide (r7=0))) then
      some true
     else
      Option.bind (Q4 ((r4.Left.length:Nat):Int) r6 ((x1.Left.length:Nat):Int) r2) fun r8 =>
      some (!r8)) (fun v4 =>
    bif v4 then
     some (out2,costs2)
    else
     Option.bind (
      iter (Zi out2 costs2 r4 r6) F ((out2.length:Nat):Int)) (fun f_at2 =>
      Option.bind (Wx out2 0 f_at2) fun l1 =>
      Option.bind (ZH [] l1) fun l2 =>
      Option.bind (ZH l2 [r4]) fun l3 =>
      Option.bind (Wx out2 f_at2 ((out2.length:Nat):Int)) fun l4 =>
      Option.bind (ZH l3 l4) fun l5 =>
      Option.bind (Wx costs2 0 f_at2) fun l6 =>
      Option.bind (ZH [] l6) fun l7 =>
      Option.bind (ZH l7 [r6]) fun l8 =>
      Option.bind (Wx costs2 f_at2 ((costs2.length:Nat):Int)) fun l9 =>
      Option.bind (ZH l8 l9) fun l10 =>
      some (l5,l10)))) (fun j_=>oun j_ fun out3 costs3 =>
   some (.inl (out3,costs3,w64 (v2+1))))
 else
  some (.inr (out2,costs2))
def Zj (F:Nat) (p1:Qd) (x1:Qg) (r2:Int) (j_:(List Qg)×(List Int)×Int):Option (((List Qg)×(List Int)×Int)⊕((List Qg))) :=
 oun j_ fun out1 j_=>oun j_ fun costs1 v1 =>
 bif (decide (v1<((p1.Demands.length:Nat):Int))) then
  Option.bind (
   Option.bind (
    iter (YJ F p1 x1 r2 v1) (((p1.Vehicles.length:Nat):Int).toNat+1) (out1,costs1,0)) (fun j_=>oun j_ fun out4 costs4 =>
    some (out4,costs4))) (fun j_=>oun j_ fun out5 costs5 =>
   some (.inl (out5,costs5,w64 (v1+1))))
 else
  some (.inr out1)
def W8 (F:Nat) (p1:Qd) (x1:Qg):Option ((List Qg)×Int) :=
 Option.bind (QN p1 x1) fun r1 =>
 bif (!(decide (r1=0))) then
  some ([],r1)
 else
  Option.bind (Yd p1 x1) fun j_=>oun j_ fun r2 r3 =>
  Option.bind (
   iter (Zj F p1 x1 r2) (((p1.Demands.length:Nat):Int).toNat+1) ([],[],0)) (fun out6 =>
   some (out6,0))
def WQ (F:Nat) (p1:Qd) (x1:Qg) (d1:Int) (v1:Int):Option (Int) :=
 Option.bind (getI p1.Vehicles v1) fun x2 =>
 Option.bind (getI p1.Demands d1) fun x3 =>
 Option.bind (Wv x2 x3.Kind) fun r1 =>
 bif (!r1) then
  some 21
 else
  Option.bind (getI p1.Demands d1) fun x4 =>
  Option.bind (getI p1.Vehicles v1) fun x5 =>
  bif (decide (x5.Grams<x4.Grams)) then
   some 20
  else
   Option.bind (Wf p1 (Qa.mk v1 [d1,(-1)])) fun j_=>oun j_ fun r2 j_=>oun j_ fun r3 r4 =>
   bif (!(decide (r3=0))) then
    some r3
   else
    Option.bind (QaY x1 v1) fun r5 =>
    Option.bind (YW F p1 r5 d1) fun j_=>oun j_ fun r6 r7 =>
    bif (decide (((r6.length:Nat):Int)=0)) then
     some 40
    else
     some 0
def Qba (F:Nat) (p1:Qd) (x1:Qg) (d1:Int) (j_:(List QI)×Int):Option (((List QI)×Int)⊕((List QI))) :=
 oun j_ fun out1 v2 =>
 bif (decide (v2<((p1.Vehicles.length:Nat):Int))) then
  Option.bind (WQ F p1 x1 d1 v2) fun r3 =>
  Option.bind (ZH out1 [(QI.mk v2 r3)]) fun l1 =>
  some (.inl (l1,w64 (v2+1)))
 else
  some (.inr out1)
def Qb9 (F:Nat) (p1:Qd) (x1:Qg) (d1:Int):Option ((List QI)×Int) :=
 Option.bind (QN p1 x1) fun r1 =>
 bif (!(decide (r1=0))) then
  some ([],r1)
 else
  Option.bind (
   bif (decide (d1<0)) then
    some true
   else
    some (decide (((p1.Demands.length:Nat):Int)≤d1))) (fun v1 =>
   bif v1 then
    some ([],7)
   else
    Option.bind (Vx x1.Left d1) fun r2 =>
    bif (!r2) then
     some ([],13)
    else
     Option.bind (
      iter (Qba F p1 x1 d1) (((p1.Vehicles.length:Nat):Int).toNat+1) ([],0)) (fun out2 =>
      some (out2,0)))
def Yj (F:Nat) (p1:Qd) (x1:Qg) (r3:(List Qg)) (r5:Int) (j_:Int×Int×Int):Option ((Int×Int×Int)⊕(Unit⊕Bool)) :=
 oun j_ fun left1 j_=>oun j_ fun cost1 v7 =>
 bif (decide (v7<((r3.length:Nat):Int))) then
  Option.bind (getI r3 v7) fun x2 =>
  Option.bind (JO F p1 x2) fun j_=>oun j_ fun r8 r9 =>
  Option.bind (
   bif (!(decide (r9=0))) then
    some true
   else
    Option.bind (Q4 ((x2.Left.length:Nat):Int) r8 ((x1.Left.length:Nat):Int) r5) fun r10 =>
    bif (!r10) then
     some true
    else
     bif (decide (0<v7)) then
      Option.bind (Q4 ((x2.Left.length:Nat):Int) r8 left1 cost1) fun r11 =>
      some r11
     else
      some false) (fun v9 =>
   bif v9 then
    some (.inr (.inr false))
   else
    some (.inl (((x2.Left.length:Nat):Int),r8,w64 (v7+1))))
 else
  some (.inr (.inl ()))
def YN (F:Nat) (p1:Qd) (x1:Qg):Option (Bool) :=
 Option.bind (YQ p1 x1) fun r1 =>
 bif r1 then
  Option.bind (Zm F) fun r2 =>
  some r2
 else
  Option.bind (Y0 F p1 x1) fun j_=>oun j_ fun r3 r4 =>
  Option.bind (JO F p1 x1) fun j_=>oun j_ fun r5 r6 =>
  Option.bind (
   bif (!(decide (r4=0))) then
    some true
   else
    some (!(decide (r6=0)))) (fun v4 =>
   bif v4 then
    Option.bind (
     bif (decide (r4=r6)) then
      bif (decide (((r3.length:Nat):Int)=0)) then
       Option.bind (Zm F) fun r7 =>
       some r7
      else
       some false
     else
      some false) (fun v6 =>
     some v6)
   else
    Option.bind (
     iter (Yj F p1 x1 r3 r5) (((r3.length:Nat):Int).toNat+1) (0,0,0)) (fun o_=>QD o_ (fun _ =>
     Option.bind (Zm F) fun r12 =>
     some r12) (fun rv27261=>some rv27261)))
def Qa0 (s11:(List QI)) (s21:(List QI)) (v1:Int):Option ((Int)⊕(Unit⊕Bool)) :=
 bif (decide (v1<((s11.length:Nat):Int))) then
  Option.bind (getI s11 v1) fun x1 =>
  Option.bind (getI s21 v1) fun x2 =>
  bif (!(decide (x1=x2))) then
   some (.inr (.inr false))
  else
   some (.inl (w64 (v1+1)))
 else
  some (.inr (.inl ()))
def QbG (s11:(List QI)) (s21:(List QI)):Option (Bool) :=
 bif (!(decide (((s11.length:Nat):Int)=((s21.length:Nat):Int)))) then
  some false
 else
  Option.bind (
   iter (Qa0 s11 s21) (((s11.length:Nat):Int).toNat+1) 0) (fun o_=>QD o_ (fun _ =>
   some true) (fun rv27382=>some rv27382))
end Go.Proofs.YthpgjbbjpfiniaaGreat
