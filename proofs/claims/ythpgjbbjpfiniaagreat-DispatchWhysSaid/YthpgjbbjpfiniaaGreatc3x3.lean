/- DispatchWhys: for every input the given law returns true, and its arguments read as before. No condition. -/
import Derived.Test.YthpgjbbjpfiniaaGreatc3x2
namespace Go.Proofs.YthpgjbbjpfiniaaGreat
open Go.RowKit
set_option linter.unusedSimpArgs false
set_option linter.unusedVariables false
structure QK where
 From:Int
 To:Int
 Meters:Int
 Secs:Int
deriving DecidableEq
def QfM (x:QK):List Value:=[.int .i64 x.From,.int .i64 x.To,.int .i64 x.Meters,.int .i64 x.Secs]
def QF:Rp QK:=Qf0 4 QfM (fun _=>rfl) (by intro x u hu;simp only[QfM,List.mem_cons,List.not_mem_nil,or_false] at hu;rcases hu with rfl | rfl | rfl | rfl<;>rfl)
structure QM where
 Nodes:Int
 Edges:(List QK)
deriving DecidableEq
def QlO:Rp QM where
 sz:=2
 rep μ x cs:= ∃(A1:Option Addr) (c1:Nat),cs=[.int .i64 x.Nodes,.slice A1 x.Edges.length c1]∧(x.Edges.length≤c1∧c1≤maxLen)∧Qr QF μ A1 x.Edges
 len:=by rintro μ x cs ⟨A1,c1,rfl,_⟩;rfl
 mono:=by rintro μ μ' x cs hm ⟨A1,c1,h,hl1,ha1⟩;exact ⟨A1,c1,h,hl1,ha1.mono hm⟩
 one:=by rintro μ x cs ⟨A1,c1,rfl,_⟩ u hu;simp only[List.mem_cons,List.not_mem_nil,or_false] at hu;rcases hu with rfl | rfl<;>rfl
structure QD where
 From:Int
 To:Int
deriving DecidableEq
def Qd9 (x:QD):List Value:=[.int .i64 x.From,.int .i64 x.To]
def QjZ:Rp QD:=Qf0 2 Qd9 (fun _=>rfl) (by intro x u hu;simp only[Qd9,List.mem_cons,List.not_mem_nil,or_false] at hu;rcases hu with rfl | rfl<;>rfl)
structure Qp where
 ID:ByteArray
 Depot:Int
 Shift:QD
 Grams:Int
 Kinds:Int
deriving DecidableEq
def QdP (x:Qp):List Value:=[.string x.ID,.int .i64 x.Depot,.int .i64 x.Shift.From,.int .i64 x.Shift.To,.int .i64 x.Grams,.int .i64 x.Kinds]
def Qy:Rp Qp:=Qf0 6 QdP (fun _=>rfl) (by intro x u hu;simp only[QdP,List.mem_cons,List.not_mem_nil,or_false] at hu;rcases hu with rfl | rfl | rfl | rfl | rfl | rfl<;>rfl)
structure Qw where
 Container:Int
 Node:Int
 Kind:Int
 Grams:Int
 When:QD
 Service:Int
deriving DecidableEq
def Qd7 (x:Qw):List Value:=[.int .i64 x.Container,.int .i64 x.Node,.int .i64 x.Kind,.int .i64 x.Grams,.int .i64 x.When.From,.int .i64 x.When.To,.int .i64 x.Service]
def QB:Rp Qw:=Qf0 7 Qd7 (fun _=>rfl) (by intro x u hu;simp only[Qd7,List.mem_cons,List.not_mem_nil,or_false] at hu;rcases hu with rfl | rfl | rfl | rfl | rfl | rfl | rfl<;>rfl)
structure Qe where
 Road:QM
 Vehicles:(List Qp)
 Demands:(List Qw)
 Unload:Int
 UnloadSecs:Int
deriving DecidableEq
def QiL:Rp Qe where
 sz:=6
 rep μ x cs:= ∃(A1:Option Addr) (c1:Nat) (A2:Option Addr) (c2:Nat) (A3:Option Addr) (c3:Nat),cs=[.int .i64 x.Road.Nodes,.slice A1 x.Road.Edges.length c1,.slice A2 x.Vehicles.length c2,.slice A3 x.Demands.length c3,.int .i64 x.Unload,.int .i64 x.UnloadSecs]∧(x.Road.Edges.length≤c1∧c1≤maxLen)∧Qr QF μ A1 x.Road.Edges∧(x.Vehicles.length≤c2∧c2≤maxLen)∧Qr Qy μ A2 x.Vehicles∧(x.Demands.length≤c3∧c3≤maxLen)∧Qr QB μ A3 x.Demands
 len:=by rintro μ x cs ⟨A1,c1,A2,c2,A3,c3,rfl,_⟩;rfl
 mono:=by rintro μ μ' x cs hm ⟨A1,c1,A2,c2,A3,c3,h,hl1,ha1,hl2,ha2,hl3,ha3⟩;exact ⟨A1,c1,A2,c2,A3,c3,h,hl1,ha1.mono hm,hl2,ha2.mono hm,hl3,ha3.mono hm⟩
 one:=by rintro μ x cs ⟨A1,c1,A2,c2,A3,c3,rfl,_⟩ u hu;simp only[List.mem_cons,List.not_mem_nil,or_false] at hu;rcases hu with rfl | rfl | rfl | rfl | rfl | rfl<;>rfl
structure Qa where
 Vehicle:Int
 Stops:(List Int)
deriving DecidableEq
def Qv:Rp Qa where
 sz:=2
 rep μ x cs:= ∃(A1:Option Addr) (c1:Nat),cs=[.int .i64 x.Vehicle,.slice A1 x.Stops.length c1]∧(x.Stops.length≤c1∧c1≤maxLen)∧Qr QS μ A1 x.Stops
 len:=by rintro μ x cs ⟨A1,c1,rfl,_⟩;rfl
 mono:=by rintro μ μ' x cs hm ⟨A1,c1,h,hl1,ha1⟩;exact ⟨A1,c1,h,hl1,ha1.mono hm⟩
 one:=by rintro μ x cs ⟨A1,c1,rfl,_⟩ u hu;simp only[List.mem_cons,List.not_mem_nil,or_false] at hu;rcases hu with rfl | rfl<;>rfl
structure Qf where
 Tours:(List Qa)
 Left:(List Int)
deriving DecidableEq
def Qbp:Rp Qf where
 sz:=2
 rep μ x cs:= ∃(A0:Option Addr) (c0:Nat) (A1:Option Addr) (c1:Nat),cs=[.slice A0 x.Tours.length c0,.slice A1 x.Left.length c1]∧(x.Tours.length≤c0∧c0≤maxLen)∧Qr Qv μ A0 x.Tours∧(x.Left.length≤c1∧c1≤maxLen)∧Qr QS μ A1 x.Left
 len:=by rintro μ x cs ⟨A0,c0,A1,c1,rfl,_⟩;rfl
 mono:=by rintro μ μ' x cs hm ⟨A0,c0,A1,c1,h,hl0,ha0,hl1,ha1⟩;exact ⟨A0,c0,A1,c1,h,hl0,ha0.mono hm,hl1,ha1.mono hm⟩
 one:=by rintro μ x cs ⟨A0,c0,A1,c1,rfl,_⟩ u hu;simp only[List.mem_cons,List.not_mem_nil,or_false] at hu;rcases hu with rfl | rfl<;>rfl
structure ZW where
 From:Int
 To:Int
deriving DecidableEq
def QgJ (x:ZW):List Value:=[.int .i64 x.From,.int .i64 x.To]
def Qca:Rp ZW:=Qf0 2 QgJ (fun _=>rfl) (by intro x u hu;simp only[QgJ,List.mem_cons,List.not_mem_nil,or_false] at hu;rcases hu with rfl | rfl<;>rfl)
structure QaJ where
 Nodes:Int
 Arcs:(List ZW)
deriving DecidableEq
structure Qc where
 tour:Qa
 cost:Int
deriving DecidableEq
def Qm:Rp Qc where
 sz:=3
 rep μ x cs:= ∃(A1:Option Addr) (c1:Nat),cs=[.int .i64 x.tour.Vehicle,.slice A1 x.tour.Stops.length c1,.int .i64 x.cost]∧(x.tour.Stops.length≤c1∧c1≤maxLen)∧Qr QS μ A1 x.tour.Stops
 len:=by rintro μ x cs ⟨A1,c1,rfl,_⟩;rfl
 mono:=by rintro μ μ' x cs hm ⟨A1,c1,h,hl1,ha1⟩;exact ⟨A1,c1,h,hl1,ha1.mono hm⟩
 one:=by rintro μ x cs ⟨A1,c1,rfl,_⟩ u hu;simp only[List.mem_cons,List.not_mem_nil,or_false] at hu;rcases hu with rfl | rfl | rfl<;>rfl
structure Ql where
 Secs:Int
 Meters:Int
deriving DecidableEq
def QgK (x:Ql):List Value:=[.int .i64 x.Secs,.int .i64 x.Meters]
def Yl:Rp Ql:=Qf0 2 QgK (fun _=>rfl) (by intro x u hu;simp only[QgK,List.mem_cons,List.not_mem_nil,or_false] at hu;rcases hu with rfl | rfl<;>rfl)
structure Z4 where
 node:Int
 time:Int
 load:Int
 meters:Int
deriving DecidableEq
structure QN where
 Stop:Int
 Node:Int
 Arrive:Int
 Start:Int
 Leave:Int
 Load:Int
deriving DecidableEq
def QeZ (x:QN):List Value:=[.int .i64 x.Stop,.int .i64 x.Node,.int .i64 x.Arrive,.int .i64 x.Start,.int .i64 x.Leave,.int .i64 x.Load]
def J9:Rp QN:=Qf0 6 QeZ (fun _=>rfl) (by intro x u hu;simp only[QeZ,List.mem_cons,List.not_mem_nil,or_false] at hu;rcases hu with rfl | rfl | rfl | rfl | rfl | rfl<;>rfl)
structure QG where
 place:Z4
 p:Qe
 v:Qp
 legs:(List (Int×(List Ql)))
 visits:(List QN)
deriving DecidableEq
def QL (μ:Gh) (v:Value) (x:QG) (so:Seg):Prop:= ∃(g:Nat) (A5:Option Addr) (c5:Nat) (A6:Option Addr) (c6:Nat) (A7:Option Addr) (c7:Nat) (m16:Nat) (es16:Array MapEntry) (cn16:Nat) (A17:Option Addr) (c17:Nat) (ch17:Seg),v= .pointer (some ⟨g,0,none⟩)∧so=((g,Obj.cells #[.int .i64 x.place.node,.int .i64 x.place.time,.int .i64 x.place.load,.int .i64 x.place.meters,.int .i64 x.p.Road.Nodes,.slice A5 x.p.Road.Edges.length c5,.slice A6 x.p.Vehicles.length c6,.slice A7 x.p.Demands.length c7,.int .i64 x.p.Unload,.int .i64 x.p.UnloadSecs,.string x.v.ID,.int .i64 x.v.Depot,.int .i64 x.v.Shift.From,.int .i64 x.v.Shift.To,.int .i64 x.v.Grams,.int .i64 x.v.Kinds,.map (some m16),.slice A17 x.visits.length c17] 104 (0,0))::((m16,Obj.map es16 cn16)::ch17))∧((x.p.Road.Edges.length≤c5∧c5≤maxLen)∧Qr QF μ A5 x.p.Road.Edges)∧((x.p.Vehicles.length≤c6∧c6≤maxLen)∧Qr Qy μ A6 x.p.Vehicles)∧((x.p.Demands.length≤c7∧c7≤maxLen)∧Qr QB μ A7 x.p.Demands)∧Qe9 Yl μ es16 cn16 x.legs∧Own J9 135 μ (.slice A17 x.visits.length c17) x.visits ch17
theorem QL.mono {μ μ':Gh} {v:Value} {x:QG} {so:Seg} (h:QL μ v x so) (hm:μ.le μ'):QL μ' v x so:=by
 obtain ⟨g,A5,c5,A6,c6,A7,c7,m16,es16,cn16,A17,c17,ch17,hv,hs,h5,h6,h7,h16,h17⟩:=h;exact ⟨g,A5,c5,A6,c6,A7,c7,m16,es16,cn16,A17,c17,ch17,hv,hs,⟨h5.1,h5.2.mono hm⟩,⟨h6.1,h6.2.mono hm⟩,⟨h7.1,h7.2.mono hm⟩,h16.mono hm,h17.mono hm⟩
theorem QL.fl {x:QG} {g:Nat} {A5:Option Addr} {c5:Nat} {A6:Option Addr} {c6:Nat} {A7:Option Addr} {c7:Nat} {m16:Nat} {es16:Array MapEntry} {cn16:Nat} {A17:Option Addr} {c17:Nat} {ch17:Seg}:([[(g,Obj.cells #[.int .i64 x.place.node,.int .i64 x.place.time,.int .i64 x.place.load,.int .i64 x.place.meters,.int .i64 x.p.Road.Nodes,.slice A5 x.p.Road.Edges.length c5,.slice A6 x.p.Vehicles.length c6,.slice A7 x.p.Demands.length c7,.int .i64 x.p.Unload,.int .i64 x.p.UnloadSecs,.string x.v.ID,.int .i64 x.v.Depot,.int .i64 x.v.Shift.From,.int .i64 x.v.Shift.To,.int .i64 x.v.Grams,.int .i64 x.v.Kinds,.map (some m16),.slice A17 x.visits.length c17] 104 (0,0))],[(m16,Obj.map es16 cn16)],ch17]:List Seg).flatten=((g,Obj.cells #[.int .i64 x.place.node,.int .i64 x.place.time,.int .i64 x.place.load,.int .i64 x.place.meters,.int .i64 x.p.Road.Nodes,.slice A5 x.p.Road.Edges.length c5,.slice A6 x.p.Vehicles.length c6,.slice A7 x.p.Demands.length c7,.int .i64 x.p.Unload,.int .i64 x.p.UnloadSecs,.string x.v.ID,.int .i64 x.v.Depot,.int .i64 x.v.Shift.From,.int .i64 x.v.Shift.To,.int .i64 x.v.Grams,.int .i64 x.v.Kinds,.map (some m16),.slice A17 x.visits.length c17] 104 (0,0))::((m16,Obj.map es16 cn16)::ch17)):=by simp
structure Q9 where
 node:Int
 leg:Ql
deriving DecidableEq
structure QQ where
 value:Q9
 n:Int
deriving DecidableEq
def QbB (x:QQ):List Value:=[.int .i64 x.value.node,.int .i64 x.value.leg.Secs,.int .i64 x.value.leg.Meters,.int .i64 x.n]
def YJ:Rp QQ:=Qf0 4 QbB (fun _=>rfl) (by intro x u hu;simp only[QbB,List.mem_cons,List.not_mem_nil,or_false] at hu;rcases hu with rfl | rfl | rfl | rfl<;>rfl)
structure Qg where
 heap:(List QQ)
 count:Int
deriving DecidableEq
def Qn (μ:Gh) (v:Value) (x:Qg) (so:Seg):Prop:= ∃(g:Nat) (A1:Option Addr) (c1:Nat) (ch1:Seg),v= .pointer (some ⟨g,0,none⟩)∧so=((g,Obj.cells #[.func (.func 153) #[] #[],.slice A1 x.heap.length c1,.int .i64 x.count] 211 (0,0))::ch1)∧Own YJ 213 μ (.slice A1 x.heap.length c1) x.heap ch1
theorem Qn.mono {μ μ':Gh} {v:Value} {x:Qg} {so:Seg} (h:Qn μ v x so) (hm:μ.le μ'):Qn μ' v x so:=by
 obtain ⟨g,A1,c1,ch1,hv,hs,h1⟩:=h;exact ⟨g,A1,c1,ch1,hv,hs,h1.mono hm⟩
theorem Qn.fl {x:Qg} {g:Nat} {A1:Option Addr} {c1:Nat} {ch1:Seg}:([[(g,Obj.cells #[.func (.func 153) #[] #[],.slice A1 x.heap.length c1,.int .i64 x.count] 211 (0,0))],ch1]:List Seg).flatten=((g,Obj.cells #[.func (.func 153) #[] #[],.slice A1 x.heap.length c1,.int .i64 x.count] 211 (0,0))::ch1):=by simp
structure Qb where
 plan:Qf
 cost:Int
deriving DecidableEq
def Qq:Rp Qb where
 sz:=3
 rep μ x cs:= ∃(A0:Option Addr) (c0:Nat) (A1:Option Addr) (c1:Nat),cs=[.slice A0 x.plan.Tours.length c0,.slice A1 x.plan.Left.length c1,.int .i64 x.cost]∧(x.plan.Tours.length≤c0∧c0≤maxLen)∧Qr Qv μ A0 x.plan.Tours∧(x.plan.Left.length≤c1∧c1≤maxLen)∧Qr QS μ A1 x.plan.Left
 len:=by rintro μ x cs ⟨A0,c0,A1,c1,rfl,_⟩;rfl
 mono:=by rintro μ μ' x cs hm ⟨A0,c0,A1,c1,h,hl0,ha0,hl1,ha1⟩;exact ⟨A0,c0,A1,c1,h,hl0,ha0.mono hm,hl1,ha1.mono hm⟩
 one:=by rintro μ x cs ⟨A0,c0,A1,c1,rfl,_⟩ u hu;simp only[List.mem_cons,List.not_mem_nil,or_false] at hu;rcases hu with rfl | rfl | rfl<;>rfl
structure QH where
 Vehicle:Int
 Err:Int
deriving DecidableEq
def Qd8 (x:QH):List Value:=[.int .i64 x.Vehicle,.int .i64 x.Err]
def Zu:Rp QH:=Qf0 2 Qd8 (fun _=>rfl) (by intro x u hu;simp only[Qd8,List.mem_cons,List.not_mem_nil,or_false] at hu;rcases hu with rfl | rfl<;>rfl)
def QJ (μ:Gh) (v:Value) (x:(List Qb)) (so:Seg):Prop:= ∃(g:Nat) (A0:Option Addr) (c0:Nat) (ch0:Seg),v= .pointer (some ⟨g,0,none⟩)∧so=((g,Obj.cells #[.slice A0 x.length c0] 77 (0,0))::ch0)∧Own Qq 82 μ (.slice A0 x.length c0) x ch0
theorem QJ.mono {μ μ':Gh} {v:Value} {x:(List Qb)} {so:Seg} (h:QJ μ v x so) (hm:μ.le μ'):QJ μ' v x so:=by
 obtain ⟨g,A0,c0,ch0,hv,hs,h0⟩:=h;exact ⟨g,A0,c0,ch0,hv,hs,h0.mono hm⟩
theorem QJ.fl {x:(List Qb)} {g:Nat} {A0:Option Addr} {c0:Nat} {ch0:Seg}:([[(g,Obj.cells #[.slice A0 x.length c0] 77 (0,0))],ch0]:List Seg).flatten=((g,Obj.cells #[.slice A0 x.length c0] 77 (0,0))::ch0):=by simp
def QgW (x:QK):Prop:=(wfI .i64) x.From∧(wfI .i64) x.To∧(wfI .i64) x.Meters∧(wfI .i64) x.Secs
def QgY (x:QM):Prop:=(wfI .i64) x.Nodes∧(fun xs:List QK=> ∀x∈xs,QgW x) x.Edges
def QcW (x:QD):Prop:=(wfI .i64) x.From∧(wfI .i64) x.To
def QeH (x:Qp):Prop:=(fun s:ByteArray=>s.size≤maxLen) x.ID∧(wfI .i64) x.Depot∧QcW x.Shift∧(wfI .i64) x.Grams∧(wfI .i64) x.Kinds
def Qe7 (x:Qw):Prop:=(wfI .i64) x.Container∧(wfI .i64) x.Node∧(wfI .i64) x.Kind∧(wfI .i64) x.Grams∧QcW x.When∧(wfI .i64) x.Service
def QeG (x:Qe):Prop:=QgY x.Road∧(fun xs:List Qp=> ∀x∈xs,QeH x) x.Vehicles∧(fun xs:List Qw=> ∀x∈xs,Qe7 x) x.Demands∧(wfI .i64) x.Unload∧(wfI .i64) x.UnloadSecs
def QgZ (x:Qa):Prop:=(wfI .i64) x.Vehicle∧(fun xs:List Int=> ∀x∈xs,(wfI .i64) x) x.Stops
def QgX (x:Qf):Prop:=(fun xs:List Qa=> ∀x∈xs,QgZ x) x.Tours∧(fun xs:List Int=> ∀x∈xs,(wfI .i64) x) x.Left
def Jk (p1:Qe) (v2:Int):Option ((Int)⊕(Unit⊕Bool)) :=
 bif (decide (v2<((p1.Vehicles.length:Nat):Int))) then
  Option.bind (getI p1.Vehicles v2) fun x1 =>
  bif (decide (200<((x1.ID.size:Nat):Int))) then
   some (.inr (.inr true))
  else
   some (.inl (w64 (v2+1)))
 else
  some (.inr (.inl ()))
def Jj (p1:Qe):Option (Bool) :=
 Option.bind (
  bif (decide (600<((p1.Road.Edges.length:Nat):Int))) then
   some true
  else
   bif (decide (30<((p1.Vehicles.length:Nat):Int))) then
    some true
   else
    some (decide (60<((p1.Demands.length:Nat):Int)))) (fun v1 =>
  bif v1 then
   some true
  else
   Option.bind (
    iter (Jk p1) (((p1.Vehicles.length:Nat):Int).toNat+1) 0) (fun o_=>QI o_ (fun _ =>
    some false) (fun rv22=>some rv22)))
def Zw (x1:Qf) (v2:Int):Option ((Int)⊕(Unit⊕Bool)) :=
 bif (decide (v2<((x1.Tours.length:Nat):Int))) then
  Option.bind (getI x1.Tours v2) fun x2 =>
  bif (decide (100<((x2.Stops.length:Nat):Int))) then
   some (.inr (.inr true))
  else
   some (.inl (w64 (v2+1)))
 else
  some (.inr (.inl ()))
def Zg (x1:Qf):Option (Bool) :=
 Option.bind (
  bif (decide (30<((x1.Tours.length:Nat):Int))) then
   some true
  else
   some (decide (100<((x1.Left.length:Nat):Int)))) (fun v1 =>
  bif v1 then
   some true
  else
   Option.bind (
    iter (Zw x1) (((x1.Tours.length:Nat):Int).toNat+1) 0) (fun o_=>QI o_ (fun _ =>
    some false) (fun rv37=>some rv37)))
def Jn (x1:Qf) (v2:Int):Option ((Int)⊕(Unit⊕Bool)) :=
 bif (decide (v2<((x1.Tours.length:Nat):Int))) then
  Option.bind (getI x1.Tours v2) fun x2 =>
  bif (decide (16<((x2.Stops.length:Nat):Int))) then
   some (.inr (.inr true))
  else
   some (.inl (w64 (v2+1)))
 else
  some (.inr (.inl ()))
def YY (p1:Qe) (x1:Qf):Option (Bool) :=
 Option.bind (
  Option.bind (Jj p1) fun r1 =>
  bif r1 then
   some true
  else
   Option.bind (Zg x1) fun r2 =>
   bif r2 then
    some true
   else
    bif (decide (100<((p1.Road.Edges.length:Nat):Int))) then
     some true
    else
     bif (decide (4<((p1.Vehicles.length:Nat):Int))) then
      some true
     else
      bif (decide (8<((p1.Demands.length:Nat):Int))) then
       some true
      else
       some (decide (8<((x1.Tours.length:Nat):Int)))) (fun v1 =>
  bif v1 then
   some true
  else
   Option.bind (
    iter (Jn x1) (((x1.Tours.length:Nat):Int).toNat+1) 0) (fun o_=>QI o_ (fun _ =>
    some false) (fun rv52=>some rv52)))
def VN (r1:QM) (j_:(List ZW)×Int):Option (((List ZW)×Int)⊕((List ZW))) :=
 oun j_ fun f1 v1 =>
 bif (decide (v1<((r1.Edges.length:Nat):Int))) then
  Option.bind (getI r1.Edges v1) fun x1 =>
  Option.bind (Z0 f1 [(ZW.mk x1.From x1.To)]) fun l1 =>
  some (.inl (l1,w64 (v1+1)))
 else
  some (.inr f1)
def Qbd (r1:QM):Option (QaJ) :=
 Option.bind (
  iter (VN r1) (((r1.Edges.length:Nat):Int).toNat+1) ([],0)) (fun f2 =>
  some (QaJ.mk r1.Nodes f2))
def V7 (g1:QaJ) (v2:Int):Option ((Int)⊕(Unit⊕Int)) :=
 bif (decide (v2<((g1.Arcs.length:Nat):Int))) then
  Option.bind (getI g1.Arcs v2) fun x1 =>
  Option.bind (
   bif (decide (x1.From<0)) then
    some true
   else
    bif (decide (g1.Nodes≤x1.From)) then
     some true
    else
     bif (decide (x1.To<0)) then
      some true
     else
      some (decide (g1.Nodes≤x1.To))) (fun v3 =>
   bif v3 then
    some (.inr (.inr 7))
   else
    some (.inl (w64 (v2+1))))
 else
  some (.inr (.inl ()))
def QbC (g1:QaJ):Option (Int) :=
 Option.bind (
  bif (decide (g1.Nodes<0)) then
   some true
  else
   some (decide (64<g1.Nodes))) (fun v1 =>
  bif v1 then
   some 1
  else
   bif (decide (512<((g1.Arcs.length:Nat):Int))) then
    some 8
   else
    Option.bind (
     iter (V7 g1) (((g1.Arcs.length:Nat):Int).toNat+1) 0) (fun o_=>QI o_ (fun _ =>
     some 0) (fun rv243=>some rv243)))
def Qbz (r1:QM) (v2:Int):Option ((Int)⊕(Unit⊕Int)) :=
 bif (decide (v2<((r1.Edges.length:Nat):Int))) then
  Option.bind (getI r1.Edges v2) fun x1 =>
  Option.bind (
   bif (decide (x1.From<0)) then
    some true
   else
    bif (decide (r1.Nodes≤x1.From)) then
     some true
    else
     bif (decide (x1.To<0)) then
      some true
     else
      some (decide (r1.Nodes≤x1.To))) (fun v3 =>
   bif v3 then
    some (.inr (.inr 7))
   else
    Option.bind (
     bif (decide (x1.From=x1.To)) then
      some true
     else
      bif (decide (x1.Meters<1)) then
       some true
      else
       bif (decide (100000<x1.Meters)) then
        some true
       else
        bif (decide (x1.Secs<1)) then
         some true
        else
         some (decide (100000<x1.Secs))) (fun v4 =>
     bif v4 then
      some (.inr (.inr 1))
     else
      some (.inl (w64 (v2+1)))))
 else
  some (.inr (.inl ()))
def QaF (r1:QM):Option (Int) :=
 Option.bind (
  bif (decide (r1.Nodes<1)) then
   some true
  else
   some (decide (64<r1.Nodes))) (fun v1 =>
  bif v1 then
   some 1
  else
   bif (decide (512<((r1.Edges.length:Nat):Int))) then
    some 8
   else
    Option.bind (
     iter (Qbz r1) (((r1.Edges.length:Nat):Int).toNat+1) 0) (fun o_=>QI o_ (fun _ =>
     Option.bind (Qbd r1) fun r2 =>
     Option.bind (QbC r2) fun r3 =>
     some r3) (fun rv267=>some rv267)))
def Qae (c1:Int):Option (Bool) :=
 Option.bind (
  bif (decide (97≤c1)) then
   bif (decide (c1≤122)) then
    some true
   else
    bif (decide (65≤c1)) then
     some (decide (c1≤90))
    else
     some false
  else
   bif (decide (65≤c1)) then
    some (decide (c1≤90))
   else
    some false) (fun v1 =>
  some v1)
def Qa6 (s1:ByteArray) (i1:Int):Option ((Int)⊕(Unit⊕Bool)) :=
 bif (decide (i1<((s1.size:Nat):Int))) then
  Option.bind (QiK s1 i1) fun x2 =>
  Option.bind (
   Option.bind (Qae x2) fun r2 =>
   bif (!r2) then
    bif (decide (x2<48)) then
     bif (!(decide (x2=45))) then
      bif (!(decide (x2=95))) then
       some (!(decide (x2=46)))
      else
       some false
     else
      some false
    else
     bif (decide (57<x2)) then
      bif (!(decide (x2=45))) then
       bif (!(decide (x2=95))) then
        some (!(decide (x2=46)))
       else
        some false
      else
       some false
     else
      some false
   else
    some false) (fun v2 =>
   bif v2 then
    some (.inr (.inr false))
   else
    some (.inl (w64 (i1+1))))
 else
  some (.inr (.inl ()))
def QbD (F:Nat) (s1:ByteArray):Option (Bool) :=
 Option.bind (
  bif (decide (((s1.size:Nat):Int)<1)) then
   some true
  else
   bif (decide (32<((s1.size:Nat):Int))) then
    some true
   else
    Option.bind (QiK s1 0) fun x1 =>
    Option.bind (Qae x1) fun r1 =>
    some (!r1)) (fun v1 =>
  bif v1 then
   some false
  else
   Option.bind (
    iter (Qa6 s1) F 1) (fun o_=>QI o_ (fun _ =>
    some true) (fun rv308=>some rv308)))
def QaA (F:Nat) (v1:Qp) (nodes1:Int) (materials1:Int):Option (Int) :=
 Option.bind (QbD F v1.ID) fun r1 =>
 bif (!r1) then
  some 5
 else
  Option.bind (
   bif (decide (v1.Depot<0)) then
    some true
   else
    some (decide (nodes1≤v1.Depot))) (fun v2 =>
   bif v2 then
    some 7
   else
    Option.bind (
     bif (decide (v1.Shift.From<0)) then
      some true
     else
      bif (decide (v1.Shift.To≤v1.Shift.From)) then
       some true
      else
       some (decide (86400<v1.Shift.To))) (fun v3 =>
     bif v3 then
      some 19
     else
      Option.bind (
       bif (decide (v1.Grams<1)) then
        some true
       else
        some (decide (1073741824<v1.Grams))) (fun v4 =>
       bif v4 then
        some 1
       else
        Option.bind (
         bif (decide (v1.Kinds<1)) then
          some true
         else
          Option.bind (WG (0≤materials1∧materials1≤64)) fun _ =>
          some (decide ((w64 (1*2^materials1.toNat))≤v1.Kinds))) (fun v5 =>
         bif v5 then
          some 21
         else
          some 0))))
def WW (F:Nat) (l1:(List Qp)) (nodes1:Int) (materials1:Int) (v2:Int):Option ((Int)⊕(Unit⊕Int)) :=
 bif (decide (v2<((l1.length:Nat):Int))) then
  Option.bind (getI l1 v2) fun x1 =>
  Option.bind (QaA F x1 nodes1 materials1) fun r1 =>
  bif (!(decide (r1=0))) then
   some (.inr (.inr r1))
  else
   some (.inl (w64 (v2+1)))
 else
  some (.inr (.inl ()))
def WX (l1:(List Qp)) (j_:(List (ByteArray×Bool))×Int):Option (((List (ByteArray×Bool))×Int)⊕(Unit⊕Int)) :=
 oun j_ fun m1 v3 =>
 bif (decide (v3<((l1.length:Nat):Int))) then
  Option.bind (getI l1 v3) fun x2 =>
  bif ((QdL x2.ID m1).getD false) then
   some (.inr (.inr 6))
  else
   some (.inl ((QiN x2.ID true m1),w64 (v3+1)))
 else
  some (.inr (.inl ()))
def VT (F:Nat) (l1:(List Qp)) (nodes1:Int) (materials1:Int):Option (Int) :=
 Option.bind (
  bif (decide (nodes1<1)) then
   some true
  else
   bif (decide (64<nodes1)) then
    some true
   else
    bif (decide (materials1<1)) then
     some true
    else
     some (decide (16<materials1))) (fun v1 =>
  bif v1 then
   some 1
  else
   bif (decide (((l1.length:Nat):Int)=0)) then
    some 10
   else
    bif (decide (16<((l1.length:Nat):Int))) then
     some 8
    else
     Option.bind (
      iter (WW F l1 nodes1 materials1) (((l1.length:Nat):Int).toNat+1) 0) (fun o_=>QI o_ (fun _ =>
      Option.bind (
       iter (WX l1) (((l1.length:Nat):Int).toNat+1) ([],0)) (fun o_=>QI o_ (fun _ =>
       some 0) (fun rv327=>some rv327))) (fun rv301=>some rv301)))
def Vl (n1:Int) (low1:Int) (high1:Int):Option (Bool) :=
 Option.bind (
  bif (decide (low1≤n1)) then
   some (decide (n1≤high1))
  else
   some false) (fun v1 =>
  some v1)
def Qdp (
        x1:Qw) (nodes1:Int) (materials1:Int):Option (Int) :=
 Option.bind (
  Option.bind (Vl x1.Container 0 255) fun r1 =>
  bif (!r1) then
   some true
  else
   bif (decide (x1.Node<0)) then
    some true
   else
    bif (decide (nodes1≤x1.Node)) then
     some true
    else
     bif (decide (x1.Kind<0)) then
      some true
     else
      some (decide (materials1≤x1.Kind))) (fun v1 =>
  bif v1 then
   some 7
  else
   Option.bind (
    Option.bind (Vl x1.Grams 0 1073741824) fun r2 =>
    bif (!r2) then
     some true
    else
     bif (decide (x1.When.From<0)) then
      some true
     else
      bif (decide (x1.When.To<x1.When.From)) then
       some true
      else
       bif (decide (86400<x1.When.To)) then
        some true
       else
        Option.bind (Vl x1.Service 0 3600) fun r3 =>
        some (!r3)) (fun v2 =>
    bif v2 then
     some 1
    else
     some 0))
def Qa2 (y1:Qw) (b1:Qw):Option (Bool) :=
 some (decide (y1.Container=b1.Container))
def YV (s1:(List Qw)) (b1:Qw) (v1:Int):Option ((Int)⊕(Unit⊕Int)) :=
 bif (decide (v1<((s1.length:Nat):Int))) then
  Option.bind (getI s1 v1) fun x1 =>
  Option.bind (Qa2 x1 b1) fun r1 =>
  bif r1 then
   some (.inr (.inr v1))
  else
   some (.inl (w64 (v1+1)))
 else
  some (.inr (.inl ()))
def Jo (s1:(List Qw)) (b1:Qw):Option (Int) :=
 Option.bind (
  iter (YV s1 b1) (((s1.length:Nat):Int).toNat+1) 0) (fun o_=>QI o_ (fun _ =>
  some (-1)) (fun rv361=>some rv361))
def YU (s1:(List Qw)) (b1:Qw):Option (Bool) :=
 Option.bind (Jo s1 b1) fun r1 =>
 some (decide (0≤r1))
def QaB (l1:(List Qw)) (nodes1:Int) (materials1:Int) (v1:Int):Option ((Int)⊕(Unit⊕Int)) :=
 bif (decide (v1<((l1.length:Nat):Int))) then
  Option.bind (getI l1 v1) fun x1 =>
  Option.bind (Qdp x1 nodes1 materials1) fun r1 =>
  bif (!(decide (r1=0))) then
   some (.inr (.inr r1))
  else
   some (.inl (w64 (v1+1)))
 else
  some (.inr (.inl ()))
def VL (l1:(List Qw)) (v2:Int):Option ((Int)⊕(Unit⊕Int)) :=
 bif (decide (v2<((l1.length:Nat):Int))) then
  Option.bind (getI l1 v2) fun x2 =>
  Option.bind (WI l1 0 v2) fun l2 =>
  Option.bind (YU l2 x2) fun r2 =>
  bif r2 then
   some (.inr (.inr 6))
  else
   some (.inl (w64 (v2+1)))
 else
  some (.inr (.inl ()))
def Qa1 (l1:(List Qw)) (nodes1:Int) (materials1:Int):Option (Int) :=
 bif (decide (32<((l1.length:Nat):Int))) then
  some 8
 else
  Option.bind (
   iter (QaB l1 nodes1 materials1) (((l1.length:Nat):Int).toNat+1) 0) (fun o_=>QI o_ (fun _ =>
   Option.bind (
    iter (VL l1) (((l1.length:Nat):Int).toNat+1) 0) (fun o_=>QI o_ (fun _ =>
    some 0) (fun rv352=>some rv352))) (fun rv339=>some rv339))
def VI (
        F:Nat) (p1:Qe):Option (Int) :=
 Option.bind (QaF p1.Road) fun r1 =>
 bif (!(decide (r1=0))) then
  some r1
 else
  Option.bind (VT F p1.Vehicles p1.Road.Nodes 16) fun r2 =>
  bif (!(decide (r2=0))) then
   some r2
  else
   Option.bind (Qa1 p1.Demands p1.Road.Nodes 16) fun r3 =>
   bif (!(decide (r3=0))) then
    some r3
   else
    Option.bind (
     bif (decide (p1.Unload<0)) then
      some true
     else
      some (decide (p1.Road.Nodes≤p1.Unload))) (fun v2 =>
     bif v2 then
      some 7
     else
      Option.bind (
       bif (decide (p1.UnloadSecs<0)) then
        some true
       else
        some (decide (7200<p1.UnloadSecs))) (fun v3 =>
       bif v3 then
        some 1
       else
        some 0))
def Wx (s1:(List Int)) (v1:Int) (v2:Int):Option ((Int)⊕(Unit⊕Int)) :=
 bif (decide (v2<((s1.length:Nat):Int))) then
  Option.bind (getI s1 v2) fun x1 =>
  bif (decide (v1=x1)) then
   some (.inr (.inr v2))
  else
   some (.inl (w64 (v2+1)))
 else
  some (.inr (.inl ()))
def Qag (s1:(List Int)) (v1:Int):Option (Int) :=
 Option.bind (
  iter (Wx s1 v1) (((s1.length:Nat):Int).toNat+1) 0) (fun o_=>QI o_ (fun _ =>
  some (-1)) (fun rv488=>some rv488))
def YD (s1:(List Int)) (v1:Int):Option (Bool) :=
 Option.bind (Qag s1 v1) fun r1 =>
 some (decide (0≤r1))
def WM (stops1:(List Int)) (k1:Int) (more1:(List Int)):Option ((List Int)) :=
 Option.bind (WI stops1 0 k1) fun l1 =>
 Option.bind (Z0 [] l1) fun l2 =>
 Option.bind (Z0 l2 more1) fun l3 =>
 Option.bind (WI stops1 k1 ((stops1.length:Nat):Int)) fun l4 =>
 Option.bind (Z0 l3 l4) fun l5 =>
 Option.bind (getI l5 (w64 (((l5.length:Nat):Int)-1))) fun x1 =>
 Option.bind (
  bif (!(decide (x1=(-1)))) then
   Option.bind (Z0 l5 [(-1)]) fun l6 =>
   some l6
  else
   some l5) (fun out1 =>
  some out1)
def J8 (t1:Qa) (d1:Int) (j_:(List Qa)×Int×Int):Option (((List Qa)×Int×Int)⊕((List Qa))) :=
 oun j_ fun out1 j_=>oun j_ fun v1 v2 =>
 bif (decide (v2<v1)) then
  Option.bind (
   Option.bind (WM t1.Stops v2 [d1]) fun r1 =>
   Option.bind (Z0 out1 [(Qa.mk t1.Vehicle r1)]) fun l1 =>
   bif (decide (v2<((t1.Stops.length:Nat):Int))) then
    Option.bind (WM t1.Stops v2 [d1,(-1)]) fun r2 =>
    Option.bind (Z0 l1 [(Qa.mk t1.Vehicle r2)]) fun l2 =>
    some l2
   else
    some l1) (fun out2 =>
   some (.inl (out2,v1,w64 (v2+1))))
 else
  some (.inr out1)
def Vf (F:Nat) (t1:Qa) (d1:Int):Option ((List Qa)) :=
 Option.bind (
  iter (J8 t1 d1) F ([],w64 (((t1.Stops.length:Nat):Int)+1),0)) (fun out3 =>
  some out3)
def Z7 (v1:Qp) (kind1:Int):Option (Bool) :=
 Option.bind (
  bif (decide (0≤kind1)) then
   bif (decide (kind1<16)) then
    Option.bind (WG (0≤kind1∧kind1≤64)) fun _ =>
    some (decide ((Qo7 .i64 (v1.Kinds/2^kind1.toNat) 1)=1))
   else
    some false
  else
   some false) (fun v2 =>
  some v2)
def Qcc:Option (Ql) :=
 some (Ql.mk (-1) 0)
def Vg:Option (Qg) :=
 some (Qg.mk [] 0)
def QaR (a1:Ql) (b1:Ql):Option (Bool) :=
 Option.bind (
  Option.bind (Qcc) fun r1 =>
  bif (decide (b1=r1)) then
   some true
  else
   bif (decide (a1.Secs<b1.Secs)) then
    some true
   else
    bif (decide (a1.Secs=b1.Secs)) then
     some (decide (a1.Meters<b1.Meters))
    else
     some false) (fun v1 =>
  some v1)
def VQ (a1:Q9) (b1:Q9):Option (Bool) :=
 Option.bind (
  bif (!(decide (a1.leg=b1.leg))) then
   Option.bind (QaR a1.leg b1.leg) fun r1 =>
   some r1
  else
   some false) (fun v1 =>
  some v1)
def Zf (q1:Qg) (i1:Int) (k1:Int):Option (Bool) :=
 Option.bind (
  Option.bind (getI q1.heap i1) fun x1 =>
  Option.bind (getI q1.heap k1) fun x2 =>
  some (x1.value.node,x1.value.leg.Secs,x1.value.leg.Meters,x1.n,x2.value.node,x2.value.leg.Secs,x2.value.leg.Meters,x2.n)) (fun j_=>oun j_ fun f1 j_=>oun j_ fun f2 j_=>oun j_ fun f3 j_=>oun j_ fun f4 j_=>oun j_ fun f5 j_=>oun j_ fun f6 j_=>oun j_ fun f7 f8 =>
  Option.bind (VQ (Q9.mk f1 (Ql.mk f2 f3)) (Q9.mk f5 (Ql.mk f6 f7))) fun r1 =>
  bif r1 then
   some true
  else
   Option.bind (
    bif (decide (f4<f8)) then
     Option.bind (VQ (Q9.mk f5 (Ql.mk f6 f7)) (Q9.mk f1 (Ql.mk f2 f3))) fun r2 =>
     some (!r2)
    else
     some false) (fun v1 =>
    some v1))
def Y5 (q1:Qg) (i1:Int) (k1:Int):Option (Qg) :=
 Option.bind (getI q1.heap k1) fun x1 =>
 Option.bind (getI q1.heap i1) fun x2 =>
 Option.bind (getI q1.heap i1) fun x3 =>
 Option.bind (getI (Yi q1.heap i1 x1) k1) fun x4 =>
 some (Qg.mk (Yi (Yi q1.heap i1 x1) k1 x2) q1.count)
def YZ (j_:Qg×Int):Option ((Qg×Int)⊕(Qg⊕Qg)) :=
 oun j_ fun q2 i1 =>
 bif (decide (0<i1)) then
  Option.bind (Zf q2 i1 (w64 (Int.tdiv (w64 (i1-1)) 2))) fun r1 =>
  bif (!r1) then
   some (.inr (.inr q2))
  else
   Option.bind (Y5 q2 i1 (w64 (Int.tdiv (w64 (i1-1)) 2))) fun r2 =>
   some (.inl (r2,w64 (Int.tdiv (w64 (i1-1)) 2)))
 else
  some (.inr (.inl q2))
def ZK (F:Nat) (q1:Qg) (x1:Q9):Option (Qg) :=
 Option.bind (Z0 q1.heap [(QQ.mk x1 q1.count)]) fun l1 =>
 Option.bind (
  iter (YZ) F ((Qg.mk l1 (w64 (q1.count+1))),w64 (((l1.length:Nat):Int)-1))) (fun o_=>QI o_ (fun q3 =>
  some q3) (fun rv1453=>some rv1453))
def JU (q1:Qg):Option (Int) :=
 some ((q1.heap.length:Nat):Int)
def Jx (q1:Qg):Option (Q9×Bool) :=
 Option.bind (JU q1) fun r1 =>
 bif (decide (r1=0)) then
  some ((Q9.mk 0 (Ql.mk 0 0)),false)
 else
  Option.bind (getI q1.heap 0) fun x1 =>
  some (x1.value,true)
def pqueue_Queue_stop_sink_l1 (i1:Int) (j_:(List QQ)×Int×Int×Int):Option (((List QQ)×Int×Int×Int)⊕(((List QQ)×Int×Int))) :=
 oun j_ fun f3 j_=>oun j_ fun f4 j_=>oun j_ fun next1 k1 =>
 Option.bind (
  bif (decide (k1≤(w64 ((w64 (2*i1))+2)))) then
   some (decide (k1<((f3.length:Nat):Int)))
  else
   some false) (fun v1 =>
  bif v1 then
   Option.bind (
    Option.bind (Zf (Qg.mk f3 f4) k1 next1) fun r1 =>
    bif r1 then
     some ((Qg.mk f3 f4).heap,k1)
    else
     some ((Qg.mk f3 f4).heap,next1)) (fun j_=>oun j_ fun f5 next2 =>
    some (.inl (f5,(Qg.mk f3 f4).count,next2,w64 (k1+1))))
  else
   some (.inr (f3,f4,next1)))
def Y0 (F:Nat) (j_:(List QQ)×Int×Int):Option (((List QQ)×Int×Int)⊕(Qg)) :=
 oun j_ fun f1 j_=>oun j_ fun f2 i1 =>
 Option.bind (
  iter (pqueue_Queue_stop_sink_l1 i1) F (f1,f2,i1,w64 ((w64 (2*i1))+1))) (fun j_=>oun j_ fun f6 j_=>oun j_ fun f7 next3 =>
  bif (decide (next3=i1)) then
   some (.inr (Qg.mk f6 f7))
  else
   Option.bind (Y5 (Qg.mk f6 f7) i1 next3) fun r2 =>
   some (.inl (r2.heap,r2.count,next3)))
def Y4 (F:Nat) (q1:Qg):Option (Qg) :=
 Option.bind (
  iter (Y0 F) F (q1.heap,q1.count,0)) (fun rv1661=>some rv1661)
def Zq (F:Nat) (q1:Qg):Option (Q9×Bool×Qg) :=
 Option.bind (Jx q1) fun j_=>oun j_ fun r1 r2 =>
 bif (!r2) then
  some (r1,false,q1)
 else
  Option.bind (Y5 q1 0 (w64 (((q1.heap.length:Nat):Int)-1))) fun r3 =>
  Option.bind (WI r3.heap (w64 (((q1.heap.length:Nat):Int)-1)) ((r3.heap.length:Nat):Int)) fun l1 =>
  Option.bind (WI (Qfc r3.heap (w64 (((q1.heap.length:Nat):Int)-1)) (QQ.mk (Q9.mk 0 (Ql.mk 0 0)) 0)) 0 (w64 (((q1.heap.length:Nat):Int)-1))) fun l2 =>
  Option.bind (Y4 F (Qg.mk l2 r3.count)) fun r4 =>
  some (r1,true,r4)
def Qb0 (x1:QK):Option (Int×Int) :=
 some (x1.From,x1.To)
def Qcm (l1:Ql) (x1:QK):Option (Ql) :=
 some (Ql.mk (w64 (l1.Secs+x1.Secs)) (w64 (l1.Meters+x1.Meters)))
def JG (l1:(List Ql)) (j_:(List Ql)×Int):Option (((List Ql)×Int)⊕((List Ql))) :=
 oun j_ fun out1 v1 =>
 bif (decide (v1<((l1.length:Nat):Int))) then
  Option.bind (Qcc) fun r2 =>
  Option.bind (getI out1 v1) fun x1 =>
  some (.inl ((Yi out1 v1 r2),w64 (v1+1)))
 else
  some (.inr out1)
def JH (F:Nat) (r1:QM) (r5:Q9) (j_:(List Ql)×Qg×Int):Option (((List Ql)×Qg×Int)⊕(((List Ql)×Qg))) :=
 oun j_ fun out4 j_=>oun j_ fun q2 v2 =>
 bif (decide (v2<((r1.Edges.length:Nat):Int))) then
  Option.bind (
   Option.bind (getI r1.Edges v2) fun x4 =>
   Option.bind (Qb0 x4) fun j_=>oun j_ fun r8 r9 =>
   bif (!(decide (r8=r5.node))) then
    some (out4,q2)
   else
    Option.bind (Qcm r5.leg x4) fun r10 =>
    Option.bind (getI out4 r9) fun x5 =>
    Option.bind (QaR r10 x5) fun r11 =>
    bif r11 then
     Option.bind (getI out4 r9) fun x6 =>
     Option.bind (ZK F q2 (Q9.mk r9 r10)) fun r12 =>
     some ((Yi out4 r9 r10),r12)
    else
     some (out4,q2)) (fun j_=>oun j_ fun out5 q3 =>
   some (.inl (out5,q3,w64 (v2+1))))
 else
  some (.inr (out4,q2))
def JI (F:Nat) (r1:QM) (j_:(List Ql)×Qg):Option (((List Ql)×Qg)⊕((List Ql))) :=
 oun j_ fun out3 q1 =>
 Option.bind (Zq F q1) fun j_=>oun j_ fun r5 j_=>oun j_ fun r6 r7 =>
 bif (!r6) then
  some (.inr out3)
 else
  Option.bind (getI out3 r5.node) fun x3 =>
  bif (!(decide (x3=r5.leg))) then
   some (.inl (out3,r7))
  else
   Option.bind (
    iter (JH F r1 r5) (((r1.Edges.length:Nat):Int).toNat+1) (out3,r7,0)) (fun j_=>oun j_ fun out6 q4 =>
    some (.inl (out6,q4)))
def Vv (F:Nat) (r1:QM) (f_from1:Int):Option ((List Ql)) :=
 Option.bind (QbQ (Ql.mk 0 0) r1.Nodes) fun l1 =>
 Option.bind (
  iter (JG l1) (((l1.length:Nat):Int).toNat+1) (l1,0)) (fun out2 =>
  Option.bind (getI out2 f_from1) fun x2 =>
  Option.bind (Vg) fun r3 =>
  Option.bind (ZK F r3 (Q9.mk f_from1 (Ql.mk 0 0))) fun r4 =>
  Option.bind (
   iter (JI F r1) F ((Yi out2 f_from1 (Ql.mk 0 0)),r4)) (fun rv1471=>some rv1471))
def Qcb (F:Nat) (r1:QM) (f_from1:Int):Option ((List Ql)×Int) :=
 Option.bind (QaF r1) fun r2 =>
 bif (!(decide (r2=0))) then
  some ([],r2)
 else
  Option.bind (
   bif (decide (f_from1<0)) then
    some true
   else
    some (decide (r1.Nodes≤f_from1))) (fun v2 =>
   bif v2 then
    some ([],7)
   else
    Option.bind (Vv F r1 f_from1) fun r3 =>
    some (r3,0))
def VS (F:Nat) (w1:QG) (f_to1:Int):Option (Ql×Bool×QG) :=
 Option.bind (
  bif (!((QaD w1.place.node w1.legs).isSome)) then
   Option.bind (Qcb F w1.p.Road w1.place.node) fun j_=>oun j_ fun r1 r2 =>
   some (r1,(Qc9 w1.place.node r1 w1.legs))
  else
   some (((QaD w1.place.node w1.legs).getD []),w1.legs)) (fun j_=>oun j_ fun l1 m1 =>
  Option.bind (getI l1 f_to1) fun x1 =>
  Option.bind (getI l1 f_to1) fun x2 =>
  some (x1,(decide (0≤x2.Secs)),(QG.mk w1.place w1.p w1.v m1 w1.visits)))
def W1 (w1:QG) (stop1:Int) (arrive1:Int) (start1:Int):Option (QG) :=
 Option.bind (Z0 w1.visits [(QN.mk stop1 w1.place.node arrive1 start1 w1.place.time w1.place.load)]) fun l1 =>
 some (QG.mk w1.place w1.p w1.v w1.legs l1)
def Vd (F:Nat) (w1:QG) (t1:Qa) (i1:Int):Option (Int×QG) :=
 Option.bind (getI t1.Stops i1) fun x1 =>
 Option.bind (
  bif (!(decide (x1=(-1)))) then
   Option.bind (
    bif (decide (x1<0)) then
     some true
    else
     some (decide (((w1.p.Demands.length:Nat):Int)≤x1))) (fun v1 =>
    bif v1 then
     some (.inr (7,w1))
    else
     Option.bind (WI t1.Stops 0 i1) fun l1 =>
     Option.bind (YD l1 x1) fun r1 =>
     bif r1 then
      some (.inr (6,w1))
     else
      Option.bind (getI w1.p.Demands x1) fun x2 =>
      Option.bind (Z7 w1.v x2.Kind) fun r2 =>
      bif (!r2) then
       some (.inr (21,w1))
      else
       Option.bind (getI w1.p.Demands x1) fun x3 =>
       some (.inl x3.Node))
  else
   some (.inl w1.p.Unload)) (fun o_=>QI o_ (fun node1 =>
  Option.bind (VS F w1 node1) fun j_=>oun j_ fun r3 j_=>oun j_ fun r4 r5 =>
  bif (!r4) then
   some (22,r5)
  else
   bif (decide (x1=(-1))) then
    Option.bind (W1 (QG.mk (Z4.mk node1 (w64 ((w64 (r5.place.time+r3.Secs))+r5.p.UnloadSecs)) 0 (w64 (r5.place.meters+r3.Meters))) r5.p r5.v r5.legs r5.visits) x1 (w64 (r5.place.time+r3.Secs)) (w64 (r5.place.time+r3.Secs))) fun r6 =>
    some (0,r6)
   else
    Option.bind (getI r5.p.Demands x1) fun x4 =>
    bif (decide (x4.When.To≤(max (w64 (r5.place.time+r3.Secs)) x4.When.From))) then
     some (19,(QG.mk (Z4.mk node1 (w64 (r5.place.time+r3.Secs)) r5.place.load (w64 (r5.place.meters+r3.Meters))) r5.p r5.v r5.legs r5.visits))
    else
     bif (decide (r5.v.Grams<(w64 (r5.place.load+x4.Grams)))) then
      some (20,(QG.mk (Z4.mk node1 (w64 (r5.place.time+r3.Secs)) r5.place.load (w64 (r5.place.meters+r3.Meters))) r5.p r5.v r5.legs r5.visits))
     else
      Option.bind (W1 (QG.mk (Z4.mk node1 (w64 ((max (w64 (r5.place.time+r3.Secs)) x4.When.From)+x4.Service)) (w64 (r5.place.load+x4.Grams)) (w64 (r5.place.meters+r3.Meters))) r5.p r5.v r5.legs r5.visits) x1 (w64 (r5.place.time+r3.Secs)) (max (w64 (r5.place.time+r3.Secs)) x4.When.From)) fun r7 =>
      some (0,r7)) (fun rv2778=>some rv2778))
def Vw (F:Nat) (w1:QG):Option (Int×QG) :=
 Option.bind (VS F w1 w1.v.Depot) fun j_=>oun j_ fun r1 j_=>oun j_ fun r2 r3 =>
 bif (!r2) then
  some (22,r3)
 else
  bif (!(decide (r3.place.load=0))) then
   some (20,r3)
  else
   bif (decide (r3.v.Shift.To≤(w64 (r3.place.time+r1.Secs)))) then
    some (19,(QG.mk (Z4.mk r3.v.Depot (w64 (r3.place.time+r1.Secs)) r3.place.load (w64 (r3.place.meters+r1.Meters))) r3.p r3.v r3.legs r3.visits))
   else
    Option.bind (W1 (QG.mk (Z4.mk r3.v.Depot (w64 (r3.place.time+r1.Secs)) r3.place.load (w64 (r3.place.meters+r1.Meters))) r3.p r3.v r3.legs r3.visits) (-2) (w64 (r3.place.time+r1.Secs)) (w64 (r3.place.time+r1.Secs))) fun r4 =>
    some (0,r4)
def JD (F:Nat) (t1:Qa) (j_:QG×Int×Int):Option ((QG×Int×Int)⊕((QG×Int×Int))) :=
 oun j_ fun q1 j_=>oun j_ fun e1 f_at1 =>
 bif (decide (f_at1<((t1.Stops.length:Nat):Int))) then
  Option.bind (Vd F q1 t1 f_at1) fun j_=>oun j_ fun r1 r2 =>
  bif (!(decide (r1=0))) then
   some (.inr (r2,r1,f_at1))
  else
   some (.inl (r2,r1,w64 (f_at1+1)))
 else
  some (.inr (q1,e1,f_at1))
def Vz (F:Nat) (p1:Qe) (t1:Qa):Option ((Option QG)×Int×Int) :=
 Option.bind (
  bif (decide (t1.Vehicle<0)) then
   some true
  else
   some (decide (((p1.Vehicles.length:Nat):Int)≤t1.Vehicle))) (fun v1 =>
  bif v1 then
   some (none,7,0)
  else
   bif (decide (40<((t1.Stops.length:Nat):Int))) then
    some (none,8,0)
   else
    Option.bind (getI p1.Vehicles t1.Vehicle) fun x1 =>
    Option.bind (
     iter (JD F t1) (((t1.Stops.length:Nat):Int).toNat+1) ((QG.mk (Z4.mk x1.Depot x1.Shift.From 0 0) p1 x1 [] []),0,0)) (fun j_=>oun j_ fun q2 j_=>oun j_ fun e2 f_at2 =>
     Option.bind (
      bif (decide (e2=0)) then
       Option.bind (Vw F q2) fun j_=>oun j_ fun r3 r4 =>
       some (r4,r3)
      else
       some (q2,e2)) (fun j_=>oun j_ fun q3 e3 =>
      bif (!(decide (e3=0))) then
       some (none,e3,f_at2)
      else
       some ((some q3),0,0))))
def Qdj (F:Nat) (p1:Qe) (t1:Qa):Option (Int×Int) :=
 Option.bind (VI F p1) fun r1 =>
 bif (!(decide (r1=0))) then
  some (0,r1)
 else
  Option.bind (Vz F p1 t1) fun j_=>oun j_ fun r2 j_=>oun j_ fun r3 r4 =>
  bif (!(decide (r3=0))) then
   some (0,r3)
  else
   Option.bind (r2) fun q1 =>
   some (q1.place.meters,0)
def Yc (a1:Qc) (b1:Qc):Option (Int) :=
 some (w64 (a1.cost-b1.cost))
def JL (a1:Int) (j_:(List Qc)×Int):Option (((List Qc)×Int)⊕((List Qc))) :=
 oun j_ fun data3 j1 =>
 Option.bind (
  bif (decide (a1<j1)) then
   Option.bind (getI data3 j1) fun x1 =>
   Option.bind (getI data3 (w64 (j1-1))) fun x2 =>
   Option.bind (Yc x1 x2) fun r1 =>
   some (decide (r1<0))
  else
   some false) (fun v1 =>
  bif v1 then
   Option.bind (getI data3 (w64 (j1-1))) fun x3 =>
   Option.bind (getI data3 j1) fun x4 =>
   Option.bind (getI data3 j1) fun x5 =>
   Option.bind (getI (Yi data3 j1 x3) (w64 (j1-1))) fun x6 =>
   some (.inl ((Yi (Yi data3 j1 x3) (w64 (j1-1)) x4),w64 (j1-1)))
  else
   some (.inr data3))
def JM (F:Nat) (a1:Int) (b1:Int) (j_:(List Qc)×Int):Option (((List Qc)×Int)⊕((List Qc))) :=
 oun j_ fun data2 i1 =>
 bif (decide (i1<b1)) then
  Option.bind (
   Option.bind (
    iter (JL a1) F (data2,i1)) (fun data4 =>
    some data4)) (fun data5 =>
   some (.inl (data5,w64 (i1+1))))
 else
  some (.inr data2)
def YH (F:Nat) (data1:(List Qc)) (a1:Int) (b1:Int):Option ((List Qc)) :=
 Option.bind (
  iter (JM F a1 b1) F (data1,w64 (a1+1))) (fun data6 =>
  some data6)
def Wm (a1:Int) (b1:Int) (n2:Int) (j_:(List Qc)×Int):Option (((List Qc)×Int)⊕((List Qc))) :=
 oun j_ fun data2 i1 =>
 bif (decide (i1<n2)) then
  Option.bind (getI data2 (w64 (b1+i1))) fun x1 =>
  Option.bind (getI data2 (w64 (a1+i1))) fun x2 =>
  Option.bind (getI data2 (w64 (a1+i1))) fun x3 =>
  Option.bind (getI (Yi data2 (w64 (a1+i1)) x1) (w64 (b1+i1))) fun x4 =>
  some (.inl ((Yi (Yi data2 (w64 (a1+i1)) x1) (w64 (b1+i1)) x2),w64 (i1+1)))
 else
  some (.inr data2)
def Yv (data1:(List Qc)) (a1:Int) (b1:Int) (n2:Int):Option ((List Qc)) :=
 Option.bind (
  iter (Wm a1 b1 n2) (n2.toNat+1) (data1,0)) (fun data3 =>
  some data3)
def WZ (m1:Int) (j_:(List Qc)×Int×Int):Option (((List Qc)×Int×Int)⊕(((List Qc)×Int))) :=
 oun j_ fun data2 j_=>oun j_ fun i1 j1 =>
 bif (!(decide (i1=j1))) then
  bif (decide (j1<i1)) then
   Option.bind (Yv data2 (w64 (m1-i1)) m1 j1) fun r1 =>
   some (.inl (r1,w64 (i1-j1),j1))
  else
   Option.bind (Yv data2 (w64 (m1-i1)) (w64 ((w64 (m1+j1))-i1)) i1) fun r2 =>
   some (.inl (r2,i1,w64 (j1-i1)))
 else
  some (.inr (data2,i1))
def JO (F:Nat) (data1:(List Qc)) (a1:Int) (m1:Int) (b1:Int):Option ((List Qc)) :=
 Option.bind (
  iter (WZ m1) F (data1,w64 (m1-a1),w64 (b1-m1))) (fun j_=>oun j_ fun data3 i2 =>
  Option.bind (Yv data3 (w64 (m1-i2)) m1 i2) fun r3 =>
  some r3)
def WA (data1:(List Qc)) (a1:Int) (j_:Int×Int):Option ((Int×Int)⊕(Int)) :=
 oun j_ fun i1 j1 =>
 bif (decide (i1<j1)) then
  Option.bind (WG (0≤1∧1≤64)) fun _ =>
  Option.bind (getI data1 (w64 ((IntKind.u64.wrap (w64 (i1+j1)))/2^(1:Int).toNat))) fun x1 =>
  Option.bind (getI data1 a1) fun x2 =>
  Option.bind (Yc x1 x2) fun r1 =>
  bif (decide (r1<0)) then
   some (.inl (w64 ((w64 ((IntKind.u64.wrap (w64 (i1+j1)))/2^(1:Int).toNat))+1),j1))
  else
   some (.inl (i1,w64 ((IntKind.u64.wrap (w64 (i1+j1)))/2^(1:Int).toNat)))
 else
  some (.inr i1)
def WB (i2:Int) (j_:(List Qc)×Int):Option (((List Qc)×Int)⊕((List Qc))) :=
 oun j_ fun data2 k1 =>
 bif (decide (k1<(w64 (i2-1)))) then
  Option.bind (getI data2 (w64 (k1+1))) fun x3 =>
  Option.bind (getI data2 k1) fun x4 =>
  Option.bind (getI data2 k1) fun x5 =>
  Option.bind (getI (Yi data2 k1 x3) (w64 (k1+1))) fun x6 =>
  some (.inl ((Yi (Yi data2 k1 x3) (w64 (k1+1)) x4),w64 (k1+1)))
 else
  some (.inr data2)
def WC (data1:(List Qc)) (m1:Int) (j_:Int×Int):Option ((Int×Int)⊕(Int)) :=
 oun j_ fun i3 j2 =>
 bif (decide (i3<j2)) then
  Option.bind (WG (0≤1∧1≤64)) fun _ =>
  Option.bind (getI data1 m1) fun x7 =>
  Option.bind (getI data1 (w64 ((IntKind.u64.wrap (w64 (i3+j2)))/2^(1:Int).toNat))) fun x8 =>
  Option.bind (Yc x7 x8) fun r2 =>
  bif (!(decide (r2<0))) then
   some (.inl (w64 ((w64 ((IntKind.u64.wrap (w64 (i3+j2)))/2^(1:Int).toNat))+1),j2))
  else
   some (.inl (i3,w64 ((IntKind.u64.wrap (w64 (i3+j2)))/2^(1:Int).toNat)))
 else
  some (.inr i3)
def WD (i4:Int) (j_:(List Qc)×Int):Option (((List Qc)×Int)⊕((List Qc))) :=
 oun j_ fun data4 k2 =>
 bif (decide (i4<k2)) then
  Option.bind (getI data4 (w64 (k2-1))) fun x9 =>
  Option.bind (getI data4 k2) fun x10 =>
  Option.bind (getI data4 k2) fun x11 =>
  Option.bind (getI (Yi data4 k2 x9) (w64 (k2-1))) fun x12 =>
  some (.inl ((Yi (Yi data4 k2 x9) (w64 (k2-1)) x10),w64 (k2-1)))
 else
  some (.inr data4)
def WE (data1:(List Qc)) (j_:Int×Int×Int):Option ((Int×Int×Int)⊕(Int)) :=
 oun j_ fun start2 j_=>oun j_ fun r4 p1 =>
 bif (decide (start2<r4)) then
  Option.bind (WG (0≤1∧1≤64)) fun _ =>
  Option.bind (getI data1 (w64 (p1-(w64 ((IntKind.u64.wrap (w64 (start2+r4)))/2^(1:Int).toNat))))) fun x13 =>
  Option.bind (getI data1 (w64 ((IntKind.u64.wrap (w64 (start2+r4)))/2^(1:Int).toNat))) fun x14 =>
  Option.bind (Yc x13 x14) fun r5 =>
  bif (!(decide (r5<0))) then
   some (.inl (w64 ((w64 ((IntKind.u64.wrap (w64 (start2+r4)))/2^(1:Int).toNat))+1),r4,p1))
  else
   some (.inl (start2,w64 ((IntKind.u64.wrap (w64 (start2+r4)))/2^(1:Int).toNat),p1))
 else
  some (.inr start2)
def YW (rec_:(List Qc)→Int→Int→Int→Option ((List Qc))) (F:Nat) (data1:(List Qc)) (a1:Int) (m1:Int) (b1:Int):Option ((List Qc)) :=
 bif (decide ((w64 (m1-a1))=1)) then
  Option.bind (
   iter (WA data1 a1) F (m1,b1)) (fun i2 =>
   Option.bind (
    iter (WB i2) F (data1,a1)) (fun data3 =>
    some data3))
 else
  bif (decide ((w64 (b1-m1))=1)) then
   Option.bind (
    iter (WC data1 m1) F (a1,m1)) (fun i4 =>
    Option.bind (
     iter (WD i4) F (data1,m1)) (fun data5 =>
     some data5))
  else
   Option.bind (WG (0≤1∧1≤64)) fun _ =>
   Option.bind (
    bif (decide ((w64 ((IntKind.u64.wrap (w64 (a1+b1)))/2^(1:Int).toNat))<m1)) then
     some (w64 ((IntKind.u64.wrap (w64 (a1+b1)))/2^(1:Int).toNat),w64 ((w64 ((IntKind.u64.wrap (w64 (a1+b1)))/2^(1:Int).toNat))+m1),w64 ((w64 ((w64 ((IntKind.u64.wrap (w64 (a1+b1)))/2^(1:Int).toNat))+m1))-b1),w64 ((IntKind.u64.wrap (w64 (a1+b1)))/2^(1:Int).toNat))
    else
     some (w64 ((IntKind.u64.wrap (w64 (a1+b1)))/2^(1:Int).toNat),w64 ((w64 ((IntKind.u64.wrap (w64 (a1+b1)))/2^(1:Int).toNat))+m1),a1,m1)) (fun j_=>oun j_ fun mid1 j_=>oun j_ fun n2 j_=>oun j_ fun start1 r3 =>
    Option.bind (
     iter (WE data1) F (start1,r3,w64 (n2-1))) (fun start3 =>
     Option.bind (
      bif (decide (start3<m1)) then
       some (w64 (n2-start3),(decide (m1<(w64 (n2-start3)))))
      else
       some (w64 (n2-start3),false)) (fun j_=>oun j_ fun f_end1 v1 =>
      Option.bind (
       bif v1 then
        Option.bind (JO F data1 start3 m1 f_end1) fun r6 =>
        some r6
       else
        some data1) (fun data6 =>
       Option.bind (
        bif (decide (a1<start3)) then
         some (decide (start3<mid1))
        else
         some false) (fun v2 =>
        Option.bind (
         bif v2 then
          Option.bind (rec_ data6 a1 start3 mid1) fun r7 =>
          some r7
         else
          some data6) (fun data7 =>
         Option.bind (
          bif (decide (mid1<f_end1)) then
           some (decide (f_end1<b1))
          else
           some false) (fun v3 =>
          Option.bind (
           bif v3 then
            Option.bind (rec_ data7 mid1 f_end1 b1) fun r8 =>
            some r8
           else
            some data7) (fun data8 =>
           some data8))))))))
def Q8:Nat→(List Qc)→Int→Int→Int→Option ((List Qc))
 | 0,_,_,_,_=>none
 | F+1,data1,a1,m1,b1=>YW (Q8 F) F data1 a1 m1 b1
def W0 (F:Nat) (n2:Int) (j_:(List Qc)×Int×Int):Option (((List Qc)×Int×Int)⊕(((List Qc)×Int))) :=
 oun j_ fun data2 j_=>oun j_ fun a1 b1 =>
 bif (decide (b1≤n2)) then
  Option.bind (YH F data2 a1 b1) fun r1 =>
  some (.inl (r1,b1,w64 (b1+20)))
 else
  some (.inr (data2,a1))
def Y7 (F:Nat) (n2:Int) (blockSize1:Int) (j_:(List Qc)×Int×Int):Option (((List Qc)×Int×Int)⊕(((List Qc)×Int))) :=
 oun j_ fun data5 j_=>oun j_ fun a3 b2 =>
 bif (decide (b2≤n2)) then
  Option.bind (Q8 F data5 a3 (w64 (a3+blockSize1)) b2) fun r3 =>
  some (.inl (r3,b2,w64 (b2+(w64 (2*blockSize1)))))
 else
  some (.inr (data5,a3))
def Y8 (F:Nat) (n2:Int) (j_:(List Qc)×Int):Option (((List Qc)×Int)⊕((List Qc))) :=
 oun j_ fun data4 blockSize1 =>
 bif (decide (blockSize1<n2)) then
  Option.bind (
   iter (Y7 F n2 blockSize1) F (data4,0,w64 (2*blockSize1))) (fun j_=>oun j_ fun data6 a4 =>
   Option.bind (
    bif (decide ((w64 (a4+blockSize1))<n2)) then
     Option.bind (Q8 F data6 a4 (w64 (a4+blockSize1)) n2) fun r4 =>
     some r4
    else
     some data6) (fun data7 =>
    some (.inl (data7,w64 (blockSize1*2)))))
 else
  some (.inr data4)
def ZE (F:Nat) (data1:(List Qc)) (n2:Int):Option ((List Qc)) :=
 Option.bind (
  iter (W0 F n2) F (data1,0,20)) (fun j_=>oun j_ fun data3 a2 =>
  Option.bind (YH F data3 a2 n2) fun r2 =>
  Option.bind (
   iter (Y8 F n2) F (r2,20)) (fun data8 =>
   some data8))
def Ym (F:Nat) (x1:(List Qc)):Option ((List Qc)) :=
 Option.bind (ZE F x1 ((x1.length:Nat):Int)) fun r1 =>
 some r1
def Wi (F:Nat) (p1:Qe) (r3:(List Qa)) (j_:(List Qc)×Int):Option (((List Qc)×Int)⊕((List Qc))) :=
 oun j_ fun out1 v4 =>
 bif (decide (v4<((r3.length:Nat):Int))) then
  Option.bind (
   Option.bind (getI r3 v4) fun x1 =>
   Option.bind (Qdj F p1 x1) fun j_=>oun j_ fun r4 r5 =>
   bif (decide (r5=0)) then
    Option.bind (Z0 out1 [(Qc.mk x1 r4)]) fun l1 =>
    some l1
   else
    some out1) (fun out2 =>
   some (.inl (out2,w64 (v4+1))))
 else
  some (.inr out1)
def QT (F:Nat) (p1:Qe) (t1:Qa) (d1:Int):Option ((List Qc)×Int) :=
 Option.bind (VI F p1) fun r1 =>
 bif (!(decide (r1=0))) then
  some ([],r1)
 else
  Option.bind (
   bif (decide (t1.Vehicle<0)) then
    some true
   else
    bif (decide (((p1.Vehicles.length:Nat):Int)≤t1.Vehicle)) then
     some true
    else
     bif (decide (d1<0)) then
      some true
     else
      some (decide (((p1.Demands.length:Nat):Int)≤d1))) (fun v2 =>
   bif v2 then
    some ([],7)
   else
    Option.bind (YD t1.Stops d1) fun r2 =>
    bif r2 then
     some ([],6)
    else
     bif (decide (40≤((t1.Stops.length:Nat):Int))) then
      some ([],0)
     else
      Option.bind (Vf F t1 d1) fun r3 =>
      Option.bind (
       iter (Wi F p1 r3) (((r3.length:Nat):Int).toNat+1) ([],0)) (fun out3 =>
       Option.bind (Ym F out3) fun r6 =>
       some (r6,0)))
def Va (l1:(List Qc)) (j_:(List Qc)×Int):Option (((List Qc)×Int)⊕((List Qc))) :=
 oun j_ fun tours1 v2 =>
 bif (decide (v2<((l1.length:Nat):Int))) then
  Option.bind (getI tours1 v2) fun x1 =>
  some (.inl ((Yi tours1 v2 (Qc.mk (Qa.mk v2 x1.tour.Stops) x1.cost)),w64 (v2+1)))
 else
  some (.inr tours1)
def Z5 (F:Nat) (p1:Qe) (tours3:(List Qc)) (v3:Int) (j_:Int×(List Int)×Int×Int×Int):Option ((Int×(List Int)×Int×Int×Int)⊕((Int×(List Int)×Int×Int))) :=
 oun j_ fun f2 j_=>oun j_ fun f3 j_=>oun j_ fun f4 j_=>oun j_ fun f_at1 v4 =>
 bif (decide (v4<((tours3.length:Nat):Int))) then
  Option.bind (
   Option.bind (getI tours3 v4) fun x2 =>
   Option.bind (QT F p1 x2.tour v3) fun j_=>oun j_ fun r2 r3 =>
   Option.bind (
    bif (decide (0<((r2.length:Nat):Int))) then
     bif (decide (f_at1<0)) then
      some true
     else
      Option.bind (getI r2 0) fun x3 =>
      Option.bind (getI tours3 f_at1) fun x4 =>
      some (decide ((w64 (x3.cost-x2.cost))<(w64 (f4-x4.cost))))
    else
     some false) (fun v6 =>
    bif v6 then
     Option.bind (getI r2 0) fun x5 =>
     some (x5.tour.Vehicle,x5.tour.Stops,x5.cost,v4)
    else
     some (f2,f3,f4,f_at1))) (fun j_=>oun j_ fun f5 j_=>oun j_ fun f6 j_=>oun j_ fun f7 f_at2 =>
   some (.inl (f5,f6,f7,f_at2,w64 (v4+1))))
 else
  some (.inr (f2,f3,f4,f_at1))
def Wp (F:Nat) (p1:Qe) (j_:(List Qc)×(List Int)×Int):Option (((List Qc)×(List Int)×Int)⊕(((List Qc)×(List Int)))) :=
 oun j_ fun tours3 j_=>oun j_ fun f1 v3 =>
 bif (decide (v3<((p1.Demands.length:Nat):Int))) then
  Option.bind (
   Option.bind (
    iter (Z5 F p1 tours3 v3) (((tours3.length:Nat):Int).toNat+1) (0,[],0,(-1),0)) (fun j_=>oun j_ fun f8 j_=>oun j_ fun f9 j_=>oun j_ fun f10 f_at3 =>
    bif (decide (f_at3<0)) then
     Option.bind (Z0 f1 [v3]) fun l2 =>
     some (tours3,l2)
    else
     Option.bind (getI tours3 f_at3) fun x6 =>
     some ((Yi tours3 f_at3 (Qc.mk (Qa.mk f8 f9) f10)),f1))) (fun j_=>oun j_ fun tours4 f11 =>
   some (.inl (tours4,f11,w64 (v3+1))))
 else
  some (.inr (tours3,f1))
def Vb (tours5:(List Qc)) (j_:(List Qa)×Int):Option (((List Qa)×Int)⊕((List Qa))) :=
 oun j_ fun f13 v7 =>
 bif (decide (v7<((tours5.length:Nat):Int))) then
  Option.bind (
   Option.bind (getI tours5 v7) fun x7 =>
   bif (decide (0<((x7.tour.Stops.length:Nat):Int))) then
    Option.bind (Z0 f13 [x7.tour]) fun l3 =>
    some l3
   else
    some f13) (fun f14 =>
   some (.inl (f14,w64 (v7+1))))
 else
  some (.inr f13)
def Qaf (F:Nat) (p1:Qe):Option (Qf×Int) :=
 Option.bind (VI F p1) fun r1 =>
 bif (!(decide (r1=0))) then
  some ((Qf.mk [] []),r1)
 else
  Option.bind (QbQ (Qc.mk (Qa.mk 0 []) 0) ((p1.Vehicles.length:Nat):Int)) fun l1 =>
  Option.bind (
   iter (Va l1) (((l1.length:Nat):Int).toNat+1) (l1,0)) (fun tours2 =>
   Option.bind (
    iter (Wp F p1) (((p1.Demands.length:Nat):Int).toNat+1) (tours2,[],0)) (fun j_=>oun j_ fun tours5 f12 =>
    Option.bind (
     iter (Vb tours5) (((tours5.length:Nat):Int).toNat+1) ([],0)) (fun f15 =>
     some ((Qf.mk f15 f12),0))))
def QcJ (u1:Qa) (b1:Qa):Option (Bool) :=
 some (decide (u1.Vehicle=b1.Vehicle))
def Zb (s1:(List Qa)) (b1:Qa) (v1:Int):Option ((Int)⊕(Unit⊕Int)) :=
 bif (decide (v1<((s1.length:Nat):Int))) then
  Option.bind (getI s1 v1) fun x1 =>
  Option.bind (QcJ x1 b1) fun r1 =>
  bif r1 then
   some (.inr (.inr v1))
  else
   some (.inl (w64 (v1+1)))
 else
  some (.inr (.inl ()))
def JR (s1:(List Qa)) (b1:Qa):Option (Int) :=
 Option.bind (
  iter (Zb s1 b1) (((s1.length:Nat):Int).toNat+1) 0) (fun o_=>QI o_ (fun _ =>
  some (-1)) (fun rv10019=>some rv10019))
def Za (s1:(List Qa)) (b1:Qa):Option (Bool) :=
 Option.bind (JR s1 b1) fun r1 =>
 some (decide (0≤r1))
def QcK (n1:Int):Option (Bool) :=
 some (decide (1<n1))
def Zy (s1:(List Int)) (v1:Int):Option ((Int)⊕(Unit⊕Int)) :=
 bif (decide (v1<((s1.length:Nat):Int))) then
  Option.bind (getI s1 v1) fun x1 =>
  Option.bind (QcK x1) fun r1 =>
  bif r1 then
   some (.inr (.inr v1))
  else
   some (.inl (w64 (v1+1)))
 else
  some (.inr (.inl ()))
def J6 (s1:(List Int)):Option (Int) :=
 Option.bind (
  iter (Zy s1) (((s1.length:Nat):Int).toNat+1) 0) (fun o_=>QI o_ (fun _ =>
  some (-1)) (fun rv10164=>some rv10164))
def Zx (s1:(List Int)):Option (Bool) :=
 Option.bind (J6 s1) fun r1 =>
 some (decide (0≤r1))
def Qai (F:Nat) (p1:Qe) (x1:Qf) (j_:Int×Int):Option ((Int×Int)⊕(Int⊕(Int×Int))) :=
 oun j_ fun sum1 v2 =>
 bif (decide (v2<((x1.Tours.length:Nat):Int))) then
  Option.bind (getI x1.Tours v2) fun x2 =>
  Option.bind (WI x1.Tours 0 v2) fun l1 =>
  Option.bind (Za l1 x2) fun r2 =>
  bif r2 then
   some (.inr (.inr (0,6)))
  else
   Option.bind (Vz F p1 x2) fun j_=>oun j_ fun r3 j_=>oun j_ fun r4 r5 =>
   bif (!(decide (r4=0))) then
    some (.inr (.inr (0,r4)))
   else
    Option.bind (r3) fun q1 =>
    some (.inl (w64 (sum1+q1.place.meters),w64 (v2+1)))
 else
  some (.inr (.inl sum1))
def Qaj (x1:Qf) (j_:(List Int)×Int):Option (((List Int)×Int)⊕((List Int)⊕(Int×Int))) :=
 oun j_ fun times1 v4 =>
 bif (decide (v4<((x1.Left.length:Nat):Int))) then
  Option.bind (getI x1.Left v4) fun x3 =>
  Option.bind (
   bif (decide (x3<0)) then
    some true
   else
    some (decide (((times1.length:Nat):Int)≤x3))) (fun v5 =>
   bif v5 then
    some (.inr (.inr (0,7)))
   else
    Option.bind (getI times1 x3) fun x4 =>
    Option.bind (getI times1 x3) fun x5 =>
    some (.inl ((Yi times1 x3 (w64 (x4+1))),w64 (v4+1))))
 else
  some (.inr (.inl times1))
def Qak (x6:Qa) (j_:(List Int)×Int):Option (((List Int)×Int)⊕((List Int))) :=
 oun j_ fun times4 v7 =>
 bif (decide (v7<((x6.Stops.length:Nat):Int))) then
  Option.bind (
   Option.bind (getI x6.Stops v7) fun x7 =>
   bif (!(decide (x7=(-1)))) then
    Option.bind (getI times4 x7) fun x8 =>
    Option.bind (getI times4 x7) fun x9 =>
    some (Yi times4 x7 (w64 (x8+1)))
   else
    some times4) (fun times5 =>
   some (.inl (times5,w64 (v7+1))))
 else
  some (.inr times4)
def Qal (x1:Qf) (j_:(List Int)×Int):Option (((List Int)×Int)⊕((List Int))) :=
 oun j_ fun times3 v6 =>
 bif (decide (v6<((x1.Tours.length:Nat):Int))) then
  Option.bind (
   Option.bind (getI x1.Tours v6) fun x6 =>
   Option.bind (
    iter (Qak x6) (((x6.Stops.length:Nat):Int).toNat+1) (times3,0)) (fun times6 =>
    some times6)) (fun times7 =>
   some (.inl (times7,w64 (v6+1))))
 else
  some (.inr times3)
def Zl (F:Nat) (p1:Qe) (x1:Qf):Option (Int×Int) :=
 Option.bind (VI F p1) fun r1 =>
 bif (!(decide (r1=0))) then
  some (0,r1)
 else
  Option.bind (
   iter (Qai F p1 x1) (((x1.Tours.length:Nat):Int).toNat+1) (0,0)) (fun o_=>QI o_ (fun sum2 =>
   Option.bind (QbQ (0:Int) ((p1.Demands.length:Nat):Int)) fun l2 =>
   Option.bind (
    iter (Qaj x1) (((x1.Left.length:Nat):Int).toNat+1) (l2,0)) (fun o_=>QI o_ (fun times2 =>
    Option.bind (
     iter (Qal x1) (((x1.Tours.length:Nat):Int).toNat+1) (times2,0)) (fun times8 =>
     Option.bind (Zx times8) fun r6 =>
     bif r6 then
      some (0,6)
     else
      Option.bind (YD times8 0) fun r7 =>
      bif r7 then
       some (0,38)
      else
       some (sum2,0))) (fun rv10240=>some rv10240))) (fun rv10174=>some rv10174))
def Qbv (F:Nat) (p1:Qe) (x1:Qf):Option (Int×Int) :=
 Option.bind (Zl F p1 x1) fun j_=>oun j_ fun r1 r2 =>
 some (r1,r2)
def Qd5 (x1:Qf) (v1:Int) (v2:Int):Option ((Int)⊕(Unit⊕Qa)) :=
 bif (decide (v2<((x1.Tours.length:Nat):Int))) then
  Option.bind (getI x1.Tours v2) fun x2 =>
  bif (decide (x2.Vehicle=v1)) then
   some (.inr (.inr x2))
  else
   some (.inl (w64 (v2+1)))
 else
  some (.inr (.inl ()))
def QaK (x1:Qf) (v1:Int):Option (Qa) :=
 Option.bind (
  iter (Qd5 x1 v1) (((x1.Tours.length:Nat):Int).toNat+1) 0) (fun o_=>QI o_ (fun _ =>
  some (Qa.mk v1 [])) (fun rv10394=>some rv10394))
def J0 (k1:Int) (b1:Int):Option (Bool) :=
 some (decide (k1=b1))
def Wq (s1:(List Int)) (b1:Int) (v1:Int):Option ((Int)⊕(Unit⊕Int)) :=
 bif (decide (v1<((s1.length:Nat):Int))) then
  Option.bind (getI s1 v1) fun x1 =>
  Option.bind (J0 x1 b1) fun r1 =>
  bif r1 then
   some (.inr (.inr v1))
  else
   some (.inl (w64 (v1+1)))
 else
  some (.inr (.inl ()))
def JS (s1:(List Int)) (b1:Int):Option (Int) :=
 Option.bind (
  iter (Wq s1 b1) (((s1.length:Nat):Int).toNat+1) 0) (fun o_=>QI o_ (fun _ =>
  some (-1)) (fun rv10431=>some rv10431))
def YA (s1:(List Int)) (b1:Int) (j_:(List Int)×Int×Int):Option (((List Int)×Int×Int)⊕(((List Int)×Int))) :=
 oun j_ fun s2 j_=>oun j_ fun i1 j1 =>
 bif (decide (j1<((s1.length:Nat):Int))) then
  Option.bind (
   Option.bind (getI s2 j1) fun x1 =>
   Option.bind (J0 x1 b1) fun r2 =>
   bif (!r2) then
    Option.bind (getI s2 i1) fun x2 =>
    some ((Yi s2 i1 x1),w64 (i1+1))
   else
    some (s2,i1)) (fun j_=>oun j_ fun s3 i2 =>
   some (.inl (s3,i2,w64 (j1+1))))
 else
  some (.inr (s2,i1))
def ZI (F:Nat) (s1:(List Int)) (b1:Int):Option ((List Int)) :=
 Option.bind (JS s1 b1) fun r1 =>
 bif (decide (r1=(-1))) then
  some s1
 else
  Option.bind (
   iter (YA s1 b1) F (s1,r1,w64 (r1+1))) (fun j_=>oun j_ fun s4 i3 =>
   Option.bind (WI s4 i3 ((s4.length:Nat):Int)) fun l1 =>
   Option.bind (WI (Qfc s4 i3 0) 0 i3) fun l2 =>
   some l2)
def JZ (F:Nat) (l1:(List Int)) (n1:Int):Option ((List Int)) :=
 Option.bind (QhB l1) fun l2 =>
 Option.bind (ZI F l2 n1) fun r1 =>
 some r1
def V8 (F:Nat) (p1:Qe) (t1:Qa) (d1:Int):Option (Qa×Int) :=
 Option.bind (QT F p1 t1 d1) fun j_=>oun j_ fun r1 r2 =>
 bif (!(decide (r2=0))) then
  some ((Qa.mk 0 []),r2)
 else
  bif (decide (((r1.length:Nat):Int)=0)) then
   some ((Qa.mk 0 []),40)
  else
   Option.bind (getI r1 0) fun x1 =>
   some (x1.tour,0)
def Qa4 (s1:Int):Option (Bool) :=
 some (decide (0≤s1))
def Wr (s1:(List Int)) (v1:Int):Option ((Int)⊕(Unit⊕Int)) :=
 bif (decide (v1<((s1.length:Nat):Int))) then
  Option.bind (getI s1 v1) fun x1 =>
  Option.bind (Qa4 x1) fun r1 =>
  bif r1 then
   some (.inr (.inr v1))
  else
   some (.inl (w64 (v1+1)))
 else
  some (.inr (.inl ()))
def JT (s1:(List Int)):Option (Int) :=
 Option.bind (
  iter (Wr s1) (((s1.length:Nat):Int).toNat+1) 0) (fun o_=>QI o_ (fun _ =>
  some (-1)) (fun rv10789=>some rv10789))
def Z6 (s1:(List Int)):Option (Bool) :=
 Option.bind (JT s1) fun r1 =>
 some (decide (0≤r1))
def W9 (t1:Qa):Option (Bool) :=
 Option.bind (Z6 t1.Stops) fun r1 =>
 some r1
def JY (F:Nat) (p1:Qe) (x1:Qf) (d1:Int) (v1:Int) (f1:Int) (f2:(List Int)) (j_:(List Qa)×Int):Option (((List Qa)×Int)⊕((List Qa))) :=
 oun j_ fun f3 v4 =>
 bif (decide (v4<((p1.Vehicles.length:Nat):Int))) then
  Option.bind (
   Option.bind (
    bif (!(decide (v4=v1))) then
     Option.bind (QaK x1 v4) fun r5 =>
     Option.bind (JZ F r5.Stops d1) fun r6 =>
     some (v4,r6)
    else
     some (f1,f2)) (fun j_=>oun j_ fun f4 f5 =>
    Option.bind (W9 (Qa.mk f4 f5)) fun r7 =>
    bif r7 then
     Option.bind (Z0 f3 [(Qa.mk f4 f5)]) fun l1 =>
     some l1
    else
     some f3)) (fun f6 =>
   some (.inl (f6,w64 (v4+1))))
 else
  some (.inr f3)
def VP (F:Nat) (p1:Qe) (x1:Qf) (d1:Int) (v1:Int):Option (Qf×Bool) :=
 Option.bind (
  Option.bind (QaK x1 v1) fun r1 =>
  Option.bind (JZ F r1.Stops d1) fun r2 =>
  Option.bind (V8 F p1 (Qa.mk v1 r2) d1) fun j_=>oun j_ fun r3 r4 =>
  some (r3.Vehicle,r3.Stops,r4)) (fun j_=>oun j_ fun f1 j_=>oun j_ fun f2 e1 =>
  bif (!(decide (e1=0))) then
   some ((Qf.mk [] []),false)
  else
   Option.bind (
    iter (JY F p1 x1 d1 v1 f1 f2) (((p1.Vehicles.length:Nat):Int).toNat+1) ([],0)) (fun f7 =>
    Option.bind (JZ F x1.Left d1) fun r8 =>
    Option.bind (Qio r8) fun l2 =>
    some ((Qf.mk f7 l2),true)))
def Qat (x1:Int):Option (Bool) :=
 some (!(decide (x1=x1)))
def W8 (x1:Int) (y1:Int):Option (Int) :=
 Option.bind (Qat x1) fun r1 =>
 Option.bind (Qat y1) fun r2 =>
 bif r1 then
  bif r2 then
   some 0
  else
   some (-1)
 else
  bif r2 then
   some 1
  else
   bif (decide (x1<y1)) then
    some (-1)
   else
    bif (decide (y1<x1)) then
     some 1
    else
     some 0
def Qbx (vals1:(List Int)) (v1:Int):Option ((Int)⊕(Unit⊕Int)) :=
 bif (decide (v1<((vals1.length:Nat):Int))) then
  Option.bind (getI vals1 v1) fun x1 =>
  bif (!(decide (x1=0))) then
   some (.inr (.inr x1))
  else
   some (.inl (w64 (v1+1)))
 else
  some (.inr (.inl ()))
def Qcg (vals1:(List Int)):Option (Int) :=
 Option.bind (
  iter (Qbx vals1) (((vals1.length:Nat):Int).toNat+1) 0) (fun o_=>QI o_ (fun _ =>
  some 0) (fun rv11305=>some rv11305))
def Q6 (a1:Qb) (b1:Qb):Option (Int) :=
 Option.bind (W8 ((a1.plan.Left.length:Nat):Int) ((b1.plan.Left.length:Nat):Int)) fun r1 =>
 Option.bind (W8 a1.cost b1.cost) fun r2 =>
 Option.bind (Qcg [r1,r2]) fun r3 =>
 some r3
def Vr (F:Nat) (b1:Qe) (b2:Qf) (b3:Int) (b4:(List Qb)) (y1:Qf):Option ((List Qb)) :=
 Option.bind (Qbv F b1 y1) fun j_=>oun j_ fun r1 r2 =>
 Option.bind (
  bif (decide (r2=0)) then
   Option.bind (Q6 (Qb.mk y1 r1) (Qb.mk b2 b3)) fun r3 =>
   some (decide (r3<0))
  else
   some false) (fun v2 =>
  bif v2 then
   Option.bind (Z0 b4 [(Qb.mk y1 r1)]) fun l2 =>
   some l2
  else
   some b4)
def Zz (F:Nat) (b1:Qe) (b2:Qf) (b3:Int) (b5:Qe) (b6:Qf) (v1:Int) (j_:Int×(List Qb)):Option ((Int×(List Qb))⊕((List Qb))) :=
 oun j_ fun v2 q3 =>
 bif (decide (v2<((b5.Vehicles.length:Nat):Int))) then
  Option.bind (VP F b5 b6 v1 v2) fun j_=>oun j_ fun r1 r2 =>
  Option.bind (
   bif r2 then
    Option.bind (Vr F b1 b2 b3 q3 r1) fun r3 =>
    some r3
   else
    some q3) (fun q4 =>
   some (.inl (w64 (v2+1),q4)))
 else
  some (.inr q3)
def Jc (F:Nat) (b1:Qe) (b2:Qf) (b3:Int) (b5:Qe) (b6:Qf) (j_:Int×(List Qb)):Option ((Int×(List Qb))⊕((List Qb))) :=
 oun j_ fun v1 q2 =>
 bif (decide (v1<((b5.Demands.length:Nat):Int))) then
  Option.bind (
   Option.bind (
    iter (Zz F b1 b2 b3 b5 b6 v1) (((b5.Vehicles.length:Nat):Int).toNat+1) (0,q2)) (fun q5 =>
    some q5)) (fun q6 =>
   some (.inl (w64 (v1+1),q6)))
 else
  some (.inr q2)
def J7 (F:Nat) (b1:Qe) (b2:Qf) (b3:Int) (b4:(List Qb)) (b5:Qe) (b6:Qf):Option ((List Qb)) :=
 Option.bind (
  iter (Jc F b1 b2 b3 b5 b6) (((b5.Demands.length:Nat):Int).toNat+1) (0,b4)) (fun q7 =>
  some q7)
def JW (a1:Int) (j_:(List Qb)×Int):Option (((List Qb)×Int)⊕((List Qb))) :=
 oun j_ fun data3 j1 =>
 Option.bind (
  bif (decide (a1<j1)) then
   Option.bind (getI data3 j1) fun x1 =>
   Option.bind (getI data3 (w64 (j1-1))) fun x2 =>
   Option.bind (Q6 x1 x2) fun r1 =>
   some (decide (r1<0))
  else
   some false) (fun v1 =>
  bif v1 then
   Option.bind (getI data3 (w64 (j1-1))) fun x3 =>
   Option.bind (getI data3 j1) fun x4 =>
   Option.bind (getI data3 j1) fun x5 =>
   Option.bind (getI (Yi data3 j1 x3) (w64 (j1-1))) fun x6 =>
   some (.inl ((Yi (Yi data3 j1 x3) (w64 (j1-1)) x4),w64 (j1-1)))
  else
   some (.inr data3))
def JX (F:Nat) (a1:Int) (b1:Int) (j_:(List Qb)×Int):Option (((List Qb)×Int)⊕((List Qb))) :=
 oun j_ fun data2 i1 =>
 bif (decide (i1<b1)) then
  Option.bind (
   Option.bind (
    iter (JW a1) F (data2,i1)) (fun data4 =>
    some data4)) (fun data5 =>
   some (.inl (data5,w64 (i1+1))))
 else
  some (.inr data2)
def YL (F:Nat) (data1:(List Qb)) (a1:Int) (b1:Int):Option ((List Qb)) :=
 Option.bind (
  iter (JX F a1 b1) F (data1,w64 (a1+1))) (fun data6 =>
  some data6)
def Wy (a1:Int) (b1:Int) (n2:Int) (j_:(List Qb)×Int):Option (((List Qb)×Int)⊕((List Qb))) :=
 oun j_ fun data2 i1 =>
 bif (decide (i1<n2)) then
  Option.bind (getI data2 (w64 (b1+i1))) fun x1 =>
  Option.bind (getI data2 (w64 (a1+i1))) fun x2 =>
  Option.bind (getI data2 (w64 (a1+i1))) fun x3 =>
  Option.bind (getI (Yi data2 (w64 (a1+i1)) x1) (w64 (b1+i1))) fun x4 =>
  some (.inl ((Yi (Yi data2 (w64 (a1+i1)) x1) (w64 (b1+i1)) x2),w64 (i1+1)))
 else
  some (.inr data2)
def YE (data1:(List Qb)) (a1:Int) (b1:Int) (n2:Int):Option ((List Qb)) :=
 Option.bind (
  iter (Wy a1 b1 n2) (n2.toNat+1) (data1,0)) (fun data3 =>
  some data3)
def W5 (m1:Int) (j_:(List Qb)×Int×Int):Option (((List Qb)×Int×Int)⊕(((List Qb)×Int))) :=
 oun j_ fun data2 j_=>oun j_ fun i1 j1 =>
 bif (!(decide (i1=j1))) then
  bif (decide (j1<i1)) then
   Option.bind (YE data2 (w64 (m1-i1)) m1 j1) fun r1 =>
   some (.inl (r1,w64 (i1-j1),j1))
  else
   Option.bind (YE data2 (w64 (m1-i1)) (w64 ((w64 (m1+j1))-i1)) i1) fun r2 =>
   some (.inl (r2,i1,w64 (j1-i1)))
 else
  some (.inr (data2,i1))
def J3 (F:Nat) (data1:(List Qb)) (a1:Int) (m1:Int) (b1:Int):Option ((List Qb)) :=
 Option.bind (
  iter (W5 m1) F (data1,w64 (m1-a1),w64 (b1-m1))) (fun j_=>oun j_ fun data3 i2 =>
  Option.bind (YE data3 (w64 (m1-i2)) m1 i2) fun r3 =>
  some r3)
def WO (data1:(List Qb)) (a1:Int) (j_:Int×Int):Option ((Int×Int)⊕(Int)) :=
 oun j_ fun i1 j1 =>
 bif (decide (i1<j1)) then
  Option.bind (WG (0≤1∧1≤64)) fun _ =>
  Option.bind (getI data1 (w64 ((IntKind.u64.wrap (w64 (i1+j1)))/2^(1:Int).toNat))) fun x1 =>
  Option.bind (getI data1 a1) fun x2 =>
  Option.bind (Q6 x1 x2) fun r1 =>
  bif (decide (r1<0)) then
   some (.inl (w64 ((w64 ((IntKind.u64.wrap (w64 (i1+j1)))/2^(1:Int).toNat))+1),j1))
  else
   some (.inl (i1,w64 ((IntKind.u64.wrap (w64 (i1+j1)))/2^(1:Int).toNat)))
 else
  some (.inr i1)
def WQ (i2:Int) (j_:(List Qb)×Int):Option (((List Qb)×Int)⊕((List Qb))) :=
 oun j_ fun data2 k1 =>
 bif (decide (k1<(w64 (i2-1)))) then
  Option.bind (getI data2 (w64 (k1+1))) fun x3 =>
  Option.bind (getI data2 k1) fun x4 =>
  Option.bind (getI data2 k1) fun x5 =>
  Option.bind (getI (Yi data2 k1 x3) (w64 (k1+1))) fun x6 =>
  some (.inl ((Yi (Yi data2 k1 x3) (w64 (k1+1)) x4),w64 (k1+1)))
 else
  some (.inr data2)
def WR (data1:(List Qb)) (m1:Int) (j_:Int×Int):Option ((Int×Int)⊕(Int)) :=
 oun j_ fun i3 j2 =>
 bif (decide (i3<j2)) then
  Option.bind (WG (0≤1∧1≤64)) fun _ =>
  Option.bind (getI data1 m1) fun x7 =>
  Option.bind (getI data1 (w64 ((IntKind.u64.wrap (w64 (i3+j2)))/2^(1:Int).toNat))) fun x8 =>
  Option.bind (Q6 x7 x8) fun r2 =>
  bif (!(decide (r2<0))) then
   some (.inl (w64 ((w64 ((IntKind.u64.wrap (w64 (i3+j2)))/2^(1:Int).toNat))+1),j2))
  else
   some (.inl (i3,w64 ((IntKind.u64.wrap (w64 (i3+j2)))/2^(1:Int).toNat)))
 else
  some (.inr i3)
def WS (i4:Int) (j_:(List Qb)×Int):Option (((List Qb)×Int)⊕((List Qb))) :=
 oun j_ fun data4 k2 =>
 bif (decide (i4<k2)) then
  Option.bind (getI data4 (w64 (k2-1))) fun x9 =>
  Option.bind (getI data4 k2) fun x10 =>
  Option.bind (getI data4 k2) fun x11 =>
  Option.bind (getI (Yi data4 k2 x9) (w64 (k2-1))) fun x12 =>
  some (.inl ((Yi (Yi data4 k2 x9) (w64 (k2-1)) x10),w64 (k2-1)))
 else
  some (.inr data4)
def WT (data1:(List Qb)) (j_:Int×Int×Int):Option ((Int×Int×Int)⊕(Int)) :=
 oun j_ fun start2 j_=>oun j_ fun r4 p1 =>
 bif (decide (start2<r4)) then
  Option.bind (WG (0≤1∧1≤64)) fun _ =>
  Option.bind (getI data1 (w64 (p1-(w64 ((IntKind.u64.wrap (w64 (start2+r4)))/2^(1:Int).toNat))))) fun x13 =>
  Option.bind (getI data1 (w64 ((IntKind.u64.wrap (w64 (start2+r4)))/2^(1:Int).toNat))) fun x14 =>
  Option.bind (Q6 x13 x14) fun r5 =>
  bif (!(decide (r5<0))) then
   some (.inl (w64 ((w64 ((IntKind.u64.wrap (w64 (start2+r4)))/2^(1:Int).toNat))+1),r4,p1))
  else
   some (.inl (start2,w64 ((IntKind.u64.wrap (w64 (start2+r4)))/2^(1:Int).toNat),p1))
 else
  some (.inr start2)
def Y9 (rec_:(List Qb)→Int→Int→Int→Option ((List Qb))) (F:Nat) (data1:(List Qb)) (a1:Int) (m1:Int) (b1:Int):Option ((List Qb)) :=
 bif (decide ((w64 (m1-a1))=1)) then
  Option.bind (
   iter (WO data1 a1) F (m1,b1)) (fun i2 =>
   Option.bind (
    iter (WQ i2) F (data1,a1)) (fun data3 =>
    some data3))
 else
  bif (decide ((w64 (b1-m1))=1)) then
   Option.bind (
    iter (WR data1 m1) F (a1,m1)) (fun i4 =>
    Option.bind (
     iter (WS i4) F (data1,m1)) (fun data5 =>
     some data5))
  else
   Option.bind (WG (0≤1∧1≤64)) fun _ =>
   Option.bind (
    bif (decide ((w64 ((IntKind.u64.wrap (w64 (a1+b1)))/2^(1:Int).toNat))<m1)) then
     some (w64 ((IntKind.u64.wrap (w64 (a1+b1)))/2^(1:Int).toNat),w64 ((w64 ((IntKind.u64.wrap (w64 (a1+b1)))/2^(1:Int).toNat))+m1),w64 ((w64 ((w64 ((IntKind.u64.wrap (w64 (a1+b1)))/2^(1:Int).toNat))+m1))-b1),w64 ((IntKind.u64.wrap (w64 (a1+b1)))/2^(1:Int).toNat))
    else
     some (w64 ((IntKind.u64.wrap (w64 (a1+b1)))/2^(1:Int).toNat),w64 ((w64 ((IntKind.u64.wrap (w64 (a1+b1)))/2^(1:Int).toNat))+m1),a1,m1)) (fun j_=>oun j_ fun mid1 j_=>oun j_ fun n2 j_=>oun j_ fun start1 r3 =>
    Option.bind (
     iter (WT data1) F (start1,r3,w64 (n2-1))) (fun start3 =>
     Option.bind (
      bif (decide (start3<m1)) then
       some (w64 (n2-start3),(decide (m1<(w64 (n2-start3)))))
      else
       some (w64 (n2-start3),false)) (fun j_=>oun j_ fun f_end1 v1 =>
      Option.bind (
       bif v1 then
        Option.bind (J3 F data1 start3 m1 f_end1) fun r6 =>
        some r6
       else
        some data1) (fun data6 =>
       Option.bind (
        bif (decide (a1<start3)) then
         some (decide (start3<mid1))
        else
         some false) (fun v2 =>
        Option.bind (
         bif v2 then
          Option.bind (rec_ data6 a1 start3 mid1) fun r7 =>
          some r7
         else
          some data6) (fun data7 =>
         Option.bind (
          bif (decide (mid1<f_end1)) then
           some (decide (f_end1<b1))
          else
           some false) (fun v3 =>
          Option.bind (
           bif v3 then
            Option.bind (rec_ data7 mid1 f_end1 b1) fun r8 =>
            some r8
           else
            some data7) (fun data8 =>
           some data8))))))))
def Yb:Nat→(List Qb)→Int→Int→Int→Option ((List Qb))
 | 0,_,_,_,_=>none
 | F+1,data1,a1,m1,b1=>Y9 (Yb F) F data1 a1 m1 b1
def W6 (F:Nat) (n2:Int) (j_:(List Qb)×Int×Int):Option (((List Qb)×Int×Int)⊕(((List Qb)×Int))) :=
 oun j_ fun data2 j_=>oun j_ fun a1 b1 =>
 bif (decide (b1≤n2)) then
  Option.bind (YL F data2 a1 b1) fun r1 =>
  some (.inl (r1,b1,w64 (b1+20)))
 else
  some (.inr (data2,a1))
def Zd (F:Nat) (n2:Int) (blockSize1:Int) (j_:(List Qb)×Int×Int):Option (((List Qb)×Int×Int)⊕(((List Qb)×Int))) :=
 oun j_ fun data5 j_=>oun j_ fun a3 b2 =>
 bif (decide (b2≤n2)) then
  Option.bind (Yb F data5 a3 (w64 (a3+blockSize1)) b2) fun r3 =>
  some (.inl (r3,b2,w64 (b2+(w64 (2*blockSize1)))))
 else
  some (.inr (data5,a3))
def Ze (F:Nat) (n2:Int) (j_:(List Qb)×Int):Option (((List Qb)×Int)⊕((List Qb))) :=
 oun j_ fun data4 blockSize1 =>
 bif (decide (blockSize1<n2)) then
  Option.bind (
   iter (Zd F n2 blockSize1) F (data4,0,w64 (2*blockSize1))) (fun j_=>oun j_ fun data6 a4 =>
   Option.bind (
    bif (decide ((w64 (a4+blockSize1))<n2)) then
     Option.bind (Yb F data6 a4 (w64 (a4+blockSize1)) n2) fun r4 =>
     some r4
    else
     some data6) (fun data7 =>
    some (.inl (data7,w64 (blockSize1*2)))))
 else
  some (.inr data4)
def ZQ (F:Nat) (data1:(List Qb)) (n2:Int):Option ((List Qb)) :=
 Option.bind (
  iter (W6 F n2) F (data1,0,20)) (fun j_=>oun j_ fun data3 a2 =>
  Option.bind (YL F data3 a2 n2) fun r2 =>
  Option.bind (
   iter (Ze F n2) F (r2,20)) (fun data8 =>
   some data8))
def Yq (F:Nat) (x1:(List Qb)):Option ((List Qb)) :=
 Option.bind (ZQ F x1 ((x1.length:Nat):Int)) fun r1 =>
 some r1
def Wg (r4:(List Qb)) (j_:(List Qf)×Int):Option (((List Qf)×Int)⊕((List Qf))) :=
 oun j_ fun out1 v3 =>
 bif (decide (v3<((r4.length:Nat):Int))) then
  Option.bind (getI r4 v3) fun x2 =>
  Option.bind (Z0 out1 [x2.plan]) fun l2 =>
  some (.inl (l2,w64 (v3+1)))
 else
  some (.inr out1)
def Ju (F:Nat) (p1:Qe) (x1:Qf):Option ((List Qf)×Int) :=
 Option.bind (Qbv F p1 x1) fun j_=>oun j_ fun r1 r2 =>
 bif (!(decide (r2=0))) then
  some ([],r2)
 else
  Option.bind (J7 F p1 x1 r1 [] p1 x1) fun r3 =>
  Option.bind (Yq F r3) fun r4 =>
  Option.bind (
   iter (Wg r4) (((r4.length:Nat):Int).toNat+1) ([],0)) (fun out2 =>
   some (out2,0))
def Vs (F:Nat) (p1:Qe) (j_:(List Qa)×(List Int)):Option (((List Qa)×(List Int))⊕((Qf×Int))) :=
 oun j_ fun f1 f2 =>
 Option.bind (Ju F p1 (Qf.mk f1 f2)) fun j_=>oun j_ fun r3 r4 =>
 bif (!(decide (r4=0))) then
  some (.inr ((Qf.mk [] []),r4))
 else
  bif (decide (((r3.length:Nat):Int)=0)) then
   some (.inr ((Qf.mk f1 f2),0))
  else
   Option.bind (getI r3 0) fun x1 =>
   some (.inl (x1.Tours,x1.Left))
def WK (F:Nat) (p1:Qe):Option (Qf×Int) :=
 Option.bind (Qaf F p1) fun j_=>oun j_ fun r1 r2 =>
 bif (!(decide (r2=0))) then
  some ((Qf.mk [] []),r2)
 else
  Option.bind (
   iter (Vs F p1) F (r1.Tours,r1.Left)) (fun rv20105=>some rv20105)
def WV (F:Nat) (p1:Qe) (x1:Qf):Option (Int) :=
 Option.bind (Zl F p1 x1) fun j_=>oun j_ fun r1 r2 =>
 some r2
def Qcd (F:Nat) (p1:Qe) (t1:Qa):Option ((List QN)×Int×Int) :=
 Option.bind (VI F p1) fun r1 =>
 bif (!(decide (r1=0))) then
  some ([],r1,0)
 else
  Option.bind (Vz F p1 t1) fun j_=>oun j_ fun r2 j_=>oun j_ fun r3 r4 =>
  bif (!(decide (r3=0))) then
   some ([],r3,r4)
  else
   Option.bind (r2) fun q1 =>
   some (q1.visits,0,0)
def Wh (r1:(List Qc)) (j_:(List Qa)×Int):Option (((List Qa)×Int)⊕((List Qa))) :=
 oun j_ fun out1 v2 =>
 bif (decide (v2<((r1.length:Nat):Int))) then
  Option.bind (getI r1 v2) fun x1 =>
  Option.bind (Z0 out1 [x1.tour]) fun l1 =>
  some (.inl (l1,w64 (v2+1)))
 else
  some (.inr out1)
def Jv (F:Nat) (p1:Qe) (t1:Qa) (d1:Int):Option ((List Qa)×Int) :=
 Option.bind (QT F p1 t1 d1) fun j_=>oun j_ fun r1 r2 =>
 Option.bind (
  iter (Wh r1) (((r1.length:Nat):Int).toNat+1) ([],0)) (fun out2 =>
  some (out2,r2))
def Yn (F:Nat) (p1:Qe) (x1:Qf) (d1:Int) (v1:Int):Option (Int) :=
 Option.bind (getI p1.Vehicles v1) fun x2 =>
 Option.bind (getI p1.Demands d1) fun x3 =>
 Option.bind (Z7 x2 x3.Kind) fun r1 =>
 bif (!r1) then
  some 21
 else
  Option.bind (getI p1.Demands d1) fun x4 =>
  Option.bind (getI p1.Vehicles v1) fun x5 =>
  bif (decide (x5.Grams<x4.Grams)) then
   some 20
  else
   Option.bind (Qcd F p1 (Qa.mk v1 [d1,(-1)])) fun j_=>oun j_ fun r2 j_=>oun j_ fun r3 r4 =>
   bif (!(decide (r3=0))) then
    some r3
   else
    Option.bind (QaK x1 v1) fun r5 =>
    Option.bind (Jv F p1 r5 d1) fun j_=>oun j_ fun r6 r7 =>
    bif (!(decide (r7=0))) then
     some r7
    else
     bif (decide (((r6.length:Nat):Int)=0)) then
      some 40
     else
      some 0
def QbM (F:Nat) (p1:Qe) (x1:Qf) (d1:Int) (j_:(List QH)×Int):Option (((List QH)×Int)⊕((List QH))) :=
 oun j_ fun out1 v3 =>
 bif (decide (v3<((p1.Vehicles.length:Nat):Int))) then
  Option.bind (Yn F p1 x1 d1 v3) fun r3 =>
  Option.bind (Z0 out1 [(QH.mk v3 r3)]) fun l1 =>
  some (.inl (l1,w64 (v3+1)))
 else
  some (.inr out1)
def J5 (F:Nat) (p1:Qe) (x1:Qf) (d1:Int):Option ((List QH)×Int) :=
 Option.bind (WV F p1 x1) fun r1 =>
 bif (!(decide (r1=0))) then
  some ([],r1)
 else
  Option.bind (
   bif (decide (d1<0)) then
    some true
   else
    some (decide (((p1.Demands.length:Nat):Int)≤d1))) (fun v2 =>
   bif v2 then
    some ([],7)
   else
    Option.bind (YD x1.Left d1) fun r2 =>
    bif (!r2) then
     some ([],13)
    else
     Option.bind (
      iter (QbM F p1 x1 d1) (((p1.Vehicles.length:Nat):Int).toNat+1) ([],0)) (fun out2 =>
      some (out2,0)))
def Jz (a1:(List Int)) (b1:(List Int)) (i1:Int):Option ((Int)⊕(Unit⊕Bool)) :=
 bif (decide (i1<((a1.length:Nat):Int))) then
  Option.bind (getI a1 i1) fun x1 =>
  Option.bind (getI b1 i1) fun x2 =>
  bif (!(decide (x1=x2))) then
   some (.inr (.inr false))
  else
   some (.inl (w64 (i1+1)))
 else
  some (.inr (.inl ()))
def JF (a1:(List Int)) (b1:(List Int)):Option (Bool) :=
 bif (!(decide (((a1.length:Nat):Int)=((b1.length:Nat):Int)))) then
  some false
 else
  Option.bind (
   iter (Jz a1 b1) (((a1.length:Nat):Int).toNat+1) 0) (fun o_=>QI o_ (fun _ =>
   some true) (fun rv20606=>some rv20606))
def JA (a1:(List Qa)) (b1:(List Qa)) (i1:Int):Option ((Int)⊕(Unit⊕Bool)) :=
 bif (decide (i1<((a1.length:Nat):Int))) then
  Option.bind (
   Option.bind (getI a1 i1) fun x1 =>
   Option.bind (getI b1 i1) fun x2 =>
   bif (!(decide (x1.Vehicle=x2.Vehicle))) then
    some true
   else
    Option.bind (getI a1 i1) fun x3 =>
    Option.bind (getI b1 i1) fun x4 =>
    Option.bind (JF x3.Stops x4.Stops) fun r1 =>
    some (!r1)) (fun v1 =>
   bif v1 then
    some (.inr (.inr false))
   else
    some (.inl (w64 (i1+1))))
 else
  some (.inr (.inl ()))
def Ww (a1:(List Qa)) (b1:(List Qa)):Option (Bool) :=
 bif (!(decide (((a1.length:Nat):Int)=((b1.length:Nat):Int)))) then
  some false
 else
  Option.bind (
   iter (JA a1 b1) (((a1.length:Nat):Int).toNat+1) 0) (fun o_=>QI o_ (fun _ =>
   some true) (fun rv20598=>some rv20598))
def YC (a1:Qf) (b1:Qf):Option (Bool) :=
 Option.bind (
  Option.bind (Ww a1.Tours b1.Tours) fun r1 =>
  bif r1 then
   Option.bind (JF a1.Left b1.Left) fun r2 =>
   some r2
  else
   some false) (fun v1 =>
  some v1)
def Wd (a1:(List QH)) (b1:(List QH)) (v1:Int):Option ((Int)⊕(Unit⊕Bool)) :=
 bif (decide (v1<((a1.length:Nat):Int))) then
  Option.bind (getI a1 v1) fun x1 =>
  Option.bind (getI b1 v1) fun x2 =>
  bif (!(decide (x1=x2))) then
   some (.inr (.inr false))
  else
   some (.inl (w64 (v1+1)))
 else
  some (.inr (.inl ()))
def Ya (a1:(List QH)) (b1:(List QH)):Option (Bool) :=
 bif (!(decide (((a1.length:Nat):Int)=((b1.length:Nat):Int)))) then
  some false
 else
  Option.bind (
   iter (Wd a1 b1) (((a1.length:Nat):Int).toNat+1) 0) (fun o_=>QI o_ (fun _ =>
   some true) (fun rv20681=>some rv20681))
def Jf (F:Nat):Option (Bool) :=
 Option.bind (WK F (Qe.mk (QM.mk 2 [(QK.mk 0 1 500 60),(QK.mk 1 0 500 60)]) [(Qp.mk ⟨#[118]⟩ 0 (QD.mk 1000 2000) 1000 1)] [(Qw.mk 0 1 0 300 (QD.mk 1100 1200) 30)] 0 20)) fun j_=>oun j_ fun r1 r2 =>
 Option.bind (Ju F (Qe.mk (QM.mk 2 [(QK.mk 0 1 500 60),(QK.mk 1 0 500 60)]) [(Qp.mk ⟨#[118]⟩ 0 (QD.mk 1000 2000) 1000 1)] [(Qw.mk 0 1 0 300 (QD.mk 1100 1200) 30)] 0 20) (Qf.mk [] [0])) fun j_=>oun j_ fun r3 r4 =>
 Option.bind (J5 F (Qe.mk (QM.mk 2 [(QK.mk 0 1 500 60),(QK.mk 1 0 500 60)]) [(Qp.mk ⟨#[118]⟩ 0 (QD.mk 1000 2000) 1000 1)] [(Qw.mk 0 1 0 300 (QD.mk 1100 1200) 30)] 0 20) (Qf.mk [] [0]) 0) fun j_=>oun j_ fun r5 r6 =>
 Option.bind (getI [(Qp.mk ⟨#[118]⟩ 0 (QD.mk 1000 2000) 1000 1)] 0) fun x1 =>
 Option.bind (WK F (Qe.mk (QM.mk 2 [(QK.mk 0 1 500 60),(QK.mk 1 0 500 60)]) (Yi [(Qp.mk ⟨#[118]⟩ 0 (QD.mk 1000 2000) 1000 1)] 0 (Qp.mk x1.ID x1.Depot x1.Shift 299 x1.Kinds)) [(Qw.mk 0 1 0 300 (QD.mk 1100 1200) 30)] 0 20)) fun j_=>oun j_ fun r7 r8 =>
 Option.bind (J5 F (Qe.mk (QM.mk 2 [(QK.mk 0 1 500 60),(QK.mk 1 0 500 60)]) (Yi [(Qp.mk ⟨#[118]⟩ 0 (QD.mk 1000 2000) 1000 1)] 0 (Qp.mk x1.ID x1.Depot x1.Shift 299 x1.Kinds)) [(Qw.mk 0 1 0 300 (QD.mk 1100 1200) 30)] 0 20) r7 0) fun j_=>oun j_ fun r9 r10 =>
 Option.bind (
  Option.bind (YC r1 (Qf.mk [(Qa.mk 0 [0,(-1)])] [])) fun r11 =>
  bif r11 then
   bif (decide (r2=0)) then
    bif (decide ((
           (r3.length:Nat):Int)=1)) then
     Option.bind (getI r3 0) fun x2 =>
     Option.bind (YC x2 (Qf.mk [(Qa.mk 0 [0,(-1)])] [])) fun r12 =>
     bif r12 then
      bif (decide (r4=0)) then
       Option.bind (Ya r5 [(QH.mk 0 0)]) fun r13 =>
       bif r13 then
        bif (decide (r6=0)) then
         Option.bind (YC r7 (Qf.mk [] [0])) fun r14 =>
         bif r14 then
          bif (decide (r8=0)) then
           Option.bind (Ya r9 [(QH.mk 0 20)]) fun r15 =>
           bif r15 then
            some (decide (r10=0))
           else
            some false
          else
           some false
         else
          some false
        else
         some false
       else
        some false
      else
       some false
     else
      some false
    else
     some false
   else
    some false
  else
   some false) (fun v23 =>
  some v23)
def YQ (r1:QM) (v2:Int):Option ((Int)⊕(Unit⊕Int)) :=
 bif (decide (v2<((r1.Edges.length:Nat):Int))) then
  Option.bind (getI r1.Edges v2) fun x1 =>
  Option.bind (
   bif (decide (x1.From<0)) then
    some true
   else
    bif (decide (r1.Nodes≤x1.From)) then
     some true
    else
     bif (decide (x1.To<0)) then
      some true
     else
      some (decide (r1.Nodes≤x1.To))) (fun v3 =>
   bif v3 then
    some (.inr (.inr 7))
   else
    Option.bind (
     bif (decide (x1.From=x1.To)) then
      some true
     else
      bif (decide (x1.Meters<1)) then
       some true
      else
       bif (decide (100000<x1.Meters)) then
        some true
       else
        bif (decide (x1.Secs<1)) then
         some true
        else
         some (decide (100000<x1.Secs))) (fun v4 =>
     bif v4 then
      some (.inr (.inr 1))
     else
      some (.inl (w64 (v2+1)))))
 else
  some (.inr (.inl ()))
def Jg (r1:QM):Option (Int) :=
 Option.bind (
  bif (decide (r1.Nodes<1)) then
   some true
  else
   some (decide (64<r1.Nodes))) (fun v1 =>
  bif v1 then
   some 1
  else
   bif (decide (512<((r1.Edges.length:Nat):Int))) then
    some 8
   else
    Option.bind (
     iter (YQ r1) (((r1.Edges.length:Nat):Int).toNat+1) 0) (fun o_=>QI o_ (fun _ =>
     some 0) (fun rv21199=>some rv21199)))
def YO (c1:Int):Option (Bool) :=
 Option.bind (
  bif (decide (65≤c1)) then
   bif (decide (c1≤90)) then
    some true
   else
    bif (decide (97≤c1)) then
     some (decide (c1≤122))
    else
     some false
  else
   bif (decide (97≤c1)) then
    some (decide (c1≤122))
   else
    some false) (fun v1 =>
  some v1)
def QZ (s1:ByteArray) (i1:Int):Option ((Int)⊕(Unit⊕Bool)) :=
 bif (decide (i1<((s1.size:Nat):Int))) then
  Option.bind (QiK s1 i1) fun x2 =>
  Option.bind (
   Option.bind (YO x2) fun r2 =>
   bif (!r2) then
    bif (decide (x2<48)) then
     bif (!(decide (x2=45))) then
      bif (!(decide (x2=95))) then
       some (!(decide (x2=46)))
      else
       some false
     else
      some false
    else
     bif (decide (57<x2)) then
      bif (!(decide (x2=45))) then
       bif (!(decide (x2=95))) then
        some (!(decide (x2=46)))
       else
        some false
      else
       some false
     else
      some false
   else
    some false) (fun v2 =>
   bif v2 then
    some (.inr (.inr false))
   else
    some (.inl (w64 (i1+1))))
 else
  some (.inr (.inl ()))
def ZG (s1:ByteArray):Option (Bool) :=
 Option.bind (
  bif (decide (((s1.size:Nat):Int)<1)) then
   some true
  else
   bif (decide (32<((s1.size:Nat):Int))) then
    some true
   else
    Option.bind (QiK s1 0) fun x1 =>
    Option.bind (YO x1) fun r1 =>
    some (!r1)) (fun v1 =>
  bif v1 then
   some false
  else
   Option.bind (
    iter (QZ s1) (((s1.size:Nat):Int).toNat+1) 0) (fun o_=>QI o_ (fun _ =>
    some true) (fun rv21235=>some rv21235)))
def Yd (v1:Qp) (nodes1:Int) (materials1:Int):Option (Int) :=
 Option.bind (ZG v1.ID) fun r1 =>
 bif (!r1) then
  some 5
 else
  Option.bind (
   bif (decide (v1.Depot<0)) then
    some true
   else
    some (decide (nodes1≤v1.Depot))) (fun v2 =>
   bif v2 then
    some 7
   else
    Option.bind (
     bif (decide (v1.Shift.From<0)) then
      some true
     else
      bif (decide (v1.Shift.To≤v1.Shift.From)) then
       some true
      else
       some (decide (86400<v1.Shift.To))) (fun v3 =>
     bif v3 then
      some 19
     else
      Option.bind (
       bif (decide (v1.Grams<1)) then
        some true
       else
        some (decide (1073741824<v1.Grams))) (fun v4 =>
       bif v4 then
        some 1
       else
        Option.bind (
         bif (decide (v1.Kinds<1)) then
          some true
         else
          Option.bind (WG (0≤materials1∧materials1≤64)) fun _ =>
          some (decide ((w64 (1*2^materials1.toNat))≤v1.Kinds))) (fun v5 =>
         bif v5 then
          some 21
         else
          some 0))))
def Q4 (l1:(List Qp)) (nodes1:Int) (materials1:Int) (i1:Int):Option ((Int)⊕(Unit⊕Int)) :=
 bif (decide (i1<((l1.length:Nat):Int))) then
  Option.bind (getI l1 i1) fun x1 =>
  Option.bind (Yd x1 nodes1 materials1) fun r1 =>
  bif (!(decide (r1=0))) then
   some (.inr (.inr r1))
  else
   some (.inl (w64 (i1+1)))
 else
  some (.inr (.inl ()))
def Jh (l1:(List Qp)) (i2:Int) (k1:Int):Option ((Int)⊕(Unit⊕Int)) :=
 bif (decide (k1<i2)) then
  Option.bind (getI l1 i2) fun x2 =>
  Option.bind (getI l1 k1) fun x3 =>
  bif (decide (x2.ID=x3.ID)) then
   some (.inr (.inr 6))
  else
   some (.inl (w64 (k1+1)))
 else
  some (.inr (.inl ()))
def Ji (l1:(List Qp)) (i2:Int):Option ((Int)⊕(Unit⊕Int)) :=
 bif (decide (i2<((l1.length:Nat):Int))) then
  Option.bind (
   Option.bind (
    iter (Jh l1 i2) (i2.toNat+1) 0) (fun o_=>QI o_ (fun _ =>
    some (.inl ())) (fun rv21259=>some (.inr rv21259)))) (fun o_=>QI o_ (fun _ =>
   some (.inl (w64 (i2+1)))) (fun rv21258=>some (.inr (.inr rv21258))))
 else
  some (.inr (.inl ()))
def Ys (l1:(List Qp)) (nodes1:Int) (materials1:Int):Option (Int) :=
 Option.bind (
  bif (decide (nodes1<1)) then
   some true
  else
   bif (decide (64<nodes1)) then
    some true
   else
    bif (decide (materials1<1)) then
     some true
    else
     some (decide (16<materials1))) (fun v1 =>
  bif v1 then
   some 1
  else
   bif (decide (((l1.length:Nat):Int)=0)) then
    some 10
   else
    bif (decide (16<((l1.length:Nat):Int))) then
     some 8
    else
     Option.bind (
      iter (Q4 l1 nodes1 materials1) (((l1.length:Nat):Int).toNat+1) 0) (fun o_=>QI o_ (fun _ =>
      Option.bind (
       iter (Ji l1) (((l1.length:Nat):Int).toNat+1) 0) (fun o_=>QI o_ (fun _ =>
       some 0) (fun rv21251=>some rv21251))) (fun rv21230=>some rv21230)))
def Q7 (l1:(List Qw)) (nodes1:Int) (materials1:Int) (i1:Int):Option ((Int)⊕(Unit⊕Int)) :=
 bif (decide (i1<((
           l1.length:Nat):Int))) then
  Option.bind (getI l1 i1) fun x1 =>
  Option.bind (
   bif (decide (x1.Container<0)) then
    some true
   else
    bif (decide (256≤x1.Container)) then
     some true
    else
     bif (decide (x1.Node<0)) then
      some true
     else
      bif (decide (nodes1≤x1.Node)) then
       some true
      else
       bif (decide (x1.Kind<0)) then
        some true
       else
        some (decide (materials1≤x1.Kind))) (fun v1 =>
   bif v1 then
    some (.inr (.inr 7))
   else
    Option.bind (
     bif (decide (x1.Grams<0)) then
      some true
     else
      bif (decide (1073741824<x1.Grams)) then
       some true
      else
       bif (decide (x1.When.From<0)) then
        some true
       else
        bif (decide (x1.When.To<x1.When.From)) then
         some true
        else
         bif (decide (86400<x1.When.To)) then
          some true
         else
          bif (decide (x1.Service<0)) then
           some true
          else
           some (decide (3600<x1.Service))) (fun v2 =>
     bif v2 then
      some (.inr (.inr 1))
     else
      some (.inl (w64 (i1+1)))))
 else
  some (.inr (.inl ()))
def Yx (l1:(List Qw)) (i2:Int) (k1:Int):Option ((Int)⊕(Unit⊕Int)) :=
 bif (decide (k1<i2)) then
  Option.bind (getI l1 i2) fun x2 =>
  Option.bind (getI l1 k1) fun x3 =>
  bif (decide (x2.Container=x3.Container)) then
   some (.inr (.inr 6))
  else
   some (.inl (w64 (k1+1)))
 else
  some (.inr (.inl ()))
def Yy (l1:(List Qw)) (i2:Int):Option ((Int)⊕(Unit⊕Int)) :=
 bif (decide (i2<((l1.length:Nat):Int))) then
  Option.bind (
   Option.bind (
    iter (Yx l1 i2) (i2.toNat+1) 0) (fun o_=>QI o_ (fun _ =>
    some (.inl ())) (fun rv21286=>some (.inr rv21286)))) (fun o_=>QI o_ (fun _ =>
   some (.inl (w64 (i2+1)))) (fun rv21285=>some (.inr (.inr rv21285))))
 else
  some (.inr (.inl ()))
def Yt (l1:(List Qw)) (nodes1:Int) (materials1:Int):Option (Int) :=
 bif (decide (32<((l1.length:Nat):Int))) then
  some 8
 else
  Option.bind (
   iter (Q7 l1 nodes1 materials1) (((l1.length:Nat):Int).toNat+1) 0) (fun o_=>QI o_ (fun _ =>
   Option.bind (
    iter (Yy l1) (((l1.length:Nat):Int).toNat+1) 0) (fun o_=>QI o_ (fun _ =>
    some 0) (fun rv21278=>some rv21278))) (fun rv21263=>some rv21263))
def Qo (p1:Qe):Option (Int) :=
 Option.bind (Jg p1.Road) fun r1 =>
 bif (!(decide (r1=0))) then
  some r1
 else
  Option.bind (Ys p1.Vehicles p1.Road.Nodes 16) fun r2 =>
  bif (!(decide (r2=0))) then
   some r2
  else
   Option.bind (Yt p1.Demands p1.Road.Nodes 16) fun r3 =>
   bif (!(decide (r3=0))) then
    some r3
   else
    Option.bind (
     bif (decide (p1.Unload<0)) then
      some true
     else
      some (decide (p1.Road.Nodes≤p1.Unload))) (fun v1 =>
     bif v1 then
      some 7
     else
      Option.bind (
       bif (decide (p1.UnloadSecs<0)) then
        some true
       else
        some (decide (7200<p1.UnloadSecs))) (fun v2 =>
       bif v2 then
        some 1
       else
        some 0))
def Zk (stops1:(List Int)) (d1:Int) (k1:Int) (unload1:Bool):Option ((List Int)) :=
 Option.bind (WI stops1 0 k1) fun l1 =>
 Option.bind (Z0 [] l1) fun l2 =>
 Option.bind (Z0 l2 [d1]) fun l3 =>
 Option.bind (
  bif unload1 then
   Option.bind (Z0 l3 [(-1)]) fun l4 =>
   some l4
  else
   some l3) (fun l5 =>
  Option.bind (WI stops1 k1 ((stops1.length:Nat):Int)) fun l6 =>
  Option.bind (Z0 l5 l6) fun l7 =>
  Option.bind (getI l7 (w64 (((l7.length:Nat):Int)-1))) fun x1 =>
  Option.bind (
   bif (!(decide (x1=(-1)))) then
    Option.bind (Z0 l7 [(-1)]) fun l8 =>
    some l8
   else
    some l7) (fun l9 =>
   some l9))
def ZN (v1:Qp) (kind1:Int):Option (Bool) :=
 Option.bind (
  bif (decide (kind1<0)) then
   some true
  else
   some (decide (16≤kind1))) (fun v2 =>
  bif v2 then
   some false
  else
   Option.bind (WG (0≤kind1∧kind1≤64)) fun _ =>
   some (decide ((Int.tmod ((IntKind.u64.wrap (v1.Kinds))/2^kind1.toNat) 2)=1)))
def ZA (stops1:(List Int)) (i1:Int) (x1:Int) (k1:Int):Option ((Int)⊕(Unit⊕Int)) :=
 bif (decide (k1<i1)) then
  Option.bind (getI stops1 k1) fun x2 =>
  bif (decide (x2=x1)) then
   some (.inr (.inr 6))
  else
   some (.inl (w64 (k1+1)))
 else
  some (.inr (.inl ()))
def Vj (p1:Qe) (v1:Qp) (stops1:(List Int)) (i1:Int):Option (Int) :=
 Option.bind (getI stops1 i1) fun x1 =>
 bif (decide (x1=(-1))) then
  some 0
 else
  Option.bind (
   bif (decide (x1<0)) then
    some true
   else
    some (decide (((p1.Demands.length:Nat):Int)≤x1))) (fun v2 =>
   bif v2 then
    some 7
   else
    Option.bind (
     iter (ZA stops1 i1 x1) (i1.toNat+1) 0) (fun o_=>QI o_ (fun _ =>
     Option.bind (getI p1.Demands x1) fun x3 =>
     Option.bind (ZN v1 x3.Kind) fun r1 =>
     bif (!r1) then
      some 21
     else
      some 0) (fun rv21561=>some rv21561)))
def Vo (r1:QM) (n1:Int):Option (Bool) :=
 Option.bind (
  bif (decide (0≤n1)) then
   some (decide (n1<r1.Nodes))
  else
   some false) (fun v1 =>
  some v1)
def Vh (a1:Ql) (b1:Ql):Option (Ql) :=
 some (Ql.mk (w64 (a1.Secs+b1.Secs)) (w64 (a1.Meters+b1.Meters)))
def ZY (a1:Ql) (b1:Ql):Option (Bool) :=
 Option.bind (
  bif (decide (a1.Secs<0)) then
   some true
  else
   some (decide (b1.Secs<0))) (fun v1 =>
  bif v1 then
   some (decide (0≤a1.Secs))
  else
   Option.bind (
    bif (decide (a1.Secs<b1.Secs)) then
     some true
    else
     bif (decide (a1.Secs=b1.Secs)) then
      some (decide (a1.Meters<b1.Meters))
     else
      some false) (fun v2 =>
    some v2))
def ZL (l1:(List Ql)) (j_:(List Ql)×Int):Option (((List Ql)×Int)⊕((List Ql))) :=
 oun j_ fun out1 v1 =>
 bif (decide (v1<((l1.length:Nat):Int))) then
  Option.bind (getI out1 v1) fun x1 =>
  some (.inl ((Yi out1 v1 (Ql.mk (-1) x1.Meters)),w64 (v1+1)))
 else
  some (.inr out1)
def ZM (r1:QM) (j_:(List Ql)×Int):Option (((List Ql)×Int)⊕((List Ql))) :=
 oun j_ fun out4 v2 =>
 bif (decide (v2<((r1.Edges.length:Nat):Int))) then
  Option.bind (
   Option.bind (getI r1.Edges v2) fun x3 =>
   Option.bind (getI out4 x3.From) fun x4 =>
   bif (decide (0≤x4.Secs)) then
    Option.bind (
     Option.bind (getI out4 x3.From) fun x5 =>
     Option.bind (Vh x5 (Ql.mk x3.Secs x3.Meters)) fun r4 =>
     some (r4.Secs,r4.Meters)) (fun j_=>oun j_ fun f1 f2 =>
     Option.bind (getI out4 x3.To) fun x6 =>
     Option.bind (ZY (Ql.mk f1 f2) x6) fun r5 =>
     bif r5 then
      Option.bind (getI out4 x3.To) fun x7 =>
      some (Yi out4 x3.To (Ql.mk f1 f2))
     else
      some out4)
   else
    some out4) (fun out5 =>
   some (.inl (out5,w64 (v2+1))))
 else
  some (.inr out4)
def Jy (r1:QM) (j_:(List Ql)×Int):Option (((List Ql)×Int)⊕((List Ql))) :=
 oun j_ fun out3 n1 =>
 bif (decide (n1<r1.Nodes)) then
  Option.bind (
   Option.bind (
    iter (ZM r1) (((r1.Edges.length:Nat):Int).toNat+1) (out3,0)) (fun out6 =>
    some out6)) (fun out7 =>
   some (.inl (out7,w64 (n1+1))))
 else
  some (.inr out3)
def Zn (r1:QM) (f_from1:Int):Option ((List Ql)×Int) :=
 Option.bind (Jg r1) fun r2 =>
 bif (!(decide (r2=0))) then
  some ([],r2)
 else
  Option.bind (Vo r1 f_from1) fun r3 =>
  bif (!r3) then
   some ([],7)
  else
   Option.bind (QbQ (Ql.mk 0 0) r1.Nodes) fun l1 =>
   Option.bind (
    iter (ZL l1) (((l1.length:Nat):Int).toNat+1) (l1,0)) (fun out2 =>
    Option.bind (getI out2 f_from1) fun x2 =>
    Option.bind (
     iter (Jy r1) (r1.Nodes.toNat+1) ((Yi out2 f_from1 (Ql.mk 0 x2.Meters)),0)) (fun out8 =>
     some (out8,0)))
def Z9 (p1:Qe) (f_from1:Int) (f_to1:Int):Option (Ql) :=
 Option.bind (Zn p1.Road f_from1) fun j_=>oun j_ fun r1 r2 =>
 Option.bind (
  bif (!(decide (r2=0))) then
   some true
  else
   bif (decide (f_to1<0)) then
    some true
   else
    some (decide (((r1.length:Nat):Int)≤f_to1))) (fun v1 =>
  bif v1 then
   some (Ql.mk (-1) 0)
  else
   Option.bind (getI r1 f_to1) fun x1 =>
   some x1)
def Wb (p1:Qe) (v1:Qp) (x1:QN) (s1:Int):Option (QN×Int) :=
 Option.bind (
  bif (decide (0≤s1)) then
   Option.bind (getI p1.Demands s1) fun x2 =>
   some x2.Node
  else
   some p1.Unload) (fun f1 =>
  Option.bind (Z9 p1 x1.Node f1) fun r1 =>
  bif (decide (r1.Secs<0)) then
   some ((QN.mk 0 0 0 0 0 0),22)
  else
   bif (decide (s1<0)) then
    some ((QN.mk s1 f1 (w64 (x1.Leave+r1.Secs)) (w64 (x1.Leave+r1.Secs)) (w64 ((w64 (x1.Leave+r1.Secs))+p1.UnloadSecs)) 0),0)
   else
    Option.bind (getI p1.Demands s1) fun x3 =>
    bif (decide (x3.When.To≤(max (w64 (x1.Leave+r1.Secs)) x3.When.From))) then
     some ((QN.mk 0 0 0 0 0 0),19)
    else
     bif (decide (v1.Grams<(w64 (x1.Load+x3.Grams)))) then
      some ((QN.mk 0 0 0 0 0 0),20)
     else
      some ((QN.mk s1 f1 (w64 (x1.Leave+r1.Secs)) (max (w64 (x1.Leave+r1.Secs)) x3.When.From) (w64 ((max (w64 (x1.Leave+r1.Secs)) x3.When.From)+x3.Service)) (w64 (x1.Load+x3.Grams))),0))
def JE (p1:Qe) (v1:Qp) (x1:QN):Option (QN×Int) :=
 Option.bind (Z9 p1 x1.Node v1.Depot) fun r1 =>
 bif (decide (r1.Secs<0)) then
  some ((QN.mk 0 0 0 0 0 0),22)
 else
  bif (decide (0<x1.Load)) then
   some ((QN.mk 0 0 0 0 0 0),20)
  else
   bif (decide (v1.Shift.To≤(w64 (x1.Leave+r1.Secs)))) then
    some ((QN.mk 0 0 0 0 0 0),19)
   else
    some ((QN.mk (-2) v1.Depot (w64 (x1.Leave+r1.Secs)) (w64 (x1.Leave+r1.Secs)) (w64 (x1.Leave+r1.Secs)) 0),0)
def Y6 (p1:Qe) (t1:Qa) (x1:Qp) (j_:Int×Int×Int×Int×Int×Int×(List QN)×Int):Option ((Int×Int×Int×Int×Int×Int×(List QN)×Int)⊕((Int×Int×Int×Int×Int×Int×(List QN))⊕((List QN)×Int×Int))) :=
 oun j_ fun f1 j_=>oun j_ fun f2 j_=>oun j_ fun f3 j_=>oun j_ fun f4 j_=>oun j_ fun f5 j_=>oun j_ fun f6 j_=>oun j_ fun out1 v2 =>
 bif (decide (v2<((t1.Stops.length:Nat):Int))) then
  Option.bind (getI t1.Stops v2) fun x2 =>
  Option.bind (Vj p1 x1 t1.Stops v2) fun r2 =>
  Option.bind (
   bif (decide (r2=0)) then
    Option.bind (Wb p1 x1 (QN.mk f1 f2 f3 f4 f5 f6) x2) fun j_=>oun j_ fun r3 r4 =>
    some (r3.Stop,r3.Node,r3.Arrive,r3.Start,r3.Leave,r3.Load,r4)
   else
    some (f1,f2,f3,f4,f5,f6,r2)) (fun j_=>oun j_ fun f7 j_=>oun j_ fun f8 j_=>oun j_ fun f9 j_=>oun j_ fun f10 j_=>oun j_ fun f11 j_=>oun j_ fun f12 e1 =>
   bif (!(decide (e1=0))) then
    some (.inr (.inr ([],e1,v2)))
   else
    Option.bind (Z0 out1 [(QN.mk f7 f8 f9 f10 f11 f12)]) fun l1 =>
    some (.inl (f7,f8,f9,f10,f11,f12,l1,w64 (v2+1))))
 else
  some (.inr (.inl (f1,f2,f3,f4,f5,f6,out1)))
def ZT (p1:Qe) (t1:Qa):Option ((List QN)×Int×Int) :=
 Option.bind (Qo p1) fun r1 =>
 bif (!(decide (r1=0))) then
  some ([],r1,0)
 else
  Option.bind (
   bif (decide (t1.Vehicle<0)) then
    some true
   else
    some (decide (((p1.Vehicles.length:Nat):Int)≤t1.Vehicle))) (fun v1 =>
   bif v1 then
    some ([],7,0)
   else
    bif (decide (40<((t1.Stops.length:Nat):Int))) then
     some ([],8,0)
    else
     Option.bind (getI p1.Vehicles t1.Vehicle) fun x1 =>
     Option.bind (
      iter (Y6 p1 t1 x1) (((t1.Stops.length:Nat):Int).toNat+1) (0,x1.Depot,0,0,x1.Shift.From,0,[],0)) (fun o_=>QI o_ (fun j_=>oun j_ fun f13 j_=>oun j_ fun f14 j_=>oun j_ fun f15 j_=>oun j_ fun f16 j_=>oun j_ fun f17 j_=>oun j_ fun f18 out2 =>
      Option.bind (JE p1 x1 (QN.mk f13 f14 f15 f16 f17 f18)) fun j_=>oun j_ fun r5 r6 =>
      bif (!(decide (r6=0))) then
       some ([],r6,((t1.Stops.length:Nat):Int))
      else
       Option.bind (Z0 out2 [r5]) fun l2 =>
       some (l2,0,0)) (fun rv21536=>some rv21536)))
def ZO (p1:Qe) (r1:(List QN)) (j_:Int×Int×Int):Option ((Int×Int×Int)⊕(Int)) :=
 oun j_ fun sum1 j_=>oun j_ fun f_at1 v1 =>
 bif (decide (v1<((r1.length:Nat):Int))) then
  Option.bind (getI r1 v1) fun x2 =>
  Option.bind (Z9 p1 f_at1 x2.Node) fun r4 =>
  some (.inl (w64 (sum1+r4.Meters),x2.Node,w64 (v1+1)))
 else
  some (.inr sum1)
def Yp (p1:Qe) (t1:Qa):Option (Int×Int) :=
 Option.bind (ZT p1 t1) fun j_=>oun j_ fun r1 j_=>oun j_ fun r2 r3 =>
 bif (!(decide (r2=0))) then
  some (0,r2)
 else
  Option.bind (getI p1.Vehicles t1.Vehicle) fun x1 =>
  Option.bind (
   iter (ZO p1 r1) (((r1.length:Nat):Int).toNat+1) (0,x1.Depot,0)) (fun sum2 =>
   some (sum2,0))
def Y1 (t1:Qa) (d1:Int) (i1:Int):Option ((Int)⊕(Unit⊕((List Qa)×Int))) :=
 bif (decide (i1<((t1.Stops.length:Nat):Int))) then
  Option.bind (getI t1.Stops i1) fun x1 =>
  bif (decide (x1=d1)) then
   some (.inr (.inr ([],6)))
  else
   some (.inl (w64 (i1+1)))
 else
  some (.inr (.inl ()))
def Y2 (costs1:(List Int)) (r3:Int) (f_at1:Int):Option ((Int)⊕(Int)) :=
 Option.bind (
  bif (decide (0<f_at1)) then
   Option.bind (getI costs1 (w64 (f_at1-1))) fun x2 =>
   some (decide (r3<x2))
  else
   some false) (fun v3 =>
  bif v3 then
   some (.inl (w64 (f_at1-1)))
  else
   some (.inr f_at1))
def Y3 (F:Nat) (p1:Qe) (t1:Qa) (d1:Int) (j_:(List Qa)×(List Int)×Int):Option (((List Qa)×(List Int)×Int)⊕((List Qa))) :=
 oun j_ fun out1 j_=>oun j_ fun costs1 i2 =>
 bif (decide (i2≤(w64 (2*((t1.Stops.length:Nat):Int))))) then
  Option.bind (
   Option.bind (
    Option.bind (Zk t1.Stops d1 (w64 (Int.tdiv i2 2)) (decide ((Int.tmod i2 2)=1))) fun r2 =>
    some r2) (fun f1 =>
    Option.bind (Yp p1 (Qa.mk t1.Vehicle f1)) fun j_=>oun j_ fun r3 r4 =>
    bif (!(decide (r4=0))) then
     some (out1,costs1)
    else
     Option.bind (
      iter (Y2 costs1 r3) F ((out1.length:Nat):Int)) (fun f_at2 =>
      Option.bind (WI out1 0 f_at2) fun l1 =>
      Option.bind (Z0 [] l1) fun l2 =>
      Option.bind (Z0 l2 [(Qa.mk t1.Vehicle f1)]) fun l3 =>
      Option.bind (WI out1 f_at2 ((out1.length:Nat):Int)) fun l4 =>
      Option.bind (Z0 l3 l4) fun l5 =>
      Option.bind (WI costs1 0 f_at2) fun l6 =>
      Option.bind (Z0 [] l6) fun l7 =>
      Option.bind (Z0 l7 [r3]) fun l8 =>
      Option.bind (WI costs1 f_at2 ((costs1.length:Nat):Int)) fun l9 =>
      Option.bind (Z0 l8 l9) fun l10 =>
      some (l5,l10)))) (fun j_=>oun j_ fun out2 costs2 =>
   some (.inl (out2,costs2,w64 (i2+1))))
 else
  some (.inr out1)
def Yr (F:Nat) (p1:Qe) (t1:Qa) (d1:Int):Option ((List Qa)×Int) :=
 Option.bind (Qo p1) fun r1 =>
 bif (!(decide (r1=0))) then
  some ([],r1)
 else
  Option.bind (
   bif (decide (t1.Vehicle<0)) then
    some true
   else
    bif (decide (((p1.Vehicles.length:Nat):Int)≤t1.Vehicle)) then
     some true
    else
     bif (decide (d1<0)) then
      some true
     else
      some (decide (((p1.Demands.length:Nat):Int)≤d1))) (fun v1 =>
   bif v1 then
    some ([],7)
   else
    Option.bind (
     iter (Y1 t1 d1) (((t1.Stops.length:Nat):Int).toNat+1) 0) (fun o_=>QI o_ (fun _ =>
     Option.bind (
      iter (Y3 F p1 t1 d1) F ([],[],0)) (fun out3 =>
      some (out3,0))) (fun rv22204=>some rv22204)))
def Zo (F:Nat) (p1:Qe) (t1:Qa) (d1:Int):Option (Qa×Int) :=
 Option.bind (Yr F p1 t1 d1) fun j_=>oun j_ fun r1 r2 =>
 bif (!(decide (r2=0))) then
  some ((Qa.mk 0 []),r2)
 else
  bif (decide (((r1.length:Nat):Int)=0)) then
   some ((Qa.mk 0 []),40)
  else
   Option.bind (getI r1 0) fun x1 =>
   some (x1,0)
def Jl (p1:Qe) (j_:(List Qa)×Int):Option (((List Qa)×Int)⊕((List Qa))) :=
 oun j_ fun tours1 v1 =>
 bif (decide (v1<((p1.Vehicles.length:Nat):Int))) then
  Option.bind (Z0 tours1 [(Qa.mk v1 [])]) fun l1 =>
  some (.inl (l1,w64 (v1+1)))
 else
  some (.inr tours1)
def Yz (F:Nat) (p1:Qe) (tours3:(List Qa)) (d1:Int) (j_:Int×Int×Int×(List Int)×Int):Option ((Int×Int×Int×(List Int)×Int)⊕((Int×Int×(List Int)))) :=
 oun j_ fun f_at1 j_=>oun j_ fun least1 j_=>oun j_ fun f2 j_=>oun j_ fun f3 v2 =>
 bif (decide (v2<((tours3.length:Nat):Int))) then
  Option.bind (
   Option.bind (
    Option.bind (getI tours3 v2) fun x1 =>
    Option.bind (Zo F p1 x1 d1) fun j_=>oun j_ fun r2 r3 =>
    some (r2.Vehicle,r2.Stops,r3)) (fun j_=>oun j_ fun f4 j_=>oun j_ fun f5 e1 =>
    bif (!(decide (e1=0))) then
     some (f_at1,least1,f2,f3)
    else
     Option.bind (Yp p1 (Qa.mk f4 f5)) fun j_=>oun j_ fun r4 r5 =>
     Option.bind (getI tours3 v2) fun x2 =>
     Option.bind (Yp p1 x2) fun j_=>oun j_ fun r6 r7 =>
     Option.bind (
      bif (decide (f_at1<0)) then
       some true
      else
       some (decide ((w64 (r4-r6))<least1))) (fun v4 =>
      bif v4 then
       some (v2,w64 (r4-r6),f4,f5)
      else
       some (f_at1,least1,f2,f3)))) (fun j_=>oun j_ fun f_at2 j_=>oun j_ fun least2 j_=>oun j_ fun f6 f7 =>
   some (.inl (f_at2,least2,f6,f7,w64 (v2+1))))
 else
  some (.inr (f_at1,f2,f3))
def ZB (F:Nat) (p1:Qe) (j_:(List Qa)×(List Int)×Int):Option (((List Qa)×(List Int)×Int)⊕(((List Qa)×(List Int)))) :=
 oun j_ fun tours3 j_=>oun j_ fun f1 d1 =>
 bif (decide (d1<((p1.Demands.length:Nat):Int))) then
  Option.bind (
   Option.bind (
    iter (Yz F p1 tours3 d1) (((tours3.length:Nat):Int).toNat+1) ((-1),0,0,[],0)) (fun j_=>oun j_ fun f_at3 j_=>oun j_ fun f8 f9 =>
    bif (decide (f_at3<0)) then
     Option.bind (Z0 f1 [d1]) fun l2 =>
     some (tours3,l2)
    else
     Option.bind (getI tours3 f_at3) fun x3 =>
     some ((Yi tours3 f_at3 (Qa.mk f8 f9)),f1))) (fun j_=>oun j_ fun tours4 f10 =>
   some (.inl (tours4,f10,w64 (d1+1))))
 else
  some (.inr (tours3,f1))
def Jm (tours5:(List Qa)) (j_:(List Qa)×Int):Option (((List Qa)×Int)⊕((List Qa))) :=
 oun j_ fun f12 v5 =>
 bif (decide (v5<((tours5.length:Nat):Int))) then
  Option.bind (
   Option.bind (getI tours5 v5) fun x4 =>
   bif (decide (0<((x4.Stops.length:Nat):Int))) then
    Option.bind (getI tours5 v5) fun x5 =>
    Option.bind (Z0 f12 [x5]) fun l3 =>
    some l3
   else
    some f12) (fun f13 =>
   some (.inl (f13,w64 (v5+1))))
 else
  some (.inr f12)
def Qab (F:Nat) (p1:Qe):Option (Qf×Int) :=
 Option.bind (Qo p1) fun r1 =>
 bif (!(decide (r1=0))) then
  some ((Qf.mk [] []),r1)
 else
  Option.bind (
   iter (Jl p1) (((p1.Vehicles.length:Nat):Int).toNat+1) ([],0)) (fun tours2 =>
   Option.bind (
    iter (ZB F p1) (((p1.Demands.length:Nat):Int).toNat+1) (tours2,[],0)) (fun j_=>oun j_ fun tours5 f11 =>
    Option.bind (
     iter (Jm tours5) (((tours5.length:Nat):Int).toNat+1) ([],0)) (fun f14 =>
     some ((Qf.mk f14 f11),0))))
def Zh (x2:Qa) (j_:(List Int)×Int):Option (((List Int)×Int)⊕((List Int))) :=
 oun j_ fun out2 v2 =>
 bif (decide (v2<((x2.Stops.length:Nat):Int))) then
  Option.bind (
   Option.bind (getI x2.Stops v2) fun x3 =>
   bif (decide (0≤x3)) then
    Option.bind (getI out2 x3) fun x4 =>
    Option.bind (getI out2 x3) fun x5 =>
    some (Yi out2 x3 (w64 (x4+1)))
   else
    some out2) (fun out3 =>
   some (.inl (out3,w64 (v2+1))))
 else
  some (.inr out2)
def Zi (x1:Qf) (j_:(List Int)×Int):Option (((List Int)×Int)⊕((List Int))) :=
 oun j_ fun out1 v1 =>
 bif (decide (v1<((x1.Tours.length:Nat):Int))) then
  Option.bind (
   Option.bind (getI x1.Tours v1) fun x2 =>
   Option.bind (
    iter (Zh x2) (((x2.Stops.length:Nat):Int).toNat+1) (out1,0)) (fun out4 =>
    some out4)) (fun out5 =>
   some (.inl (out5,w64 (v1+1))))
 else
  some (.inr out1)
def Zj (x1:Qf) (j_:(List Int)×Int):Option (((List Int)×Int)⊕((List Int)⊕((List Int)×Int))) :=
 oun j_ fun out7 v3 =>
 bif (decide (v3<((x1.Left.length:Nat):Int))) then
  Option.bind (getI x1.Left v3) fun x6 =>
  Option.bind (
   bif (decide (x6<0)) then
    some true
   else
    some (decide (((out7.length:Nat):Int)≤x6))) (fun v4 =>
   bif v4 then
    some (.inr (.inr ([],7)))
   else
    Option.bind (getI out7 x6) fun x7 =>
    Option.bind (getI out7 x6) fun x8 =>
    some (.inl ((Yi out7 x6 (w64 (x7+1))),w64 (v3+1))))
 else
  some (.inr (.inl out7))
def W3 (p1:Qe) (x1:Qf):Option ((List Int)×Int) :=
 Option.bind (QbQ (0:Int) ((p1.Demands.length:Nat):Int)) fun l1 =>
 Option.bind (
  iter (Zi x1) (((x1.Tours.length:Nat):Int).toNat+1) (l1,0)) (fun out6 =>
  Option.bind (
   iter (Zj x1) (((x1.Left.length:Nat):Int).toNat+1) (out6,0)) (fun o_=>QI o_ (fun out8 =>
   some (out8,0)) (fun rv24113=>some rv24113)))
def ZH (x1:Qf) (v1:Int) (x2:Qa) (k1:Int):Option ((Int)⊕(Unit⊕Int)) :=
 bif (decide (k1<v1)) then
  Option.bind (getI x1.Tours k1) fun x3 =>
  bif (decide (x3.Vehicle=x2.Vehicle)) then
   some (.inr (.inr 6))
  else
   some (.inl (w64 (k1+1)))
 else
  some (.inr (.inl ()))
def YR (p1:Qe) (x1:Qf) (v1:Int):Option ((Int)⊕(Unit⊕Int)) :=
 bif (decide (v1<((x1.Tours.length:Nat):Int))) then
  Option.bind (
   Option.bind (getI x1.Tours v1) fun x2 =>
   Option.bind (
    iter (ZH x1 v1 x2) (v1.toNat+1) 0) (fun o_=>QI o_ (fun _ =>
    Option.bind (ZT p1 x2) fun j_=>oun j_ fun r2 j_=>oun j_ fun r3 r4 =>
    bif (!(decide (r3=0))) then
     some (.inr r3)
    else
     some (.inl ())) (fun rv23970=>some (.inr rv23970)))) (fun o_=>QI o_ (fun _ =>
   some (.inl (w64 (v1+1)))) (fun rv23965=>some (.inr (.inr rv23965))))
 else
  some (.inr (.inl ()))
def YS (r5:(List Int)) (j_:Bool×Int):Option ((Bool×Int)⊕(Bool⊕Int)) :=
 oun j_ fun missing1 v2 =>
 bif (decide (v2<((r5.length:Nat):Int))) then
  Option.bind (
   Option.bind (getI r5 v2) fun x4 =>
   bif (decide (1<x4)) then
    some (.inr 6)
   else
    bif missing1 then
     some (.inl true)
    else
     some (.inl (decide (x4=0)))) (fun o_=>QI o_ (fun missing2 =>
   some (.inl (missing2,w64 (v2+1)))) (fun rv24137=>some (.inr (.inr rv24137))))
 else
  some (.inr (.inl missing1))
def QO (p1:Qe) (x1:Qf):Option (Int) :=
 Option.bind (Qo p1) fun r1 =>
 bif (!(decide (r1=0))) then
  some r1
 else
  Option.bind (
   iter (YR p1 x1) (((x1.Tours.length:Nat):Int).toNat+1) 0) (fun o_=>QI o_ (fun _ =>
   Option.bind (W3 p1 x1) fun j_=>oun j_ fun r5 r6 =>
   bif (!(decide (r6=0))) then
    some r6
   else
    Option.bind (
     iter (YS r5) (((r5.length:Nat):Int).toNat+1) (false,0)) (fun o_=>QI o_ (fun missing3 =>
     bif missing3 then
      some 38
     else
      some 0) (fun rv24129=>some rv24129))) (fun rv23901=>some rv23901))
def Wl (p1:Qe) (x1:Qf) (j_:Int×Int):Option ((Int×Int)⊕(Int)) :=
 oun j_ fun sum1 v1 =>
 bif (decide (v1<((x1.Tours.length:Nat):Int))) then
  Option.bind (getI x1.Tours v1) fun x2 =>
  Option.bind (Yp p1 x2) fun j_=>oun j_ fun r2 r3 =>
  some (.inl (w64 (sum1+r2),w64 (v1+1)))
 else
  some (.inr sum1)
def Yf (p1:Qe) (x1:Qf):Option (Int×Int) :=
 Option.bind (QO p1 x1) fun r1 =>
 bif (!(decide (r1=0))) then
  some (0,r1)
 else
  Option.bind (
   iter (Wl p1 x1) (((x1.Tours.length:Nat):Int).toNat+1) (0,0)) (fun sum2 =>
   some (sum2,0))
def QbG (x1:Qf) (v1:Int) (v2:Int):Option ((Int)⊕(Unit⊕Qa)) :=
 bif (decide (v2<((x1.Tours.length:Nat):Int))) then
  Option.bind (getI x1.Tours v2) fun x2 =>
  bif (decide (x2.Vehicle=v1)) then
   some (.inr (.inr x2))
  else
   some (.inl (w64 (v2+1)))
 else
  some (.inr (.inl ()))
def Vk (x1:Qf) (v1:Int):Option (Qa) :=
 Option.bind (
  iter (QbG x1 v1) (((x1.Tours.length:Nat):Int).toNat+1) 0) (fun o_=>QI o_ (fun _ =>
  some (Qa.mk v1 [])) (fun rv24224=>some rv24224))
def JQ (stops1:(List Int)) (d1:Int) (j_:(List Int)×Int):Option (((List Int)×Int)⊕((List Int))) :=
 oun j_ fun out1 v1 =>
 bif (decide (v1<((stops1.length:Nat):Int))) then
  Option.bind (
   Option.bind (getI stops1 v1) fun x1 =>
   bif (!(decide (x1=d1))) then
    Option.bind (Z0 out1 [x1]) fun l1 =>
    some l1
   else
    some out1) (fun out2 =>
   some (.inl (out2,w64 (v1+1))))
 else
  some (.inr out1)
def VG (stops1:(List Int)) (d1:Int):Option ((List Int)) :=
 Option.bind (
  iter (JQ stops1 d1) (((stops1.length:Nat):Int).toNat+1) ([],0)) (fun out3 =>
  some out3)
def Vm (t1:Qa) (v1:Int):Option ((Int)⊕(Unit⊕Bool)) :=
 bif (decide (v1<((t1.Stops.length:Nat):Int))) then
  Option.bind (getI t1.Stops v1) fun x1 =>
  bif (decide (0≤x1)) then
   some (.inr (.inr true))
  else
   some (.inl (w64 (v1+1)))
 else
  some (.inr (.inl ()))
def VW (t1:Qa):Option (Bool) :=
 Option.bind (
  iter (Vm t1) (((t1.Stops.length:Nat):Int).toNat+1) 0) (fun o_=>QI o_ (fun _ =>
  some false) (fun rv24320=>some rv24320))
def W4 (l1:(List Int)) (n1:Int) (v1:Int):Option ((Int)⊕(Unit⊕Bool)) :=
 bif (decide (v1<((l1.length:Nat):Int))) then
  Option.bind (getI l1 v1) fun x1 =>
  bif (decide (x1=n1)) then
   some (.inr (.inr true))
  else
   some (.inl (w64 (v1+1)))
 else
  some (.inr (.inl ()))
def J2 (l1:(List Int)) (n1:Int):Option (Bool) :=
 Option.bind (
  iter (W4 l1 n1) (((l1.length:Nat):Int).toNat+1) 0) (fun o_=>QI o_ (fun _ =>
  some false) (fun rv24441=>some rv24441))
def ZP (F:Nat) (p1:Qe) (x1:Qf) (d1:Int) (v1:Int) (j_:(List Qa)×Int):Option (((List Qa)×Int)⊕((List Qa)⊕(Qf×Bool))) :=
 oun j_ fun f1 v2 =>
 bif (decide (v2<((p1.Vehicles.length:Nat):Int))) then
  Option.bind (
   Option.bind (Vk x1 v2) fun r1 =>
   Option.bind (VG r1.Stops d1) fun r2 =>
   Option.bind (
    bif (decide (v2=v1)) then
     Option.bind (Zo F p1 (Qa.mk v2 r2) d1) fun j_=>oun j_ fun r3 r4 =>
     bif (!(decide (r4=0))) then
      some (.inr ((Qf.mk [] []),false))
     else
      some (.inl (r3.Vehicle,r3.Stops))
    else
     some (.inl (v2,r2))) (fun o_=>QI o_ (fun j_=>oun j_ fun f2 f3 =>
    Option.bind (VW (Qa.mk f2 f3)) fun r5 =>
    bif r5 then
     Option.bind (Z0 f1 [(Qa.mk f2 f3)]) fun l1 =>
     some (.inl l1)
    else
     some (.inl f1)) (fun rv24645=>some (.inr rv24645)))) (fun o_=>QI o_ (fun f4 =>
   some (.inl (f4,w64 (v2+1)))) (fun rv24615=>some (.inr (.inr rv24615))))
 else
  some (.inr (.inl f1))
def JB (p1:Qe) (x1:Qf) (d1:Int) (j_:(List Int)×Int):Option (((List Int)×Int)⊕((List Int))) :=
 oun j_ fun f6 v5 =>
 bif (decide (v5<((p1.Demands.length:Nat):Int))) then
  Option.bind (
   Option.bind (
    bif (!(decide (v5=d1))) then
     Option.bind (J2 x1.Left v5) fun r6 =>
     some r6
    else
     some false) (fun v6 =>
    bif v6 then
     Option.bind (Z0 f6 [v5]) fun l2 =>
     some l2
    else
     some f6)) (fun f7 =>
   some (.inl (f7,w64 (v5+1))))
 else
  some (.inr f6)
def Vp (F:Nat) (p1:Qe) (x1:Qf) (d1:Int) (v1:Int):Option (Qf×Bool) :=
 Option.bind (
  iter (ZP F p1 x1 d1 v1) (((p1.Vehicles.length:Nat):Int).toNat+1) ([],0)) (fun o_=>QI o_ (fun f5 =>
  Option.bind (
   iter (JB p1 x1 d1) (((p1.Demands.length:Nat):Int).toNat+1) ([],0)) (fun f8 =>
   some ((Qf.mk f5 f8),true))) (fun rv24522=>some rv24522))
def ZZ (left1:Int) (cost1:Int) (otherLeft1:Int) (otherCost1:Int):Option (Bool) :=
 Option.bind (
  bif (decide (left1<otherLeft1)) then
   some true
  else
   bif (decide (left1=otherLeft1)) then
    some (decide (cost1<otherCost1))
   else
    some false) (fun v1 =>
  some v1)
def ZC (out2:(List Qf)) (costs2:(List Int)) (r4:Qf) (r6:Int) (f_at1:Int):Option ((Int)⊕(Int)) :=
 Option.bind (
  bif (decide (0<f_at1)) then
   Option.bind (getI out2 (w64 (f_at1-1))) fun x2 =>
   Option.bind (getI costs2 (w64 (f_at1-1))) fun x3 =>
   Option.bind (ZZ ((r4.Left.length:Nat):Int) r6 ((x2.Left.length:Nat):Int) x3) fun r9 =>
   some r9
  else
   some false) (fun v5 =>
  bif v5 then
   some (.inl (w64 (f_at1-1)))
  else
   some (.inr f_at1))
def YT (F:Nat) (p1:Qe) (x1:Qf) (r2:Int) (v1:Int) (j_:(List Qf)×(List Int)×Int):Option (((List Qf)×(List Int)×Int)⊕(((List Qf)×(List Int)))) :=
 oun j_ fun out2 j_=>oun j_ fun costs2 v2 =>
 bif (decide (v2<((p1.Vehicles.length:Nat):Int))) then
  Option.bind (
   Option.bind (Vp F p1 x1 v1 v2) fun j_=>oun j_ fun r4 r5 =>
   Option.bind (Yf p1 r4) fun j_=>oun j_ fun r6 r7 =>
   Option.bind (
    bif (!r5) then
     some true
    else
     bif (!(decide (r7=0))) then
      some true
     else
      Option.bind (ZZ ((r4.Left.length:Nat):Int) r6 ((x1.Left.length:Nat):Int) r2) fun r8 =>
      some (!r8)) (fun v4 =>
    bif v4 then
     some (out2,costs2)
    else
     Option.bind (
      iter (ZC out2 costs2 r4 r6) F ((out2.length:Nat):Int)) (fun f_at2 =>
      Option.bind (WI out2 0 f_at2) fun l1 =>
      Option.bind (Z0 [] l1) fun l2 =>
      Option.bind (Z0 l2 [r4]) fun l3 =>
      Option.bind (WI out2 f_at2 ((out2.length:Nat):Int)) fun l4 =>
      Option.bind (Z0 l3 l4) fun l5 =>
      Option.bind (WI costs2 0 f_at2) fun l6 =>
      Option.bind (Z0 [] l6) fun l7 =>
      Option.bind (Z0 l7 [r6]) fun l8 =>
      Option.bind (WI costs2 f_at2 ((costs2.length:Nat):Int)) fun l9 =>
      Option.bind (Z0 l8 l9) fun l10 =>
      some (l5,l10)))) (fun j_=>oun j_ fun out3 costs3 =>
   some (.inl (out3,costs3,w64 (v2+1))))
 else
  some (.inr (out2,costs2))
def ZD (F:Nat) (p1:Qe) (x1:Qf) (r2:Int) (j_:(List Qf)×(List Int)×Int):Option (((List Qf)×(List Int)×Int)⊕((List Qf))) :=
 oun j_ fun out1 j_=>oun j_ fun costs1 v1 =>
 bif (decide (v1<((p1.Demands.length:Nat):Int))) then
  Option.bind (
   Option.bind (
    iter (YT F p1 x1 r2 v1) (((p1.Vehicles.length:Nat):Int).toNat+1) (out1,costs1,0)) (fun j_=>oun j_ fun out4 costs4 =>
    some (out4,costs4))) (fun j_=>oun j_ fun out5 costs5 =>
   some (.inl (out5,costs5,w64 (v1+1))))
 else
  some (.inr out1)
def QbF (F:Nat) (p1:Qe) (x1:Qf):Option ((List Qf)×Int) :=
 Option.bind (QO p1 x1) fun r1 =>
 bif (!(decide (r1=0))) then
  some ([],r1)
 else
  Option.bind (Yf p1 x1) fun j_=>oun j_ fun r2 r3 =>
  Option.bind (
   iter (ZD F p1 x1 r2) (((p1.Demands.length:Nat):Int).toNat+1) ([],[],0)) (fun out6 =>
   some (out6,0))
def Ja (F:Nat) (p1:Qe) (x1:Qf) (d1:Int) (v1:Int):Option (Int) :=
 Option.bind (getI p1.Vehicles v1) fun x2 =>
 Option.bind (getI p1.Demands d1) fun x3 =>
 Option.bind (ZN x2 x3.Kind) fun r1 =>
 bif (!r1) then
  some 21
 else
  Option.bind (getI p1.Demands d1) fun x4 =>
  Option.bind (getI p1.Vehicles v1) fun x5 =>
  bif (decide (x5.Grams<x4.Grams)) then
   some 20
  else
   Option.bind (ZT p1 (Qa.mk v1 [d1,(-1)])) fun j_=>oun j_ fun r2 j_=>oun j_ fun r3 r4 =>
   bif (!(decide (r3=0))) then
    some r3
   else
    Option.bind (Vk x1 v1) fun r5 =>
    Option.bind (Yr F p1 r5 d1) fun j_=>oun j_ fun r6 r7 =>
    bif (decide (((r6.length:Nat):Int)=0)) then
     some 40
    else
     some 0
def VV (F:Nat) (p1:Qe) (x1:Qf) (d1:Int) (j_:(List QH)×Int):Option (((List QH)×Int)⊕((List QH))) :=
 oun j_ fun out1 v2 =>
 bif (decide (v2<((p1.Vehicles.length:Nat):Int))) then
  Option.bind (Ja F p1 x1 d1 v2) fun r3 =>
  Option.bind (Z0 out1 [(QH.mk v2 r3)]) fun l1 =>
  some (.inl (l1,w64 (v2+1)))
 else
  some (.inr out1)
def WY (F:Nat) (p1:Qe) (x1:Qf) (d1:Int):Option ((List QH)×Int) :=
 Option.bind (QO p1 x1) fun r1 =>
 bif (!(decide (r1=0))) then
  some ([],r1)
 else
  Option.bind (
   bif (decide (d1<0)) then
    some true
   else
    some (decide (((p1.Demands.length:Nat):Int)≤d1))) (fun v1 =>
   bif v1 then
    some ([],7)
   else
    Option.bind (J2 x1.Left d1) fun r2 =>
    bif (!r2) then
     some ([],13)
    else
     Option.bind (
      iter (VV F p1 x1 d1) (((p1.Vehicles.length:Nat):Int).toNat+1) ([],0)) (fun out2 =>
      some (out2,0)))
def Zv (F:Nat) (p1:Qe) (x1:Qf) (d1:Int):Option (Bool) :=
 Option.bind (YY p1 x1) fun r1 =>
 bif r1 then
  Option.bind (Jf F) fun r2 =>
  some r2
 else
  Option.bind (J5 F p1 x1 d1) fun j_=>oun j_ fun r3 r4 =>
  Option.bind (WY F p1 x1 d1) fun j_=>oun j_ fun r5 r6 =>
  Option.bind (
   Option.bind (Ya r3 r5) fun r7 =>
   bif r7 then
    bif (decide (r4=r6)) then
     Option.bind (Jf F) fun r8 =>
     some r8
    else
     some false
   else
    some false) (fun v5 =>
   some v5)
def Qbe (s11:(List QH)) (s21:(List QH)) (v1:Int):Option ((Int)⊕(Unit⊕Bool)) :=
 bif (decide (v1<((s11.length:Nat):Int))) then
  Option.bind (getI s11 v1) fun x1 =>
  Option.bind (getI s21 v1) fun x2 =>
  bif (!(decide (x1=x2))) then
   some (.inr (.inr false))
  else
   some (.inl (w64 (v1+1)))
 else
  some (.inr (.inl ()))
def QbS (s11:(List QH)) (s21:(List QH)):Option (Bool) :=
 bif (!(decide (((s11.length:Nat):Int)=((s21.length:Nat):Int)))) then
  some false
 else
  Option.bind (
   iter (Qbe s11 s21) (((s11.length:Nat):Int).toNat+1) 0) (fun o_=>QI o_ (fun _ =>
   some true) (fun rv27382=>some rv27382))
end Go.Proofs.YthpgjbbjpfiniaaGreat
