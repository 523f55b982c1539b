/- DispatchPlans: for every input the given law returns true, and its arguments read as before. No condition. -/
import Derived.Test.YthpgjbbjpfiniaaGreatc1x2
namespace Go.Proofs.YthpgjbbjpfiniaaGreat
open Go.RowKit
set_option linter.unusedSimpArgs false
set_option linter.unusedVariables false
structure QT where
 From:Int
 To:Int
 Meters:Int
 Secs:Int
deriving DecidableEq
def Qf4 (x:QT):List Value:=[.int .i64 x.From,.int .i64 x.To,.int .i64 x.Meters,.int .i64 x.Secs]
def QN:Rp QT:=Qgc 4 Qf4 (fun _=>rfl) (by intro x u hu;simp only[Qf4,List.mem_cons,List.not_mem_nil,or_false] at hu;rcases hu with rfl | rfl | rfl | rfl<;>rfl)
structure QX where
 Nodes:Int
 Edges:(List QT)
deriving DecidableEq
def QlU:Rp QX where
 sz:=2
 rep μ x cs:= ∃(A1:Option Addr) (c1:Nat),cs=[.int .i64 x.Nodes,.slice A1 x.Edges.length c1]∧(x.Edges.length≤c1∧c1≤maxLen)∧Qz QN μ A1 x.Edges
 len:=by rintro μ x cs ⟨A1,c1,rfl,_⟩;rfl
 mono:=by rintro μ μ' x cs hm ⟨A1,c1,h,hl1,ha1⟩;exact ⟨A1,c1,h,hl1,ha1.mono hm⟩
 one:=by rintro μ x cs ⟨A1,c1,rfl,_⟩ u hu;simp only[List.mem_cons,List.not_mem_nil,or_false] at hu;rcases hu with rfl | rfl<;>rfl
structure QO where
 From:Int
 To:Int
deriving DecidableEq
def Qed (x:QO):List Value:=[.int .i64 x.From,.int .i64 x.To]
def Qjw:Rp QO:=Qgc 2 Qed (fun _=>rfl) (by intro x u hu;simp only[Qed,List.mem_cons,List.not_mem_nil,or_false] at hu;rcases hu with rfl | rfl<;>rfl)
structure Qy where
 ID:ByteArray
 Depot:Int
 Shift:QO
 Grams:Int
 Kinds:Int
deriving DecidableEq
def QdY (x:Qy):List Value:=[.string x.ID,.int .i64 x.Depot,.int .i64 x.Shift.From,.int .i64 x.Shift.To,.int .i64 x.Grams,.int .i64 x.Kinds]
def QF:Rp Qy:=Qgc 6 QdY (fun _=>rfl) (by intro x u hu;simp only[QdY,List.mem_cons,List.not_mem_nil,or_false] at hu;rcases hu with rfl | rfl | rfl | rfl | rfl | rfl<;>rfl)
structure QG where
 Container:Int
 Node:Int
 Kind:Int
 Grams:Int
 When:QO
 Service:Int
deriving DecidableEq
def QeP (x:QG):List Value:=[.int .i64 x.Container,.int .i64 x.Node,.int .i64 x.Kind,.int .i64 x.Grams,.int .i64 x.When.From,.int .i64 x.When.To,.int .i64 x.Service]
def QK:Rp QG:=Qgc 7 QeP (fun _=>rfl) (by intro x u hu;simp only[QeP,List.mem_cons,List.not_mem_nil,or_false] at hu;rcases hu with rfl | rfl | rfl | rfl | rfl | rfl | rfl<;>rfl)
structure Qh where
 Road:QX
 Vehicles:(List Qy)
 Demands:(List QG)
 Unload:Int
 UnloadSecs:Int
deriving DecidableEq
def QiI:Rp Qh where
 sz:=6
 rep μ x cs:= ∃(A1:Option Addr) (c1:Nat) (A2:Option Addr) (c2:Nat) (A3:Option Addr) (c3:Nat),cs=[.int .i64 x.Road.Nodes,.slice A1 x.Road.Edges.length c1,.slice A2 x.Vehicles.length c2,.slice A3 x.Demands.length c3,.int .i64 x.Unload,.int .i64 x.UnloadSecs]∧(x.Road.Edges.length≤c1∧c1≤maxLen)∧Qz QN μ A1 x.Road.Edges∧(x.Vehicles.length≤c2∧c2≤maxLen)∧Qz QF μ A2 x.Vehicles∧(x.Demands.length≤c3∧c3≤maxLen)∧Qz QK μ A3 x.Demands
 len:=by rintro μ x cs ⟨A1,c1,A2,c2,A3,c3,rfl,_⟩;rfl
 mono:=by rintro μ μ' x cs hm ⟨A1,c1,A2,c2,A3,c3,h,hl1,ha1,hl2,ha2,hl3,ha3⟩;exact ⟨A1,c1,A2,c2,A3,c3,h,hl1,ha1.mono hm,hl2,ha2.mono hm,hl3,ha3.mono hm⟩
 one:=by rintro μ x cs ⟨A1,c1,A2,c2,A3,c3,rfl,_⟩ u hu;simp only[List.mem_cons,List.not_mem_nil,or_false] at hu;rcases hu with rfl | rfl | rfl | rfl | rfl | rfl<;>rfl
structure Qa where
 Vehicle:Int
 Stops:(List Int)
deriving DecidableEq
def Qw:Rp Qa where
 sz:=2
 rep μ x cs:= ∃(A1:Option Addr) (c1:Nat),cs=[.int .i64 x.Vehicle,.slice A1 x.Stops.length c1]∧(x.Stops.length≤c1∧c1≤maxLen)∧Qz QP μ A1 x.Stops
 len:=by rintro μ x cs ⟨A1,c1,rfl,_⟩;rfl
 mono:=by rintro μ μ' x cs hm ⟨A1,c1,h,hl1,ha1⟩;exact ⟨A1,c1,h,hl1,ha1.mono hm⟩
 one:=by rintro μ x cs ⟨A1,c1,rfl,_⟩ u hu;simp only[List.mem_cons,List.not_mem_nil,or_false] at hu;rcases hu with rfl | rfl<;>rfl
structure Qk where
 Tours:(List Qa)
 Left:(List Int)
deriving DecidableEq
def ZI:Rp Qk where
 sz:=2
 rep μ x cs:= ∃(A0:Option Addr) (c0:Nat) (A1:Option Addr) (c1:Nat),cs=[.slice A0 x.Tours.length c0,.slice A1 x.Left.length c1]∧(x.Tours.length≤c0∧c0≤maxLen)∧Qz Qw μ A0 x.Tours∧(x.Left.length≤c1∧c1≤maxLen)∧Qz QP μ A1 x.Left
 len:=by rintro μ x cs ⟨A0,c0,A1,c1,rfl,_⟩;rfl
 mono:=by rintro μ μ' x cs hm ⟨A0,c0,A1,c1,h,hl0,ha0,hl1,ha1⟩;exact ⟨A0,c0,A1,c1,h,hl0,ha0.mono hm,hl1,ha1.mono hm⟩
 one:=by rintro μ x cs ⟨A0,c0,A1,c1,rfl,_⟩ u hu;simp only[List.mem_cons,List.not_mem_nil,or_false] at hu;rcases hu with rfl | rfl<;>rfl
structure Jc where
 From:Int
 To:Int
deriving DecidableEq
def QgM (x:Jc):List Value:=[.int .i64 x.From,.int .i64 x.To]
def Qcg:Rp Jc:=Qgc 2 QgM (fun _=>rfl) (by intro x u hu;simp only[QgM,List.mem_cons,List.not_mem_nil,or_false] at hu;rcases hu with rfl | rfl<;>rfl)
structure QaY where
 Nodes:Int
 Arcs:(List Jc)
deriving DecidableEq
structure Qc where
 tour:Qa
 cost:Int
deriving DecidableEq
def Qg:Rp Qc where
 sz:=3
 rep μ x cs:= ∃(A1:Option Addr) (c1:Nat),cs=[.int .i64 x.tour.Vehicle,.slice A1 x.tour.Stops.length c1,.int .i64 x.cost]∧(x.tour.Stops.length≤c1∧c1≤maxLen)∧Qz QP μ A1 x.tour.Stops
 len:=by rintro μ x cs ⟨A1,c1,rfl,_⟩;rfl
 mono:=by rintro μ μ' x cs hm ⟨A1,c1,h,hl1,ha1⟩;exact ⟨A1,c1,h,hl1,ha1.mono hm⟩
 one:=by rintro μ x cs ⟨A1,c1,rfl,_⟩ u hu;simp only[List.mem_cons,List.not_mem_nil,or_false] at hu;rcases hu with rfl | rfl | rfl<;>rfl
structure Qr where
 Secs:Int
 Meters:Int
deriving DecidableEq
def QgL (x:Qr):List Value:=[.int .i64 x.Secs,.int .i64 x.Meters]
def Yw:Rp Qr:=Qgc 2 QgL (fun _=>rfl) (by intro x u hu;simp only[QgL,List.mem_cons,List.not_mem_nil,or_false] at hu;rcases hu with rfl | rfl<;>rfl)
structure Jl where
 node:Int
 time:Int
 load:Int
 meters:Int
deriving DecidableEq
structure QY where
 Stop:Int
 Node:Int
 Arrive:Int
 Start:Int
 Leave:Int
 Load:Int
deriving DecidableEq
def Qfd (x:QY):List Value:=[.int .i64 x.Stop,.int .i64 x.Node,.int .i64 x.Arrive,.int .i64 x.Start,.int .i64 x.Leave,.int .i64 x.Load]
def Wq:Rp QY:=Qgc 6 Qfd (fun _=>rfl) (by intro x u hu;simp only[Qfd,List.mem_cons,List.not_mem_nil,or_false] at hu;rcases hu with rfl | rfl | rfl | rfl | rfl | rfl<;>rfl)
structure QQ where
 place:Jl
 p:Qh
 v:Qy
 legs:(List (Int×(List Qr)))
 visits:(List QY)
deriving DecidableEq
def QW (μ:Gh) (v:Value) (x:QQ) (so:Seg):Prop:= ∃(g:Nat) (A5:Option Addr) (c5:Nat) (A6:Option Addr) (c6:Nat) (A7:Option Addr) (c7:Nat) (m16:Nat) (es16:Array MapEntry) (cn16:Nat) (A17:Option Addr) (c17:Nat) (ch17:Seg),v= .pointer (some ⟨g,0,none⟩)∧so=((g,Obj.cells #[.int .i64 x.place.node,.int .i64 x.place.time,.int .i64 x.place.load,.int .i64 x.place.meters,.int .i64 x.p.Road.Nodes,.slice A5 x.p.Road.Edges.length c5,.slice A6 x.p.Vehicles.length c6,.slice A7 x.p.Demands.length c7,.int .i64 x.p.Unload,.int .i64 x.p.UnloadSecs,.string x.v.ID,.int .i64 x.v.Depot,.int .i64 x.v.Shift.From,.int .i64 x.v.Shift.To,.int .i64 x.v.Grams,.int .i64 x.v.Kinds,.map (some m16),.slice A17 x.visits.length c17] 104 (0,0))::((m16,Obj.map es16 cn16)::ch17))∧((x.p.Road.Edges.length≤c5∧c5≤maxLen)∧Qz QN μ A5 x.p.Road.Edges)∧((x.p.Vehicles.length≤c6∧c6≤maxLen)∧Qz QF μ A6 x.p.Vehicles)∧((x.p.Demands.length≤c7∧c7≤maxLen)∧Qz QK μ A7 x.p.Demands)∧Qfs Yw μ es16 cn16 x.legs∧Own Wq 135 μ (.slice A17 x.visits.length c17) x.visits ch17
theorem QW.mono {μ μ':Gh} {v:Value} {x:QQ} {so:Seg} (h:QW μ v x so) (hm:μ.le μ'):QW μ' v x so:=by
 obtain ⟨g,A5,c5,A6,c6,A7,c7,m16,es16,cn16,A17,c17,ch17,hv,hs,h5,h6,h7,h16,h17⟩:=h;exact ⟨g,A5,c5,A6,c6,A7,c7,m16,es16,cn16,A17,c17,ch17,hv,hs,⟨h5.1,h5.2.mono hm⟩,⟨h6.1,h6.2.mono hm⟩,⟨h7.1,h7.2.mono hm⟩,h16.mono hm,h17.mono hm⟩
theorem QW.fl {x:QQ} {g:Nat} {A5:Option Addr} {c5:Nat} {A6:Option Addr} {c6:Nat} {A7:Option Addr} {c7:Nat} {m16:Nat} {es16:Array MapEntry} {cn16:Nat} {A17:Option Addr} {c17:Nat} {ch17:Seg}:([[(g,Obj.cells #[.int .i64 x.place.node,.int .i64 x.place.time,.int .i64 x.place.load,.int .i64 x.place.meters,.int .i64 x.p.Road.Nodes,.slice A5 x.p.Road.Edges.length c5,.slice A6 x.p.Vehicles.length c6,.slice A7 x.p.Demands.length c7,.int .i64 x.p.Unload,.int .i64 x.p.UnloadSecs,.string x.v.ID,.int .i64 x.v.Depot,.int .i64 x.v.Shift.From,.int .i64 x.v.Shift.To,.int .i64 x.v.Grams,.int .i64 x.v.Kinds,.map (some m16),.slice A17 x.visits.length c17] 104 (0,0))],[(m16,Obj.map es16 cn16)],ch17]:List Seg).flatten=((g,Obj.cells #[.int .i64 x.place.node,.int .i64 x.place.time,.int .i64 x.place.load,.int .i64 x.place.meters,.int .i64 x.p.Road.Nodes,.slice A5 x.p.Road.Edges.length c5,.slice A6 x.p.Vehicles.length c6,.slice A7 x.p.Demands.length c7,.int .i64 x.p.Unload,.int .i64 x.p.UnloadSecs,.string x.v.ID,.int .i64 x.v.Depot,.int .i64 x.v.Shift.From,.int .i64 x.v.Shift.To,.int .i64 x.v.Grams,.int .i64 x.v.Kinds,.map (some m16),.slice A17 x.visits.length c17] 104 (0,0))::((m16,Obj.map es16 cn16)::ch17)):=by simp
structure Yl where
 node:Int
 leg:Qr
deriving DecidableEq
structure Q5 where
 value:Yl
 n:Int
deriving DecidableEq
def QbR (x:Q5):List Value:=[.int .i64 x.value.node,.int .i64 x.value.leg.Secs,.int .i64 x.value.leg.Meters,.int .i64 x.n]
def QV:Rp Q5:=Qgc 4 QbR (fun _=>rfl) (by intro x u hu;simp only[QbR,List.mem_cons,List.not_mem_nil,or_false] at hu;rcases hu with rfl | rfl | rfl | rfl<;>rfl)
structure Qo where
 heap:(List Q5)
 count:Int
deriving DecidableEq
def Qt (μ:Gh) (v:Value) (x:Qo) (so:Seg):Prop:= ∃(g:Nat) (A1:Option Addr) (c1:Nat) (ch1:Seg),v= .pointer (some ⟨g,0,none⟩)∧so=((g,Obj.cells #[.func (.func 153) #[] #[],.slice A1 x.heap.length c1,.int .i64 x.count] 211 (0,0))::ch1)∧Own QV 213 μ (.slice A1 x.heap.length c1) x.heap ch1
theorem Qt.mono {μ μ':Gh} {v:Value} {x:Qo} {so:Seg} (h:Qt μ v x so) (hm:μ.le μ'):Qt μ' v x so:=by
 obtain ⟨g,A1,c1,ch1,hv,hs,h1⟩:=h;exact ⟨g,A1,c1,ch1,hv,hs,h1.mono hm⟩
theorem Qt.fl {x:Qo} {g:Nat} {A1:Option Addr} {c1:Nat} {ch1:Seg}:([[(g,Obj.cells #[.func (.func 153) #[] #[],.slice A1 x.heap.length c1,.int .i64 x.count] 211 (0,0))],ch1]:List Seg).flatten=((g,Obj.cells #[.func (.func 153) #[] #[],.slice A1 x.heap.length c1,.int .i64 x.count] 211 (0,0))::ch1):=by simp
structure Qb where
 plan:Qk
 cost:Int
deriving DecidableEq
def Qi:Rp Qb where
 sz:=3
 rep μ x cs:= ∃(A0:Option Addr) (c0:Nat) (A1:Option Addr) (c1:Nat),cs=[.slice A0 x.plan.Tours.length c0,.slice A1 x.plan.Left.length c1,.int .i64 x.cost]∧(x.plan.Tours.length≤c0∧c0≤maxLen)∧Qz Qw μ A0 x.plan.Tours∧(x.plan.Left.length≤c1∧c1≤maxLen)∧Qz QP μ A1 x.plan.Left
 len:=by rintro μ x cs ⟨A0,c0,A1,c1,rfl,_⟩;rfl
 mono:=by rintro μ μ' x cs hm ⟨A0,c0,A1,c1,h,hl0,ha0,hl1,ha1⟩;exact ⟨A0,c0,A1,c1,h,hl0,ha0.mono hm,hl1,ha1.mono hm⟩
 one:=by rintro μ x cs ⟨A0,c0,A1,c1,rfl,_⟩ u hu;simp only[List.mem_cons,List.not_mem_nil,or_false] at hu;rcases hu with rfl | rfl | rfl<;>rfl
structure Q6 where
 Vehicle:Int
 Err:Int
deriving DecidableEq
def QeQ (x:Q6):List Value:=[.int .i64 x.Vehicle,.int .i64 x.Err]
def WY:Rp Q6:=Qgc 2 QeQ (fun _=>rfl) (by intro x u hu;simp only[QeQ,List.mem_cons,List.not_mem_nil,or_false] at hu;rcases hu with rfl | rfl<;>rfl)
def QS (μ:Gh) (v:Value) (x:(List Qb)) (so:Seg):Prop:= ∃(g:Nat) (A0:Option Addr) (c0:Nat) (ch0:Seg),v= .pointer (some ⟨g,0,none⟩)∧so=((g,Obj.cells #[.slice A0 x.length c0] 77 (0,0))::ch0)∧Own Qi 82 μ (.slice A0 x.length c0) x ch0
theorem QS.mono {μ μ':Gh} {v:Value} {x:(List Qb)} {so:Seg} (h:QS μ v x so) (hm:μ.le μ'):QS μ' v x so:=by
 obtain ⟨g,A0,c0,ch0,hv,hs,h0⟩:=h;exact ⟨g,A0,c0,ch0,hv,hs,h0.mono hm⟩
theorem QS.fl {x:(List Qb)} {g:Nat} {A0:Option Addr} {c0:Nat} {ch0:Seg}:([[(g,Obj.cells #[.slice A0 x.length c0] 77 (0,0))],ch0]:List Seg).flatten=((g,Obj.cells #[.slice A0 x.length c0] 77 (0,0))::ch0):=by simp
def QgH (x:QT):Prop:=(wfI .i64) x.From∧(wfI .i64) x.To∧(wfI .i64) x.Meters∧(wfI .i64) x.Secs
def QgZ (x:QX):Prop:=(wfI .i64) x.Nodes∧(fun xs:List QT=> ∀x∈xs,QgH x) x.Edges
def QcX (x:QO):Prop:=(wfI .i64) x.From∧(wfI .i64) x.To
def QeL (x:Qy):Prop:=(fun s:ByteArray=>s.size≤maxLen) x.ID∧(wfI .i64) x.Depot∧QcX x.Shift∧(wfI .i64) x.Grams∧(wfI .i64) x.Kinds
def Qe7 (x:QG):Prop:=(wfI .i64) x.Container∧(wfI .i64) x.Node∧(wfI .i64) x.Kind∧(wfI .i64) x.Grams∧QcX x.When∧(wfI .i64) x.Service
def Qew (x:Qh):Prop:=QgZ x.Road∧(fun xs:List Qy=> ∀x∈xs,QeL x) x.Vehicles∧(fun xs:List QG=> ∀x∈xs,Qe7 x) x.Demands∧(wfI .i64) x.Unload∧(wfI .i64) x.UnloadSecs
def JA (p1:Qh) (v2:Int):Option ((Int)⊕(Unit⊕Bool)) :=
 bif (decide (v2<((p1.Vehicles.length:Nat):Int))) then
  Option.bind (getI p1.Vehicles v2) fun x1 =>
  bif (decide (200<((x1.ID.size:Nat):Int))) then
   some (.inr (.inr true))
  else
   some (.inl (w64 (v2+1)))
 else
  some (.inr (.inl ()))
def Jz (p1:Qh):Option (Bool) :=
 Option.bind (
  bif (decide (600<((p1.Road.Edges.length:Nat):Int))) then
   some true
  else
   bif (decide (30<((p1.Vehicles.length:Nat):Int))) then
    some true
   else
    some (decide (60<((p1.Demands.length:Nat):Int)))) (fun v1 =>
  bif v1 then
   some true
  else
   Option.bind (
    iter (JA p1) (((p1.Vehicles.length:Nat):Int).toNat+1) 0) (fun o_=>QR o_ (fun _ =>
    some false) (fun rv22=>some rv22)))
def ZJ (x1:Qk) (v2:Int):Option ((Int)⊕(Unit⊕Bool)) :=
 bif (decide (v2<((x1.Tours.length:Nat):Int))) then
  Option.bind (getI x1.Tours v2) fun x2 =>
  bif (decide (100<((x2.Stops.length:Nat):Int))) then
   some (.inr (.inr true))
  else
   some (.inl (w64 (v2+1)))
 else
  some (.inr (.inl ()))
def Zz (x1:Qk):Option (Bool) :=
 Option.bind (
  bif (decide (30<((x1.Tours.length:Nat):Int))) then
   some true
  else
   some (decide (100<((x1.Left.length:Nat):Int)))) (fun v1 =>
  bif v1 then
   some true
  else
   Option.bind (
    iter (ZJ x1) (((x1.Tours.length:Nat):Int).toNat+1) 0) (fun o_=>QR o_ (fun _ =>
    some false) (fun rv37=>some rv37)))
def Jo (x1:Qk) (v2:Int):Option ((Int)⊕(Unit⊕Bool)) :=
 bif (decide (v2<((x1.Tours.length:Nat):Int))) then
  Option.bind (getI x1.Tours v2) fun x2 =>
  bif (decide (16<((x2.Stops.length:Nat):Int))) then
   some (.inr (.inr true))
  else
   some (.inl (w64 (v2+1)))
 else
  some (.inr (.inl ()))
def Za (p1:Qh) (x1:Qk):Option (Bool) :=
 Option.bind (
  Option.bind (Jz p1) fun r1 =>
  bif r1 then
   some true
  else
   Option.bind (Zz x1) fun r2 =>
   bif r2 then
    some true
   else
    bif (decide (100<((p1.Road.Edges.length:Nat):Int))) then
     some true
    else
     bif (decide (4<((p1.Vehicles.length:Nat):Int))) then
      some true
     else
      bif (decide (8<((p1.Demands.length:Nat):Int))) then
       some true
      else
       some (decide (8<((x1.Tours.length:Nat):Int)))) (fun v1 =>
  bif v1 then
   some true
  else
   Option.bind (
    iter (Jo x1) (((x1.Tours.length:Nat):Int).toNat+1) 0) (fun o_=>QR o_ (fun _ =>
    some false) (fun rv52=>some rv52)))
def VT (r1:QX) (j_:(List Jc)×Int):Option (((List Jc)×Int)⊕((List Jc))) :=
 oun j_ fun f1 v1 =>
 bif (decide (v1<((r1.Edges.length:Nat):Int))) then
  Option.bind (getI r1.Edges v1) fun x1 =>
  Option.bind (Jf f1 [(Jc.mk x1.From x1.To)]) fun l1 =>
  some (.inl (l1,w64 (v1+1)))
 else
  some (.inr f1)
def Qbi (r1:QX):Option (QaY) :=
 Option.bind (
  iter (VT r1) (((r1.Edges.length:Nat):Int).toNat+1) ([],0)) (fun f2 =>
  some (QaY.mk r1.Nodes f2))
def Qak (g1:QaY) (v2:Int):Option ((Int)⊕(Unit⊕Int)) :=
 bif (decide (v2<((g1.Arcs.length:Nat):Int))) then
  Option.bind (getI g1.Arcs v2) fun x1 =>
  Option.bind (
   bif (decide (x1.From<0)) then
    some true
   else
    bif (decide (g1.Nodes≤x1.From)) then
     some true
    else
     bif (decide (x1.To<0)) then
      some true
     else
      some (decide (g1.Nodes≤x1.To))) (fun v3 =>
   bif v3 then
    some (.inr (.inr 7))
   else
    some (.inl (w64 (v2+1))))
 else
  some (.inr (.inl ()))
def QbL (g1:QaY):Option (Int) :=
 Option.bind (
  bif (decide (g1.Nodes<0)) then
   some true
  else
   some (decide (64<g1.Nodes))) (fun v1 =>
  bif v1 then
   some 1
  else
   bif (decide (512<((g1.Arcs.length:Nat):Int))) then
    some 8
   else
    Option.bind (
     iter (Qak g1) (((g1.Arcs.length:Nat):Int).toNat+1) 0) (fun o_=>QR o_ (fun _ =>
     some 0) (fun rv243=>some rv243)))
def QbK (r1:QX) (v2:Int):Option ((Int)⊕(Unit⊕Int)) :=
 bif (decide (v2<((r1.Edges.length:Nat):Int))) then
  Option.bind (getI r1.Edges v2) fun x1 =>
  Option.bind (
   bif (decide (x1.From<0)) then
    some true
   else
    bif (decide (r1.Nodes≤x1.From)) then
     some true
    else
     bif (decide (x1.To<0)) then
      some true
     else
      some (decide (r1.Nodes≤x1.To))) (fun v3 =>
   bif v3 then
    some (.inr (.inr 7))
   else
    Option.bind (
     bif (decide (x1.From=x1.To)) then
      some true
     else
      bif (decide (x1.Meters<1)) then
       some true
      else
       bif (decide (100000<x1.Meters)) then
        some true
       else
        bif (decide (x1.Secs<1)) then
         some true
        else
         some (decide (100000<x1.Secs))) (fun v4 =>
     bif v4 then
      some (.inr (.inr 1))
     else
      some (.inl (w64 (v2+1)))))
 else
  some (.inr (.inl ()))
def QaN (r1:QX):Option (Int) :=
 Option.bind (
  bif (decide (r1.Nodes<1)) then
   some true
  else
   some (decide (64<r1.Nodes))) (fun v1 =>
  bif v1 then
   some 1
  else
   bif (decide (512<((r1.Edges.length:Nat):Int))) then
    some 8
   else
    Option.bind (
     iter (QbK r1) (((r1.Edges.length:Nat):Int).toNat+1) 0) (fun o_=>QR o_ (fun _ =>
     Option.bind (Qbi r1) fun r2 =>
     Option.bind (QbL r2) fun r3 =>
     some r3) (fun rv267=>some rv267)))
def Qaq (c1:Int):Option (Bool) :=
 Option.bind (
  bif (decide (97≤c1)) then
   bif (decide (c1≤122)) then
    some true
   else
    bif (decide (65≤c1)) then
     some (decide (c1≤90))
    else
     some false
  else
   bif (decide (65≤c1)) then
    some (decide (c1≤90))
   else
    some false) (fun v1 =>
  some v1)
def Qbl (s1:ByteArray) (i1:Int):Option ((Int)⊕(Unit⊕Bool)) :=
 bif (decide (i1<((s1.size:Nat):Int))) then
  Option.bind (QiJ s1 i1) fun x2 =>
  Option.bind (
   Option.bind (Qaq x2) fun r2 =>
   bif (!r2) then
    bif (decide (x2<48)) then
     bif (!(decide (x2=45))) then
      bif (!(decide (x2=95))) then
       some (!(decide (x2=46)))
      else
       some false
     else
      some false
    else
     bif (decide (57<x2)) then
      bif (!(decide (x2=45))) then
       bif (!(decide (x2=95))) then
        some (!(decide (x2=46)))
       else
        some false
      else
       some false
     else
      some false
   else
    some false) (fun v2 =>
   bif v2 then
    some (.inr (.inr false))
   else
    some (.inl (w64 (i1+1))))
 else
  some (.inr (.inl ()))
def QbQ (F:Nat) (s1:ByteArray):Option (Bool) :=
 Option.bind (
  bif (decide (((s1.size:Nat):Int)<1)) then
   some true
  else
   bif (decide (32<((s1.size:Nat):Int))) then
    some true
   else
    Option.bind (QiJ s1 0) fun x1 =>
    Option.bind (Qaq x1) fun r1 =>
    some (!r1)) (fun v1 =>
  bif v1 then
   some false
  else
   Option.bind (
    iter (Qbl s1) F 1) (fun o_=>QR o_ (fun _ =>
    some true) (fun rv308=>some rv308)))
def QaC (F:Nat) (v1:Qy) (nodes1:Int) (materials1:Int):Option (Int) :=
 Option.bind (QbQ F v1.ID) fun r1 =>
 bif (!r1) then
  some 5
 else
  Option.bind (
   bif (decide (v1.Depot<0)) then
    some true
   else
    some (decide (nodes1≤v1.Depot))) (fun v2 =>
   bif v2 then
    some 7
   else
    Option.bind (
     bif (decide (v1.Shift.From<0)) then
      some true
     else
      bif (decide (v1.Shift.To≤v1.Shift.From)) then
       some true
      else
       some (decide (86400<v1.Shift.To))) (fun v3 =>
     bif v3 then
      some 19
     else
      Option.bind (
       bif (decide (v1.Grams<1)) then
        some true
       else
        some (decide (1073741824<v1.Grams))) (fun v4 =>
       bif v4 then
        some 1
       else
        Option.bind (
         bif (decide (v1.Kinds<1)) then
          some true
         else
          Option.bind (WR (0≤materials1∧materials1≤64)) fun _ =>
          some (decide ((w64 (1*2^materials1.toNat))≤v1.Kinds))) (fun v5 =>
         bif v5 then
          some 21
         else
          some 0))))
def Va (F:Nat) (l1:(List Qy)) (nodes1:Int) (materials1:Int) (v2:Int):Option ((Int)⊕(Unit⊕Int)) :=
 bif (decide (v2<((l1.length:Nat):Int))) then
  Option.bind (getI l1 v2) fun x1 =>
  Option.bind (QaC F x1 nodes1 materials1) fun r1 =>
  bif (!(decide (r1=0))) then
   some (.inr (.inr r1))
  else
   some (.inl (w64 (v2+1)))
 else
  some (.inr (.inl ()))
def W9 (l1:(List Qy)) (j_:(List (ByteArray×Bool))×Int):Option (((List (ByteArray×Bool))×Int)⊕(Unit⊕Int)) :=
 oun j_ fun m1 v3 =>
 bif (decide (v3<((l1.length:Nat):Int))) then
  Option.bind (getI l1 v3) fun x2 =>
  bif ((Qdz x2.ID m1).getD false) then
   some (.inr (.inr 6))
  else
   some (.inl ((QiK x2.ID true m1),w64 (v3+1)))
 else
  some (.inr (.inl ()))
def VY (F:Nat) (l1:(List Qy)) (nodes1:Int) (materials1:Int):Option (Int) :=
 Option.bind (
  bif (decide (nodes1<1)) then
   some true
  else
   bif (decide (64<nodes1)) then
    some true
   else
    bif (decide (materials1<1)) then
     some true
    else
     some (decide (16<materials1))) (fun v1 =>
  bif v1 then
   some 1
  else
   bif (decide (((l1.length:Nat):Int)=0)) then
    some 10
   else
    bif (decide (16<((l1.length:Nat):Int))) then
     some 8
    else
     Option.bind (
      iter (Va F l1 nodes1 materials1) (((l1.length:Nat):Int).toNat+1) 0) (fun o_=>QR o_ (fun _ =>
      Option.bind (
       iter (W9 l1) (((l1.length:Nat):Int).toNat+1) ([],0)) (fun o_=>QR o_ (fun _ =>
       some 0) (fun rv327=>some rv327))) (fun rv301=>some rv301)))
def VB (n1:Int) (low1:Int) (high1:Int):Option (Bool) :=
 Option.bind (
  bif (decide (low1≤n1)) then
   some (decide (n1≤high1))
  else
   some false) (fun v1 =>
  some v1)
def QdN (
        x1:QG) (nodes1:Int) (materials1:Int):Option (Int) :=
 Option.bind (
  Option.bind (VB x1.Container 0 255) fun r1 =>
  bif (!r1) then
   some true
  else
   bif (decide (x1.Node<0)) then
    some true
   else
    bif (decide (nodes1≤x1.Node)) then
     some true
    else
     bif (decide (x1.Kind<0)) then
      some true
     else
      some (decide (materials1≤x1.Kind))) (fun v1 =>
  bif v1 then
   some 7
  else
   Option.bind (
    Option.bind (VB x1.Grams 0 1073741824) fun r2 =>
    bif (!r2) then
     some true
    else
     bif (decide (x1.When.From<0)) then
      some true
     else
      bif (decide (x1.When.To<x1.When.From)) then
       some true
      else
       bif (decide (86400<x1.When.To)) then
        some true
       else
        Option.bind (VB x1.Service 0 3600) fun r3 =>
        some (!r3)) (fun v2 =>
    bif v2 then
     some 1
    else
     some 0))
def Qbd (y1:QG) (b1:QG):Option (Bool) :=
 some (decide (y1.Container=b1.Container))
def Y4 (s1:(List QG)) (b1:QG) (v1:Int):Option ((Int)⊕(Unit⊕Int)) :=
 bif (decide (v1<((s1.length:Nat):Int))) then
  Option.bind (getI s1 v1) fun x1 =>
  Option.bind (Qbd x1 b1) fun r1 =>
  bif r1 then
   some (.inr (.inr v1))
  else
   some (.inl (w64 (v1+1)))
 else
  some (.inr (.inl ()))
def JD (s1:(List QG)) (b1:QG):Option (Int) :=
 Option.bind (
  iter (Y4 s1 b1) (((s1.length:Nat):Int).toNat+1) 0) (fun o_=>QR o_ (fun _ =>
  some (-1)) (fun rv361=>some rv361))
def Y5 (s1:(List QG)) (b1:QG):Option (Bool) :=
 Option.bind (JD s1 b1) fun r1 =>
 some (decide (0≤r1))
def QaJ (l1:(List QG)) (nodes1:Int) (materials1:Int) (v1:Int):Option ((Int)⊕(Unit⊕Int)) :=
 bif (decide (v1<((l1.length:Nat):Int))) then
  Option.bind (getI l1 v1) fun x1 =>
  Option.bind (QdN x1 nodes1 materials1) fun r1 =>
  bif (!(decide (r1=0))) then
   some (.inr (.inr r1))
  else
   some (.inl (w64 (v1+1)))
 else
  some (.inr (.inl ()))
def VU (l1:(List QG)) (v2:Int):Option ((Int)⊕(Unit⊕Int)) :=
 bif (decide (v2<((l1.length:Nat):Int))) then
  Option.bind (getI l1 v2) fun x2 =>
  Option.bind (WS l1 0 v2) fun l2 =>
  Option.bind (Y5 l2 x2) fun r2 =>
  bif r2 then
   some (.inr (.inr 6))
  else
   some (.inl (w64 (v2+1)))
 else
  some (.inr (.inl ()))
def Qbc (l1:(List QG)) (nodes1:Int) (materials1:Int):Option (Int) :=
 bif (decide (32<((l1.length:Nat):Int))) then
  some 8
 else
  Option.bind (
   iter (QaJ l1 nodes1 materials1) (((l1.length:Nat):Int).toNat+1) 0) (fun o_=>QR o_ (fun _ =>
   Option.bind (
    iter (VU l1) (((l1.length:Nat):Int).toNat+1) 0) (fun o_=>QR o_ (fun _ =>
    some 0) (fun rv352=>some rv352))) (fun rv339=>some rv339))
def VS (
        F:Nat) (p1:Qh):Option (Int) :=
 Option.bind (QaN p1.Road) fun r1 =>
 bif (!(decide (r1=0))) then
  some r1
 else
  Option.bind (VY F p1.Vehicles p1.Road.Nodes 16) fun r2 =>
  bif (!(decide (r2=0))) then
   some r2
  else
   Option.bind (Qbc p1.Demands p1.Road.Nodes 16) fun r3 =>
   bif (!(decide (r3=0))) then
    some r3
   else
    Option.bind (
     bif (decide (p1.Unload<0)) then
      some true
     else
      some (decide (p1.Road.Nodes≤p1.Unload))) (fun v2 =>
     bif v2 then
      some 7
     else
      Option.bind (
       bif (decide (p1.UnloadSecs<0)) then
        some true
       else
        some (decide (7200<p1.UnloadSecs))) (fun v3 =>
       bif v3 then
        some 1
       else
        some 0))
def WG (s1:(List Int)) (v1:Int) (v2:Int):Option ((Int)⊕(Unit⊕Int)) :=
 bif (decide (v2<((s1.length:Nat):Int))) then
  Option.bind (getI s1 v2) fun x1 =>
  bif (decide (v1=x1)) then
   some (.inr (.inr v2))
  else
   some (.inl (w64 (v2+1)))
 else
  some (.inr (.inl ()))
def Qap (s1:(List Int)) (v1:Int):Option (Int) :=
 Option.bind (
  iter (WG s1 v1) (((s1.length:Nat):Int).toNat+1) 0) (fun o_=>QR o_ (fun _ =>
  some (-1)) (fun rv488=>some rv488))
def YO (s1:(List Int)) (v1:Int):Option (Bool) :=
 Option.bind (Qap s1 v1) fun r1 =>
 some (decide (0≤r1))
def W0 (stops1:(List Int)) (k1:Int) (more1:(List Int)):Option ((List Int)) :=
 Option.bind (WS stops1 0 k1) fun l1 =>
 Option.bind (Jf [] l1) fun l2 =>
 Option.bind (Jf l2 more1) fun l3 =>
 Option.bind (WS stops1 k1 ((stops1.length:Nat):Int)) fun l4 =>
 Option.bind (Jf l3 l4) fun l5 =>
 Option.bind (getI l5 (w64 (((l5.length:Nat):Int)-1))) fun x1 =>
 Option.bind (
  bif (!(decide (x1=(-1)))) then
   Option.bind (Jf l5 [(-1)]) fun l6 =>
   some l6
  else
   some l5) (fun out1 =>
  some out1)
def Wl (t1:Qa) (d1:Int) (j_:(List Qa)×Int×Int):Option (((List Qa)×Int×Int)⊕((List Qa))) :=
 oun j_ fun out1 j_=>oun j_ fun v1 v2 =>
 bif (decide (v2<v1)) then
  Option.bind (
   Option.bind (W0 t1.Stops v2 [d1]) fun r1 =>
   Option.bind (Jf out1 [(Qa.mk t1.Vehicle r1)]) fun l1 =>
   bif (decide (v2<((t1.Stops.length:Nat):Int))) then
    Option.bind (W0 t1.Stops v2 [d1,(-1)]) fun r2 =>
    Option.bind (Jf l1 [(Qa.mk t1.Vehicle r2)]) fun l2 =>
    some l2
   else
    some l1) (fun out2 =>
   some (.inl (out2,v1,w64 (v2+1))))
 else
  some (.inr out1)
def Vy (F:Nat) (t1:Qa) (d1:Int):Option ((List Qa)) :=
 Option.bind (
  iter (Wl t1 d1) F ([],w64 (((t1.Stops.length:Nat):Int)+1),0)) (fun out3 =>
  some out3)
def Jk (v1:Qy) (kind1:Int):Option (Bool) :=
 Option.bind (
  bif (decide (0≤kind1)) then
   bif (decide (kind1<16)) then
    Option.bind (WR (0≤kind1∧kind1≤64)) fun _ =>
    some (decide ((Qpu .i64 (v1.Kinds/2^kind1.toNat) 1)=1))
   else
    some false
  else
   some false) (fun v2 =>
  some v2)
def Qcf:Option (Qr) :=
 some (Qr.mk (-1) 0)
def Vv:Option (Qo) :=
 some (Qo.mk [] 0)
def QaX (a1:Qr) (b1:Qr):Option (Bool) :=
 Option.bind (
  Option.bind (Qcf) fun r1 =>
  bif (decide (b1=r1)) then
   some true
  else
   bif (decide (a1.Secs<b1.Secs)) then
    some true
   else
    bif (decide (a1.Secs=b1.Secs)) then
     some (decide (a1.Meters<b1.Meters))
    else
     some false) (fun v1 =>
  some v1)
def V0 (a1:Yl) (b1:Yl):Option (Bool) :=
 Option.bind (
  bif (!(decide (a1.leg=b1.leg))) then
   Option.bind (QaX a1.leg b1.leg) fun r1 =>
   some r1
  else
   some false) (fun v1 =>
  some v1)
def Zv (q1:Qo) (i1:Int) (k1:Int):Option (Bool) :=
 Option.bind (
  Option.bind (getI q1.heap i1) fun x1 =>
  Option.bind (getI q1.heap k1) fun x2 =>
  some (x1.value.node,x1.value.leg.Secs,x1.value.leg.Meters,x1.n,x2.value.node,x2.value.leg.Secs,x2.value.leg.Meters,x2.n)) (fun j_=>oun j_ fun f1 j_=>oun j_ fun f2 j_=>oun j_ fun f3 j_=>oun j_ fun f4 j_=>oun j_ fun f5 j_=>oun j_ fun f6 j_=>oun j_ fun f7 f8 =>
  Option.bind (V0 (Yl.mk f1 (Qr.mk f2 f3)) (Yl.mk f5 (Qr.mk f6 f7))) fun r1 =>
  bif r1 then
   some true
  else
   Option.bind (
    bif (decide (f4<f8)) then
     Option.bind (V0 (Yl.mk f5 (Qr.mk f6 f7)) (Yl.mk f1 (Qr.mk f2 f3))) fun r2 =>
     some (!r2)
    else
     some false) (fun v1 =>
    some v1))
def Zk (q1:Qo) (i1:Int) (k1:Int):Option (Qo) :=
 Option.bind (
  Option.bind (getI q1.heap k1) fun x1 =>
  Option.bind (getI q1.heap i1) fun x2 =>
  Option.bind (getI q1.heap i1) fun x3 =>
  Option.bind (getI (Q9 q1.heap i1 x1) k1) fun x4 =>
  some (Q9 (Q9 q1.heap i1 x1) k1 x2)) (fun f1 =>
  some (Qo.mk f1 q1.count))
def Ze (j_:Qo×Int):Option ((Qo×Int)⊕(Qo⊕Qo)) :=
 oun j_ fun q2 i1 =>
 bif (decide (0<i1)) then
  Option.bind (Zv q2 i1 (w64 (Int.tdiv (w64 (i1-1)) 2))) fun r1 =>
  bif (!r1) then
   some (.inr (.inr q2))
  else
   Option.bind (Zk q2 i1 (w64 (Int.tdiv (w64 (i1-1)) 2))) fun r2 =>
   some (.inl (r2,w64 (Int.tdiv (w64 (i1-1)) 2)))
 else
  some (.inr (.inl q2))
def ZV (F:Nat) (q1:Qo) (x1:Yl):Option (Qo) :=
 Option.bind (Jf q1.heap [(Q5.mk x1 q1.count)]) fun l1 =>
 Option.bind (
  iter (Ze) F ((Qo.mk l1 (w64 (q1.count+1))),w64 (((l1.length:Nat):Int)-1))) (fun o_=>QR o_ (fun q3 =>
  some q3) (fun rv1669=>some rv1669))
def Wb (q1:Qo):Option (Int) :=
 some ((q1.heap.length:Nat):Int)
def JH (q1:Qo):Option (Yl×Bool) :=
 Option.bind (Wb q1) fun r1 =>
 bif (decide (r1=0)) then
  some ((Yl.mk 0 (Qr.mk 0 0)),false)
 else
  Option.bind (getI q1.heap 0) fun x1 =>
  some (x1.value,true)
def pqueue_Queue_stop_sink_l1 (i1:Int) (j_:(List Q5)×Int×Int×Int):Option (((List Q5)×Int×Int×Int)⊕(((List Q5)×Int×Int))) :=
 oun j_ fun f3 j_=>oun j_ fun f4 j_=>oun j_ fun next1 k1 =>
 Option.bind (
  bif (decide (k1≤(w64 ((w64 (2*i1))+2)))) then
   some (decide (k1<((f3.length:Nat):Int)))
  else
   some false) (fun v1 =>
  bif v1 then
   Option.bind (
    Option.bind (Zv (Qo.mk f3 f4) k1 next1) fun r1 =>
    bif r1 then
     some ((Qo.mk f3 f4).heap,k1)
    else
     some ((Qo.mk f3 f4).heap,next1)) (fun j_=>oun j_ fun f5 next2 =>
    some (.inl (f5,(Qo.mk f3 f4).count,next2,w64 (k1+1))))
  else
   some (.inr (f3,f4,next1)))
def Zd (F:Nat) (j_:(List Q5)×Int×Int):Option (((List Q5)×Int×Int)⊕(Qo)) :=
 oun j_ fun f1 j_=>oun j_ fun f2 i1 =>
 Option.bind (
  iter (pqueue_Queue_stop_sink_l1 i1) F (f1,f2,i1,w64 ((w64 (2*i1))+1))) (fun j_=>oun j_ fun f6 j_=>oun j_ fun f7 next3 =>
  bif (decide (next3=i1)) then
   some (.inr (Qo.mk f6 f7))
  else
   Option.bind (Zk (Qo.mk f6 f7) i1 next3) fun r2 =>
   some (.inl (r2.heap,r2.count,next3)))
def Zm (F:Nat) (q1:Qo):Option (Qo) :=
 Option.bind (
  iter (Zd F) F (q1.heap,q1.count,0)) (fun rv1877=>some rv1877)
def ZH (F:Nat) (q1:Qo):Option (Yl×Bool×Qo) :=
 Option.bind (JH q1) fun j_=>oun j_ fun r1 r2 =>
 bif (!r2) then
  some (r1,false,q1)
 else
  Option.bind (Zk q1 0 (w64 (((q1.heap.length:Nat):Int)-1))) fun r3 =>
  Option.bind (WS r3.heap (w64 (((q1.heap.length:Nat):Int)-1)) ((r3.heap.length:Nat):Int)) fun l1 =>
  Option.bind (WS (Qfy r3.heap (w64 (((q1.heap.length:Nat):Int)-1)) (Q5.mk (Yl.mk 0 (Qr.mk 0 0)) 0)) 0 (w64 (((q1.heap.length:Nat):Int)-1))) fun l2 =>
  Option.bind (Zm F (Qo.mk l2 r3.count)) fun r4 =>
  some (r1,true,r4)
def Qcc (x1:QT):Option (Int×Int) :=
 some (x1.From,x1.To)
def Qcs (l1:Qr) (x1:QT):Option (Qr) :=
 some (Qr.mk (w64 (l1.Secs+x1.Secs)) (w64 (l1.Meters+x1.Meters)))
def JT (l1:(List Qr)) (j_:(List Qr)×Int):Option (((List Qr)×Int)⊕((List Qr))) :=
 oun j_ fun out1 v1 =>
 bif (decide (v1<((l1.length:Nat):Int))) then
  Option.bind (Qcf) fun r2 =>
  Option.bind (getI out1 v1) fun x1 =>
  some (.inl ((Q9 out1 v1 r2),w64 (v1+1)))
 else
  some (.inr out1)
def JV (F:Nat) (r1:QX) (r5:Yl) (j_:(List Qr)×Qo×Int):Option (((List Qr)×Qo×Int)⊕(((List Qr)×Qo))) :=
 oun j_ fun out4 j_=>oun j_ fun q2 v2 =>
 bif (decide (v2<((r1.Edges.length:Nat):Int))) then
  Option.bind (
   Option.bind (getI r1.Edges v2) fun x4 =>
   Option.bind (Qcc x4) fun j_=>oun j_ fun r8 r9 =>
   bif (!(decide (r8=r5.node))) then
    some (out4,q2)
   else
    Option.bind (Qcs r5.leg x4) fun r10 =>
    Option.bind (getI out4 r9) fun x5 =>
    Option.bind (QaX r10 x5) fun r11 =>
    bif r11 then
     Option.bind (getI out4 r9) fun x6 =>
     Option.bind (ZV F q2 (Yl.mk r9 r10)) fun r12 =>
     some ((Q9 out4 r9 r10),r12)
    else
     some (out4,q2)) (fun j_=>oun j_ fun out5 q3 =>
   some (.inl (out5,q3,w64 (v2+1))))
 else
  some (.inr (out4,q2))
def JU (F:Nat) (r1:QX) (j_:(List Qr)×Qo):Option (((List Qr)×Qo)⊕((List Qr))) :=
 oun j_ fun out3 q1 =>
 Option.bind (ZH F q1) fun j_=>oun j_ fun r5 j_=>oun j_ fun r6 r7 =>
 bif (!r6) then
  some (.inr out3)
 else
  Option.bind (getI out3 r5.node) fun x3 =>
  bif (!(decide (x3=r5.leg))) then
   some (.inl (out3,r7))
  else
   Option.bind (
    iter (JV F r1 r5) (((r1.Edges.length:Nat):Int).toNat+1) (out3,r7,0)) (fun j_=>oun j_ fun out6 q4 =>
    some (.inl (out6,q4)))
def VF (F:Nat) (r1:QX) (f_from1:Int):Option ((List Qr)) :=
 Option.bind (Qb1 (Qr.mk 0 0) r1.Nodes) fun l1 =>
 Option.bind (
  iter (JT l1) (((l1.length:Nat):Int).toNat+1) (l1,0)) (fun out2 =>
  Option.bind (getI out2 f_from1) fun x2 =>
  Option.bind (Vv) fun r3 =>
  Option.bind (ZV F r3 (Yl.mk f_from1 (Qr.mk 0 0))) fun r4 =>
  Option.bind (
   iter (JU F r1) F ((Q9 out2 f_from1 (Qr.mk 0 0)),r4)) (fun rv1687=>some rv1687))
def Qci (F:Nat) (r1:QX) (f_from1:Int):Option ((List Qr)×Int) :=
 Option.bind (QaN r1) fun r2 =>
 bif (!(decide (r2=0))) then
  some ([],r2)
 else
  Option.bind (
   bif (decide (f_from1<0)) then
    some true
   else
    some (decide (r1.Nodes≤f_from1))) (fun v2 =>
   bif v2 then
    some ([],7)
   else
    Option.bind (VF F r1 f_from1) fun r3 =>
    some (r3,0))
def V3 (F:Nat) (w1:QQ) (f_to1:Int):Option (Qr×Bool×QQ) :=
 Option.bind (
  bif (!((QaP w1.place.node w1.legs).isSome)) then
   Option.bind (Qci F w1.p.Road w1.place.node) fun j_=>oun j_ fun r1 r2 =>
   some (r1,(Qdp w1.place.node r1 w1.legs))
  else
   some (((QaP w1.place.node w1.legs).getD []),w1.legs)) (fun j_=>oun j_ fun l1 m1 =>
  Option.bind (getI l1 f_to1) fun x1 =>
  Option.bind (getI l1 f_to1) fun x2 =>
  some (x1,(decide (0≤x2.Secs)),(QQ.mk w1.place w1.p w1.v m1 w1.visits)))
def Vf (w1:QQ) (stop1:Int) (arrive1:Int) (start1:Int):Option (QQ) :=
 Option.bind (Jf w1.visits [(QY.mk stop1 w1.place.node arrive1 start1 w1.place.time w1.place.load)]) fun l1 =>
 some (QQ.mk w1.place w1.p w1.v w1.legs l1)
def Vn (F:Nat) (w1:QQ) (t1:Qa) (i1:Int):Option (Int×QQ) :=
 Option.bind (getI t1.Stops i1) fun x1 =>
 Option.bind (
  bif (!(decide (x1=(-1)))) then
   Option.bind (
    bif (decide (x1<0)) then
     some true
    else
     some (decide (((w1.p.Demands.length:Nat):Int)≤x1))) (fun v1 =>
    bif v1 then
     some (.inr (7,w1))
    else
     Option.bind (WS t1.Stops 0 i1) fun l1 =>
     Option.bind (YO l1 x1) fun r1 =>
     bif r1 then
      some (.inr (6,w1))
     else
      Option.bind (getI w1.p.Demands x1) fun x2 =>
      Option.bind (Jk w1.v x2.Kind) fun r2 =>
      bif (!r2) then
       some (.inr (21,w1))
      else
       Option.bind (getI w1.p.Demands x1) fun x3 =>
       some (.inl x3.Node))
  else
   some (.inl w1.p.Unload)) (fun o_=>QR o_ (fun node1 =>
  Option.bind (V3 F w1 node1) fun j_=>oun j_ fun r3 j_=>oun j_ fun r4 r5 =>
  bif (!r4) then
   some (22,r5)
  else
   bif (decide (x1=(-1))) then
    Option.bind (Vf (QQ.mk (Jl.mk node1 (w64 ((w64 (r5.place.time+r3.Secs))+r5.p.UnloadSecs)) 0 (w64 (r5.place.meters+r3.Meters))) r5.p r5.v r5.legs r5.visits) x1 (w64 (r5.place.time+r3.Secs)) (w64 (r5.place.time+r3.Secs))) fun r6 =>
    some (0,r6)
   else
    Option.bind (getI r5.p.Demands x1) fun x4 =>
    bif (decide (x4.When.To≤(max (w64 (r5.place.time+r3.Secs)) x4.When.From))) then
     some (19,(QQ.mk (Jl.mk node1 (w64 (r5.place.time+r3.Secs)) r5.place.load (w64 (r5.place.meters+r3.Meters))) r5.p r5.v r5.legs r5.visits))
    else
     bif (decide (r5.v.Grams<(w64 (r5.place.load+x4.Grams)))) then
      some (20,(QQ.mk (Jl.mk node1 (w64 (r5.place.time+r3.Secs)) r5.place.load (w64 (r5.place.meters+r3.Meters))) r5.p r5.v r5.legs r5.visits))
     else
      Option.bind (Vf (QQ.mk (Jl.mk node1 (w64 ((max (w64 (r5.place.time+r3.Secs)) x4.When.From)+x4.Service)) (w64 (r5.place.load+x4.Grams)) (w64 (r5.place.meters+r3.Meters))) r5.p r5.v r5.legs r5.visits) x1 (w64 (r5.place.time+r3.Secs)) (max (w64 (r5.place.time+r3.Secs)) x4.When.From)) fun r7 =>
      some (0,r7)) (fun rv2994=>some rv2994))
def VI (F:Nat) (w1:QQ):Option (Int×QQ) :=
 Option.bind (V3 F w1 w1.v.Depot) fun j_=>oun j_ fun r1 j_=>oun j_ fun r2 r3 =>
 bif (!r2) then
  some (22,r3)
 else
  bif (!(decide (r3.place.load=0))) then
   some (20,r3)
  else
   bif (decide (r3.v.Shift.To≤(w64 (r3.place.time+r1.Secs)))) then
    some (19,(QQ.mk (Jl.mk r3.v.Depot (w64 (r3.place.time+r1.Secs)) r3.place.load (w64 (r3.place.meters+r1.Meters))) r3.p r3.v r3.legs r3.visits))
   else
    Option.bind (Vf (QQ.mk (Jl.mk r3.v.Depot (w64 (r3.place.time+r1.Secs)) r3.place.load (w64 (r3.place.meters+r1.Meters))) r3.p r3.v r3.legs r3.visits) (-2) (w64 (r3.place.time+r1.Secs)) (w64 (r3.place.time+r1.Secs))) fun r4 =>
    some (0,r4)
def JK (F:Nat) (t1:Qa) (j_:QQ×Int×Int):Option ((QQ×Int×Int)⊕((QQ×Int×Int))) :=
 oun j_ fun q1 j_=>oun j_ fun e1 f_at1 =>
 bif (decide (f_at1<((t1.Stops.length:Nat):Int))) then
  Option.bind (Vn F q1 t1 f_at1) fun j_=>oun j_ fun r1 r2 =>
  bif (!(decide (r1=0))) then
   some (.inr (r2,r1,f_at1))
  else
   some (.inl (r2,r1,w64 (f_at1+1)))
 else
  some (.inr (q1,e1,f_at1))
def VJ (F:Nat) (p1:Qh) (t1:Qa):Option ((Option QQ)×Int×Int) :=
 Option.bind (
  bif (decide (t1.Vehicle<0)) then
   some true
  else
   some (decide (((p1.Vehicles.length:Nat):Int)≤t1.Vehicle))) (fun v1 =>
  bif v1 then
   some (none,7,0)
  else
   bif (decide (40<((t1.Stops.length:Nat):Int))) then
    some (none,8,0)
   else
    Option.bind (getI p1.Vehicles t1.Vehicle) fun x1 =>
    Option.bind (
     iter (JK F t1) (((t1.Stops.length:Nat):Int).toNat+1) ((QQ.mk (Jl.mk x1.Depot x1.Shift.From 0 0) p1 x1 [] []),0,0)) (fun j_=>oun j_ fun q2 j_=>oun j_ fun e2 f_at2 =>
     Option.bind (
      bif (decide (e2=0)) then
       Option.bind (VI F q2) fun j_=>oun j_ fun r3 r4 =>
       some (r4,r3)
      else
       some (q2,e2)) (fun j_=>oun j_ fun q3 e3 =>
      bif (!(decide (e3=0))) then
       some (none,e3,f_at2)
      else
       some ((some q3),0,0))))
def Qdk (F:Nat) (p1:Qh) (t1:Qa):Option (Int×Int) :=
 Option.bind (VS F p1) fun r1 =>
 bif (!(decide (r1=0))) then
  some (0,r1)
 else
  Option.bind (VJ F p1 t1) fun j_=>oun j_ fun r2 j_=>oun j_ fun r3 r4 =>
  bif (!(decide (r3=0))) then
   some (0,r3)
  else
   Option.bind (r2) fun q1 =>
   some (q1.place.meters,0)
def Yp (a1:Qc) (b1:Qc):Option (Int) :=
 some (w64 (a1.cost-b1.cost))
def J0 (a1:Int) (j_:(List Qc)×Int):Option (((List Qc)×Int)⊕((List Qc))) :=
 oun j_ fun data3 j1 =>
 Option.bind (
  bif (decide (a1<j1)) then
   Option.bind (getI data3 j1) fun x1 =>
   Option.bind (getI data3 (w64 (j1-1))) fun x2 =>
   Option.bind (Yp x1 x2) fun r1 =>
   some (decide (r1<0))
  else
   some false) (fun v1 =>
  bif v1 then
   Option.bind (
    Option.bind (getI data3 (w64 (j1-1))) fun x3 =>
    Option.bind (getI data3 j1) fun x4 =>
    Option.bind (getI data3 j1) fun x5 =>
    Option.bind (getI (Q9 data3 j1 x3) (w64 (j1-1))) fun x6 =>
    some (Q9 (Q9 data3 j1 x3) (w64 (j1-1)) x4)) (fun data4 =>
    some (.inl (data4,w64 (j1-1))))
  else
   some (.inr data3))
def JZ (F:Nat) (a1:Int) (b1:Int) (j_:(List Qc)×Int):Option (((List Qc)×Int)⊕((List Qc))) :=
 oun j_ fun data2 i1 =>
 bif (decide (i1<b1)) then
  Option.bind (
   Option.bind (
    iter (J0 a1) F (data2,i1)) (fun data5 =>
    some data5)) (fun data6 =>
   some (.inl (data6,w64 (i1+1))))
 else
  some (.inr data2)
def YS (F:Nat) (data1:(List Qc)) (a1:Int) (b1:Int):Option ((List Qc)) :=
 Option.bind (
  iter (JZ F a1 b1) F (data1,w64 (a1+1))) (fun data7 =>
  some data7)
def Wt (a1:Int) (b1:Int) (n2:Int) (j_:(List Qc)×Int):Option (((List Qc)×Int)⊕((List Qc))) :=
 oun j_ fun data2 i1 =>
 bif (decide (i1<n2)) then
  Option.bind (
   Option.bind (getI data2 (w64 (b1+i1))) fun x1 =>
   Option.bind (getI data2 (w64 (a1+i1))) fun x2 =>
   Option.bind (getI data2 (w64 (a1+i1))) fun x3 =>
   Option.bind (getI (Q9 data2 (w64 (a1+i1)) x1) (w64 (b1+i1))) fun x4 =>
   some (Q9 (Q9 data2 (w64 (a1+i1)) x1) (w64 (b1+i1)) x2)) (fun data3 =>
   some (.inl (data3,w64 (i1+1))))
 else
  some (.inr data2)
def YI (data1:(List Qc)) (a1:Int) (b1:Int) (n2:Int):Option ((List Qc)) :=
 Option.bind (
  iter (Wt a1 b1 n2) (n2.toNat+1) (data1,0)) (fun data4 =>
  some data4)
def Vd (m1:Int) (j_:(List Qc)×Int×Int):Option (((List Qc)×Int×Int)⊕(((List Qc)×Int))) :=
 oun j_ fun data2 j_=>oun j_ fun i1 j1 =>
 bif (!(decide (i1=j1))) then
  bif (decide (j1<i1)) then
   Option.bind (YI data2 (w64 (m1-i1)) m1 j1) fun r1 =>
   some (.inl (r1,w64 (i1-j1),j1))
  else
   Option.bind (YI data2 (w64 (m1-i1)) (w64 ((w64 (m1+j1))-i1)) i1) fun r2 =>
   some (.inl (r2,i1,w64 (j1-i1)))
 else
  some (.inr (data2,i1))
def J2 (F:Nat) (data1:(List Qc)) (a1:Int) (m1:Int) (b1:Int):Option ((List Qc)) :=
 Option.bind (
  iter (Vd m1) F (data1,w64 (m1-a1),w64 (b1-m1))) (fun j_=>oun j_ fun data3 i2 =>
  Option.bind (YI data3 (w64 (m1-i2)) m1 i2) fun r3 =>
  some r3)
def WN (data1:(List Qc)) (a1:Int) (j_:Int×Int):Option ((Int×Int)⊕(Int)) :=
 oun j_ fun i1 j1 =>
 bif (decide (i1<j1)) then
  Option.bind (WR (0≤1∧1≤64)) fun _ =>
  Option.bind (getI data1 (w64 ((IntKind.u64.wrap (w64 (i1+j1)))/2^(1:Int).toNat))) fun x1 =>
  Option.bind (getI data1 a1) fun x2 =>
  Option.bind (Yp x1 x2) fun r1 =>
  bif (decide (r1<0)) then
   some (.inl (w64 ((w64 ((IntKind.u64.wrap (w64 (i1+j1)))/2^(1:Int).toNat))+1),j1))
  else
   some (.inl (i1,w64 ((IntKind.u64.wrap (w64 (i1+j1)))/2^(1:Int).toNat)))
 else
  some (.inr i1)
def WM (i2:Int) (j_:(List Qc)×Int):Option (((List Qc)×Int)⊕((List Qc))) :=
 oun j_ fun data2 k1 =>
 bif (decide (k1<(w64 (i2-1)))) then
  Option.bind (
   Option.bind (getI data2 (w64 (k1+1))) fun x3 =>
   Option.bind (getI data2 k1) fun x4 =>
   Option.bind (getI data2 k1) fun x5 =>
   Option.bind (getI (Q9 data2 k1 x3) (w64 (k1+1))) fun x6 =>
   some (Q9 (Q9 data2 k1 x3) (w64 (k1+1)) x4)) (fun data3 =>
   some (.inl (data3,w64 (k1+1))))
 else
  some (.inr data2)
def WO (data1:(List Qc)) (m1:Int) (j_:Int×Int):Option ((Int×Int)⊕(Int)) :=
 oun j_ fun i3 j2 =>
 bif (decide (i3<j2)) then
  Option.bind (WR (0≤1∧1≤64)) fun _ =>
  Option.bind (getI data1 m1) fun x7 =>
  Option.bind (getI data1 (w64 ((IntKind.u64.wrap (w64 (i3+j2)))/2^(1:Int).toNat))) fun x8 =>
  Option.bind (Yp x7 x8) fun r2 =>
  bif (!(decide (r2<0))) then
   some (.inl (w64 ((w64 ((IntKind.u64.wrap (w64 (i3+j2)))/2^(1:Int).toNat))+1),j2))
  else
   some (.inl (i3,w64 ((IntKind.u64.wrap (w64 (i3+j2)))/2^(1:Int).toNat)))
 else
  some (.inr i3)
def WK (i4:Int) (j_:(List Qc)×Int):Option (((List Qc)×Int)⊕((List Qc))) :=
 oun j_ fun data5 k2 =>
 bif (decide (i4<k2)) then
  Option.bind (
   Option.bind (getI data5 (w64 (k2-1))) fun x9 =>
   Option.bind (getI data5 k2) fun x10 =>
   Option.bind (getI data5 k2) fun x11 =>
   Option.bind (getI (Q9 data5 k2 x9) (w64 (k2-1))) fun x12 =>
   some (Q9 (Q9 data5 k2 x9) (w64 (k2-1)) x10)) (fun data6 =>
   some (.inl (data6,w64 (k2-1))))
 else
  some (.inr data5)
def WH (data1:(List Qc)) (j_:Int×Int×Int):Option ((Int×Int×Int)⊕(Int)) :=
 oun j_ fun start2 j_=>oun j_ fun r4 p1 =>
 bif (decide (start2<r4)) then
  Option.bind (WR (0≤1∧1≤64)) fun _ =>
  Option.bind (getI data1 (w64 (p1-(w64 ((IntKind.u64.wrap (w64 (start2+r4)))/2^(1:Int).toNat))))) fun x13 =>
  Option.bind (getI data1 (w64 ((IntKind.u64.wrap (w64 (start2+r4)))/2^(1:Int).toNat))) fun x14 =>
  Option.bind (Yp x13 x14) fun r5 =>
  bif (!(decide (r5<0))) then
   some (.inl (w64 ((w64 ((IntKind.u64.wrap (w64 (start2+r4)))/2^(1:Int).toNat))+1),r4,p1))
  else
   some (.inl (start2,w64 ((IntKind.u64.wrap (w64 (start2+r4)))/2^(1:Int).toNat),p1))
 else
  some (.inr start2)
def Y9 (rec_:(List Qc)→Int→Int→Int→Option ((List Qc))) (F:Nat) (data1:(List Qc)) (a1:Int) (m1:Int) (b1:Int):Option ((List Qc)) :=
 bif (decide ((w64 (m1-a1))=1)) then
  Option.bind (
   iter (WN data1 a1) F (m1,b1)) (fun i2 =>
   Option.bind (
    iter (WM i2) F (data1,a1)) (fun data4 =>
    some data4))
 else
  bif (decide ((w64 (b1-m1))=1)) then
   Option.bind (
    iter (WO data1 m1) F (a1,m1)) (fun i4 =>
    Option.bind (
     iter (WK i4) F (data1,m1)) (fun data7 =>
     some data7))
  else
   Option.bind (WR (0≤1∧1≤64)) fun _ =>
   Option.bind (
    bif (decide ((w64 ((IntKind.u64.wrap (w64 (a1+b1)))/2^(1:Int).toNat))<m1)) then
     some (w64 ((IntKind.u64.wrap (w64 (a1+b1)))/2^(1:Int).toNat),w64 ((w64 ((IntKind.u64.wrap (w64 (a1+b1)))/2^(1:Int).toNat))+m1),w64 ((w64 ((w64 ((IntKind.u64.wrap (w64 (a1+b1)))/2^(1:Int).toNat))+m1))-b1),w64 ((IntKind.u64.wrap (w64 (a1+b1)))/2^(1:Int).toNat))
    else
     some (w64 ((IntKind.u64.wrap (w64 (a1+b1)))/2^(1:Int).toNat),w64 ((w64 ((IntKind.u64.wrap (w64 (a1+b1)))/2^(1:Int).toNat))+m1),a1,m1)) (fun j_=>oun j_ fun mid1 j_=>oun j_ fun n2 j_=>oun j_ fun start1 r3 =>
    Option.bind (
     iter (WH data1) F (start1,r3,w64 (n2-1))) (fun start3 =>
     Option.bind (
      bif (decide (start3<m1)) then
       some (w64 (n2-start3),(decide (m1<(w64 (n2-start3)))))
      else
       some (w64 (n2-start3),false)) (fun j_=>oun j_ fun f_end1 v1 =>
      Option.bind (
       bif v1 then
        Option.bind (J2 F data1 start3 m1 f_end1) fun r6 =>
        some r6
       else
        some data1) (fun data8 =>
       Option.bind (
        bif (decide (a1<start3)) then
         some (decide (start3<mid1))
        else
         some false) (fun v2 =>
        Option.bind (
         bif v2 then
          Option.bind (rec_ data8 a1 start3 mid1) fun r7 =>
          some r7
         else
          some data8) (fun data9 =>
         Option.bind (
          bif (decide (mid1<f_end1)) then
           some (decide (f_end1<b1))
          else
           some false) (fun v3 =>
          Option.bind (
           bif v3 then
            Option.bind (rec_ data9 mid1 f_end1 b1) fun r8 =>
            some r8
           else
            some data9) (fun data10 =>
           some data10))))))))
def Yk:Nat→(List Qc)→Int→Int→Int→Option ((List Qc))
 | 0,_,_,_,_=>none
 | F+1,data1,a1,m1,b1=>Y9 (Yk F) F data1 a1 m1 b1
def Vc (F:Nat) (n2:Int) (j_:(List Qc)×Int×Int):Option (((List Qc)×Int×Int)⊕(((List Qc)×Int))) :=
 oun j_ fun data2 j_=>oun j_ fun a1 b1 =>
 bif (decide (b1≤n2)) then
  Option.bind (YS F data2 a1 b1) fun r1 =>
  some (.inl (r1,b1,w64 (b1+20)))
 else
  some (.inr (data2,a1))
def Zj (F:Nat) (n2:Int) (blockSize1:Int) (j_:(List Qc)×Int×Int):Option (((List Qc)×Int×Int)⊕(((List Qc)×Int))) :=
 oun j_ fun data5 j_=>oun j_ fun a3 b2 =>
 bif (decide (b2≤n2)) then
  Option.bind (Yk F data5 a3 (w64 (a3+blockSize1)) b2) fun r3 =>
  some (.inl (r3,b2,w64 (b2+(w64 (2*blockSize1)))))
 else
  some (.inr (data5,a3))
def Zh (F:Nat) (n2:Int) (j_:(List Qc)×Int):Option (((List Qc)×Int)⊕((List Qc))) :=
 oun j_ fun data4 blockSize1 =>
 bif (decide (blockSize1<n2)) then
  Option.bind (
   iter (Zj F n2 blockSize1) F (data4,0,w64 (2*blockSize1))) (fun j_=>oun j_ fun data6 a4 =>
   Option.bind (
    bif (decide ((w64 (a4+blockSize1))<n2)) then
     Option.bind (Yk F data6 a4 (w64 (a4+blockSize1)) n2) fun r4 =>
     some r4
    else
     some data6) (fun data7 =>
    some (.inl (data7,w64 (blockSize1*2)))))
 else
  some (.inr data4)
def ZQ (F:Nat) (data1:(List Qc)) (n2:Int):Option ((List Qc)) :=
 Option.bind (
  iter (Vc F n2) F (data1,0,20)) (fun j_=>oun j_ fun data3 a2 =>
  Option.bind (YS F data3 a2 n2) fun r2 =>
  Option.bind (
   iter (Zh F n2) F (r2,20)) (fun data8 =>
   some data8))
def Yy (F:Nat) (x1:(List Qc)):Option ((List Qc)) :=
 Option.bind (ZQ F x1 ((x1.length:Nat):Int)) fun r1 =>
 some r1
def Wx (F:Nat) (p1:Qh) (r3:(List Qa)) (j_:(List Qc)×Int):Option (((List Qc)×Int)⊕((List Qc))) :=
 oun j_ fun out1 v4 =>
 bif (decide (v4<((r3.length:Nat):Int))) then
  Option.bind (
   Option.bind (getI r3 v4) fun x1 =>
   Option.bind (Qdk F p1 x1) fun j_=>oun j_ fun r4 r5 =>
   bif (decide (r5=0)) then
    Option.bind (Jf out1 [(Qc.mk x1 r4)]) fun l1 =>
    some l1
   else
    some out1) (fun out2 =>
   some (.inl (out2,w64 (v4+1))))
 else
  some (.inr out1)
def Q8 (F:Nat) (p1:Qh) (t1:Qa) (d1:Int):Option ((List Qc)×Int) :=
 Option.bind (VS F p1) fun r1 =>
 bif (!(decide (r1=0))) then
  some ([],r1)
 else
  Option.bind (
   bif (decide (t1.Vehicle<0)) then
    some true
   else
    bif (decide (((p1.Vehicles.length:Nat):Int)≤t1.Vehicle)) then
     some true
    else
     bif (decide (d1<0)) then
      some true
     else
      some (decide (((p1.Demands.length:Nat):Int)≤d1))) (fun v2 =>
   bif v2 then
    some ([],7)
   else
    Option.bind (YO t1.Stops d1) fun r2 =>
    bif r2 then
     some ([],6)
    else
     bif (decide (40≤((t1.Stops.length:Nat):Int))) then
      some ([],0)
     else
      Option.bind (Vy F t1 d1) fun r3 =>
      Option.bind (
       iter (Wx F p1 r3) (((r3.length:Nat):Int).toNat+1) ([],0)) (fun out3 =>
       Option.bind (Yy F out3) fun r6 =>
       some (r6,0)))
def Vq (l1:(List Qc)) (j_:(List Qc)×Int):Option (((List Qc)×Int)⊕((List Qc))) :=
 oun j_ fun tours1 v2 =>
 bif (decide (v2<((l1.length:Nat):Int))) then
  Option.bind (getI tours1 v2) fun x1 =>
  some (.inl ((Q9 tours1 v2 (Qc.mk (Qa.mk v2 x1.tour.Stops) x1.cost)),w64 (v2+1)))
 else
  some (.inr tours1)
def Ji (F:Nat) (p1:Qh) (tours3:(List Qc)) (v3:Int) (j_:Int×(List Int)×Int×Int×Int):Option ((Int×(List Int)×Int×Int×Int)⊕((Int×(List Int)×Int×Int))) :=
 oun j_ fun f2 j_=>oun j_ fun f3 j_=>oun j_ fun f4 j_=>oun j_ fun f_at1 v4 =>
 bif (decide (v4<((tours3.length:Nat):Int))) then
  Option.bind (
   Option.bind (getI tours3 v4) fun x2 =>
   Option.bind (Q8 F p1 x2.tour v3) fun j_=>oun j_ fun r2 r3 =>
   Option.bind (
    bif (decide (0<((r2.length:Nat):Int))) then
     bif (decide (f_at1<0)) then
      some true
     else
      Option.bind (getI r2 0) fun x3 =>
      Option.bind (getI tours3 f_at1) fun x4 =>
      some (decide ((w64 (x3.cost-x2.cost))<(w64 (f4-x4.cost))))
    else
     some false) (fun v6 =>
    bif v6 then
     Option.bind (getI r2 0) fun x5 =>
     some (x5.tour.Vehicle,x5.tour.Stops,x5.cost,v4)
    else
     some (f2,f3,f4,f_at1))) (fun j_=>oun j_ fun f5 j_=>oun j_ fun f6 j_=>oun j_ fun f7 f_at2 =>
   some (.inl (f5,f6,f7,f_at2,w64 (v4+1))))
 else
  some (.inr (f2,f3,f4,f_at1))
def WC (F:Nat) (p1:Qh) (j_:(List Qc)×(List Int)×Int):Option (((List Qc)×(List Int)×Int)⊕(((List Qc)×(List Int)))) :=
 oun j_ fun tours3 j_=>oun j_ fun f1 v3 =>
 bif (decide (v3<((p1.Demands.length:Nat):Int))) then
  Option.bind (
   Option.bind (
    iter (Ji F p1 tours3 v3) (((tours3.length:Nat):Int).toNat+1) (0,[],0,(-1),0)) (fun j_=>oun j_ fun f8 j_=>oun j_ fun f9 j_=>oun j_ fun f10 f_at3 =>
    bif (decide (f_at3<0)) then
     Option.bind (Jf f1 [v3]) fun l2 =>
     some (tours3,l2)
    else
     Option.bind (getI tours3 f_at3) fun x6 =>
     some ((Q9 tours3 f_at3 (Qc.mk (Qa.mk f8 f9) f10)),f1))) (fun j_=>oun j_ fun tours4 f11 =>
   some (.inl (tours4,f11,w64 (v3+1))))
 else
  some (.inr (tours3,f1))
def Vo (tours5:(List Qc)) (j_:(List Qa)×Int):Option (((List Qa)×Int)⊕((List Qa))) :=
 oun j_ fun f13 v7 =>
 bif (decide (v7<((tours5.length:Nat):Int))) then
  Option.bind (
   Option.bind (getI tours5 v7) fun x7 =>
   bif (decide (0<((x7.tour.Stops.length:Nat):Int))) then
    Option.bind (Jf f13 [x7.tour]) fun l3 =>
    some l3
   else
    some f13) (fun f14 =>
   some (.inl (f14,w64 (v7+1))))
 else
  some (.inr f13)
def Vw (F:Nat) (p1:Qh):Option (Qk×Int) :=
 Option.bind (VS F p1) fun r1 =>
 bif (!(decide (r1=0))) then
  some ((Qk.mk [] []),r1)
 else
  Option.bind (Qb1 (Qc.mk (Qa.mk 0 []) 0) ((p1.Vehicles.length:Nat):Int)) fun l1 =>
  Option.bind (
   iter (Vq l1) (((l1.length:Nat):Int).toNat+1) (l1,0)) (fun tours2 =>
   Option.bind (
    iter (WC F p1) (((p1.Demands.length:Nat):Int).toNat+1) (tours2,[],0)) (fun j_=>oun j_ fun tours5 f12 =>
    Option.bind (
     iter (Vo tours5) (((tours5.length:Nat):Int).toNat+1) ([],0)) (fun f15 =>
     some ((Qk.mk f15 f12),0))))
def QcT (u1:Qa) (b1:Qa):Option (Bool) :=
 some (decide (u1.Vehicle=b1.Vehicle))
def Zo (s1:(List Qa)) (b1:Qa) (v1:Int):Option ((Int)⊕(Unit⊕Int)) :=
 bif (decide (v1<((s1.length:Nat):Int))) then
  Option.bind (getI s1 v1) fun x1 =>
  Option.bind (QcT x1 b1) fun r1 =>
  bif r1 then
   some (.inr (.inr v1))
  else
   some (.inl (w64 (v1+1)))
 else
  some (.inr (.inl ()))
def J3 (s1:(List Qa)) (b1:Qa):Option (Int) :=
 Option.bind (
  iter (Zo s1 b1) (((s1.length:Nat):Int).toNat+1) 0) (fun o_=>QR o_ (fun _ =>
  some (-1)) (fun rv15035=>some rv15035))
def Zr (s1:(List Qa)) (b1:Qa):Option (Bool) :=
 Option.bind (J3 s1 b1) fun r1 =>
 some (decide (0≤r1))
def QcF (n1:Int):Option (Bool) :=
 some (decide (1<n1))
def ZL (s1:(List Int)) (v1:Int):Option ((Int)⊕(Unit⊕Int)) :=
 bif (decide (v1<((s1.length:Nat):Int))) then
  Option.bind (getI s1 v1) fun x1 =>
  Option.bind (QcF x1) fun r1 =>
  bif r1 then
   some (.inr (.inr v1))
  else
   some (.inl (w64 (v1+1)))
 else
  some (.inr (.inl ()))
def Wi (s1:(List Int)):Option (Int) :=
 Option.bind (
  iter (ZL s1) (((s1.length:Nat):Int).toNat+1) 0) (fun o_=>QR o_ (fun _ =>
  some (-1)) (fun rv15180=>some rv15180))
def ZK (s1:(List Int)):Option (Bool) :=
 Option.bind (Wi s1) fun r1 =>
 some (decide (0≤r1))
def Qan (F:Nat) (p1:Qh) (x1:Qk) (j_:Int×Int):Option ((Int×Int)⊕(Int⊕(Int×Int))) :=
 oun j_ fun sum1 v2 =>
 bif (decide (v2<((x1.Tours.length:Nat):Int))) then
  Option.bind (getI x1.Tours v2) fun x2 =>
  Option.bind (WS x1.Tours 0 v2) fun l1 =>
  Option.bind (Zr l1 x2) fun r2 =>
  bif r2 then
   some (.inr (.inr (0,6)))
  else
   Option.bind (VJ F p1 x2) fun j_=>oun j_ fun r3 j_=>oun j_ fun r4 r5 =>
   bif (!(decide (r4=0))) then
    some (.inr (.inr (0,r4)))
   else
    Option.bind (r3) fun q1 =>
    some (.inl (w64 (sum1+q1.place.meters),w64 (v2+1)))
 else
  some (.inr (.inl sum1))
def Qar (x1:Qk) (j_:(List Int)×Int):Option (((List Int)×Int)⊕((List Int)⊕(Int×Int))) :=
 oun j_ fun times1 v4 =>
 bif (decide (v4<((x1.Left.length:Nat):Int))) then
  Option.bind (getI x1.Left v4) fun x3 =>
  Option.bind (
   bif (decide (x3<0)) then
    some true
   else
    some (decide (((times1.length:Nat):Int)≤x3))) (fun v5 =>
   bif v5 then
    some (.inr (.inr (0,7)))
   else
    Option.bind (getI times1 x3) fun x4 =>
    Option.bind (getI times1 x3) fun x5 =>
    some (.inl ((Q9 times1 x3 (w64 (x4+1))),w64 (v4+1))))
 else
  some (.inr (.inl times1))
def Qat (x6:Qa) (j_:(List Int)×Int):Option (((List Int)×Int)⊕((List Int))) :=
 oun j_ fun times4 v7 =>
 bif (decide (v7<((x6.Stops.length:Nat):Int))) then
  Option.bind (
   Option.bind (getI x6.Stops v7) fun x7 =>
   bif (!(decide (x7=(-1)))) then
    Option.bind (getI times4 x7) fun x8 =>
    Option.bind (getI times4 x7) fun x9 =>
    some (Q9 times4 x7 (w64 (x8+1)))
   else
    some times4) (fun times5 =>
   some (.inl (times5,w64 (v7+1))))
 else
  some (.inr times4)
def Qal (x1:Qk) (j_:(List Int)×Int):Option (((List Int)×Int)⊕((List Int))) :=
 oun j_ fun times3 v6 =>
 bif (decide (v6<((x1.Tours.length:Nat):Int))) then
  Option.bind (
   Option.bind (getI x1.Tours v6) fun x6 =>
   Option.bind (
    iter (Qat x6) (((x6.Stops.length:Nat):Int).toNat+1) (times3,0)) (fun times6 =>
    some times6)) (fun times7 =>
   some (.inl (times7,w64 (v6+1))))
 else
  some (.inr times3)
def Zw (F:Nat) (p1:Qh) (x1:Qk):Option (Int×Int) :=
 Option.bind (VS F p1) fun r1 =>
 bif (!(decide (r1=0))) then
  some (0,r1)
 else
  Option.bind (
   iter (Qan F p1 x1) (((x1.Tours.length:Nat):Int).toNat+1) (0,0)) (fun o_=>QR o_ (fun sum2 =>
   Option.bind (Qb1 (0:Int) ((p1.Demands.length:Nat):Int)) fun l2 =>
   Option.bind (
    iter (Qar x1) (((x1.Left.length:Nat):Int).toNat+1) (l2,0)) (fun o_=>QR o_ (fun times2 =>
    Option.bind (
     iter (Qal x1) (((x1.Tours.length:Nat):Int).toNat+1) (times2,0)) (fun times8 =>
     Option.bind (ZK times8) fun r6 =>
     bif r6 then
      some (0,6)
     else
      Option.bind (YO times8 0) fun r7 =>
      bif r7 then
       some (0,38)
      else
       some (sum2,0))) (fun rv15256=>some rv15256))) (fun rv15190=>some rv15190))
def QbF (F:Nat) (p1:Qh) (x1:Qk):Option (Int×Int) :=
 Option.bind (Zw F p1 x1) fun j_=>oun j_ fun r1 r2 =>
 some (r1,r2)
def Qeg (x1:Qk) (v1:Int) (v2:Int):Option ((Int)⊕(Unit⊕Qa)) :=
 bif (decide (v2<((x1.Tours.length:Nat):Int))) then
  Option.bind (getI x1.Tours v2) fun x2 =>
  bif (decide (x2.Vehicle=v1)) then
   some (.inr (.inr x2))
  else
   some (.inl (w64 (v2+1)))
 else
  some (.inr (.inl ()))
def QaU (x1:Qk) (v1:Int):Option (Qa) :=
 Option.bind (
  iter (Qeg x1 v1) (((x1.Tours.length:Nat):Int).toNat+1) 0) (fun o_=>QR o_ (fun _ =>
  some (Qa.mk v1 [])) (fun rv15410=>some rv15410))
def Wf (k1:Int) (b1:Int):Option (Bool) :=
 some (decide (k1=b1))
def WD (s1:(List Int)) (b1:Int) (v1:Int):Option ((Int)⊕(Unit⊕Int)) :=
 bif (decide (v1<((s1.length:Nat):Int))) then
  Option.bind (getI s1 v1) fun x1 =>
  Option.bind (Wf x1 b1) fun r1 =>
  bif r1 then
   some (.inr (.inr v1))
  else
   some (.inl (w64 (v1+1)))
 else
  some (.inr (.inl ()))
def J4 (s1:(List Int)) (b1:Int):Option (Int) :=
 Option.bind (
  iter (WD s1 b1) (((s1.length:Nat):Int).toNat+1) 0) (fun o_=>QR o_ (fun _ =>
  some (-1)) (fun rv15447=>some rv15447))
def YM (s1:(List Int)) (b1:Int) (j_:(List Int)×Int×Int):Option (((List Int)×Int×Int)⊕(((List Int)×Int))) :=
 oun j_ fun s2 j_=>oun j_ fun i1 j1 =>
 bif (decide (j1<((s1.length:Nat):Int))) then
  Option.bind (
   Option.bind (getI s2 j1) fun x1 =>
   Option.bind (Wf x1 b1) fun r2 =>
   bif (!r2) then
    Option.bind (getI s2 i1) fun x2 =>
    some ((Q9 s2 i1 x1),w64 (i1+1))
   else
    some (s2,i1)) (fun j_=>oun j_ fun s3 i2 =>
   some (.inl (s3,i2,w64 (j1+1))))
 else
  some (.inr (s2,i1))
def ZR (F:Nat) (s1:(List Int)) (b1:Int):Option ((List Int)) :=
 Option.bind (J4 s1 b1) fun r1 =>
 bif (decide (r1=(-1))) then
  some s1
 else
  Option.bind (
   iter (YM s1 b1) F (s1,r1,w64 (r1+1))) (fun j_=>oun j_ fun s4 i3 =>
   Option.bind (WS s4 i3 ((s4.length:Nat):Int)) fun l1 =>
   Option.bind (WS (Qfy s4 i3 0) 0 i3) fun l2 =>
   some l2)
def We (F:Nat) (l1:(List Int)) (n1:Int):Option ((List Int)) :=
 Option.bind (Qio l1) fun l2 =>
 Option.bind (ZR F l2 n1) fun r1 =>
 some r1
def Qaf (F:Nat) (p1:Qh) (t1:Qa) (d1:Int):Option (Qa×Int) :=
 Option.bind (Q8 F p1 t1 d1) fun j_=>oun j_ fun r1 r2 =>
 bif (!(decide (r2=0))) then
  some ((Qa.mk 0 []),r2)
 else
  bif (decide (((r1.length:Nat):Int)=0)) then
   some ((Qa.mk 0 []),40)
  else
   Option.bind (getI r1 0) fun x1 =>
   some (x1.tour,0)
def Qbh (s1:Int):Option (Bool) :=
 some (decide (0≤s1))
def WA (s1:(List Int)) (v1:Int):Option ((Int)⊕(Unit⊕Int)) :=
 bif (decide (v1<((s1.length:Nat):Int))) then
  Option.bind (getI s1 v1) fun x1 =>
  Option.bind (Qbh x1) fun r1 =>
  bif r1 then
   some (.inr (.inr v1))
  else
   some (.inl (w64 (v1+1)))
 else
  some (.inr (.inl ()))
def J5 (s1:(List Int)):Option (Int) :=
 Option.bind (
  iter (WA s1) (((s1.length:Nat):Int).toNat+1) 0) (fun o_=>QR o_ (fun _ =>
  some (-1)) (fun rv15783=>some rv15783))
def Jm (s1:(List Int)):Option (Bool) :=
 Option.bind (J5 s1) fun r1 =>
 some (decide (0≤r1))
def Vs (t1:Qa):Option (Bool) :=
 Option.bind (Jm t1.Stops) fun r1 =>
 some r1
def Wc (F:Nat) (p1:Qh) (x1:Qk) (d1:Int) (v1:Int) (f1:Int) (f2:(List Int)) (j_:(List Qa)×Int):Option (((List Qa)×Int)⊕((List Qa))) :=
 oun j_ fun f3 v4 =>
 bif (decide (v4<((p1.Vehicles.length:Nat):Int))) then
  Option.bind (
   Option.bind (
    bif (!(decide (v4=v1))) then
     Option.bind (QaU x1 v4) fun r5 =>
     Option.bind (We F r5.Stops d1) fun r6 =>
     some (v4,r6)
    else
     some (f1,f2)) (fun j_=>oun j_ fun f4 f5 =>
    Option.bind (Vs (Qa.mk f4 f5)) fun r7 =>
    bif r7 then
     Option.bind (Jf f3 [(Qa.mk f4 f5)]) fun l1 =>
     some l1
    else
     some f3)) (fun f6 =>
   some (.inl (f6,w64 (v4+1))))
 else
  some (.inr f3)
def V4 (F:Nat) (p1:Qh) (x1:Qk) (d1:Int) (v1:Int):Option (Qk×Bool) :=
 Option.bind (
  Option.bind (QaU x1 v1) fun r1 =>
  Option.bind (We F r1.Stops d1) fun r2 =>
  Option.bind (Qaf F p1 (Qa.mk v1 r2) d1) fun j_=>oun j_ fun r3 r4 =>
  some (r3.Vehicle,r3.Stops,r4)) (fun j_=>oun j_ fun f1 j_=>oun j_ fun f2 e1 =>
  bif (!(decide (e1=0))) then
   some ((Qk.mk [] []),false)
  else
   Option.bind (
    iter (Wc F p1 x1 d1 v1 f1 f2) (((p1.Vehicles.length:Nat):Int).toNat+1) ([],0)) (fun f7 =>
    Option.bind (We F x1.Left d1) fun r8 =>
    Option.bind (QiB r8) fun l2 =>
    some ((Qk.mk f7 l2),true)))
def Qax (x1:Int):Option (Bool) :=
 some (!(decide (x1=x1)))
def Vr (x1:Int) (y1:Int):Option (Int) :=
 Option.bind (Qax x1) fun r1 =>
 Option.bind (Qax y1) fun r2 =>
 bif r1 then
  bif r2 then
   some 0
  else
   some (-1)
 else
  bif r2 then
   some 1
  else
   bif (decide (x1<y1)) then
    some (-1)
   else
    bif (decide (y1<x1)) then
     some 1
    else
     some 0
def QbI (vals1:(List Int)) (v1:Int):Option ((Int)⊕(Unit⊕Int)) :=
 bif (decide (v1<((vals1.length:Nat):Int))) then
  Option.bind (getI vals1 v1) fun x1 =>
  bif (!(decide (x1=0))) then
   some (.inr (.inr x1))
  else
   some (.inl (w64 (v1+1)))
 else
  some (.inr (.inl ()))
def Qcw (vals1:(List Int)):Option (Int) :=
 Option.bind (
  iter (QbI vals1) (((vals1.length:Nat):Int).toNat+1) 0) (fun o_=>QR o_ (fun _ =>
  some 0) (fun rv16277=>some rv16277))
def Yg (a1:Qb) (b1:Qb):Option (Int) :=
 Option.bind (Vr ((a1.plan.Left.length:Nat):Int) ((b1.plan.Left.length:Nat):Int)) fun r1 =>
 Option.bind (Vr a1.cost b1.cost) fun r2 =>
 Option.bind (Qcw [r1,r2]) fun r3 =>
 some r3
def VH (F:Nat) (b1:Qh) (b2:Qk) (b3:Int) (b4:(List Qb)) (y1:Qk):Option ((List Qb)) :=
 Option.bind (QbF F b1 y1) fun j_=>oun j_ fun r1 r2 =>
 Option.bind (
  bif (decide (r2=0)) then
   Option.bind (Yg (Qb.mk y1 r1) (Qb.mk b2 b3)) fun r3 =>
   some (decide (r3<0))
  else
   some false) (fun v2 =>
  bif v2 then
   Option.bind (Jf b4 [(Qb.mk y1 r1)]) fun l2 =>
   some l2
  else
   some b4)
def ZM (F:Nat) (b1:Qh) (b2:Qk) (b3:Int) (b5:Qh) (b6:Qk) (v1:Int) (j_:Int×(List Qb)):Option ((Int×(List Qb))⊕((List Qb))) :=
 oun j_ fun v2 q3 =>
 bif (decide (v2<((b5.Vehicles.length:Nat):Int))) then
  Option.bind (V4 F b5 b6 v1 v2) fun j_=>oun j_ fun r1 r2 =>
  Option.bind (
   bif r2 then
    Option.bind (VH F b1 b2 b3 q3 r1) fun r3 =>
    some r3
   else
    some q3) (fun q4 =>
   some (.inl (w64 (v2+1),q4)))
 else
  some (.inr q3)
def Jv (F:Nat) (b1:Qh) (b2:Qk) (b3:Int) (b5:Qh) (b6:Qk) (j_:Int×(List Qb)):Option ((Int×(List Qb))⊕((List Qb))) :=
 oun j_ fun v1 q2 =>
 bif (decide (v1<((b5.Demands.length:Nat):Int))) then
  Option.bind (
   Option.bind (
    iter (ZM F b1 b2 b3 b5 b6 v1) (((b5.Vehicles.length:Nat):Int).toNat+1) (0,q2)) (fun q5 =>
    some q5)) (fun q6 =>
   some (.inl (w64 (v1+1),q6)))
 else
  some (.inr q2)
def Wr (F:Nat) (b1:Qh) (b2:Qk) (b3:Int) (b4:(List Qb)) (b5:Qh) (b6:Qk):Option ((List Qb)) :=
 Option.bind (
  iter (Jv F b1 b2 b3 b5 b6) (((b5.Demands.length:Nat):Int).toNat+1) (0,b4)) (fun q7 =>
  some q7)
def J7 (a1:Int) (j_:(List Qb)×Int):Option (((List Qb)×Int)⊕((List Qb))) :=
 oun j_ fun data3 j1 =>
 Option.bind (
  bif (decide (a1<j1)) then
   Option.bind (getI data3 j1) fun x1 =>
   Option.bind (getI data3 (w64 (j1-1))) fun x2 =>
   Option.bind (Yg x1 x2) fun r1 =>
   some (decide (r1<0))
  else
   some false) (fun v1 =>
  bif v1 then
   Option.bind (
    Option.bind (getI data3 (w64 (j1-1))) fun x3 =>
    Option.bind (getI data3 j1) fun x4 =>
    Option.bind (getI data3 j1) fun x5 =>
    Option.bind (getI (Q9 data3 j1 x3) (w64 (j1-1))) fun x6 =>
    some (Q9 (Q9 data3 j1 x3) (w64 (j1-1)) x4)) (fun data4 =>
    some (.inl (data4,w64 (j1-1))))
  else
   some (.inr data3))
def J6 (F:Nat) (a1:Int) (b1:Int) (j_:(List Qb)×Int):Option (((List Qb)×Int)⊕((List Qb))) :=
 oun j_ fun data2 i1 =>
 bif (decide (i1<b1)) then
  Option.bind (
   Option.bind (
    iter (J7 a1) F (data2,i1)) (fun data5 =>
    some data5)) (fun data6 =>
   some (.inl (data6,w64 (i1+1))))
 else
  some (.inr data2)
def YV (F:Nat) (data1:(List Qb)) (a1:Int) (b1:Int):Option ((List Qb)) :=
 Option.bind (
  iter (J6 F a1 b1) F (data1,w64 (a1+1))) (fun data7 =>
  some data7)
def WJ (a1:Int) (b1:Int) (n2:Int) (j_:(List Qb)×Int):Option (((List Qb)×Int)⊕((List Qb))) :=
 oun j_ fun data2 i1 =>
 bif (decide (i1<n2)) then
  Option.bind (
   Option.bind (getI data2 (w64 (b1+i1))) fun x1 =>
   Option.bind (getI data2 (w64 (a1+i1))) fun x2 =>
   Option.bind (getI data2 (w64 (a1+i1))) fun x3 =>
   Option.bind (getI (Q9 data2 (w64 (a1+i1)) x1) (w64 (b1+i1))) fun x4 =>
   some (Q9 (Q9 data2 (w64 (a1+i1)) x1) (w64 (b1+i1)) x2)) (fun data3 =>
   some (.inl (data3,w64 (i1+1))))
 else
  some (.inr data2)
def YQ (data1:(List Qb)) (a1:Int) (b1:Int) (n2:Int):Option ((List Qb)) :=
 Option.bind (
  iter (WJ a1 b1 n2) (n2.toNat+1) (data1,0)) (fun data4 =>
  some data4)
def Vk (m1:Int) (j_:(List Qb)×Int×Int):Option (((List Qb)×Int×Int)⊕(((List Qb)×Int))) :=
 oun j_ fun data2 j_=>oun j_ fun i1 j1 =>
 bif (!(decide (i1=j1))) then
  bif (decide (j1<i1)) then
   Option.bind (YQ data2 (w64 (m1-i1)) m1 j1) fun r1 =>
   some (.inl (r1,w64 (i1-j1),j1))
  else
   Option.bind (YQ data2 (w64 (m1-i1)) (w64 ((w64 (m1+j1))-i1)) i1) fun r2 =>
   some (.inl (r2,i1,w64 (j1-i1)))
 else
  some (.inr (data2,i1))
def Wg (F:Nat) (data1:(List Qb)) (a1:Int) (m1:Int) (b1:Int):Option ((List Qb)) :=
 Option.bind (
  iter (Vk m1) F (data1,w64 (m1-a1),w64 (b1-m1))) (fun j_=>oun j_ fun data3 i2 =>
  Option.bind (YQ data3 (w64 (m1-i2)) m1 i2) fun r3 =>
  some r3)
def WZ (data1:(List Qb)) (a1:Int) (j_:Int×Int):Option ((Int×Int)⊕(Int)) :=
 oun j_ fun i1 j1 =>
 bif (decide (i1<j1)) then
  Option.bind (WR (0≤1∧1≤64)) fun _ =>
  Option.bind (getI data1 (w64 ((IntKind.u64.wrap (w64 (i1+j1)))/2^(1:Int).toNat))) fun x1 =>
  Option.bind (getI data1 a1) fun x2 =>
  Option.bind (Yg x1 x2) fun r1 =>
  bif (decide (r1<0)) then
   some (.inl (w64 ((w64 ((IntKind.u64.wrap (w64 (i1+j1)))/2^(1:Int).toNat))+1),j1))
  else
   some (.inl (i1,w64 ((IntKind.u64.wrap (w64 (i1+j1)))/2^(1:Int).toNat)))
 else
  some (.inr i1)
def W5 (i2:Int) (j_:(List Qb)×Int):Option (((List Qb)×Int)⊕((List Qb))) :=
 oun j_ fun data2 k1 =>
 bif (decide (k1<(w64 (i2-1)))) then
  Option.bind (
   Option.bind (getI data2 (w64 (k1+1))) fun x3 =>
   Option.bind (getI data2 k1) fun x4 =>
   Option.bind (getI data2 k1) fun x5 =>
   Option.bind (getI (Q9 data2 k1 x3) (w64 (k1+1))) fun x6 =>
   some (Q9 (Q9 data2 k1 x3) (w64 (k1+1)) x4)) (fun data3 =>
   some (.inl (data3,w64 (k1+1))))
 else
  some (.inr data2)
def W2 (data1:(List Qb)) (m1:Int) (j_:Int×Int):Option ((Int×Int)⊕(Int)) :=
 oun j_ fun i3 j2 =>
 bif (decide (i3<j2)) then
  Option.bind (WR (0≤1∧1≤64)) fun _ =>
  Option.bind (getI data1 m1) fun x7 =>
  Option.bind (getI data1 (w64 ((IntKind.u64.wrap (w64 (i3+j2)))/2^(1:Int).toNat))) fun x8 =>
  Option.bind (Yg x7 x8) fun r2 =>
  bif (!(decide (r2<0))) then
   some (.inl (w64 ((w64 ((IntKind.u64.wrap (w64 (i3+j2)))/2^(1:Int).toNat))+1),j2))
  else
   some (.inl (i3,w64 ((IntKind.u64.wrap (w64 (i3+j2)))/2^(1:Int).toNat)))
 else
  some (.inr i3)
def W1 (i4:Int) (j_:(List Qb)×Int):Option (((List Qb)×Int)⊕((List Qb))) :=
 oun j_ fun data5 k2 =>
 bif (decide (i4<k2)) then
  Option.bind (
   Option.bind (getI data5 (w64 (k2-1))) fun x9 =>
   Option.bind (getI data5 k2) fun x10 =>
   Option.bind (getI data5 k2) fun x11 =>
   Option.bind (getI (Q9 data5 k2 x9) (w64 (k2-1))) fun x12 =>
   some (Q9 (Q9 data5 k2 x9) (w64 (k2-1)) x10)) (fun data6 =>
   some (.inl (data6,w64 (k2-1))))
 else
  some (.inr data5)
def W7 (data1:(List Qb)) (j_:Int×Int×Int):Option ((Int×Int×Int)⊕(Int)) :=
 oun j_ fun start2 j_=>oun j_ fun r4 p1 =>
 bif (decide (start2<r4)) then
  Option.bind (WR (0≤1∧1≤64)) fun _ =>
  Option.bind (getI data1 (w64 (p1-(w64 ((IntKind.u64.wrap (w64 (start2+r4)))/2^(1:Int).toNat))))) fun x13 =>
  Option.bind (getI data1 (w64 ((IntKind.u64.wrap (w64 (start2+r4)))/2^(1:Int).toNat))) fun x14 =>
  Option.bind (Yg x13 x14) fun r5 =>
  bif (!(decide (r5<0))) then
   some (.inl (w64 ((w64 ((IntKind.u64.wrap (w64 (start2+r4)))/2^(1:Int).toNat))+1),r4,p1))
  else
   some (.inl (start2,w64 ((IntKind.u64.wrap (w64 (start2+r4)))/2^(1:Int).toNat),p1))
 else
  some (.inr start2)
def Zi (rec_:(List Qb)→Int→Int→Int→Option ((List Qb))) (F:Nat) (data1:(List Qb)) (a1:Int) (m1:Int) (b1:Int):Option ((List Qb)) :=
 bif (decide ((w64 (m1-a1))=1)) then
  Option.bind (
   iter (WZ data1 a1) F (m1,b1)) (fun i2 =>
   Option.bind (
    iter (W5 i2) F (data1,a1)) (fun data4 =>
    some data4))
 else
  bif (decide ((w64 (b1-m1))=1)) then
   Option.bind (
    iter (W2 data1 m1) F (a1,m1)) (fun i4 =>
    Option.bind (
     iter (W1 i4) F (data1,m1)) (fun data7 =>
     some data7))
  else
   Option.bind (WR (0≤1∧1≤64)) fun _ =>
   Option.bind (
    bif (decide ((w64 ((IntKind.u64.wrap (w64 (a1+b1)))/2^(1:Int).toNat))<m1)) then
     some (w64 ((IntKind.u64.wrap (w64 (a1+b1)))/2^(1:Int).toNat),w64 ((w64 ((IntKind.u64.wrap (w64 (a1+b1)))/2^(1:Int).toNat))+m1),w64 ((w64 ((w64 ((IntKind.u64.wrap (w64 (a1+b1)))/2^(1:Int).toNat))+m1))-b1),w64 ((IntKind.u64.wrap (w64 (a1+b1)))/2^(1:Int).toNat))
    else
     some (w64 ((IntKind.u64.wrap (w64 (a1+b1)))/2^(1:Int).toNat),w64 ((w64 ((IntKind.u64.wrap (w64 (a1+b1)))/2^(1:Int).toNat))+m1),a1,m1)) (fun j_=>oun j_ fun mid1 j_=>oun j_ fun n2 j_=>oun j_ fun start1 r3 =>
    Option.bind (
     iter (W7 data1) F (start1,r3,w64 (n2-1))) (fun start3 =>
     Option.bind (
      bif (decide (start3<m1)) then
       some (w64 (n2-start3),(decide (m1<(w64 (n2-start3)))))
      else
       some (w64 (n2-start3),false)) (fun j_=>oun j_ fun f_end1 v1 =>
      Option.bind (
       bif v1 then
        Option.bind (Wg F data1 start3 m1 f_end1) fun r6 =>
        some r6
       else
        some data1) (fun data8 =>
       Option.bind (
        bif (decide (a1<start3)) then
         some (decide (start3<mid1))
        else
         some false) (fun v2 =>
        Option.bind (
         bif v2 then
          Option.bind (rec_ data8 a1 start3 mid1) fun r7 =>
          some r7
         else
          some data8) (fun data9 =>
         Option.bind (
          bif (decide (mid1<f_end1)) then
           some (decide (f_end1<b1))
          else
           some false) (fun v3 =>
          Option.bind (
           bif v3 then
            Option.bind (rec_ data9 mid1 f_end1 b1) fun r8 =>
            some r8
           else
            some data9) (fun data10 =>
           some data10))))))))
def Ym:Nat→(List Qb)→Int→Int→Int→Option ((List Qb))
 | 0,_,_,_,_=>none
 | F+1,data1,a1,m1,b1=>Zi (Ym F) F data1 a1 m1 b1
def Vl (F:Nat) (n2:Int) (j_:(List Qb)×Int×Int):Option (((List Qb)×Int×Int)⊕(((List Qb)×Int))) :=
 oun j_ fun data2 j_=>oun j_ fun a1 b1 =>
 bif (decide (b1≤n2)) then
  Option.bind (YV F data2 a1 b1) fun r1 =>
  some (.inl (r1,b1,w64 (b1+20)))
 else
  some (.inr (data2,a1))
def Zs (F:Nat) (n2:Int) (blockSize1:Int) (j_:(List Qb)×Int×Int):Option (((List Qb)×Int×Int)⊕(((List Qb)×Int))) :=
 oun j_ fun data5 j_=>oun j_ fun a3 b2 =>
 bif (decide (b2≤n2)) then
  Option.bind (Ym F data5 a3 (w64 (a3+blockSize1)) b2) fun r3 =>
  some (.inl (r3,b2,w64 (b2+(w64 (2*blockSize1)))))
 else
  some (.inr (data5,a3))
def Zu (F:Nat) (n2:Int) (j_:(List Qb)×Int):Option (((List Qb)×Int)⊕((List Qb))) :=
 oun j_ fun data4 blockSize1 =>
 bif (decide (blockSize1<n2)) then
  Option.bind (
   iter (Zs F n2 blockSize1) F (data4,0,w64 (2*blockSize1))) (fun j_=>oun j_ fun data6 a4 =>
   Option.bind (
    bif (decide ((w64 (a4+blockSize1))<n2)) then
     Option.bind (Ym F data6 a4 (w64 (a4+blockSize1)) n2) fun r4 =>
     some r4
    else
     some data6) (fun data7 =>
    some (.inl (data7,w64 (blockSize1*2)))))
 else
  some (.inr data4)
def ZZ (F:Nat) (data1:(List Qb)) (n2:Int):Option ((List Qb)) :=
 Option.bind (
  iter (Vl F n2) F (data1,0,20)) (fun j_=>oun j_ fun data3 a2 =>
  Option.bind (YV F data3 a2 n2) fun r2 =>
  Option.bind (
   iter (Zu F n2) F (r2,20)) (fun data8 =>
   some data8))
def YD (F:Nat) (x1:(List Qb)):Option ((List Qb)) :=
 Option.bind (ZZ F x1 ((x1.length:Nat):Int)) fun r1 =>
 some r1
def Ww (r4:(List Qb)) (j_:(List Qk)×Int):Option (((List Qk)×Int)⊕((List Qk))) :=
 oun j_ fun out1 v3 =>
 bif (decide (v3<((r4.length:Nat):Int))) then
  Option.bind (getI r4 v3) fun x2 =>
  Option.bind (Jf out1 [x2.plan]) fun l2 =>
  some (.inl (l2,w64 (v3+1)))
 else
  some (.inr out1)
def Jg (F:Nat) (p1:Qh) (x1:Qk):Option ((List Qk)×Int) :=
 Option.bind (QbF F p1 x1) fun j_=>oun j_ fun r1 r2 =>
 bif (!(decide (r2=0))) then
  some ([],r2)
 else
  Option.bind (Wr F p1 x1 r1 [] p1 x1) fun r3 =>
  Option.bind (YD F r3) fun r4 =>
  Option.bind (
   iter (Ww r4) (((r4.length:Nat):Int).toNat+1) ([],0)) (fun out2 =>
   some (out2,0))
def Jw (F:Nat) (p1:Qh) (j_:(List Qa)×(List Int)):Option (((List Qa)×(List Int))⊕((Qk×Int))) :=
 oun j_ fun f1 f2 =>
 Option.bind (Jg F p1 (Qk.mk f1 f2)) fun j_=>oun j_ fun r3 r4 =>
 bif (!(decide (r4=0))) then
  some (.inr ((Qk.mk [] []),r4))
 else
  bif (decide (((r3.length:Nat):Int)=0)) then
   some (.inr ((Qk.mk f1 f2),0))
  else
   Option.bind (getI r3 0) fun x1 =>
   some (.inl (x1.Tours,x1.Left))
def ZB (F:Nat) (p1:Qh):Option (Qk×Int) :=
 Option.bind (Vw F p1) fun j_=>oun j_ fun r1 r2 =>
 bif (!(decide (r2=0))) then
  some ((Qk.mk [] []),r2)
 else
  Option.bind (
   iter (Jw F p1) F (r1.Tours,r1.Left)) (fun rv33477=>some rv33477)
def W3 (F:Nat) (p1:Qh) (x1:Qk):Option (Int) :=
 Option.bind (Zw F p1 x1) fun j_=>oun j_ fun r1 r2 =>
 some r2
def Qch (F:Nat) (p1:Qh) (t1:Qa):Option ((List QY)×Int×Int) :=
 Option.bind (VS F p1) fun r1 =>
 bif (!(decide (r1=0))) then
  some ([],r1,0)
 else
  Option.bind (VJ F p1 t1) fun j_=>oun j_ fun r2 j_=>oun j_ fun r3 r4 =>
  bif (!(decide (r3=0))) then
   some ([],r3,r4)
  else
   Option.bind (r2) fun q1 =>
   some (q1.visits,0,0)
def Wv (r1:(List Qc)) (j_:(List Qa)×Int):Option (((List Qa)×Int)⊕((List Qa))) :=
 oun j_ fun out1 v2 =>
 bif (decide (v2<((r1.length:Nat):Int))) then
  Option.bind (getI r1 v2) fun x1 =>
  Option.bind (Jf out1 [x1.tour]) fun l1 =>
  some (.inl (l1,w64 (v2+1)))
 else
  some (.inr out1)
def JO (F:Nat) (p1:Qh) (t1:Qa) (d1:Int):Option ((List Qa)×Int) :=
 Option.bind (Q8 F p1 t1 d1) fun j_=>oun j_ fun r1 r2 =>
 Option.bind (
  iter (Wv r1) (((r1.length:Nat):Int).toNat+1) ([],0)) (fun out2 =>
  some (out2,r2))
def Yz (F:Nat) (p1:Qh) (x1:Qk) (d1:Int) (v1:Int):Option (Int) :=
 Option.bind (getI p1.Vehicles v1) fun x2 =>
 Option.bind (getI p1.Demands d1) fun x3 =>
 Option.bind (Jk x2 x3.Kind) fun r1 =>
 bif (!r1) then
  some 21
 else
  Option.bind (getI p1.Demands d1) fun x4 =>
  Option.bind (getI p1.Vehicles v1) fun x5 =>
  bif (decide (x5.Grams<x4.Grams)) then
   some 20
  else
   Option.bind (Qch F p1 (Qa.mk v1 [d1,(-1)])) fun j_=>oun j_ fun r2 j_=>oun j_ fun r3 r4 =>
   bif (!(decide (r3=0))) then
    some r3
   else
    Option.bind (QaU x1 v1) fun r5 =>
    Option.bind (JO F p1 r5 d1) fun j_=>oun j_ fun r6 r7 =>
    bif (!(decide (r7=0))) then
     some r7
    else
     bif (decide (((r6.length:Nat):Int)=0)) then
      some 40
     else
      some 0
def QbZ (F:Nat) (p1:Qh) (x1:Qk) (d1:Int) (j_:(List Q6)×Int):Option (((List Q6)×Int)⊕((List Q6))) :=
 oun j_ fun out1 v3 =>
 bif (decide (v3<((p1.Vehicles.length:Nat):Int))) then
  Option.bind (Yz F p1 x1 d1 v3) fun r3 =>
  Option.bind (Jf out1 [(Q6.mk v3 r3)]) fun l1 =>
  some (.inl (l1,w64 (v3+1)))
 else
  some (.inr out1)
def WQ (F:Nat) (p1:Qh) (x1:Qk) (d1:Int):Option ((List Q6)×Int) :=
 Option.bind (W3 F p1 x1) fun r1 =>
 bif (!(decide (r1=0))) then
  some ([],r1)
 else
  Option.bind (
   bif (decide (d1<0)) then
    some true
   else
    some (decide (((p1.Demands.length:Nat):Int)≤d1))) (fun v2 =>
   bif v2 then
    some ([],7)
   else
    Option.bind (YO x1.Left d1) fun r2 =>
    bif (!r2) then
     some ([],13)
    else
     Option.bind (
      iter (QbZ F p1 x1 d1) (((p1.Vehicles.length:Nat):Int).toNat+1) ([],0)) (fun out2 =>
      some (out2,0)))
def JR (a1:(List Int)) (b1:(List Int)) (i1:Int):Option ((Int)⊕(Unit⊕Bool)) :=
 bif (decide (i1<((a1.length:Nat):Int))) then
  Option.bind (getI a1 i1) fun x1 =>
  Option.bind (getI b1 i1) fun x2 =>
  bif (!(decide (x1=x2))) then
   some (.inr (.inr false))
  else
   some (.inl (w64 (i1+1)))
 else
  some (.inr (.inl ()))
def JW (a1:(List Int)) (b1:(List Int)):Option (Bool) :=
 bif (!(decide (((a1.length:Nat):Int)=((b1.length:Nat):Int)))) then
  some false
 else
  Option.bind (
   iter (JR a1 b1) (((a1.length:Nat):Int).toNat+1) 0) (fun o_=>QR o_ (fun _ =>
   some true) (fun rv33978=>some rv33978))
def JG (a1:(List Qa)) (b1:(List Qa)) (i1:Int):Option ((Int)⊕(Unit⊕Bool)) :=
 bif (decide (i1<((a1.length:Nat):Int))) then
  Option.bind (
   Option.bind (getI a1 i1) fun x1 =>
   Option.bind (getI b1 i1) fun x2 =>
   bif (!(decide (x1.Vehicle=x2.Vehicle))) then
    some true
   else
    Option.bind (getI a1 i1) fun x3 =>
    Option.bind (getI b1 i1) fun x4 =>
    Option.bind (JW x3.Stops x4.Stops) fun r1 =>
    some (!r1)) (fun v1 =>
   bif v1 then
    some (.inr (.inr false))
   else
    some (.inl (w64 (i1+1))))
 else
  some (.inr (.inl ()))
def WE (a1:(List Qa)) (b1:(List Qa)):Option (Bool) :=
 bif (!(decide (((a1.length:Nat):Int)=((b1.length:Nat):Int)))) then
  some false
 else
  Option.bind (
   iter (JG a1 b1) (((a1.length:Nat):Int).toNat+1) 0) (fun o_=>QR o_ (fun _ =>
   some true) (fun rv33970=>some rv33970))
def YA (a1:Qk) (b1:Qk):Option (Bool) :=
 Option.bind (
  Option.bind (WE a1.Tours b1.Tours) fun r1 =>
  bif r1 then
   Option.bind (JW a1.Left b1.Left) fun r2 =>
   some r2
  else
   some false) (fun v1 =>
  some v1)
def Wp (a1:(List Q6)) (b1:(List Q6)) (v1:Int):Option ((Int)⊕(Unit⊕Bool)) :=
 bif (decide (v1<((a1.length:Nat):Int))) then
  Option.bind (getI a1 v1) fun x1 =>
  Option.bind (getI b1 v1) fun x2 =>
  bif (!(decide (x1=x2))) then
   some (.inr (.inr false))
  else
   some (.inl (w64 (v1+1)))
 else
  some (.inr (.inl ()))
def Yq (a1:(List Q6)) (b1:(List Q6)):Option (Bool) :=
 bif (!(decide (((a1.length:Nat):Int)=((b1.length:Nat):Int)))) then
  some false
 else
  Option.bind (
   iter (Wp a1 b1) (((a1.length:Nat):Int).toNat+1) 0) (fun o_=>QR o_ (fun _ =>
   some true) (fun rv34053=>some rv34053))
def Ju (F:Nat):Option (Bool) :=
 Option.bind (ZB F (Qh.mk (QX.mk 2 [(QT.mk 0 1 500 60),(QT.mk 1 0 500 60)]) [(Qy.mk ⟨#[118]⟩ 0 (QO.mk 1000 2000) 1000 1)] [(QG.mk 0 1 0 300 (QO.mk 1100 1200) 30)] 0 20)) fun j_=>oun j_ fun r1 r2 =>
 Option.bind (Jg F (Qh.mk (QX.mk 2 [(QT.mk 0 1 500 60),(QT.mk 1 0 500 60)]) [(Qy.mk ⟨#[118]⟩ 0 (QO.mk 1000 2000) 1000 1)] [(QG.mk 0 1 0 300 (QO.mk 1100 1200) 30)] 0 20) (Qk.mk [] [0])) fun j_=>oun j_ fun r3 r4 =>
 Option.bind (WQ F (Qh.mk (QX.mk 2 [(QT.mk 0 1 500 60),(QT.mk 1 0 500 60)]) [(Qy.mk ⟨#[118]⟩ 0 (QO.mk 1000 2000) 1000 1)] [(QG.mk 0 1 0 300 (QO.mk 1100 1200) 30)] 0 20) (Qk.mk [] [0]) 0) fun j_=>oun j_ fun r5 r6 =>
 Option.bind (getI [(Qy.mk ⟨#[118]⟩ 0 (QO.mk 1000 2000) 1000 1)] 0) fun x1 =>
 Option.bind (ZB F (Qh.mk (QX.mk 2 [(QT.mk 0 1 500 60),(QT.mk 1 0 500 60)]) (Q9 [(Qy.mk ⟨#[118]⟩ 0 (QO.mk 1000 2000) 1000 1)] 0 (Qy.mk x1.ID x1.Depot x1.Shift 299 x1.Kinds)) [(QG.mk 0 1 0 300 (QO.mk 1100 1200) 30)] 0 20)) fun j_=>oun j_ fun r7 r8 =>
 Option.bind (WQ F (Qh.mk (QX.mk 2 [(QT.mk 0 1 500 60),(QT.mk 1 0 500 60)]) (Q9 [(Qy.mk ⟨#[118]⟩ 0 (QO.mk 1000 2000) 1000 1)] 0 (Qy.mk x1.ID x1.Depot x1.Shift 299 x1.Kinds)) [(QG.mk 0 1 0 300 (QO.mk 1100 1200) 30)] 0 20) r7 0) fun j_=>oun j_ fun r9 r10 =>
 Option.bind (
  Option.bind (YA r1 (Qk.mk [(Qa.mk 0 [0,(-1)])] [])) fun r11 =>
  bif r11 then
   bif (decide (r2=0)) then
    bif (decide ((
           (r3.length:Nat):Int)=1)) then
     Option.bind (getI r3 0) fun x2 =>
     Option.bind (YA x2 (Qk.mk [(Qa.mk 0 [0,(-1)])] [])) fun r12 =>
     bif r12 then
      bif (decide (r4=0)) then
       Option.bind (Yq r5 [(Q6.mk 0 0)]) fun r13 =>
       bif r13 then
        bif (decide (r6=0)) then
         Option.bind (YA r7 (Qk.mk [] [0])) fun r14 =>
         bif r14 then
          bif (decide (r8=0)) then
           Option.bind (Yq r9 [(Q6.mk 0 20)]) fun r15 =>
           bif r15 then
            some (decide (r10=0))
           else
            some false
          else
           some false
         else
          some false
        else
         some false
       else
        some false
      else
       some false
     else
      some false
    else
     some false
   else
    some false
  else
   some false) (fun v23 =>
  some v23)
def Y3 (r1:QX) (v2:Int):Option ((Int)⊕(Unit⊕Int)) :=
 bif (decide (v2<((r1.Edges.length:Nat):Int))) then
  Option.bind (getI r1.Edges v2) fun x1 =>
  Option.bind (
   bif (decide (x1.From<0)) then
    some true
   else
    bif (decide (r1.Nodes≤x1.From)) then
     some true
    else
     bif (decide (x1.To<0)) then
      some true
     else
      some (decide (r1.Nodes≤x1.To))) (fun v3 =>
   bif v3 then
    some (.inr (.inr 7))
   else
    Option.bind (
     bif (decide (x1.From=x1.To)) then
      some true
     else
      bif (decide (x1.Meters<1)) then
       some true
      else
       bif (decide (100000<x1.Meters)) then
        some true
       else
        bif (decide (x1.Secs<1)) then
         some true
        else
         some (decide (100000<x1.Secs))) (fun v4 =>
     bif v4 then
      some (.inr (.inr 1))
     else
      some (.inl (w64 (v2+1)))))
 else
  some (.inr (.inl ()))
def JB (r1:QX):Option (Int) :=
 Option.bind (
  bif (decide (r1.Nodes<1)) then
   some true
  else
   some (decide (64<r1.Nodes))) (fun v1 =>
  bif v1 then
   some 1
  else
   bif (decide (512<((r1.Edges.length:Nat):Int))) then
    some 8
   else
    Option.bind (
     iter (Y3 r1) (((r1.Edges.length:Nat):Int).toNat+1) 0) (fun o_=>QR o_ (fun _ =>
     some 0) (fun rv34571=>some rv34571)))
def YX (c1:Int):Option (Bool) :=
 Option.bind (
  bif (decide (65≤c1)) then
   bif (decide (c1≤90)) then
    some true
   else
    bif (decide (97≤c1)) then
     some (decide (c1≤122))
    else
     some false
  else
   bif (decide (97≤c1)) then
    some (decide (c1≤122))
   else
    some false) (fun v1 =>
  some v1)
def Ye (s1:ByteArray) (i1:Int):Option ((Int)⊕(Unit⊕Bool)) :=
 bif (decide (i1<((s1.size:Nat):Int))) then
  Option.bind (QiJ s1 i1) fun x2 =>
  Option.bind (
   Option.bind (YX x2) fun r2 =>
   bif (!r2) then
    bif (decide (x2<48)) then
     bif (!(decide (x2=45))) then
      bif (!(decide (x2=95))) then
       some (!(decide (x2=46)))
      else
       some false
     else
      some false
    else
     bif (decide (57<x2)) then
      bif (!(decide (x2=45))) then
       bif (!(decide (x2=95))) then
        some (!(decide (x2=46)))
       else
        some false
      else
       some false
     else
      some false
   else
    some false) (fun v2 =>
   bif v2 then
    some (.inr (.inr false))
   else
    some (.inl (w64 (i1+1))))
 else
  some (.inr (.inl ()))
def ZT (s1:ByteArray):Option (Bool) :=
 Option.bind (
  bif (decide (((s1.size:Nat):Int)<1)) then
   some true
  else
   bif (decide (32<((s1.size:Nat):Int))) then
    some true
   else
    Option.bind (QiJ s1 0) fun x1 =>
    Option.bind (YX x1) fun r1 =>
    some (!r1)) (fun v1 =>
  bif v1 then
   some false
  else
   Option.bind (
    iter (Ye s1) (((s1.size:Nat):Int).toNat+1) 0) (fun o_=>QR o_ (fun _ =>
    some true) (fun rv34607=>some rv34607)))
def Yo (v1:Qy) (nodes1:Int) (materials1:Int):Option (Int) :=
 Option.bind (ZT v1.ID) fun r1 =>
 bif (!r1) then
  some 5
 else
  Option.bind (
   bif (decide (v1.Depot<0)) then
    some true
   else
    some (decide (nodes1≤v1.Depot))) (fun v2 =>
   bif v2 then
    some 7
   else
    Option.bind (
     bif (decide (v1.Shift.From<0)) then
      some true
     else
      bif (decide (v1.Shift.To≤v1.Shift.From)) then
       some true
      else
       some (decide (86400<v1.Shift.To))) (fun v3 =>
     bif v3 then
      some 19
     else
      Option.bind (
       bif (decide (v1.Grams<1)) then
        some true
       else
        some (decide (1073741824<v1.Grams))) (fun v4 =>
       bif v4 then
        some 1
       else
        Option.bind (
         bif (decide (v1.Kinds<1)) then
          some true
         else
          Option.bind (WR (0≤materials1∧materials1≤64)) fun _ =>
          some (decide ((w64 (1*2^materials1.toNat))≤v1.Kinds))) (fun v5 =>
         bif v5 then
          some 21
         else
          some 0))))
def Yc (l1:(List Qy)) (nodes1:Int) (materials1:Int) (i1:Int):Option ((Int)⊕(Unit⊕Int)) :=
 bif (decide (i1<((l1.length:Nat):Int))) then
  Option.bind (getI l1 i1) fun x1 =>
  Option.bind (Yo x1 nodes1 materials1) fun r1 =>
  bif (!(decide (r1=0))) then
   some (.inr (.inr r1))
  else
   some (.inl (w64 (i1+1)))
 else
  some (.inr (.inl ()))
def Jq (l1:(List Qy)) (i2:Int) (k1:Int):Option ((Int)⊕(Unit⊕Int)) :=
 bif (decide (k1<i2)) then
  Option.bind (getI l1 i2) fun x2 =>
  Option.bind (getI l1 k1) fun x3 =>
  bif (decide (x2.ID=x3.ID)) then
   some (.inr (.inr 6))
  else
   some (.inl (w64 (k1+1)))
 else
  some (.inr (.inl ()))
def Jt (l1:(List Qy)) (i2:Int):Option ((Int)⊕(Unit⊕Int)) :=
 bif (decide (i2<((l1.length:Nat):Int))) then
  Option.bind (
   Option.bind (
    iter (Jq l1 i2) (i2.toNat+1) 0) (fun o_=>QR o_ (fun _ =>
    some (.inl ())) (fun rv34631=>some (.inr rv34631)))) (fun o_=>QR o_ (fun _ =>
   some (.inl (w64 (i2+1)))) (fun rv34630=>some (.inr (.inr rv34630))))
 else
  some (.inr (.inl ()))
def YG (l1:(List Qy)) (nodes1:Int) (materials1:Int):Option (Int) :=
 Option.bind (
  bif (decide (nodes1<1)) then
   some true
  else
   bif (decide (64<nodes1)) then
    some true
   else
    bif (decide (materials1<1)) then
     some true
    else
     some (decide (16<materials1))) (fun v1 =>
  bif v1 then
   some 1
  else
   bif (decide (((l1.length:Nat):Int)=0)) then
    some 10
   else
    bif (decide (16<((l1.length:Nat):Int))) then
     some 8
    else
     Option.bind (
      iter (Yc l1 nodes1 materials1) (((l1.length:Nat):Int).toNat+1) 0) (fun o_=>QR o_ (fun _ =>
      Option.bind (
       iter (Jt l1) (((l1.length:Nat):Int).toNat+1) 0) (fun o_=>QR o_ (fun _ =>
       some 0) (fun rv34623=>some rv34623))) (fun rv34602=>some rv34602)))
def Yj (l1:(List QG)) (nodes1:Int) (materials1:Int) (i1:Int):Option ((Int)⊕(Unit⊕Int)) :=
 bif (decide (i1<((
           l1.length:Nat):Int))) then
  Option.bind (getI l1 i1) fun x1 =>
  Option.bind (
   bif (decide (x1.Container<0)) then
    some true
   else
    bif (decide (256≤x1.Container)) then
     some true
    else
     bif (decide (x1.Node<0)) then
      some true
     else
      bif (decide (nodes1≤x1.Node)) then
       some true
      else
       bif (decide (x1.Kind<0)) then
        some true
       else
        some (decide (materials1≤x1.Kind))) (fun v1 =>
   bif v1 then
    some (.inr (.inr 7))
   else
    Option.bind (
     bif (decide (x1.Grams<0)) then
      some true
     else
      bif (decide (1073741824<x1.Grams)) then
       some true
      else
       bif (decide (x1.When.From<0)) then
        some true
       else
        bif (decide (x1.When.To<x1.When.From)) then
         some true
        else
         bif (decide (86400<x1.When.To)) then
          some true
         else
          bif (decide (x1.Service<0)) then
           some true
          else
           some (decide (3600<x1.Service))) (fun v2 =>
     bif v2 then
      some (.inr (.inr 1))
     else
      some (.inl (w64 (i1+1)))))
 else
  some (.inr (.inl ()))
def YN (l1:(List QG)) (i2:Int) (k1:Int):Option ((Int)⊕(Unit⊕Int)) :=
 bif (decide (k1<i2)) then
  Option.bind (getI l1 i2) fun x2 =>
  Option.bind (getI l1 k1) fun x3 =>
  bif (decide (x2.Container=x3.Container)) then
   some (.inr (.inr 6))
  else
   some (.inl (w64 (k1+1)))
 else
  some (.inr (.inl ()))
def YL (l1:(List QG)) (i2:Int):Option ((Int)⊕(Unit⊕Int)) :=
 bif (decide (i2<((l1.length:Nat):Int))) then
  Option.bind (
   Option.bind (
    iter (YN l1 i2) (i2.toNat+1) 0) (fun o_=>QR o_ (fun _ =>
    some (.inl ())) (fun rv34658=>some (.inr rv34658)))) (fun o_=>QR o_ (fun _ =>
   some (.inl (w64 (i2+1)))) (fun rv34657=>some (.inr (.inr rv34657))))
 else
  some (.inr (.inl ()))
def YF (l1:(List QG)) (nodes1:Int) (materials1:Int):Option (Int) :=
 bif (decide (32<((l1.length:Nat):Int))) then
  some 8
 else
  Option.bind (
   iter (Yj l1 nodes1 materials1) (((l1.length:Nat):Int).toNat+1) 0) (fun o_=>QR o_ (fun _ =>
   Option.bind (
    iter (YL l1) (((l1.length:Nat):Int).toNat+1) 0) (fun o_=>QR o_ (fun _ =>
    some 0) (fun rv34650=>some rv34650))) (fun rv34635=>some rv34635))
def Qv (p1:Qh):Option (Int) :=
 Option.bind (JB p1.Road) fun r1 =>
 bif (!(decide (r1=0))) then
  some r1
 else
  Option.bind (YG p1.Vehicles p1.Road.Nodes 16) fun r2 =>
  bif (!(decide (r2=0))) then
   some r2
  else
   Option.bind (YF p1.Demands p1.Road.Nodes 16) fun r3 =>
   bif (!(decide (r3=0))) then
    some r3
   else
    Option.bind (
     bif (decide (p1.Unload<0)) then
      some true
     else
      some (decide (p1.Road.Nodes≤p1.Unload))) (fun v1 =>
     bif v1 then
      some 7
     else
      Option.bind (
       bif (decide (p1.UnloadSecs<0)) then
        some true
       else
        some (decide (7200<p1.UnloadSecs))) (fun v2 =>
       bif v2 then
        some 1
       else
        some 0))
def ZC (stops1:(List Int)) (d1:Int) (k1:Int) (unload1:Bool):Option ((List Int)) :=
 Option.bind (WS stops1 0 k1) fun l1 =>
 Option.bind (Jf [] l1) fun l2 =>
 Option.bind (Jf l2 [d1]) fun l3 =>
 Option.bind (
  bif unload1 then
   Option.bind (Jf l3 [(-1)]) fun l4 =>
   some l4
  else
   some l3) (fun l5 =>
  Option.bind (WS stops1 k1 ((stops1.length:Nat):Int)) fun l6 =>
  Option.bind (Jf l5 l6) fun l7 =>
  Option.bind (getI l7 (w64 (((l7.length:Nat):Int)-1))) fun x1 =>
  Option.bind (
   bif (!(decide (x1=(-1)))) then
    Option.bind (Jf l7 [(-1)]) fun l8 =>
    some l8
   else
    some l7) (fun l9 =>
   some l9))
def Z0 (v1:Qy) (kind1:Int):Option (Bool) :=
 Option.bind (
  bif (decide (kind1<0)) then
   some true
  else
   some (decide (16≤kind1))) (fun v2 =>
  bif v2 then
   some false
  else
   Option.bind (WR (0≤kind1∧kind1≤64)) fun _ =>
   some (decide ((Int.tmod ((IntKind.u64.wrap (v1.Kinds))/2^kind1.toNat) 2)=1)))
def ZP (stops1:(List Int)) (i1:Int) (x1:Int) (k1:Int):Option ((Int)⊕(Unit⊕Int)) :=
 bif (decide (k1<i1)) then
  Option.bind (getI stops1 k1) fun x2 =>
  bif (decide (x2=x1)) then
   some (.inr (.inr 6))
  else
   some (.inl (w64 (k1+1)))
 else
  some (.inr (.inl ()))
def Vx (p1:Qh) (v1:Qy) (stops1:(List Int)) (i1:Int):Option (Int) :=
 Option.bind (getI stops1 i1) fun x1 =>
 bif (decide (x1=(-1))) then
  some 0
 else
  Option.bind (
   bif (decide (x1<0)) then
    some true
   else
    some (decide (((p1.Demands.length:Nat):Int)≤x1))) (fun v2 =>
   bif v2 then
    some 7
   else
    Option.bind (
     iter (ZP stops1 i1 x1) (i1.toNat+1) 0) (fun o_=>QR o_ (fun _ =>
     Option.bind (getI p1.Demands x1) fun x3 =>
     Option.bind (Z0 v1 x3.Kind) fun r1 =>
     bif (!r1) then
      some 21
     else
      some 0) (fun rv34933=>some rv34933)))
def VE (r1:QX) (n1:Int):Option (Bool) :=
 Option.bind (
  bif (decide (0≤n1)) then
   some (decide (n1<r1.Nodes))
  else
   some false) (fun v1 =>
  some v1)
def VA (a1:Qr) (b1:Qr):Option (Qr) :=
 some (Qr.mk (w64 (a1.Secs+b1.Secs)) (w64 (a1.Meters+b1.Meters)))
def Jb (a1:Qr) (b1:Qr):Option (Bool) :=
 Option.bind (
  bif (decide (a1.Secs<0)) then
   some true
  else
   some (decide (b1.Secs<0))) (fun v1 =>
  bif v1 then
   some (decide (0≤a1.Secs))
  else
   Option.bind (
    bif (decide (a1.Secs<b1.Secs)) then
     some true
    else
     bif (decide (a1.Secs=b1.Secs)) then
      some (decide (a1.Meters<b1.Meters))
     else
      some false) (fun v2 =>
    some v2))
def ZY (l1:(List Qr)) (j_:(List Qr)×Int):Option (((List Qr)×Int)⊕((List Qr))) :=
 oun j_ fun out1 v1 =>
 bif (decide (v1<((l1.length:Nat):Int))) then
  Option.bind (getI out1 v1) fun x1 =>
  some (.inl ((Q9 out1 v1 (Qr.mk (-1) x1.Meters)),w64 (v1+1)))
 else
  some (.inr out1)
def Z3 (r1:QX) (j_:(List Qr)×Int):Option (((List Qr)×Int)⊕((List Qr))) :=
 oun j_ fun out4 v2 =>
 bif (decide (v2<((r1.Edges.length:Nat):Int))) then
  Option.bind (
   Option.bind (getI r1.Edges v2) fun x3 =>
   Option.bind (getI out4 x3.From) fun x4 =>
   bif (decide (0≤x4.Secs)) then
    Option.bind (
     Option.bind (getI out4 x3.From) fun x5 =>
     Option.bind (VA x5 (Qr.mk x3.Secs x3.Meters)) fun r4 =>
     some (r4.Secs,r4.Meters)) (fun j_=>oun j_ fun f1 f2 =>
     Option.bind (getI out4 x3.To) fun x6 =>
     Option.bind (Jb (Qr.mk f1 f2) x6) fun r5 =>
     bif r5 then
      Option.bind (getI out4 x3.To) fun x7 =>
      some (Q9 out4 x3.To (Qr.mk f1 f2))
     else
      some out4)
   else
    some out4) (fun out5 =>
   some (.inl (out5,w64 (v2+1))))
 else
  some (.inr out4)
def JL (r1:QX) (j_:(List Qr)×Int):Option (((List Qr)×Int)⊕((List Qr))) :=
 oun j_ fun out3 n1 =>
 bif (decide (n1<r1.Nodes)) then
  Option.bind (
   Option.bind (
    iter (Z3 r1) (((r1.Edges.length:Nat):Int).toNat+1) (out3,0)) (fun out6 =>
    some out6)) (fun out7 =>
   some (.inl (out7,w64 (n1+1))))
 else
  some (.inr out3)
def ZD (r1:QX) (f_from1:Int):Option ((List Qr)×Int) :=
 Option.bind (JB r1) fun r2 =>
 bif (!(decide (r2=0))) then
  some ([],r2)
 else
  Option.bind (VE r1 f_from1) fun r3 =>
  bif (!r3) then
   some ([],7)
  else
   Option.bind (Qb1 (Qr.mk 0 0) r1.Nodes) fun l1 =>
   Option.bind (
    iter (ZY l1) (((l1.length:Nat):Int).toNat+1) (l1,0)) (fun out2 =>
    Option.bind (getI out2 f_from1) fun x2 =>
    Option.bind (
     iter (JL r1) (r1.Nodes.toNat+1) ((Q9 out2 f_from1 (Qr.mk 0 x2.Meters)),0)) (fun out8 =>
     some (out8,0)))
def Jn (p1:Qh) (f_from1:Int) (f_to1:Int):Option (Qr) :=
 Option.bind (ZD p1.Road f_from1) fun j_=>oun j_ fun r1 r2 =>
 Option.bind (
  bif (!(decide (r2=0))) then
   some true
  else
   bif (decide (f_to1<0)) then
    some true
   else
    some (decide (((r1.length:Nat):Int)≤f_to1))) (fun v1 =>
  bif v1 then
   some (Qr.mk (-1) 0)
  else
   Option.bind (getI r1 f_to1) fun x1 =>
   some x1)
def Wo (p1:Qh) (v1:Qy) (x1:QY) (s1:Int):Option (QY×Int) :=
 Option.bind (
  bif (decide (0≤s1)) then
   Option.bind (getI p1.Demands s1) fun x2 =>
   some x2.Node
  else
   some p1.Unload) (fun f1 =>
  Option.bind (Jn p1 x1.Node f1) fun r1 =>
  bif (decide (r1.Secs<0)) then
   some ((QY.mk 0 0 0 0 0 0),22)
  else
   bif (decide (s1<0)) then
    some ((QY.mk s1 f1 (w64 (x1.Leave+r1.Secs)) (w64 (x1.Leave+r1.Secs)) (w64 ((w64 (x1.Leave+r1.Secs))+p1.UnloadSecs)) 0),0)
   else
    Option.bind (getI p1.Demands s1) fun x3 =>
    bif (decide (x3.When.To≤(max (w64 (x1.Leave+r1.Secs)) x3.When.From))) then
     some ((QY.mk 0 0 0 0 0 0),19)
    else
     bif (decide (v1.Grams<(w64 (x1.Load+x3.Grams)))) then
      some ((QY.mk 0 0 0 0 0 0),20)
     else
      some ((QY.mk s1 f1 (w64 (x1.Leave+r1.Secs)) (max (w64 (x1.Leave+r1.Secs)) x3.When.From) (w64 ((max (w64 (x1.Leave+r1.Secs)) x3.When.From)+x3.Service)) (w64 (x1.Load+x3.Grams))),0))
def JS (p1:Qh) (v1:Qy) (x1:QY):Option (QY×Int) :=
 Option.bind (Jn p1 x1.Node v1.Depot) fun r1 =>
 bif (decide (r1.Secs<0)) then
  some ((QY.mk 0 0 0 0 0 0),22)
 else
  bif (decide (0<x1.Load)) then
   some ((QY.mk 0 0 0 0 0 0),20)
  else
   bif (decide (v1.Shift.To≤(w64 (x1.Leave+r1.Secs)))) then
    some ((QY.mk 0 0 0 0 0 0),19)
   else
    some ((QY.mk (-2) v1.Depot (w64 (x1.Leave+r1.Secs)) (w64 (x1.Leave+r1.Secs)) (w64 (x1.Leave+r1.Secs)) 0),0)
def Zn (p1:Qh) (t1:Qa) (x1:Qy) (j_:Int×Int×Int×Int×Int×Int×(List QY)×Int):Option ((Int×Int×Int×Int×Int×Int×(List QY)×Int)⊕((Int×Int×Int×Int×Int×Int×(List QY))⊕((List QY)×Int×Int))) :=
 oun j_ fun f1 j_=>oun j_ fun f2 j_=>oun j_ fun f3 j_=>oun j_ fun f4 j_=>oun j_ fun f5 j_=>oun j_ fun f6 j_=>oun j_ fun out1 v2 =>
 bif (decide (v2<((t1.Stops.length:Nat):Int))) then
  Option.bind (getI t1.Stops v2) fun x2 =>
  Option.bind (Vx p1 x1 t1.Stops v2) fun r2 =>
  Option.bind (
   bif (decide (r2=0)) then
    Option.bind (Wo p1 x1 (QY.mk f1 f2 f3 f4 f5 f6) x2) fun j_=>oun j_ fun r3 r4 =>
    some (r3.Stop,r3.Node,r3.Arrive,r3.Start,r3.Leave,r3.Load,r4)
   else
    some (f1,f2,f3,f4,f5,f6,r2)) (fun j_=>oun j_ fun f7 j_=>oun j_ fun f8 j_=>oun j_ fun f9 j_=>oun j_ fun f10 j_=>oun j_ fun f11 j_=>oun j_ fun f12 e1 =>
   bif (!(decide (e1=0))) then
    some (.inr (.inr ([],e1,v2)))
   else
    Option.bind (Jf out1 [(QY.mk f7 f8 f9 f10 f11 f12)]) fun l1 =>
    some (.inl (f7,f8,f9,f10,f11,f12,l1,w64 (v2+1))))
 else
  some (.inr (.inl (f1,f2,f3,f4,f5,f6,out1)))
def Z9 (p1:Qh) (t1:Qa):Option ((List QY)×Int×Int) :=
 Option.bind (Qv p1) fun r1 =>
 bif (!(decide (r1=0))) then
  some ([],r1,0)
 else
  Option.bind (
   bif (decide (t1.Vehicle<0)) then
    some true
   else
    some (decide (((p1.Vehicles.length:Nat):Int)≤t1.Vehicle))) (fun v1 =>
   bif v1 then
    some ([],7,0)
   else
    bif (decide (40<((t1.Stops.length:Nat):Int))) then
     some ([],8,0)
    else
     Option.bind (getI p1.Vehicles t1.Vehicle) fun x1 =>
     Option.bind (
      iter (Zn p1 t1 x1) (((t1.Stops.length:Nat):Int).toNat+1) (0,x1.Depot,0,0,x1.Shift.From,0,[],0)) (fun o_=>QR o_ (fun j_=>oun j_ fun f13 j_=>oun j_ fun f14 j_=>oun j_ fun f15 j_=>oun j_ fun f16 j_=>oun j_ fun f17 j_=>oun j_ fun f18 out2 =>
      Option.bind (JS p1 x1 (QY.mk f13 f14 f15 f16 f17 f18)) fun j_=>oun j_ fun r5 r6 =>
      bif (!(decide (r6=0))) then
       some ([],r6,((t1.Stops.length:Nat):Int))
      else
       Option.bind (Jf out2 [r5]) fun l2 =>
       some (l2,0,0)) (fun rv34908=>some rv34908)))
def ZX (p1:Qh) (r1:(List QY)) (j_:Int×Int×Int):Option ((Int×Int×Int)⊕(Int)) :=
 oun j_ fun sum1 j_=>oun j_ fun f_at1 v1 =>
 bif (decide (v1<((r1.length:Nat):Int))) then
  Option.bind (getI r1 v1) fun x2 =>
  Option.bind (Jn p1 f_at1 x2.Node) fun r4 =>
  some (.inl (w64 (sum1+r4.Meters),x2.Node,w64 (v1+1)))
 else
  some (.inr sum1)
def YC (p1:Qh) (t1:Qa):Option (Int×Int) :=
 Option.bind (Z9 p1 t1) fun j_=>oun j_ fun r1 j_=>oun j_ fun r2 r3 =>
 bif (!(decide (r2=0))) then
  some (0,r2)
 else
  Option.bind (getI p1.Vehicles t1.Vehicle) fun x1 =>
  Option.bind (
   iter (ZX p1 r1) (((r1.length:Nat):Int).toNat+1) (0,x1.Depot,0)) (fun sum2 =>
   some (sum2,0))
def Zf (t1:Qa) (d1:Int) (i1:Int):Option ((Int)⊕(Unit⊕((List Qa)×Int))) :=
 bif (decide (i1<((t1.Stops.length:Nat):Int))) then
  Option.bind (getI t1.Stops i1) fun x1 =>
  bif (decide (x1=d1)) then
   some (.inr (.inr ([],6)))
  else
   some (.inl (w64 (i1+1)))
 else
  some (.inr (.inl ()))
def Zc (costs1:(List Int)) (r3:Int) (f_at1:Int):Option ((Int)⊕(Int)) :=
 Option.bind (
  bif (decide (0<f_at1)) then
   Option.bind (getI costs1 (w64 (f_at1-1))) fun x2 =>
   some (decide (r3<x2))
  else
   some false) (fun v3 =>
  bif v3 then
   some (.inl (w64 (f_at1-1)))
  else
   some (.inr f_at1))
def Zg (F:Nat) (p1:Qh) (t1:Qa) (d1:Int) (j_:(List Qa)×(List Int)×Int):Option (((List Qa)×(List Int)×Int)⊕((List Qa))) :=
 oun j_ fun out1 j_=>oun j_ fun costs1 i2 =>
 bif (decide (i2≤(w64 (2*((t1.Stops.length:Nat):Int))))) then
  Option.bind (
   Option.bind (
    Option.bind (ZC t1.Stops d1 (w64 (Int.tdiv i2 2)) (decide ((Int.tmod i2 2)=1))) fun r2 =>
    some r2) (fun f1 =>
    Option.bind (YC p1 (Qa.mk t1.Vehicle f1)) fun j_=>oun j_ fun r3 r4 =>
    bif (!(decide (r4=0))) then
     some (out1,costs1)
    else
     Option.bind (
      iter (Zc costs1 r3) F ((out1.length:Nat):Int)) (fun f_at2 =>
      Option.bind (WS out1 0 f_at2) fun l1 =>
      Option.bind (Jf [] l1) fun l2 =>
      Option.bind (Jf l2 [(Qa.mk t1.Vehicle f1)]) fun l3 =>
      Option.bind (WS out1 f_at2 ((out1.length:Nat):Int)) fun l4 =>
      Option.bind (Jf l3 l4) fun l5 =>
      Option.bind (WS costs1 0 f_at2) fun l6 =>
      Option.bind (Jf [] l6) fun l7 =>
      Option.bind (Jf l7 [r3]) fun l8 =>
      Option.bind (WS costs1 f_at2 ((costs1.length:Nat):Int)) fun l9 =>
      Option.bind (Jf l8 l9) fun l10 =>
      some (l5,l10)))) (fun j_=>oun j_ fun out2 costs2 =>
   some (.inl (out2,costs2,w64 (i2+1))))
 else
  some (.inr out1)
def YE (F:Nat) (p1:Qh) (t1:Qa) (d1:Int):Option ((List Qa)×Int) :=
 Option.bind (Qv p1) fun r1 =>
 bif (!(decide (r1=0))) then
  some ([],r1)
 else
  Option.bind (
   bif (decide (t1.Vehicle<0)) then
    some true
   else
    bif (decide (((p1.Vehicles.length:Nat):Int)≤t1.Vehicle)) then
     some true
    else
     bif (decide (d1<0)) then
      some true
     else
      some (decide (((p1.Demands.length:Nat):Int)≤d1))) (fun v1 =>
   bif v1 then
    some ([],7)
   else
    Option.bind (
     iter (Zf t1 d1) (((t1.Stops.length:Nat):Int).toNat+1) 0) (fun o_=>QR o_ (fun _ =>
     Option.bind (
      iter (Zg F p1 t1 d1) F ([],[],0)) (fun out3 =>
      some (out3,0))) (fun rv35576=>some rv35576)))
def YP (F:Nat) (p1:Qh) (t1:Qa) (d1:Int):Option (Qa×Int) :=
 Option.bind (YE F p1 t1 d1) fun j_=>oun j_ fun r1 r2 =>
 bif (!(decide (r2=0))) then
  some ((Qa.mk 0 []),r2)
 else
  bif (decide (((r1.length:Nat):Int)=0)) then
   some ((Qa.mk 0 []),40)
  else
   Option.bind (getI r1 0) fun x1 =>
   some (x1,0)
def ZO (p1:Qh) (j_:(List Qa)×Int):Option (((List Qa)×Int)⊕((List Qa))) :=
 oun j_ fun tours1 v1 =>
 bif (decide (v1<((p1.Vehicles.length:Nat):Int))) then
  Option.bind (Jf tours1 [(Qa.mk v1 [])]) fun l1 =>
  some (.inl (l1,w64 (v1+1)))
 else
  some (.inr tours1)
def Yu (F:Nat) (p1:Qh) (tours3:(List Qa)) (d1:Int) (j_:Int×Int×Int×(List Int)×Int):Option ((Int×Int×Int×(List Int)×Int)⊕((Int×Int×(List Int)))) :=
 oun j_ fun f_at1 j_=>oun j_ fun least1 j_=>oun j_ fun f2 j_=>oun j_ fun f3 v2 =>
 bif (decide (v2<((tours3.length:Nat):Int))) then
  Option.bind (
   Option.bind (
    Option.bind (getI tours3 v2) fun x1 =>
    Option.bind (YP F p1 x1 d1) fun j_=>oun j_ fun r2 r3 =>
    some (r2.Vehicle,r2.Stops,r3)) (fun j_=>oun j_ fun f4 j_=>oun j_ fun f5 e1 =>
    bif (!(decide (e1=0))) then
     some (f_at1,least1,f2,f3)
    else
     Option.bind (YC p1 (Qa.mk f4 f5)) fun j_=>oun j_ fun r4 r5 =>
     Option.bind (getI tours3 v2) fun x2 =>
     Option.bind (YC p1 x2) fun j_=>oun j_ fun r6 r7 =>
     Option.bind (
      bif (decide (f_at1<0)) then
       some true
      else
       some (decide ((w64 (r4-r6))<least1))) (fun v4 =>
      bif v4 then
       some (v2,w64 (r4-r6),f4,f5)
      else
       some (f_at1,least1,f2,f3)))) (fun j_=>oun j_ fun f_at2 j_=>oun j_ fun least2 j_=>oun j_ fun f6 f7 =>
   some (.inl (f_at2,least2,f6,f7,w64 (v2+1))))
 else
  some (.inr (f_at1,f2,f3))
def Y6 (F:Nat) (p1:Qh) (j_:(List Qa)×(List Int)×Int):Option (((List Qa)×(List Int)×Int)⊕(((List Qa)×(List Int)))) :=
 oun j_ fun tours3 j_=>oun j_ fun f1 d1 =>
 bif (decide (d1<((p1.Demands.length:Nat):Int))) then
  Option.bind (
   Option.bind (
    iter (Yu F p1 tours3 d1) (((tours3.length:Nat):Int).toNat+1) ((-1),0,0,[],0)) (fun j_=>oun j_ fun f_at3 j_=>oun j_ fun f8 f9 =>
    bif (decide (f_at3<0)) then
     Option.bind (Jf f1 [d1]) fun l2 =>
     some (tours3,l2)
    else
     Option.bind (getI tours3 f_at3) fun x3 =>
     some ((Q9 tours3 f_at3 (Qa.mk f8 f9)),f1))) (fun j_=>oun j_ fun tours4 f10 =>
   some (.inl (tours4,f10,w64 (d1+1))))
 else
  some (.inr (tours3,f1))
def ZN (tours5:(List Qa)) (j_:(List Qa)×Int):Option (((List Qa)×Int)⊕((List Qa))) :=
 oun j_ fun f12 v5 =>
 bif (decide (v5<((tours5.length:Nat):Int))) then
  Option.bind (
   Option.bind (getI tours5 v5) fun x4 =>
   bif (decide (0<((x4.Stops.length:Nat):Int))) then
    Option.bind (getI tours5 v5) fun x5 =>
    Option.bind (Jf f12 [x5]) fun l3 =>
    some l3
   else
    some f12) (fun f13 =>
   some (.inl (f13,w64 (v5+1))))
 else
  some (.inr f12)
def Js (F:Nat) (p1:Qh):Option (Qk×Int) :=
 Option.bind (Qv p1) fun r1 =>
 bif (!(decide (r1=0))) then
  some ((Qk.mk [] []),r1)
 else
  Option.bind (
   iter (ZO p1) (((p1.Vehicles.length:Nat):Int).toNat+1) ([],0)) (fun tours2 =>
   Option.bind (
    iter (Y6 F p1) (((p1.Demands.length:Nat):Int).toNat+1) (tours2,[],0)) (fun j_=>oun j_ fun tours5 f11 =>
    Option.bind (
     iter (ZN tours5) (((tours5.length:Nat):Int).toNat+1) ([],0)) (fun f14 =>
     some ((Qk.mk f14 f11),0))))
def ZA (x2:Qa) (j_:(List Int)×Int):Option (((List Int)×Int)⊕((List Int))) :=
 oun j_ fun out2 v2 =>
 bif (decide (v2<((x2.Stops.length:Nat):Int))) then
  Option.bind (
   Option.bind (getI x2.Stops v2) fun x3 =>
   bif (decide (0≤x3)) then
    Option.bind (getI out2 x3) fun x4 =>
    Option.bind (getI out2 x3) fun x5 =>
    some (Q9 out2 x3 (w64 (x4+1)))
   else
    some out2) (fun out3 =>
   some (.inl (out3,w64 (v2+1))))
 else
  some (.inr out2)
def Zx (x1:Qk) (j_:(List Int)×Int):Option (((List Int)×Int)⊕((List Int))) :=
 oun j_ fun out1 v1 =>
 bif (decide (v1<((x1.Tours.length:Nat):Int))) then
  Option.bind (
   Option.bind (getI x1.Tours v1) fun x2 =>
   Option.bind (
    iter (ZA x2) (((x2.Stops.length:Nat):Int).toNat+1) (out1,0)) (fun out4 =>
    some out4)) (fun out5 =>
   some (.inl (out5,w64 (v1+1))))
 else
  some (.inr out1)
def Zy (x1:Qk) (j_:(List Int)×Int):Option (((List Int)×Int)⊕((List Int)⊕((List Int)×Int))) :=
 oun j_ fun out7 v3 =>
 bif (decide (v3<((x1.Left.length:Nat):Int))) then
  Option.bind (getI x1.Left v3) fun x6 =>
  Option.bind (
   bif (decide (x6<0)) then
    some true
   else
    some (decide (((out7.length:Nat):Int)≤x6))) (fun v4 =>
   bif v4 then
    some (.inr (.inr ([],7)))
   else
    Option.bind (getI out7 x6) fun x7 =>
    Option.bind (getI out7 x6) fun x8 =>
    some (.inl ((Q9 out7 x6 (w64 (x7+1))),w64 (v3+1))))
 else
  some (.inr (.inl out7))
def Vh (p1:Qh) (x1:Qk):Option ((List Int)×Int) :=
 Option.bind (Qb1 (0:Int) ((p1.Demands.length:Nat):Int)) fun l1 =>
 Option.bind (
  iter (Zx x1) (((x1.Tours.length:Nat):Int).toNat+1) (l1,0)) (fun out6 =>
  Option.bind (
   iter (Zy x1) (((x1.Left.length:Nat):Int).toNat+1) (out6,0)) (fun o_=>QR o_ (fun out8 =>
   some (out8,0)) (fun rv37421=>some rv37421)))
def ZS (x1:Qk) (v1:Int) (x2:Qa) (k1:Int):Option ((Int)⊕(Unit⊕Int)) :=
 bif (decide (k1<v1)) then
  Option.bind (getI x1.Tours k1) fun x3 =>
  bif (decide (x3.Vehicle=x2.Vehicle)) then
   some (.inr (.inr 6))
  else
   some (.inl (w64 (k1+1)))
 else
  some (.inr (.inl ()))
def Y8 (p1:Qh) (x1:Qk) (v1:Int):Option ((Int)⊕(Unit⊕Int)) :=
 bif (decide (v1<((x1.Tours.length:Nat):Int))) then
  Option.bind (
   Option.bind (getI x1.Tours v1) fun x2 =>
   Option.bind (
    iter (ZS x1 v1 x2) (v1.toNat+1) 0) (fun o_=>QR o_ (fun _ =>
    Option.bind (Z9 p1 x2) fun j_=>oun j_ fun r2 j_=>oun j_ fun r3 r4 =>
    bif (!(decide (r3=0))) then
     some (.inr r3)
    else
     some (.inl ())) (fun rv37278=>some (.inr rv37278)))) (fun o_=>QR o_ (fun _ =>
   some (.inl (w64 (v1+1)))) (fun rv37273=>some (.inr (.inr rv37273))))
 else
  some (.inr (.inl ()))
def Y1 (r5:(List Int)) (j_:Bool×Int):Option ((Bool×Int)⊕(Bool⊕Int)) :=
 oun j_ fun missing1 v2 =>
 bif (decide (v2<((r5.length:Nat):Int))) then
  Option.bind (
   Option.bind (getI r5 v2) fun x4 =>
   bif (decide (1<x4)) then
    some (.inr 6)
   else
    bif missing1 then
     some (.inl true)
    else
     some (.inl (decide (x4=0)))) (fun o_=>QR o_ (fun missing2 =>
   some (.inl (missing2,w64 (v2+1)))) (fun rv37445=>some (.inr (.inr rv37445))))
 else
  some (.inr (.inl missing1))
def Q4 (p1:Qh) (x1:Qk):Option (Int) :=
 Option.bind (Qv p1) fun r1 =>
 bif (!(decide (r1=0))) then
  some r1
 else
  Option.bind (
   iter (Y8 p1 x1) (((x1.Tours.length:Nat):Int).toNat+1) 0) (fun o_=>QR o_ (fun _ =>
   Option.bind (Vh p1 x1) fun j_=>oun j_ fun r5 r6 =>
   bif (!(decide (r6=0))) then
    some r6
   else
    Option.bind (
     iter (Y1 r5) (((r5.length:Nat):Int).toNat+1) (false,0)) (fun o_=>QR o_ (fun missing3 =>
     bif missing3 then
      some 38
     else
      some 0) (fun rv37437=>some rv37437))) (fun rv37209=>some rv37209))
def Jx (p1:Qh) (x1:Qk) (j_:Int×Int):Option ((Int×Int)⊕(Int)) :=
 oun j_ fun sum1 v1 =>
 bif (decide (v1<((x1.Tours.length:Nat):Int))) then
  Option.bind (getI x1.Tours v1) fun x2 =>
  Option.bind (YC p1 x2) fun j_=>oun j_ fun r2 r3 =>
  some (.inl (w64 (sum1+r2),w64 (v1+1)))
 else
  some (.inr sum1)
def Yi (p1:Qh) (x1:Qk):Option (Int×Int) :=
 Option.bind (Q4 p1 x1) fun r1 =>
 bif (!(decide (r1=0))) then
  some (0,r1)
 else
  Option.bind (
   iter (Jx p1 x1) (((x1.Tours.length:Nat):Int).toNat+1) (0,0)) (fun sum2 =>
   some (sum2,0))
def QbO (x1:Qk) (v1:Int) (v2:Int):Option ((Int)⊕(Unit⊕Qa)) :=
 bif (decide (v2<((x1.Tours.length:Nat):Int))) then
  Option.bind (getI x1.Tours v2) fun x2 =>
  bif (decide (x2.Vehicle=v1)) then
   some (.inr (.inr x2))
  else
   some (.inl (w64 (v2+1)))
 else
  some (.inr (.inl ()))
def Vt (x1:Qk) (v1:Int):Option (Qa) :=
 Option.bind (
  iter (QbO x1 v1) (((x1.Tours.length:Nat):Int).toNat+1) 0) (fun o_=>QR o_ (fun _ =>
  some (Qa.mk v1 [])) (fun rv37532=>some rv37532))
def Z5 (stops1:(List Int)) (d1:Int) (j_:(List Int)×Int):Option (((List Int)×Int)⊕((List Int))) :=
 oun j_ fun out1 v1 =>
 bif (decide (v1<((stops1.length:Nat):Int))) then
  Option.bind (
   Option.bind (getI stops1 v1) fun x1 =>
   bif (!(decide (x1=d1))) then
    Option.bind (Jf out1 [x1]) fun l1 =>
    some l1
   else
    some out1) (fun out2 =>
   some (.inl (out2,w64 (v1+1))))
 else
  some (.inr out1)
def JN (stops1:(List Int)) (d1:Int):Option ((List Int)) :=
 Option.bind (
  iter (Z5 stops1 d1) (((stops1.length:Nat):Int).toNat+1) ([],0)) (fun out3 =>
  some out3)
def Wj (t1:Qa) (v1:Int):Option ((Int)⊕(Unit⊕Bool)) :=
 bif (decide (v1<((t1.Stops.length:Nat):Int))) then
  Option.bind (getI t1.Stops v1) fun x1 =>
  bif (decide (0≤x1)) then
   some (.inr (.inr true))
  else
   some (.inl (w64 (v1+1)))
 else
  some (.inr (.inl ()))
def J9 (t1:Qa):Option (Bool) :=
 Option.bind (
  iter (Wj t1) (((t1.Stops.length:Nat):Int).toNat+1) 0) (fun o_=>QR o_ (fun _ =>
  some false) (fun rv37628=>some rv37628))
def Vj (l1:(List Int)) (n1:Int) (v1:Int):Option ((Int)⊕(Unit⊕Bool)) :=
 bif (decide (v1<((l1.length:Nat):Int))) then
  Option.bind (getI l1 v1) fun x1 =>
  bif (decide (x1=n1)) then
   some (.inr (.inr true))
  else
   some (.inl (w64 (v1+1)))
 else
  some (.inr (.inl ()))
def Wd (l1:(List Int)) (n1:Int):Option (Bool) :=
 Option.bind (
  iter (Vj l1 n1) (((l1.length:Nat):Int).toNat+1) 0) (fun o_=>QR o_ (fun _ =>
  some false) (fun rv37749=>some rv37749))
def Zl (F:Nat) (p1:Qh) (x1:Qk) (d1:Int) (v1:Int) (j_:(List Qa)×Int):Option (((List Qa)×Int)⊕((List Qa)⊕(Qk×Bool))) :=
 oun j_ fun f1 v2 =>
 bif (decide (v2<((p1.Vehicles.length:Nat):Int))) then
  Option.bind (
   Option.bind (Vt x1 v2) fun r1 =>
   Option.bind (JN r1.Stops d1) fun r2 =>
   Option.bind (
    bif (decide (v2=v1)) then
     Option.bind (YP F p1 (Qa.mk v2 r2) d1) fun j_=>oun j_ fun r3 r4 =>
     bif (!(decide (r4=0))) then
      some (.inr ((Qk.mk [] []),false))
     else
      some (.inl (r3.Vehicle,r3.Stops))
    else
     some (.inl (v2,r2))) (fun o_=>QR o_ (fun j_=>oun j_ fun f2 f3 =>
    Option.bind (J9 (Qa.mk f2 f3)) fun r5 =>
    bif r5 then
     Option.bind (Jf f1 [(Qa.mk f2 f3)]) fun l1 =>
     some (.inl l1)
    else
     some (.inl f1)) (fun rv37953=>some (.inr rv37953)))) (fun o_=>QR o_ (fun f4 =>
   some (.inl (f4,w64 (v2+1)))) (fun rv37923=>some (.inr (.inr rv37923))))
 else
  some (.inr (.inl f1))
def ZW (p1:Qh) (x1:Qk) (d1:Int) (j_:(List Int)×Int):Option (((List Int)×Int)⊕((List Int))) :=
 oun j_ fun f6 v5 =>
 bif (decide (v5<((p1.Demands.length:Nat):Int))) then
  Option.bind (
   Option.bind (
    bif (!(decide (v5=d1))) then
     Option.bind (Wd x1.Left v5) fun r6 =>
     some r6
    else
     some false) (fun v6 =>
    bif v6 then
     Option.bind (Jf f6 [v5]) fun l2 =>
     some l2
    else
     some f6)) (fun f7 =>
   some (.inl (f7,w64 (v5+1))))
 else
  some (.inr f6)
def JX (F:Nat) (p1:Qh) (x1:Qk) (d1:Int) (v1:Int):Option (Qk×Bool) :=
 Option.bind (
  iter (Zl F p1 x1 d1 v1) (((p1.Vehicles.length:Nat):Int).toNat+1) ([],0)) (fun o_=>QR o_ (fun f5 =>
  Option.bind (
   iter (ZW p1 x1 d1) (((p1.Demands.length:Nat):Int).toNat+1) ([],0)) (fun f8 =>
   some ((Qk.mk f5 f8),true))) (fun rv37830=>some rv37830))
def YZ (left1:Int) (cost1:Int) (otherLeft1:Int) (otherCost1:Int):Option (Bool) :=
 Option.bind (
  bif (decide (left1<otherLeft1)) then
   some true
  else
   bif (decide (left1=otherLeft1)) then
    some (decide (cost1<otherCost1))
   else
    some false) (fun v1 =>
  some v1)
def Y2 (out2:(List Qk)) (costs2:(List Int)) (r4:Qk) (r6:Int) (f_at1:Int):Option ((Int)⊕(Int)) :=
 Option.bind (
  bif (decide (0<f_at1)) then
   Option.bind (getI out2 (w64 (f_at1-1))) fun x2 =>
   Option.bind (getI costs2 (w64 (f_at1-1))) fun x3 =>
   Option.bind (YZ ((r4.Left.length:Nat):Int) r6 ((x2.Left.length:Nat):Int) x3) fun r9 =>
   some r9
  else
   some false) (fun v5 =>
  bif v5 then
   some (.inl (w64 (f_at1-1)))
  else
   some (.inr f_at1))
def YK (F:Nat) (p1:Qh) (x1:Qk) (r2:Int) (v1:Int) (j_:(List Qk)×(List Int)×Int):Option (((List Qk)×(List Int)×Int)⊕(((List Qk)×(List Int)))) :=
 oun j_ fun out2 j_=>oun j_ fun costs2 v2 =>
 bif (decide (v2<((p1.Vehicles.length:Nat):Int))) then
  Option.bind (
   Option.bind (JX F p1 x1 v1 v2) fun j_=>oun j_ fun r4 r5 =>
   Option.bind (Yi p1 r4) fun j_=>oun j_ fun r6 r7 =>
   Option.bind (
    bif (!r5) then
     some true
    else
     bif (!(decide (r7=0))) then
      some true
     else
      Option.bind (YZ ((r4.Left.length:Nat):Int) r6 ((x1.Left.length:Nat):Int) r2) fun r8 =>
      some (!r8)) (fun v4 =>
    bif v4 then
     some (out2,costs2)
    else
     Option.bind (
      iter (Y2 out2 costs2 r4 r6) F ((out2.length:Nat):Int)) (fun f_at2 =>
      Option.bind (WS out2 0 f_at2) fun l1 =>
      Option.bind (Jf [] l1) fun l2 =>
      Option.bind (Jf l2 [r4]) fun l3 =>
      Option.bind (WS out2 f_at2 ((out2.length:Nat):Int)) fun l4 =>
      Option.bind (Jf l3 l4) fun l5 =>
      Option.bind (WS costs2 0 f_at2) fun l6 =>
      Option.bind (Jf [] l6) fun l7 =>
      Option.bind (Jf l7 [r6]) fun l8 =>
      Option.bind (WS costs2 f_at2 ((costs2.length:Nat):Int)) fun l9 =>
      Option.bind (Jf l8 l9) fun l10 =>
      some (l5,l10)))) (fun j_=>oun j_ fun out3 costs3 =>
   some (.inl (out3,costs3,w64 (v2+1))))
 else
  some (.inr (out2,costs2))
def Y7 (F:Nat) (p1:Qh) (x1:Qk) (r2:Int) (j_:(List Qk)×(List Int)×Int):Option (((List Qk)×(List Int)×Int)⊕((List Qk))) :=
 oun j_ fun out1 j_=>oun j_ fun costs1 v1 =>
 bif (decide (v1<((p1.Demands.length:Nat):Int))) then
  Option.bind (
   Option.bind (
    iter (YK F p1 x1 r2 v1) (((p1.Vehicles.length:Nat):Int).toNat+1) (out1,costs1,0)) (fun j_=>oun j_ fun out4 costs4 =>
    some (out4,costs4))) (fun j_=>oun j_ fun out5 costs5 =>
   some (.inl (out5,costs5,w64 (v1+1))))
 else
  some (.inr out1)
def Jy (F:Nat) (p1:Qh) (x1:Qk):Option ((List Qk)×Int) :=
 Option.bind (Q4 p1 x1) fun r1 =>
 bif (!(decide (r1=0))) then
  some ([],r1)
 else
  Option.bind (Yi p1 x1) fun j_=>oun j_ fun r2 r3 =>
  Option.bind (
   iter (Y7 F p1 x1 r2) (((p1.Demands.length:Nat):Int).toNat+1) ([],[],0)) (fun out6 =>
   some (out6,0))
def JQ (F:Nat) (p1:Qh) (j_:(List Qa)×(List Int)):Option (((List Qa)×(List Int))⊕((Qk×Int))) :=
 oun j_ fun f1 f2 =>
 Option.bind (Jy F p1 (Qk.mk f1 f2)) fun j_=>oun j_ fun r3 r4 =>
 Option.bind (
  bif (!(decide (r4=0))) then
   some true
  else
   some (decide (((r3.length:Nat):Int)=0))) (fun v3 =>
  bif v3 then
   some (.inr ((Qk.mk f1 f2),r4))
  else
   Option.bind (getI r3 0) fun x1 =>
   some (.inl (x1.Tours,x1.Left)))
def Z8 (F:Nat) (p1:Qh):Option (Qk×Int) :=
 Option.bind (Js F p1) fun j_=>oun j_ fun r1 r2 =>
 bif (!(decide (r2=0))) then
  some ((Qk.mk [] []),r2)
 else
  Option.bind (
   iter (JQ F p1) F (r1.Tours,r1.Left)) (fun rv39159=>some rv39159)
def Zq (F:Nat) (p1:Qh):Option (Bool) :=
 Option.bind (Za p1 (Qk.mk [] [])) fun r1 =>
 bif r1 then
  Option.bind (Ju F) fun r2 =>
  some r2
 else
  Option.bind (ZB F p1) fun j_=>oun j_ fun r3 r4 =>
  Option.bind (Z8 F p1) fun j_=>oun j_ fun r5 r6 =>
  Option.bind (
   Option.bind (YA r3 r5) fun r7 =>
   bif r7 then
    bif (decide (r4=r6)) then
     Option.bind (Ju F) fun r8 =>
     some r8
    else
     some false
   else
    some false) (fun v5 =>
   some v5)
def Vb (F:Nat) (p1:Qh) (x1:Qk) (d1:Int) (v1:Int):Option (Int) :=
 Option.bind (getI p1.Vehicles v1) fun x2 =>
 Option.bind (getI p1.Demands d1) fun x3 =>
 Option.bind (Z0 x2 x3.Kind) fun r1 =>
 bif (!r1) then
  some 21
 else
  Option.bind (getI p1.Demands d1) fun x4 =>
  Option.bind (getI p1.Vehicles v1) fun x5 =>
  bif (decide (x5.Grams<x4.Grams)) then
   some 20
  else
   Option.bind (Z9 p1 (Qa.mk v1 [d1,(-1)])) fun j_=>oun j_ fun r2 j_=>oun j_ fun r3 r4 =>
   bif (!(decide (r3=0))) then
    some r3
   else
    Option.bind (Vt x1 v1) fun r5 =>
    Option.bind (YE F p1 r5 d1) fun j_=>oun j_ fun r6 r7 =>
    bif (decide (((r6.length:Nat):Int)=0)) then
     some 40
    else
     some 0
def Qbv (F:Nat) (p1:Qh) (x1:Qk) (d1:Int) (j_:(List Q6)×Int):Option (((List Q6)×Int)⊕((List Q6))) :=
 oun j_ fun out1 v2 =>
 bif (decide (v2<((p1.Vehicles.length:Nat):Int))) then
  Option.bind (Vb F p1 x1 d1 v2) fun r3 =>
  Option.bind (Jf out1 [(Q6.mk v2 r3)]) fun l1 =>
  some (.inl (l1,w64 (v2+1)))
 else
  some (.inr out1)
def Qcm (F:Nat) (p1:Qh) (x1:Qk) (d1:Int):Option ((List Q6)×Int) :=
 Option.bind (Q4 p1 x1) fun r1 =>
 bif (!(decide (r1=0))) then
  some ([],r1)
 else
  Option.bind (
   bif (decide (d1<0)) then
    some true
   else
    some (decide (((p1.Demands.length:Nat):Int)≤d1))) (fun v1 =>
   bif v1 then
    some ([],7)
   else
    Option.bind (Wd x1.Left d1) fun r2 =>
    bif (!r2) then
     some ([],13)
    else
     Option.bind (
      iter (Qbv F p1 x1 d1) (((p1.Vehicles.length:Nat):Int).toNat+1) ([],0)) (fun out2 =>
      some (out2,0)))
def Qbk (s11:(List Q6)) (s21:(List Q6)) (v1:Int):Option ((Int)⊕(Unit⊕Bool)) :=
 bif (decide (v1<((s11.length:Nat):Int))) then
  Option.bind (getI s11 v1) fun x1 =>
  Option.bind (getI s21 v1) fun x2 =>
  bif (!(decide (x1=x2))) then
   some (.inr (.inr false))
  else
   some (.inl (w64 (v1+1)))
 else
  some (.inr (.inl ()))
def Qb0 (s11:(List Q6)) (s21:(List Q6)):Option (Bool) :=
 bif (!(decide (((s11.length:Nat):Int)=((s21.length:Nat):Int)))) then
  some false
 else
  Option.bind (
   iter (Qbk s11 s21) (((s11.length:Nat):Int).toNat+1) 0) (fun o_=>QR o_ (fun _ =>
   some true) (fun rv40626=>some rv40626))
end Go.Proofs.YthpgjbbjpfiniaaGreat
