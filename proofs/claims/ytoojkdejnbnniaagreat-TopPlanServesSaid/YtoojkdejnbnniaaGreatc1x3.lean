/- TopPlanServes: for every input the given law returns true, and its arguments read as before. No condition. -/
import Derived.Test.YtoojkdejnbnniaaGreatc1x2
namespace Go.Proofs.YtoojkdejnbnniaaGreat
open Go.RowKit
set_option linter.unusedSimpArgs false
set_option linter.unusedVariables false
structure Jm where
 From:Int
 To:Int
 Meters:Int
 Secs:Int
deriving DecidableEq
def QgF (x:Jm):List Value:=[.int .i64 x.From,.int .i64 x.To,.int .i64 x.Meters,.int .i64 x.Secs]
def QY:Rp Jm:=Qez 4 QgF (fun _=>rfl) (by intro x u hu;simp only[QgF,List.mem_cons,List.not_mem_nil,or_false] at hu;rcases hu with rfl | rfl | rfl | rfl<;>rfl)
structure QR where
 Nodes:Int
 Edges:(List Jm)
deriving DecidableEq
def QmL:Rp QR where
 sz:=2
 rep μ x cs:= ∃(A1:Option Addr) (c1:Nat),cs=[.int .i64 x.Nodes,.slice A1 x.Edges.length c1]∧(x.Edges.length≤c1∧c1≤maxLen)∧Qs QY μ A1 x.Edges
 len:=by rintro μ x cs ⟨A1,c1,rfl,_⟩;rfl
 mono:=by rintro μ μ' x cs hm ⟨A1,c1,h,hl1,ha1⟩;exact ⟨A1,c1,h,hl1,ha1.mono hm⟩
 one:=by rintro μ x cs ⟨A1,c1,rfl,_⟩ u hu;simp only[List.mem_cons,List.not_mem_nil,or_false] at hu;rcases hu with rfl | rfl<;>rfl
structure ZX where
 From:Int
 To:Int
deriving DecidableEq
def QeQ (x:ZX):List Value:=[.int .i64 x.From,.int .i64 x.To]
def QkU:Rp ZX:=Qez 2 QeQ (fun _=>rfl) (by intro x u hu;simp only[QeQ,List.mem_cons,List.not_mem_nil,or_false] at hu;rcases hu with rfl | rfl<;>rfl)
structure QD where
 ID:ByteArray
 Depot:Int
 Shift:ZX
 Grams:Int
 Kinds:Int
deriving DecidableEq
def Qeu (x:QD):List Value:=[.string x.ID,.int .i64 x.Depot,.int .i64 x.Shift.From,.int .i64 x.Shift.To,.int .i64 x.Grams,.int .i64 x.Kinds]
def QN:Rp QD:=Qez 6 Qeu (fun _=>rfl) (by intro x u hu;simp only[Qeu,List.mem_cons,List.not_mem_nil,or_false] at hu;rcases hu with rfl | rfl | rfl | rfl | rfl | rfl<;>rfl)
structure Qt where
 Container:Int
 Node:Int
 Kind:Int
 Grams:Int
 When:ZX
 Service:Int
deriving DecidableEq
def QeO (x:Qt):List Value:=[.int .i64 x.Container,.int .i64 x.Node,.int .i64 x.Kind,.int .i64 x.Grams,.int .i64 x.When.From,.int .i64 x.When.To,.int .i64 x.Service]
def QH:Rp Qt:=Qez 7 QeO (fun _=>rfl) (by intro x u hu;simp only[QeO,List.mem_cons,List.not_mem_nil,or_false] at hu;rcases hu with rfl | rfl | rfl | rfl | rfl | rfl | rfl<;>rfl)
structure Qe where
 Road:QR
 Vehicles:(List QD)
 Demands:(List Qt)
 Unload:Int
 UnloadSecs:Int
deriving DecidableEq
def QjE:Rp Qe where
 sz:=6
 rep μ x cs:= ∃(A1:Option Addr) (c1:Nat) (A2:Option Addr) (c2:Nat) (A3:Option Addr) (c3:Nat),cs=[.int .i64 x.Road.Nodes,.slice A1 x.Road.Edges.length c1,.slice A2 x.Vehicles.length c2,.slice A3 x.Demands.length c3,.int .i64 x.Unload,.int .i64 x.UnloadSecs]∧(x.Road.Edges.length≤c1∧c1≤maxLen)∧Qs QY μ A1 x.Road.Edges∧(x.Vehicles.length≤c2∧c2≤maxLen)∧Qs QN μ A2 x.Vehicles∧(x.Demands.length≤c3∧c3≤maxLen)∧Qs QH μ A3 x.Demands
 len:=by rintro μ x cs ⟨A1,c1,A2,c2,A3,c3,rfl,_⟩;rfl
 mono:=by rintro μ μ' x cs hm ⟨A1,c1,A2,c2,A3,c3,h,hl1,ha1,hl2,ha2,hl3,ha3⟩;exact ⟨A1,c1,A2,c2,A3,c3,h,hl1,ha1.mono hm,hl2,ha2.mono hm,hl3,ha3.mono hm⟩
 one:=by rintro μ x cs ⟨A1,c1,A2,c2,A3,c3,rfl,_⟩ u hu;simp only[List.mem_cons,List.not_mem_nil,or_false] at hu;rcases hu with rfl | rfl | rfl | rfl | rfl | rfl<;>rfl
structure QA where
 ID:ByteArray
 Kind:Int
 Litres:Int
 Grams:Int
 Node:Int
deriving DecidableEq
def Qdc (x:QA):List Value:=[.string x.ID,.int .i64 x.Kind,.int .i64 x.Litres,.int .i64 x.Grams,.int .i64 x.Node]
def Yq:Rp QA:=Qez 5 Qdc (fun _=>rfl) (by intro x u hu;simp only[Qdc,List.mem_cons,List.not_mem_nil,or_false] at hu;rcases hu with rfl | rfl | rfl | rfl | rfl<;>rfl)
structure QcN where
 From:Int
 To:Int
deriving DecidableEq
def QgH (x:QcN):List Value:=[.int .i64 x.From,.int .i64 x.To]
def QaK:Rp QcN:=Qez 2 QgH (fun _=>rfl) (by intro x u hu;simp only[QgH,List.mem_cons,List.not_mem_nil,or_false] at hu;rcases hu with rfl | rfl<;>rfl)
structure Qv where
 Container:Int
 Start:Int
 Every:Int
 Moves:(List QcN)
deriving DecidableEq
def Yr:Rp Qv where
 sz:=4
 rep μ x cs:= ∃(A3:Option Addr) (c3:Nat),cs=[.int .i64 x.Container,.int .i64 x.Start,.int .i64 x.Every,.slice A3 x.Moves.length c3]∧(x.Moves.length≤c3∧c3≤maxLen)∧Qs QaK μ A3 x.Moves
 len:=by rintro μ x cs ⟨A3,c3,rfl,_⟩;rfl
 mono:=by rintro μ μ' x cs hm ⟨A3,c3,h,hl3,ha3⟩;exact ⟨A3,c3,h,hl3,ha3.mono hm⟩
 one:=by rintro μ x cs ⟨A3,c3,rfl,_⟩ u hu;simp only[List.mem_cons,List.not_mem_nil,or_false] at hu;rcases hu with rfl | rfl | rfl | rfl<;>rfl
structure Qmi where
 Lo:Int
 Hi:Int
deriving DecidableEq
structure Q8 where
 Container:Int
 Mass:Qmi
deriving DecidableEq
def QgG (x:Q8):List Value:=[.int .i64 x.Container,.int .i64 x.Mass.Lo,.int .i64 x.Mass.Hi]
def J3:Rp Q8:=Qez 3 QgG (fun _=>rfl) (by intro x u hu;simp only[QgG,List.mem_cons,List.not_mem_nil,or_false] at hu;rcases hu with rfl | rfl | rfl<;>rfl)
structure QJ where
 c:(List QA)
 s:(List Qv)
 f:(List Q8)
 day:Int
 level:Int
deriving DecidableEq
structure ZP where
 From:Int
 To:Int
deriving DecidableEq
def QhE (x:ZP):List Value:=[.int .i64 x.From,.int .i64 x.To]
def QcI:Rp ZP:=Qez 2 QhE (fun _=>rfl) (by intro x u hu;simp only[QhE,List.mem_cons,List.not_mem_nil,or_false] at hu;rcases hu with rfl | rfl<;>rfl)
structure Qbk where
 Nodes:Int
 Arcs:(List ZP)
deriving DecidableEq
structure Qb where
 Vehicle:Int
 Stops:(List Int)
deriving DecidableEq
def QE:Rp Qb where
 sz:=2
 rep μ x cs:= ∃(A1:Option Addr) (c1:Nat),cs=[.int .i64 x.Vehicle,.slice A1 x.Stops.length c1]∧(x.Stops.length≤c1∧c1≤maxLen)∧Qs Yc μ A1 x.Stops
 len:=by rintro μ x cs ⟨A1,c1,rfl,_⟩;rfl
 mono:=by rintro μ μ' x cs hm ⟨A1,c1,h,hl1,ha1⟩;exact ⟨A1,c1,h,hl1,ha1.mono hm⟩
 one:=by rintro μ x cs ⟨A1,c1,rfl,_⟩ u hu;simp only[List.mem_cons,List.not_mem_nil,or_false] at hu;rcases hu with rfl | rfl<;>rfl
structure Qc where
 tour:Qb
 cost:Int
deriving DecidableEq
def Qj:Rp Qc where
 sz:=3
 rep μ x cs:= ∃(A1:Option Addr) (c1:Nat),cs=[.int .i64 x.tour.Vehicle,.slice A1 x.tour.Stops.length c1,.int .i64 x.cost]∧(x.tour.Stops.length≤c1∧c1≤maxLen)∧Qs Yc μ A1 x.tour.Stops
 len:=by rintro μ x cs ⟨A1,c1,rfl,_⟩;rfl
 mono:=by rintro μ μ' x cs hm ⟨A1,c1,h,hl1,ha1⟩;exact ⟨A1,c1,h,hl1,ha1.mono hm⟩
 one:=by rintro μ x cs ⟨A1,c1,rfl,_⟩ u hu;simp only[List.mem_cons,List.not_mem_nil,or_false] at hu;rcases hu with rfl | rfl | rfl<;>rfl
structure Qr where
 Secs:Int
 Meters:Int
deriving DecidableEq
def QhF (x:Qr):List Value:=[.int .i64 x.Secs,.int .i64 x.Meters]
def JA:Rp Qr:=Qez 2 QhF (fun _=>rfl) (by intro x u hu;simp only[QhF,List.mem_cons,List.not_mem_nil,or_false] at hu;rcases hu with rfl | rfl<;>rfl)
structure ZY where
 node:Int
 time:Int
 load:Int
 meters:Int
deriving DecidableEq
structure QT where
 Stop:Int
 Node:Int
 Arrive:Int
 Start:Int
 Leave:Int
 Load:Int
deriving DecidableEq
def QfL (x:QT):List Value:=[.int .i64 x.Stop,.int .i64 x.Node,.int .i64 x.Arrive,.int .i64 x.Start,.int .i64 x.Leave,.int .i64 x.Load]
def Qdi:Rp QT:=Qez 6 QfL (fun _=>rfl) (by intro x u hu;simp only[QfL,List.mem_cons,List.not_mem_nil,or_false] at hu;rcases hu with rfl | rfl | rfl | rfl | rfl | rfl<;>rfl)
structure QC where
 place:ZY
 p:Qe
 v:QD
 legs:(List (Int×(List Qr)))
 visits:(List QT)
deriving DecidableEq
def QI (μ:Gh) (v:Value) (x:QC) (so:Seg):Prop:= ∃(g:Nat) (A5:Option Addr) (c5:Nat) (A6:Option Addr) (c6:Nat) (A7:Option Addr) (c7:Nat) (m16:Nat) (es16:Array MapEntry) (cn16:Nat) (A17:Option Addr) (c17:Nat) (ch17:Seg),v= .pointer (some ⟨g,0,none⟩)∧so=((g,Obj.cells #[.int .i64 x.place.node,.int .i64 x.place.time,.int .i64 x.place.load,.int .i64 x.place.meters,.int .i64 x.p.Road.Nodes,.slice A5 x.p.Road.Edges.length c5,.slice A6 x.p.Vehicles.length c6,.slice A7 x.p.Demands.length c7,.int .i64 x.p.Unload,.int .i64 x.p.UnloadSecs,.string x.v.ID,.int .i64 x.v.Depot,.int .i64 x.v.Shift.From,.int .i64 x.v.Shift.To,.int .i64 x.v.Grams,.int .i64 x.v.Kinds,.map (some m16),.slice A17 x.visits.length c17] 119 (0,0))::((m16,Obj.map es16 cn16)::ch17))∧((x.p.Road.Edges.length≤c5∧c5≤maxLen)∧Qs QY μ A5 x.p.Road.Edges)∧((x.p.Vehicles.length≤c6∧c6≤maxLen)∧Qs QN μ A6 x.p.Vehicles)∧((x.p.Demands.length≤c7∧c7≤maxLen)∧Qs QH μ A7 x.p.Demands)∧QfW JA μ es16 cn16 x.legs∧Own Qdi 191 μ (.slice A17 x.visits.length c17) x.visits ch17
theorem QI.mono {μ μ':Gh} {v:Value} {x:QC} {so:Seg} (h:QI μ v x so) (hm:μ.le μ'):QI μ' v x so:=by
 obtain ⟨g,A5,c5,A6,c6,A7,c7,m16,es16,cn16,A17,c17,ch17,hv,hs,h5,h6,h7,h16,h17⟩:=h;exact ⟨g,A5,c5,A6,c6,A7,c7,m16,es16,cn16,A17,c17,ch17,hv,hs,⟨h5.1,h5.2.mono hm⟩,⟨h6.1,h6.2.mono hm⟩,⟨h7.1,h7.2.mono hm⟩,h16.mono hm,h17.mono hm⟩
theorem QI.fl {x:QC} {g:Nat} {A5:Option Addr} {c5:Nat} {A6:Option Addr} {c6:Nat} {A7:Option Addr} {c7:Nat} {m16:Nat} {es16:Array MapEntry} {cn16:Nat} {A17:Option Addr} {c17:Nat} {ch17:Seg}:([[(g,Obj.cells #[.int .i64 x.place.node,.int .i64 x.place.time,.int .i64 x.place.load,.int .i64 x.place.meters,.int .i64 x.p.Road.Nodes,.slice A5 x.p.Road.Edges.length c5,.slice A6 x.p.Vehicles.length c6,.slice A7 x.p.Demands.length c7,.int .i64 x.p.Unload,.int .i64 x.p.UnloadSecs,.string x.v.ID,.int .i64 x.v.Depot,.int .i64 x.v.Shift.From,.int .i64 x.v.Shift.To,.int .i64 x.v.Grams,.int .i64 x.v.Kinds,.map (some m16),.slice A17 x.visits.length c17] 119 (0,0))],[(m16,Obj.map es16 cn16)],ch17]:List Seg).flatten=((g,Obj.cells #[.int .i64 x.place.node,.int .i64 x.place.time,.int .i64 x.place.load,.int .i64 x.place.meters,.int .i64 x.p.Road.Nodes,.slice A5 x.p.Road.Edges.length c5,.slice A6 x.p.Vehicles.length c6,.slice A7 x.p.Demands.length c7,.int .i64 x.p.Unload,.int .i64 x.p.UnloadSecs,.string x.v.ID,.int .i64 x.v.Depot,.int .i64 x.v.Shift.From,.int .i64 x.v.Shift.To,.int .i64 x.v.Grams,.int .i64 x.v.Kinds,.map (some m16),.slice A17 x.visits.length c17] 119 (0,0))::((m16,Obj.map es16 cn16)::ch17)):=by simp
structure Q6 where
 node:Int
 leg:Qr
deriving DecidableEq
structure QM where
 value:Q6
 n:Int
deriving DecidableEq
def Qb8 (x:QM):List Value:=[.int .i64 x.value.node,.int .i64 x.value.leg.Secs,.int .i64 x.value.leg.Meters,.int .i64 x.n]
def YJ:Rp QM:=Qez 4 Qb8 (fun _=>rfl) (by intro x u hu;simp only[Qb8,List.mem_cons,List.not_mem_nil,or_false] at hu;rcases hu with rfl | rfl | rfl | rfl<;>rfl)
structure Qf where
 heap:(List QM)
 count:Int
deriving DecidableEq
def Qk (μ:Gh) (v:Value) (x:Qf) (so:Seg):Prop:= ∃(g:Nat) (A1:Option Addr) (c1:Nat) (ch1:Seg),v= .pointer (some ⟨g,0,none⟩)∧so=((g,Obj.cells #[.func (.func 132) #[] #[],.slice A1 x.heap.length c1,.int .i64 x.count] 228 (0,0))::ch1)∧Own YJ 230 μ (.slice A1 x.heap.length c1) x.heap ch1
theorem Qk.mono {μ μ':Gh} {v:Value} {x:Qf} {so:Seg} (h:Qk μ v x so) (hm:μ.le μ'):Qk μ' v x so:=by
 obtain ⟨g,A1,c1,ch1,hv,hs,h1⟩:=h;exact ⟨g,A1,c1,ch1,hv,hs,h1.mono hm⟩
theorem Qk.fl {x:Qf} {g:Nat} {A1:Option Addr} {c1:Nat} {ch1:Seg}:([[(g,Obj.cells #[.func (.func 132) #[] #[],.slice A1 x.heap.length c1,.int .i64 x.count] 228 (0,0))],ch1]:List Seg).flatten=((g,Obj.cells #[.func (.func 132) #[] #[],.slice A1 x.heap.length c1,.int .i64 x.count] 228 (0,0))::ch1):=by simp
structure Qh where
 Tours:(List Qb)
 Left:(List Int)
deriving DecidableEq
def QcW:Rp Qh where
 sz:=2
 rep μ x cs:= ∃(A0:Option Addr) (c0:Nat) (A1:Option Addr) (c1:Nat),cs=[.slice A0 x.Tours.length c0,.slice A1 x.Left.length c1]∧(x.Tours.length≤c0∧c0≤maxLen)∧Qs QE μ A0 x.Tours∧(x.Left.length≤c1∧c1≤maxLen)∧Qs Yc μ A1 x.Left
 len:=by rintro μ x cs ⟨A0,c0,A1,c1,rfl,_⟩;rfl
 mono:=by rintro μ μ' x cs hm ⟨A0,c0,A1,c1,h,hl0,ha0,hl1,ha1⟩;exact ⟨A0,c0,A1,c1,h,hl0,ha0.mono hm,hl1,ha1.mono hm⟩
 one:=by rintro μ x cs ⟨A0,c0,A1,c1,rfl,_⟩ u hu;simp only[List.mem_cons,List.not_mem_nil,or_false] at hu;rcases hu with rfl | rfl<;>rfl
structure Qa where
 plan:Qh
 cost:Int
deriving DecidableEq
def Qo:Rp Qa where
 sz:=3
 rep μ x cs:= ∃(A0:Option Addr) (c0:Nat) (A1:Option Addr) (c1:Nat),cs=[.slice A0 x.plan.Tours.length c0,.slice A1 x.plan.Left.length c1,.int .i64 x.cost]∧(x.plan.Tours.length≤c0∧c0≤maxLen)∧Qs QE μ A0 x.plan.Tours∧(x.plan.Left.length≤c1∧c1≤maxLen)∧Qs Yc μ A1 x.plan.Left
 len:=by rintro μ x cs ⟨A0,c0,A1,c1,rfl,_⟩;rfl
 mono:=by rintro μ μ' x cs hm ⟨A0,c0,A1,c1,h,hl0,ha0,hl1,ha1⟩;exact ⟨A0,c0,A1,c1,h,hl0,ha0.mono hm,hl1,ha1.mono hm⟩
 one:=by rintro μ x cs ⟨A0,c0,A1,c1,rfl,_⟩ u hu;simp only[List.mem_cons,List.not_mem_nil,or_false] at hu;rcases hu with rfl | rfl | rfl<;>rfl
structure QL where
 Vehicle:Int
 Err:Int
deriving DecidableEq
def QeP (x:QL):List Value:=[.int .i64 x.Vehicle,.int .i64 x.Err]
def Vz:Rp QL:=Qez 2 QeP (fun _=>rfl) (by intro x u hu;simp only[QeP,List.mem_cons,List.not_mem_nil,or_false] at hu;rcases hu with rfl | rfl<;>rfl)
def QG (μ:Gh) (v:Value) (x:(List Qa)) (so:Seg):Prop:= ∃(g:Nat) (A0:Option Addr) (c0:Nat) (ch0:Seg),v= .pointer (some ⟨g,0,none⟩)∧so=((g,Obj.cells #[.slice A0 x.length c0] 101 (0,0))::ch0)∧Own Qo 106 μ (.slice A0 x.length c0) x ch0
theorem QG.mono {μ μ':Gh} {v:Value} {x:(List Qa)} {so:Seg} (h:QG μ v x so) (hm:μ.le μ'):QG μ' v x so:=by
 obtain ⟨g,A0,c0,ch0,hv,hs,h0⟩:=h;exact ⟨g,A0,c0,ch0,hv,hs,h0.mono hm⟩
theorem QG.fl {x:(List Qa)} {g:Nat} {A0:Option Addr} {c0:Nat} {ch0:Seg}:([[(g,Obj.cells #[.slice A0 x.length c0] 101 (0,0))],ch0]:List Seg).flatten=((g,Obj.cells #[.slice A0 x.length c0] 101 (0,0))::ch0):=by simp
def QhR (x:Jm):Prop:=(wfI .i64) x.From∧(wfI .i64) x.To∧(wfI .i64) x.Meters∧(wfI .i64) x.Secs
def QhT (x:QR):Prop:=(wfI .i64) x.Nodes∧(fun xs:List Jm=> ∀x∈xs,QhR x) x.Edges
def QdA (x:ZX):Prop:=(wfI .i64) x.From∧(wfI .i64) x.To
def Qfo (x:QD):Prop:=(fun s:ByteArray=>s.size≤maxLen) x.ID∧(wfI .i64) x.Depot∧QdA x.Shift∧(wfI .i64) x.Grams∧(wfI .i64) x.Kinds
def QfU (x:Qt):Prop:=(wfI .i64) x.Container∧(wfI .i64) x.Node∧(wfI .i64) x.Kind∧(wfI .i64) x.Grams∧QdA x.When∧(wfI .i64) x.Service
def Qfn (x:Qe):Prop:=QhT x.Road∧(fun xs:List QD=> ∀x∈xs,Qfo x) x.Vehicles∧(fun xs:List Qt=> ∀x∈xs,QfU x) x.Demands∧(wfI .i64) x.Unload∧(wfI .i64) x.UnloadSecs
def Qd2 (x:QA):Prop:=(fun s:ByteArray=>s.size≤maxLen) x.ID∧(wfI .i64) x.Kind∧(wfI .i64) x.Litres∧(wfI .i64) x.Grams∧(wfI .i64) x.Node
def QhS (x:QcN):Prop:=(wfI .i64) x.From∧(wfI .i64) x.To
def QeA (x:Qv):Prop:=(wfI .i64) x.Container∧(wfI .i64) x.Start∧(wfI .i64) x.Every∧(fun xs:List QcN=> ∀x∈xs,QhS x) x.Moves
def QaP (c1:Int):Option (Bool) :=
 Option.bind (
  bif (decide (97≤c1)) then
   bif (decide (c1≤122)) then
    some true
   else
    bif (decide (65≤c1)) then
     some (decide (c1≤90))
    else
     some false
  else
   bif (decide (65≤c1)) then
    some (decide (c1≤90))
   else
    some false) (fun v1 =>
  some v1)
def QbB (s1:ByteArray) (i1:Int):Option ((Int)⊕(Unit⊕Bool)) :=
 bif (decide (i1<((s1.size:Nat):Int))) then
  Option.bind (QiU s1 i1) fun x2 =>
  Option.bind (
   Option.bind (QaP x2) fun r2 =>
   bif (!r2) then
    bif (decide (x2<48)) then
     bif (!(decide (x2=45))) then
      bif (!(decide (x2=95))) then
       some (!(decide (x2=46)))
      else
       some false
     else
      some false
    else
     bif (decide (57<x2)) then
      bif (!(decide (x2=45))) then
       bif (!(decide (x2=95))) then
        some (!(decide (x2=46)))
       else
        some false
      else
       some false
     else
      some false
   else
    some false) (fun v2 =>
   bif v2 then
    some (.inr (.inr false))
   else
    some (.inl (w64 (i1+1))))
 else
  some (.inr (.inl ()))
def Qbo (F:Nat) (s1:ByteArray):Option (Bool) :=
 Option.bind (
  bif (decide (((s1.size:Nat):Int)<1)) then
   some true
  else
   bif (decide (32<((s1.size:Nat):Int))) then
    some true
   else
    Option.bind (QiU s1 0) fun x1 =>
    Option.bind (QaP x1) fun r1 =>
    some (!r1)) (fun v1 =>
  bif v1 then
   some false
  else
   Option.bind (
    iter (QbB s1) F 1) (fun o_=>Qy o_ (fun _ =>
    some true) (fun rv41=>some rv41)))
def JG (F:Nat) (c1:QA) (materials1:Int) (nodes1:Int):Option (Int) :=
 Option.bind (Qbo F c1.ID) fun r1 =>
 bif (!r1) then
  some 5
 else
  Option.bind (
   bif (decide (c1.Kind<0)) then
    some true
   else
    some (decide (materials1≤c1.Kind))) (fun v1 =>
   bif v1 then
    some 21
   else
    Option.bind (
     bif (decide (c1.Litres<1)) then
      some true
     else
      bif (decide (40000<c1.Litres)) then
       some true
      else
       bif (decide (c1.Grams<1)) then
        some true
       else
        some (decide (1073741824<c1.Grams))) (fun v2 =>
     bif v2 then
      some 1
     else
      Option.bind (
       bif (decide (c1.Node<0)) then
        some true
       else
        some (decide (nodes1≤c1.Node))) (fun v3 =>
       bif v3 then
        some 7
       else
        some 0)))
def Z5 (F:Nat) (l1:(List QA)) (materials1:Int) (nodes1:Int) (v1:Int):Option ((Int)⊕(Unit⊕Int)) :=
 bif (decide (v1<((l1.length:Nat):Int))) then
  Option.bind (getI l1 v1) fun x1 =>
  Option.bind (JG F x1 materials1 nodes1) fun r1 =>
  bif (!(decide (r1=0))) then
   some (.inr (.inr r1))
  else
   some (.inl (w64 (v1+1)))
 else
  some (.inr (.inl ()))
def W7 (l1:(List QA)) (j_:(List (ByteArray×Bool))×Int):Option (((List (ByteArray×Bool))×Int)⊕(Unit⊕Int)) :=
 oun j_ fun m1 v2 =>
 bif (decide (v2<((l1.length:Nat):Int))) then
  Option.bind (getI l1 v2) fun x2 =>
  bif ((Qdv x2.ID m1).getD false) then
   some (.inr (.inr 6))
  else
   some (.inl ((Qji x2.ID true m1),w64 (v2+1)))
 else
  some (.inr (.inl ()))
def JF (F:Nat) (l1:(List QA)) (materials1:Int) (nodes1:Int):Option (Int) :=
 bif (decide (256<((l1.length:Nat):Int))) then
  some 8
 else
  Option.bind (
   iter (Z5 F l1 materials1 nodes1) (((l1.length:Nat):Int).toNat+1) 0) (fun o_=>Qy o_ (fun _ =>
   Option.bind (
    iter (W7 l1) (((l1.length:Nat):Int).toNat+1) ([],0)) (fun o_=>Qy o_ (fun _ =>
    some 0) (fun rv57=>some rv57))) (fun rv34=>some rv34))
def Wh (t1:QJ) (i1:Int):Option (Bool) :=
 Option.bind (
  bif (decide (0≤i1)) then
   some (decide (i1<((t1.c.length:Nat):Int)))
  else
   some false) (fun v1 =>
  some v1)
def Qab (d1:Int):Option (Bool) :=
 Option.bind (
  bif (decide (0≤d1)) then
   some (decide (d1≤36524))
  else
   some false) (fun v1 =>
  some v1)
def J4 (s1:Qv) (d1:Int):Option (Bool) :=
 Option.bind (
  Option.bind (Qab d1) fun r1 =>
  bif r1 then
   bif (decide (s1.Start≤d1)) then
    Option.bind (Wd (s1.Every≠0)) fun _ =>
    some (decide ((Int.tmod (w64 (d1-s1.Start)) s1.Every)=0))
   else
    some false
  else
   some false) (fun v1 =>
  some v1)
def VC (s1:Qv) (v2:Int):Option ((Int)⊕(Unit⊕Int)) :=
 bif (decide (v2<((s1.Moves.length:Nat):Int))) then
  Option.bind (getI s1.Moves v2) fun x1 =>
  Option.bind (J4 s1 x1.From) fun r2 =>
  bif (!r2) then
   some (.inr (.inr 7))
  else
   Option.bind (Qab x1.To) fun r3 =>
   bif (!r3) then
    some (.inr (.inr 1))
   else
    Option.bind (J4 s1 x1.To) fun r4 =>
    bif r4 then
     some (.inr (.inr 12))
    else
     some (.inl (w64 (v2+1)))
 else
  some (.inr (.inl ()))
def Wo (s1:Qv) (j_:(List (Int×Bool))×(List (Int×Bool))×Int):Option (((List (Int×Bool))×(List (Int×Bool))×Int)⊕(Unit⊕Int)) :=
 oun j_ fun m1 j_=>oun j_ fun m2 v3 =>
 bif (decide (v3<((s1.Moves.length:Nat):Int))) then
  Option.bind (getI s1.Moves v3) fun x2 =>
  Option.bind (
   bif ((Qar x2.From m1).getD false) then
    some true
   else
    some ((Qar x2.To m2).getD false)) (fun v4 =>
   bif v4 then
    some (.inr (.inr 6))
   else
    some (.inl ((Qcx x2.From true m1),(Qcx x2.To true m2),w64 (v3+1))))
 else
  some (.inr (.inl ()))
def VV (s1:Qv):Option (Int) :=
 Option.bind (
  bif (decide (s1.Container<0)) then
   some true
  else
   bif (decide (256≤s1.Container)) then
    some true
   else
    Option.bind (Qab s1.Start) fun r1 =>
    bif (!r1) then
     some true
    else
     bif (decide (s1.Every<1)) then
      some true
     else
      some (decide (365<s1.Every))) (fun v1 =>
  bif v1 then
   some 1
  else
   bif (decide (32<((s1.Moves.length:Nat):Int))) then
    some 8
   else
    Option.bind (
     iter (VC s1) (((s1.Moves.length:Nat):Int).toNat+1) 0) (fun o_=>Qy o_ (fun _ =>
     Option.bind (
      iter (Wo s1) (((s1.Moves.length:Nat):Int).toNat+1) ([],[],0)) (fun o_=>Qy o_ (fun _ =>
      some 0) (fun rv112=>some rv112))) (fun rv92=>some rv92)))
def J6 (t1:QJ) (v1:Int):Option ((Int)⊕(Unit⊕Int)) :=
 bif (decide (v1<((t1.s.length:Nat):Int))) then
  Option.bind (getI t1.s v1) fun x1 =>
  Option.bind (Wh t1 x1.Container) fun r1 =>
  bif (!r1) then
   some (.inr (.inr 7))
  else
   Option.bind (VV x1) fun r2 =>
   bif (!(decide (r2=0))) then
    some (.inr (.inr r2))
   else
    some (.inl (w64 (v1+1)))
 else
  some (.inr (.inl ()))
def JS (t1:QJ):Option (Int) :=
 bif (decide (256<((t1.s.length:Nat):Int))) then
  some 8
 else
  Option.bind (
   iter (J6 t1) (((t1.s.length:Nat):Int).toNat+1) 0) (fun o_=>Qy o_ (fun _ =>
   some 0) (fun rv72=>some rv72))
def QaW (y1:Q8) (b1:Q8):Option (Bool) :=
 some (decide (y1.Container=b1.Container))
def Qai (s1:(List Q8)) (b1:Q8) (v1:Int):Option ((Int)⊕(Unit⊕Int)) :=
 bif (decide (v1<((s1.length:Nat):Int))) then
  Option.bind (getI s1 v1) fun x1 =>
  Option.bind (QaW x1 b1) fun r1 =>
  bif r1 then
   some (.inr (.inr v1))
  else
   some (.inl (w64 (v1+1)))
 else
  some (.inr (.inl ()))
def Vm (s1:(List Q8)) (b1:Q8):Option (Int) :=
 Option.bind (
  iter (Qai s1 b1) (((s1.length:Nat):Int).toNat+1) 0) (fun o_=>Qy o_ (fun _ =>
  some (-1)) (fun rv200=>some rv200))
def Ws (s1:(List Q8)) (b1:Q8):Option (Bool) :=
 Option.bind (Vm s1 b1) fun r1 =>
 some (decide (0≤r1))
def J9 (t1:QJ) (v1:Int):Option ((Int)⊕(Unit⊕Int)) :=
 bif (decide (v1<((t1.f.length:Nat):Int))) then
  Option.bind (getI t1.f v1) fun x1 =>
  Option.bind (Wh t1 x1.Container) fun r1 =>
  bif (!r1) then
   some (.inr (.inr 7))
  else
   Option.bind (
    bif (decide (x1.Mass.Lo<0)) then
     some true
    else
     bif (decide (x1.Mass.Hi<x1.Mass.Lo)) then
      some true
     else
      Option.bind (getI t1.c x1.Container) fun x2 =>
      some (decide (x2.Grams<x1.Mass.Hi))) (fun v2 =>
    bif v2 then
     some (.inr (.inr 1))
    else
     some (.inl (w64 (v1+1))))
 else
  some (.inr (.inl ()))
def Wb (t1:QJ) (v3:Int):Option ((Int)⊕(Unit⊕Int)) :=
 bif (decide (v3<((t1.f.length:Nat):Int))) then
  Option.bind (getI t1.f v3) fun x3 =>
  Option.bind (WL t1.f 0 v3) fun l1 =>
  Option.bind (Ws l1 x3) fun r2 =>
  bif r2 then
   some (.inr (.inr 6))
  else
   some (.inl (w64 (v3+1)))
 else
  some (.inr (.inl ()))
def Vv (t1:QJ):Option (Int) :=
 bif (decide (256<((t1.f.length:Nat):Int))) then
  some 8
 else
  Option.bind (
   iter (J9 t1) (((t1.f.length:Nat):Int).toNat+1) 0) (fun o_=>Qy o_ (fun _ =>
   Option.bind (
    iter (Wb t1) (((t1.f.length:Nat):Int).toNat+1) 0) (fun o_=>Qy o_ (fun _ =>
    some 0) (fun rv188=>some rv188))) (fun rv167=>some rv167))
def Zx (n1:Int) (low1:Int) (high1:Int):Option (Bool) :=
 Option.bind (
  bif (decide (low1≤n1)) then
   some (decide (n1≤high1))
  else
   some false) (fun v1 =>
  some v1)
def ZJ (F:Nat) (t1:QJ):Option (Int) :=
 Option.bind (JF F t1.c 16 64) fun r1 =>
 bif (!(decide (r1=0))) then
  some r1
 else
  Option.bind (JS t1) fun r2 =>
  bif (!(decide (r2=0))) then
   some r2
  else
   Option.bind (Vv t1) fun r3 =>
   bif (!(decide (r3=0))) then
    some r3
   else
    Option.bind (
     Option.bind (Zx t1.day 0 36524) fun r4 =>
     bif (!r4) then
      some true
     else
      Option.bind (Zx t1.level 1 1000) fun r5 =>
      some (!r5)) (fun v1 =>
     bif v1 then
      some 1
     else
      some 0)
def VW (s1:Qv) (j_:(List (Int×Bool))×Int):Option (((List (Int×Bool))×Int)⊕((List (Int×Bool)))) :=
 oun j_ fun m1 v1 =>
 bif (decide (v1<((s1.Moves.length:Nat):Int))) then
  Option.bind (getI s1.Moves v1) fun x1 =>
  some (.inl ((Qcx x1.To true (Qcx x1.From false m1)),w64 (v1+1)))
 else
  some (.inr m1)
def Qa6 (s1:Qv):Option ((List (Int×Bool))) :=
 Option.bind (
  iter (VW s1) (((s1.Moves.length:Nat):Int).toNat+1) ([],0)) (fun m2 =>
  some m2)
def QbH (s1:Qv) (moved1:(List (Int×Bool))) (d1:Int):Option (Bool) :=
 bif ((Qar d1 moved1).isSome) then
  some ((Qar d1 moved1).getD false)
 else
  Option.bind (J4 s1 d1) fun r1 =>
  some r1
def QbG (s1:Qv) (d1:Int):Option (Bool) :=
 Option.bind (
  Option.bind (VV s1) fun r1 =>
  bif (decide (r1=0)) then
   Option.bind (Qa6 s1) fun r2 =>
   Option.bind (QbH s1 r2 d1) fun r3 =>
   some r3
  else
   some false) (fun v1 =>
  some v1)
def JR (x1:Qv) (b1:Int) (b2:QJ):Option (Bool) :=
 Option.bind (
  bif (decide (x1.Container=b1)) then
   Option.bind (QbG x1 b2.day) fun r1 =>
   some r1
  else
   some false) (fun v1 =>
  some v1)
def Zk (s1:(List Qv)) (b1:Int) (b2:QJ) (v1:Int):Option ((Int)⊕(Unit⊕Int)) :=
 bif (decide (v1<((s1.length:Nat):Int))) then
  Option.bind (getI s1 v1) fun x1 =>
  Option.bind (JR x1 b1 b2) fun r1 =>
  bif r1 then
   some (.inr (.inr v1))
  else
   some (.inl (w64 (v1+1)))
 else
  some (.inr (.inl ()))
def ZN (s1:(List Qv)) (b1:Int) (b2:QJ):Option (Int) :=
 Option.bind (
  iter (Zk s1 b1 b2) (((s1.length:Nat):Int).toNat+1) 0) (fun o_=>Qy o_ (fun _ =>
  some (-1)) (fun rv310=>some rv310))
def Zi (s1:(List Qv)) (b1:Int) (b2:QJ):Option (Bool) :=
 Option.bind (ZN s1 b1 b2) fun r1 =>
 some (decide (0≤r1))
def V5 (x1:Q8) (b1:Int):Option (Bool) :=
 some (decide (x1.Container=b1))
def Wt (s1:(List Q8)) (b1:Int) (v1:Int):Option ((Int)⊕(Unit⊕Int)) :=
 bif (decide (v1<((s1.length:Nat):Int))) then
  Option.bind (getI s1 v1) fun x1 =>
  Option.bind (V5 x1 b1) fun r1 =>
  bif r1 then
   some (.inr (.inr v1))
  else
   some (.inl (w64 (v1+1)))
 else
  some (.inr (.inl ()))
def JN (s1:(List Q8)) (b1:Int):Option (Int) :=
 Option.bind (
  iter (Wt s1 b1) (((s1.length:Nat):Int).toNat+1) 0) (fun o_=>Qy o_ (fun _ =>
  some (-1)) (fun rv422=>some rv422))
def Z8 (t1:QJ) (i1:Int):Option (Int×Bool) :=
 Option.bind (JN t1.f i1) fun r1 =>
 bif (decide (r1<0)) then
  Option.bind (getI t1.c i1) fun x1 =>
  some (x1.Grams,false)
 else
  Option.bind (getI t1.f r1) fun x2 =>
  some (x2.Mass.Hi,true)
def Qaf (c1:QA) (grams1:Int):Option (Int×Int) :=
 Option.bind (
  bif (decide (c1.Grams<1)) then
   some true
  else
   bif (decide (1073741824<c1.Grams)) then
    some true
   else
    bif (decide (grams1<0)) then
     some true
    else
     some (decide (1073741824<grams1))) (fun v1 =>
  bif v1 then
   some (0,1)
  else
   Option.bind (Wd (c1.Grams≠0)) fun _ =>
   some (min (w64 (Int.tdiv (w64 ((w64 ((w64 (grams1*1000))+c1.Grams))-1)) c1.Grams)) 1000,0))
def Wx (t1:QJ) (i1:Int):Option (Int) :=
 Option.bind (Zi t1.s i1 t1) fun r1 =>
 Option.bind (
  bif r1 then
   some (orI .i64 0 1)
  else
   some 0) (fun n1 =>
  Option.bind (Z8 t1 i1) fun j_=>oun j_ fun r2 r3 =>
  Option.bind (getI t1.c i1) fun x1 =>
  Option.bind (Qaf x1 r2) fun j_=>oun j_ fun r4 r5 =>
  Option.bind (
   bif r3 then
    bif (decide (r5=0)) then
     some (decide (t1.level≤r4))
    else
     some false
   else
    some false) (fun v1 =>
   Option.bind (
    bif v1 then
     some (orI .i64 n1 2)
    else
     some n1) (fun n2 =>
    some n2)))
def QaB (c1:(List QA)) (s1:(List Qv)) (f1:(List Q8)) (day1:Int) (level1:Int) (w1:ZX) (service1:Int) (j_:(List Qt)×Int):Option (((List Qt)×Int)⊕((List Qt))) :=
 oun j_ fun out1 v2 =>
 bif (decide (v2<((c1.length:Nat):Int))) then
  Option.bind (
   Option.bind (getI c1 v2) fun x1 =>
   Option.bind (Wx (QJ.mk c1 s1 f1 day1 level1) v2) fun r3 =>
   bif (decide (r3=0)) then
    some out1
   else
    Option.bind (Z8 (QJ.mk c1 s1 f1 day1 level1) v2) fun j_=>oun j_ fun r4 r5 =>
    Option.bind (ZO out1 [(Qt.mk v2 x1.Node x1.Kind r4 w1 service1)]) fun l1 =>
    some l1) (fun out2 =>
   some (.inl (out2,w64 (v2+1))))
 else
  some (.inr out1)
def Vu (F:Nat) (c1:(List QA)) (s1:(List Qv)) (f1:(List Q8)) (day1:Int) (level1:Int) (w1:ZX) (service1:Int):Option ((List Qt)×Int) :=
 Option.bind (ZJ F (QJ.mk c1 s1 f1 day1 level1)) fun r1 =>
 bif (!(decide (r1=0))) then
  some ([],r1)
 else
  Option.bind (
   bif (decide (w1.From<0)) then
    some true
   else
    bif (decide (w1.To<w1.From)) then
     some true
    else
     bif (decide (86400<w1.To)) then
      some true
     else
      Option.bind (Zx service1 0 3600) fun r2 =>
      some (!r2)) (fun v1 =>
   bif v1 then
    some ([],1)
   else
    Option.bind (
     iter (QaB c1 s1 f1 day1 level1 w1 service1) (((c1.length:Nat):Int).toNat+1) ([],0)) (fun out3 =>
     bif (decide (32<((out3.length:Nat):Int))) then
      some ([],8)
     else
      some (out3,0)))
def Yh (F:Nat):Option (Bool) :=
 Option.bind (Vu F [(QA.mk ⟨#[99]⟩ 0 100 1000 0)] [(Qv.mk 0 0 7 [])] [] 7 1000 (ZX.mk 0 86400) 60) fun j_=>oun j_ fun r1 r2 =>
 Option.bind (
  bif (decide (r2=0)) then
   bif (decide (((r1.length:Nat):Int)=1)) then
    Option.bind (getI r1 0) fun x1 =>
    some (decide (x1.Grams=1000))
   else
    some false
  else
   some false) (fun v3 =>
  some v3)
def YQ (r1:QR) (v2:Int):Option ((Int)⊕(Unit⊕Int)) :=
 bif (decide (v2<((r1.Edges.length:Nat):Int))) then
  Option.bind (getI r1.Edges v2) fun x1 =>
  Option.bind (
   bif (decide (x1.From<0)) then
    some true
   else
    bif (decide (r1.Nodes≤x1.From)) then
     some true
    else
     bif (decide (x1.To<0)) then
      some true
     else
      some (decide (r1.Nodes≤x1.To))) (fun v3 =>
   bif v3 then
    some (.inr (.inr 7))
   else
    Option.bind (
     bif (decide (x1.From=x1.To)) then
      some true
     else
      bif (decide (x1.Meters<1)) then
       some true
      else
       bif (decide (100000<x1.Meters)) then
        some true
       else
        bif (decide (x1.Secs<1)) then
         some true
        else
         some (decide (100000<x1.Secs))) (fun v4 =>
     bif v4 then
      some (.inr (.inr 1))
     else
      some (.inl (w64 (v2+1)))))
 else
  some (.inr (.inl ()))
def Jd (r1:QR):Option (Int) :=
 Option.bind (
  bif (decide (r1.Nodes<1)) then
   some true
  else
   some (decide (64<r1.Nodes))) (fun v1 =>
  bif v1 then
   some 1
  else
   bif (decide (512<((r1.Edges.length:Nat):Int))) then
    some 8
   else
    Option.bind (
     iter (YQ r1) (((r1.Edges.length:Nat):Int).toNat+1) 0) (fun o_=>Qy o_ (fun _ =>
     some 0) (fun rv530=>some rv530)))
def YM (c1:Int):Option (Bool) :=
 Option.bind (
  bif (decide (65≤c1)) then
   bif (decide (c1≤90)) then
    some true
   else
    bif (decide (97≤c1)) then
     some (decide (c1≤122))
    else
     some false
  else
   bif (decide (97≤c1)) then
    some (decide (c1≤122))
   else
    some false) (fun v1 =>
  some v1)
def QU (s1:ByteArray) (i1:Int):Option ((Int)⊕(Unit⊕Bool)) :=
 bif (decide (i1<((s1.size:Nat):Int))) then
  Option.bind (QiU s1 i1) fun x2 =>
  Option.bind (
   Option.bind (YM x2) fun r2 =>
   bif (!r2) then
    bif (decide (x2<48)) then
     bif (!(decide (x2=45))) then
      bif (!(decide (x2=95))) then
       some (!(decide (x2=46)))
      else
       some false
     else
      some false
    else
     bif (decide (57<x2)) then
      bif (!(decide (x2=45))) then
       bif (!(decide (x2=95))) then
        some (!(decide (x2=46)))
       else
        some false
      else
       some false
     else
      some false
   else
    some false) (fun v2 =>
   bif v2 then
    some (.inr (.inr false))
   else
    some (.inl (w64 (i1+1))))
 else
  some (.inr (.inl ()))
def YG (s1:ByteArray):Option (Bool) :=
 Option.bind (
  bif (decide (((s1.size:Nat):Int)<1)) then
   some true
  else
   bif (decide (32<((s1.size:Nat):Int))) then
    some true
   else
    Option.bind (QiU s1 0) fun x1 =>
    Option.bind (YM x1) fun r1 =>
    some (!r1)) (fun v1 =>
  bif v1 then
   some false
  else
   Option.bind (
    iter (QU s1) (((s1.size:Nat):Int).toNat+1) 0) (fun o_=>Qy o_ (fun _ =>
    some true) (fun rv566=>some rv566)))
def Ye (v1:QD) (nodes1:Int) (materials1:Int):Option (Int) :=
 Option.bind (YG v1.ID) fun r1 =>
 bif (!r1) then
  some 5
 else
  Option.bind (
   bif (decide (v1.Depot<0)) then
    some true
   else
    some (decide (nodes1≤v1.Depot))) (fun v2 =>
   bif v2 then
    some 7
   else
    Option.bind (
     bif (decide (v1.Shift.From<0)) then
      some true
     else
      bif (decide (v1.Shift.To≤v1.Shift.From)) then
       some true
      else
       some (decide (86400<v1.Shift.To))) (fun v3 =>
     bif v3 then
      some 19
     else
      Option.bind (
       bif (decide (v1.Grams<1)) then
        some true
       else
        some (decide (1073741824<v1.Grams))) (fun v4 =>
       bif v4 then
        some 1
       else
        Option.bind (
         bif (decide (v1.Kinds<1)) then
          some true
         else
          Option.bind (Wd (0≤materials1∧materials1≤64)) fun _ =>
          some (decide ((w64 (1*2^materials1.toNat))≤v1.Kinds))) (fun v5 =>
         bif v5 then
          some 21
         else
          some 0))))
def QV (l1:(List QD)) (nodes1:Int) (materials1:Int) (i1:Int):Option ((Int)⊕(Unit⊕Int)) :=
 bif (decide (i1<((l1.length:Nat):Int))) then
  Option.bind (getI l1 i1) fun x1 =>
  Option.bind (Ye x1 nodes1 materials1) fun r1 =>
  bif (!(decide (r1=0))) then
   some (.inr (.inr r1))
  else
   some (.inl (w64 (i1+1)))
 else
  some (.inr (.inl ()))
def Je (l1:(List QD)) (i2:Int) (k1:Int):Option ((Int)⊕(Unit⊕Int)) :=
 bif (decide (k1<i2)) then
  Option.bind (getI l1 i2) fun x2 =>
  Option.bind (getI l1 k1) fun x3 =>
  bif (decide (x2.ID=x3.ID)) then
   some (.inr (.inr 6))
  else
   some (.inl (w64 (k1+1)))
 else
  some (.inr (.inl ()))
def Jf (l1:(List QD)) (i2:Int):Option ((Int)⊕(Unit⊕Int)) :=
 bif (decide (i2<((l1.length:Nat):Int))) then
  Option.bind (
   Option.bind (
    iter (Je l1 i2) (i2.toNat+1) 0) (fun o_=>Qy o_ (fun _ =>
    some (.inl ())) (fun rv590=>some (.inr rv590)))) (fun o_=>Qy o_ (fun _ =>
   some (.inl (w64 (i2+1)))) (fun rv589=>some (.inr (.inr rv589))))
 else
  some (.inr (.inl ()))
def Yn (l1:(List QD)) (nodes1:Int) (materials1:Int):Option (Int) :=
 Option.bind (
  bif (decide (nodes1<1)) then
   some true
  else
   bif (decide (64<nodes1)) then
    some true
   else
    bif (decide (materials1<1)) then
     some true
    else
     some (decide (16<materials1))) (fun v1 =>
  bif v1 then
   some 1
  else
   bif (decide (((l1.length:Nat):Int)=0)) then
    some 10
   else
    bif (decide (16<((l1.length:Nat):Int))) then
     some 8
    else
     Option.bind (
      iter (QV l1 nodes1 materials1) (((l1.length:Nat):Int).toNat+1) 0) (fun o_=>Qy o_ (fun _ =>
      Option.bind (
       iter (Jf l1) (((l1.length:Nat):Int).toNat+1) 0) (fun o_=>Qy o_ (fun _ =>
       some 0) (fun rv582=>some rv582))) (fun rv561=>some rv561)))
def Q4 (l1:(List Qt)) (nodes1:Int) (materials1:Int) (i1:Int):Option ((Int)⊕(Unit⊕Int)) :=
 bif (decide (i1<((
           l1.length:Nat):Int))) then
  Option.bind (getI l1 i1) fun x1 =>
  Option.bind (
   bif (decide (x1.Container<0)) then
    some true
   else
    bif (decide (256≤x1.Container)) then
     some true
    else
     bif (decide (x1.Node<0)) then
      some true
     else
      bif (decide (nodes1≤x1.Node)) then
       some true
      else
       bif (decide (x1.Kind<0)) then
        some true
       else
        some (decide (materials1≤x1.Kind))) (fun v1 =>
   bif v1 then
    some (.inr (.inr 7))
   else
    Option.bind (
     bif (decide (x1.Grams<0)) then
      some true
     else
      bif (decide (1073741824<x1.Grams)) then
       some true
      else
       bif (decide (x1.When.From<0)) then
        some true
       else
        bif (decide (x1.When.To<x1.When.From)) then
         some true
        else
         bif (decide (86400<x1.When.To)) then
          some true
         else
          bif (decide (x1.Service<0)) then
           some true
          else
           some (decide (3600<x1.Service))) (fun v2 =>
     bif v2 then
      some (.inr (.inr 1))
     else
      some (.inl (w64 (i1+1)))))
 else
  some (.inr (.inl ()))
def Yu (l1:(List Qt)) (i2:Int) (k1:Int):Option ((Int)⊕(Unit⊕Int)) :=
 bif (decide (k1<i2)) then
  Option.bind (getI l1 i2) fun x2 =>
  Option.bind (getI l1 k1) fun x3 =>
  bif (decide (x2.Container=x3.Container)) then
   some (.inr (.inr 6))
  else
   some (.inl (w64 (k1+1)))
 else
  some (.inr (.inl ()))
def Yv (l1:(List Qt)) (i2:Int):Option ((Int)⊕(Unit⊕Int)) :=
 bif (decide (i2<((l1.length:Nat):Int))) then
  Option.bind (
   Option.bind (
    iter (Yu l1 i2) (i2.toNat+1) 0) (fun o_=>Qy o_ (fun _ =>
    some (.inl ())) (fun rv617=>some (.inr rv617)))) (fun o_=>Qy o_ (fun _ =>
   some (.inl (w64 (i2+1)))) (fun rv616=>some (.inr (.inr rv616))))
 else
  some (.inr (.inl ()))
def Yo (l1:(List Qt)) (nodes1:Int) (materials1:Int):Option (Int) :=
 bif (decide (32<((l1.length:Nat):Int))) then
  some 8
 else
  Option.bind (
   iter (Q4 l1 nodes1 materials1) (((l1.length:Nat):Int).toNat+1) 0) (fun o_=>Qy o_ (fun _ =>
   Option.bind (
    iter (Yv l1) (((l1.length:Nat):Int).toNat+1) 0) (fun o_=>Qy o_ (fun _ =>
    some 0) (fun rv609=>some rv609))) (fun rv594=>some rv594))
def Qq (p1:Qe):Option (Int) :=
 Option.bind (Jd p1.Road) fun r1 =>
 bif (!(decide (r1=0))) then
  some r1
 else
  Option.bind (Yn p1.Vehicles p1.Road.Nodes 16) fun r2 =>
  bif (!(decide (r2=0))) then
   some r2
  else
   Option.bind (Yo p1.Demands p1.Road.Nodes 16) fun r3 =>
   bif (!(decide (r3=0))) then
    some r3
   else
    Option.bind (
     bif (decide (p1.Unload<0)) then
      some true
     else
      some (decide (p1.Road.Nodes≤p1.Unload))) (fun v1 =>
     bif v1 then
      some 7
     else
      Option.bind (
       bif (decide (p1.UnloadSecs<0)) then
        some true
       else
        some (decide (7200<p1.UnloadSecs))) (fun v2 =>
       bif v2 then
        some 1
       else
        some 0))
def Qah (r1:QR) (j_:(List ZP)×Int):Option (((List ZP)×Int)⊕((List ZP))) :=
 oun j_ fun f1 v1 =>
 bif (decide (v1<((r1.Edges.length:Nat):Int))) then
  Option.bind (getI r1.Edges v1) fun x1 =>
  Option.bind (ZO f1 [(ZP.mk x1.From x1.To)]) fun l1 =>
  some (.inl (l1,w64 (v1+1)))
 else
  some (.inr f1)
def QbF (r1:QR):Option (Qbk) :=
 Option.bind (
  iter (Qah r1) (((r1.Edges.length:Nat):Int).toNat+1) ([],0)) (fun f2 =>
  some (Qbk.mk r1.Nodes f2))
def QaF (g1:Qbk) (v2:Int):Option ((Int)⊕(Unit⊕Int)) :=
 bif (decide (v2<((g1.Arcs.length:Nat):Int))) then
  Option.bind (getI g1.Arcs v2) fun x1 =>
  Option.bind (
   bif (decide (x1.From<0)) then
    some true
   else
    bif (decide (g1.Nodes≤x1.From)) then
     some true
    else
     bif (decide (x1.To<0)) then
      some true
     else
      some (decide (g1.Nodes≤x1.To))) (fun v3 =>
   bif v3 then
    some (.inr (.inr 7))
   else
    some (.inl (w64 (v2+1))))
 else
  some (.inr (.inl ()))
def Qb9 (g1:Qbk):Option (Int) :=
 Option.bind (
  bif (decide (g1.Nodes<0)) then
   some true
  else
   some (decide (64<g1.Nodes))) (fun v1 =>
  bif v1 then
   some 1
  else
   bif (decide (512<((g1.Arcs.length:Nat):Int))) then
    some 8
   else
    Option.bind (
     iter (QaF g1) (((g1.Arcs.length:Nat):Int).toNat+1) 0) (fun o_=>Qy o_ (fun _ =>
     some 0) (fun rv780=>some rv780)))
def Qb5 (r1:QR) (v2:Int):Option ((Int)⊕(Unit⊕Int)) :=
 bif (decide (v2<((r1.Edges.length:Nat):Int))) then
  Option.bind (getI r1.Edges v2) fun x1 =>
  Option.bind (
   bif (decide (x1.From<0)) then
    some true
   else
    bif (decide (r1.Nodes≤x1.From)) then
     some true
    else
     bif (decide (x1.To<0)) then
      some true
     else
      some (decide (r1.Nodes≤x1.To))) (fun v3 =>
   bif v3 then
    some (.inr (.inr 7))
   else
    Option.bind (
     bif (decide (x1.From=x1.To)) then
      some true
     else
      bif (decide (x1.Meters<1)) then
       some true
      else
       bif (decide (100000<x1.Meters)) then
        some true
       else
        bif (decide (x1.Secs<1)) then
         some true
        else
         some (decide (100000<x1.Secs))) (fun v4 =>
     bif v4 then
      some (.inr (.inr 1))
     else
      some (.inl (w64 (v2+1)))))
 else
  some (.inr (.inl ()))
def Qbg (r1:QR):Option (Int) :=
 Option.bind (
  bif (decide (r1.Nodes<1)) then
   some true
  else
   some (decide (64<r1.Nodes))) (fun v1 =>
  bif v1 then
   some 1
  else
   bif (decide (512<((r1.Edges.length:Nat):Int))) then
    some 8
   else
    Option.bind (
     iter (Qb5 r1) (((r1.Edges.length:Nat):Int).toNat+1) 0) (fun o_=>Qy o_ (fun _ =>
     Option.bind (QbF r1) fun r2 =>
     Option.bind (Qb9 r2) fun r3 =>
     some r3) (fun rv804=>some rv804)))
def Qbb (F:Nat) (v1:QD) (nodes1:Int) (materials1:Int):Option (Int) :=
 Option.bind (Qbo F v1.ID) fun r1 =>
 bif (!r1) then
  some 5
 else
  Option.bind (
   bif (decide (v1.Depot<0)) then
    some true
   else
    some (decide (nodes1≤v1.Depot))) (fun v2 =>
   bif v2 then
    some 7
   else
    Option.bind (
     bif (decide (v1.Shift.From<0)) then
      some true
     else
      bif (decide (v1.Shift.To≤v1.Shift.From)) then
       some true
      else
       some (decide (86400<v1.Shift.To))) (fun v3 =>
     bif v3 then
      some 19
     else
      Option.bind (
       bif (decide (v1.Grams<1)) then
        some true
       else
        some (decide (1073741824<v1.Grams))) (fun v4 =>
       bif v4 then
        some 1
       else
        Option.bind (
         bif (decide (v1.Kinds<1)) then
          some true
         else
          Option.bind (Wd (0≤materials1∧materials1≤64)) fun _ =>
          some (decide ((w64 (1*2^materials1.toNat))≤v1.Kinds))) (fun v5 =>
         bif v5 then
          some 21
         else
          some 0))))
def W3 (F:Nat) (l1:(List QD)) (nodes1:Int) (materials1:Int) (v2:Int):Option ((Int)⊕(Unit⊕Int)) :=
 bif (decide (v2<((l1.length:Nat):Int))) then
  Option.bind (getI l1 v2) fun x1 =>
  Option.bind (Qbb F x1 nodes1 materials1) fun r1 =>
  bif (!(decide (r1=0))) then
   some (.inr (.inr r1))
  else
   some (.inl (w64 (v2+1)))
 else
  some (.inr (.inl ()))
def W4 (l1:(List QD)) (j_:(List (ByteArray×Bool))×Int):Option (((List (ByteArray×Bool))×Int)⊕(Unit⊕Int)) :=
 oun j_ fun m1 v3 =>
 bif (decide (v3<((l1.length:Nat):Int))) then
  Option.bind (getI l1 v3) fun x2 =>
  bif ((Qdv x2.ID m1).getD false) then
   some (.inr (.inr 6))
  else
   some (.inl ((Qji x2.ID true m1),w64 (v3+1)))
 else
  some (.inr (.inl ()))
def Qap (F:Nat) (l1:(List QD)) (nodes1:Int) (materials1:Int):Option (Int) :=
 Option.bind (
  bif (decide (nodes1<1)) then
   some true
  else
   bif (decide (64<nodes1)) then
    some true
   else
    bif (decide (materials1<1)) then
     some true
    else
     some (decide (16<materials1))) (fun v1 =>
  bif v1 then
   some 1
  else
   bif (decide (((l1.length:Nat):Int)=0)) then
    some 10
   else
    bif (decide (16<((l1.length:Nat):Int))) then
     some 8
    else
     Option.bind (
      iter (W3 F l1 nodes1 materials1) (((l1.length:Nat):Int).toNat+1) 0) (fun o_=>Qy o_ (fun _ =>
      Option.bind (
       iter (W4 l1) (((l1.length:Nat):Int).toNat+1) ([],0)) (fun o_=>Qy o_ (fun _ =>
       some 0) (fun rv857=>some rv857))) (fun rv838=>some rv838)))
def Qd6 (
        x1:Qt) (nodes1:Int) (materials1:Int):Option (Int) :=
 Option.bind (
  Option.bind (Zx x1.Container 0 255) fun r1 =>
  bif (!r1) then
   some true
  else
   bif (decide (x1.Node<0)) then
    some true
   else
    bif (decide (nodes1≤x1.Node)) then
     some true
    else
     bif (decide (x1.Kind<0)) then
      some true
     else
      some (decide (materials1≤x1.Kind))) (fun v1 =>
  bif v1 then
   some 7
  else
   Option.bind (
    Option.bind (Zx x1.Grams 0 1073741824) fun r2 =>
    bif (!r2) then
     some true
    else
     bif (decide (x1.When.From<0)) then
      some true
     else
      bif (decide (x1.When.To<x1.When.From)) then
       some true
      else
       bif (decide (86400<x1.When.To)) then
        some true
       else
        Option.bind (Zx x1.Service 0 3600) fun r3 =>
        some (!r3)) (fun v2 =>
    bif v2 then
     some 1
    else
     some 0))
def Qby (y1:Qt) (b1:Qt):Option (Bool) :=
 some (decide (y1.Container=b1.Container))
def YT (s1:(List Qt)) (b1:Qt) (v1:Int):Option ((Int)⊕(Unit⊕Int)) :=
 bif (decide (v1<((s1.length:Nat):Int))) then
  Option.bind (getI s1 v1) fun x1 =>
  Option.bind (Qby x1 b1) fun r1 =>
  bif r1 then
   some (.inr (.inr v1))
  else
   some (.inl (w64 (v1+1)))
 else
  some (.inr (.inl ()))
def Jk (s1:(List Qt)) (b1:Qt):Option (Int) :=
 Option.bind (
  iter (YT s1 b1) (((s1.length:Nat):Int).toNat+1) 0) (fun o_=>Qy o_ (fun _ =>
  some (-1)) (fun rv890=>some rv890))
def YS (s1:(List Qt)) (b1:Qt):Option (Bool) :=
 Option.bind (Jk s1 b1) fun r1 =>
 some (decide (0≤r1))
def Qbd (l1:(List Qt)) (nodes1:Int) (materials1:Int) (v1:Int):Option ((Int)⊕(Unit⊕Int)) :=
 bif (decide (v1<((l1.length:Nat):Int))) then
  Option.bind (getI l1 v1) fun x1 =>
  Option.bind (Qd6 x1 nodes1 materials1) fun r1 =>
  bif (!(decide (r1=0))) then
   some (.inr (.inr r1))
  else
   some (.inl (w64 (v1+1)))
 else
  some (.inr (.inl ()))
def Qag (l1:(List Qt)) (v2:Int):Option ((Int)⊕(Unit⊕Int)) :=
 bif (decide (v2<((l1.length:Nat):Int))) then
  Option.bind (getI l1 v2) fun x2 =>
  Option.bind (WL l1 0 v2) fun l2 =>
  Option.bind (YS l2 x2) fun r2 =>
  bif r2 then
   some (.inr (.inr 6))
  else
   some (.inl (w64 (v2+1)))
 else
  some (.inr (.inl ()))
def Qbx (l1:(List Qt)) (nodes1:Int) (materials1:Int):Option (Int) :=
 bif (decide (32<((l1.length:Nat):Int))) then
  some 8
 else
  Option.bind (
   iter (Qbd l1 nodes1 materials1) (((l1.length:Nat):Int).toNat+1) 0) (fun o_=>Qy o_ (fun _ =>
   Option.bind (
    iter (Qag l1) (((l1.length:Nat):Int).toNat+1) 0) (fun o_=>Qy o_ (fun _ =>
    some 0) (fun rv881=>some rv881))) (fun rv869=>some rv869))
def Qad (
        F:Nat) (p1:Qe):Option (Int) :=
 Option.bind (Qbg p1.Road) fun r1 =>
 bif (!(decide (r1=0))) then
  some r1
 else
  Option.bind (Qap F p1.Vehicles p1.Road.Nodes 16) fun r2 =>
  bif (!(decide (r2=0))) then
   some r2
  else
   Option.bind (Qbx p1.Demands p1.Road.Nodes 16) fun r3 =>
   bif (!(decide (r3=0))) then
    some r3
   else
    Option.bind (
     bif (decide (p1.Unload<0)) then
      some true
     else
      some (decide (p1.Road.Nodes≤p1.Unload))) (fun v2 =>
     bif v2 then
      some 7
     else
      Option.bind (
       bif (decide (p1.UnloadSecs<0)) then
        some true
       else
        some (decide (7200<p1.UnloadSecs))) (fun v3 =>
       bif v3 then
        some 1
       else
        some 0))
def WD (s1:(List Int)) (v1:Int) (v2:Int):Option ((Int)⊕(Unit⊕Int)) :=
 bif (decide (v2<((s1.length:Nat):Int))) then
  Option.bind (getI s1 v2) fun x1 =>
  bif (decide (v1=x1)) then
   some (.inr (.inr v2))
  else
   some (.inl (w64 (v2+1)))
 else
  some (.inr (.inl ()))
def QaQ (s1:(List Int)) (v1:Int):Option (Int) :=
 Option.bind (
  iter (WD s1 v1) (((s1.length:Nat):Int).toNat+1) 0) (fun o_=>Qy o_ (fun _ =>
  some (-1)) (fun rv1017=>some rv1017))
def YC (s1:(List Int)) (v1:Int):Option (Bool) :=
 Option.bind (QaQ s1 v1) fun r1 =>
 some (decide (0≤r1))
def WV (stops1:(List Int)) (k1:Int) (more1:(List Int)):Option ((List Int)) :=
 Option.bind (WL stops1 0 k1) fun l1 =>
 Option.bind (ZO [] l1) fun l2 =>
 Option.bind (ZO l2 more1) fun l3 =>
 Option.bind (WL stops1 k1 ((stops1.length:Nat):Int)) fun l4 =>
 Option.bind (ZO l3 l4) fun l5 =>
 Option.bind (getI l5 (w64 (((l5.length:Nat):Int)-1))) fun x1 =>
 Option.bind (
  bif (!(decide (x1=(-1)))) then
   Option.bind (ZO l5 [(-1)]) fun l6 =>
   some l6
  else
   some l5) (fun out1 =>
  some out1)
def We (t1:Qb) (d1:Int) (j_:(List Qb)×Int×Int):Option (((List Qb)×Int×Int)⊕((List Qb))) :=
 oun j_ fun out1 j_=>oun j_ fun v1 v2 =>
 bif (decide (v2<v1)) then
  Option.bind (
   Option.bind (WV t1.Stops v2 [d1]) fun r1 =>
   Option.bind (ZO out1 [(Qb.mk t1.Vehicle r1)]) fun l1 =>
   bif (decide (v2<((t1.Stops.length:Nat):Int))) then
    Option.bind (WV t1.Stops v2 [d1,(-1)]) fun r2 =>
    Option.bind (ZO l1 [(Qb.mk t1.Vehicle r2)]) fun l2 =>
    some l2
   else
    some l1) (fun out2 =>
   some (.inl (out2,v1,w64 (v2+1))))
 else
  some (.inr out1)
def Vx (F:Nat) (t1:Qb) (d1:Int):Option ((List Qb)) :=
 Option.bind (
  iter (We t1 d1) F ([],w64 (((t1.Stops.length:Nat):Int)+1),0)) (fun out3 =>
  some out3)
def Ww (v1:QD) (kind1:Int):Option (Bool) :=
 Option.bind (
  bif (decide (0≤kind1)) then
   bif (decide (kind1<16)) then
    Option.bind (Wd (0≤kind1∧kind1≤64)) fun _ =>
    some (decide ((Qp3 .i64 (v1.Kinds/2^kind1.toNat) 1)=1))
   else
    some false
  else
   some false) (fun v2 =>
  some v2)
def QcK:Option (Qr) :=
 some (Qr.mk (-1) 0)
def Vy:Option (Qf) :=
 some (Qf.mk [] 0)
def Qbp (a1:Qr) (b1:Qr):Option (Bool) :=
 Option.bind (
  Option.bind (QcK) fun r1 =>
  bif (decide (b1=r1)) then
   some true
  else
   bif (decide (a1.Secs<b1.Secs)) then
    some true
   else
    bif (decide (a1.Secs=b1.Secs)) then
     some (decide (a1.Meters<b1.Meters))
    else
     some false) (fun v1 =>
  some v1)
def Qam (a1:Q6) (b1:Q6):Option (Bool) :=
 Option.bind (
  bif (!(decide (a1.leg=b1.leg))) then
   Option.bind (Qbp a1.leg b1.leg) fun r1 =>
   some r1
  else
   some false) (fun v1 =>
  some v1)
def Zb (q1:Qf) (i1:Int) (k1:Int):Option (Bool) :=
 Option.bind (
  Option.bind (getI q1.heap i1) fun x1 =>
  Option.bind (getI q1.heap k1) fun x2 =>
  some (x1.value.node,x1.value.leg.Secs,x1.value.leg.Meters,x1.n,x2.value.node,x2.value.leg.Secs,x2.value.leg.Meters,x2.n)) (fun j_=>oun j_ fun f1 j_=>oun j_ fun f2 j_=>oun j_ fun f3 j_=>oun j_ fun f4 j_=>oun j_ fun f5 j_=>oun j_ fun f6 j_=>oun j_ fun f7 f8 =>
  Option.bind (Qam (Q6.mk f1 (Qr.mk f2 f3)) (Q6.mk f5 (Qr.mk f6 f7))) fun r1 =>
  bif r1 then
   some true
  else
   Option.bind (
    bif (decide (f4<f8)) then
     Option.bind (Qam (Q6.mk f5 (Qr.mk f6 f7)) (Q6.mk f1 (Qr.mk f2 f3))) fun r2 =>
     some (!r2)
    else
     some false) (fun v1 =>
    some v1))
def YZ (q1:Qf) (i1:Int) (k1:Int):Option (Qf) :=
 Option.bind (getI q1.heap k1) fun x1 =>
 Option.bind (getI q1.heap i1) fun x2 =>
 Option.bind (getI q1.heap i1) fun x3 =>
 Option.bind (getI (Yk q1.heap i1 x1) k1) fun x4 =>
 some (Qf.mk (Yk (Yk q1.heap i1 x1) k1 x2) q1.count)
def YW (j_:Qf×Int):Option ((Qf×Int)⊕(Qf⊕Qf)) :=
 oun j_ fun q2 i1 =>
 bif (decide (0<i1)) then
  Option.bind (Zb q2 i1 (w64 (Int.tdiv (w64 (i1-1)) 2))) fun r1 =>
  bif (!r1) then
   some (.inr (.inr q2))
  else
   Option.bind (YZ q2 i1 (w64 (Int.tdiv (w64 (i1-1)) 2))) fun r2 =>
   some (.inl (r2,w64 (Int.tdiv (w64 (i1-1)) 2)))
 else
  some (.inr (.inl q2))
def Zz (F:Nat) (q1:Qf) (x1:Q6):Option (Qf) :=
 Option.bind (ZO q1.heap [(QM.mk x1 q1.count)]) fun l1 =>
 Option.bind (
  iter (YW) F ((Qf.mk l1 (w64 (q1.count+1))),w64 (((l1.length:Nat):Int)-1))) (fun o_=>Qy o_ (fun q3 =>
  some q3) (fun rv1982=>some rv1982))
def JT (q1:Qf):Option (Int) :=
 some ((q1.heap.length:Nat):Int)
def Jq (q1:Qf):Option (Q6×Bool) :=
 Option.bind (JT q1) fun r1 =>
 bif (decide (r1=0)) then
  some ((Q6.mk 0 (Qr.mk 0 0)),false)
 else
  Option.bind (getI q1.heap 0) fun x1 =>
  some (x1.value,true)
def pqueue_Queue_stop_sink_l1 (i1:Int) (j_:(List QM)×Int×Int×Int):Option (((List QM)×Int×Int×Int)⊕(((List QM)×Int×Int))) :=
 oun j_ fun f3 j_=>oun j_ fun f4 j_=>oun j_ fun next1 k1 =>
 Option.bind (
  bif (decide (k1≤(w64 ((w64 (2*i1))+2)))) then
   some (decide (k1<((f3.length:Nat):Int)))
  else
   some false) (fun v1 =>
  bif v1 then
   Option.bind (
    Option.bind (Zb (Qf.mk f3 f4) k1 next1) fun r1 =>
    bif r1 then
     some ((Qf.mk f3 f4).heap,k1)
    else
     some ((Qf.mk f3 f4).heap,next1)) (fun j_=>oun j_ fun f5 next2 =>
    some (.inl (f5,(Qf.mk f3 f4).count,next2,w64 (k1+1))))
  else
   some (.inr (f3,f4,next1)))
def YX (F:Nat) (j_:(List QM)×Int×Int):Option (((List QM)×Int×Int)⊕(Qf)) :=
 oun j_ fun f1 j_=>oun j_ fun f2 i1 =>
 Option.bind (
  iter (pqueue_Queue_stop_sink_l1 i1) F (f1,f2,i1,w64 ((w64 (2*i1))+1))) (fun j_=>oun j_ fun f6 j_=>oun j_ fun f7 next3 =>
  bif (decide (next3=i1)) then
   some (.inr (Qf.mk f6 f7))
  else
   Option.bind (YZ (Qf.mk f6 f7) i1 next3) fun r2 =>
   some (.inl (r2.heap,r2.count,next3)))
def YY (F:Nat) (q1:Qf):Option (Qf) :=
 Option.bind (
  iter (YX F) F (q1.heap,q1.count,0)) (fun rv2190=>some rv2190)
def Zg (F:Nat) (q1:Qf):Option (Q6×Bool×Qf) :=
 Option.bind (Jq q1) fun j_=>oun j_ fun r1 r2 =>
 bif (!r2) then
  some (r1,false,q1)
 else
  Option.bind (YZ q1 0 (w64 (((q1.heap.length:Nat):Int)-1))) fun r3 =>
  Option.bind (WL r3.heap (w64 (((q1.heap.length:Nat):Int)-1)) ((r3.heap.length:Nat):Int)) fun l1 =>
  Option.bind (WL (QfZ r3.heap (w64 (((q1.heap.length:Nat):Int)-1)) (QM.mk (Q6.mk 0 (Qr.mk 0 0)) 0)) 0 (w64 (((q1.heap.length:Nat):Int)-1))) fun l2 =>
  Option.bind (YY F (Qf.mk l2 r3.count)) fun r4 =>
  some (r1,true,r4)
def Qcz (x1:Jm):Option (Int×Int) :=
 some (x1.From,x1.To)
def QcY (l1:Qr) (x1:Jm):Option (Qr) :=
 some (Qr.mk (w64 (l1.Secs+x1.Secs)) (w64 (l1.Meters+x1.Meters)))
def JC (l1:(List Qr)) (j_:(List Qr)×Int):Option (((List Qr)×Int)⊕((List Qr))) :=
 oun j_ fun out1 v1 =>
 bif (decide (v1<((l1.length:Nat):Int))) then
  Option.bind (QcK) fun r2 =>
  Option.bind (getI out1 v1) fun x1 =>
  some (.inl ((Yk out1 v1 r2),w64 (v1+1)))
 else
  some (.inr out1)
def JD (F:Nat) (r1:QR) (r5:Q6) (j_:(List Qr)×Qf×Int):Option (((List Qr)×Qf×Int)⊕(((List Qr)×Qf))) :=
 oun j_ fun out4 j_=>oun j_ fun q2 v2 =>
 bif (decide (v2<((r1.Edges.length:Nat):Int))) then
  Option.bind (
   Option.bind (getI r1.Edges v2) fun x4 =>
   Option.bind (Qcz x4) fun j_=>oun j_ fun r8 r9 =>
   bif (!(decide (r8=r5.node))) then
    some (out4,q2)
   else
    Option.bind (QcY r5.leg x4) fun r10 =>
    Option.bind (getI out4 r9) fun x5 =>
    Option.bind (Qbp r10 x5) fun r11 =>
    bif r11 then
     Option.bind (getI out4 r9) fun x6 =>
     Option.bind (Zz F q2 (Q6.mk r9 r10)) fun r12 =>
     some ((Yk out4 r9 r10),r12)
    else
     some (out4,q2)) (fun j_=>oun j_ fun out5 q3 =>
   some (.inl (out5,q3,w64 (v2+1))))
 else
  some (.inr (out4,q2))
def JE (F:Nat) (r1:QR) (j_:(List Qr)×Qf):Option (((List Qr)×Qf)⊕((List Qr))) :=
 oun j_ fun out3 q1 =>
 Option.bind (Zg F q1) fun j_=>oun j_ fun r5 j_=>oun j_ fun r6 r7 =>
 bif (!r6) then
  some (.inr out3)
 else
  Option.bind (getI out3 r5.node) fun x3 =>
  bif (!(decide (x3=r5.leg))) then
   some (.inl (out3,r7))
  else
   Option.bind (
    iter (JD F r1 r5) (((r1.Edges.length:Nat):Int).toNat+1) (out3,r7,0)) (fun j_=>oun j_ fun out6 q4 =>
    some (.inl (out6,q4)))
def VU (F:Nat) (r1:QR) (f_from1:Int):Option ((List Qr)) :=
 Option.bind (Qca (Qr.mk 0 0) r1.Nodes) fun l1 =>
 Option.bind (
  iter (JC l1) (((l1.length:Nat):Int).toNat+1) (l1,0)) (fun out2 =>
  Option.bind (getI out2 f_from1) fun x2 =>
  Option.bind (Vy) fun r3 =>
  Option.bind (Zz F r3 (Q6.mk f_from1 (Qr.mk 0 0))) fun r4 =>
  Option.bind (
   iter (JE F r1) F ((Yk out2 f_from1 (Qr.mk 0 0)),r4)) (fun rv2000=>some rv2000))
def QcJ (F:Nat) (r1:QR) (f_from1:Int):Option ((List Qr)×Int) :=
 Option.bind (Qbg r1) fun r2 =>
 bif (!(decide (r2=0))) then
  some ([],r2)
 else
  Option.bind (
   bif (decide (f_from1<0)) then
    some true
   else
    some (decide (r1.Nodes≤f_from1))) (fun v2 =>
   bif v2 then
    some ([],7)
   else
    Option.bind (VU F r1 f_from1) fun r3 =>
    some (r3,0))
def Qao (F:Nat) (w1:QC) (f_to1:Int):Option (Qr×Bool×QC) :=
 Option.bind (
  bif (!((Qar w1.place.node w1.legs).isSome)) then
   Option.bind (QcJ F w1.p.Road w1.place.node) fun j_=>oun j_ fun r1 r2 =>
   some (r1,(Qcx w1.place.node r1 w1.legs))
  else
   some (((Qar w1.place.node w1.legs).getD []),w1.legs)) (fun j_=>oun j_ fun l1 m1 =>
  Option.bind (getI l1 f_to1) fun x1 =>
  Option.bind (getI l1 f_to1) fun x2 =>
  some (x1,(decide (0≤x2.Secs)),(QC.mk w1.place w1.p w1.v m1 w1.visits)))
def Vf (w1:QC) (stop1:Int) (arrive1:Int) (start1:Int):Option (QC) :=
 Option.bind (ZO w1.visits [(QT.mk stop1 w1.place.node arrive1 start1 w1.place.time w1.place.load)]) fun l1 =>
 some (QC.mk w1.place w1.p w1.v w1.legs l1)
def Vs (F:Nat) (w1:QC) (t1:Qb) (i1:Int):Option (Int×QC) :=
 Option.bind (getI t1.Stops i1) fun x1 =>
 Option.bind (
  bif (!(decide (x1=(-1)))) then
   Option.bind (
    bif (decide (x1<0)) then
     some true
    else
     some (decide (((w1.p.Demands.length:Nat):Int)≤x1))) (fun v1 =>
    bif v1 then
     some (.inr (7,w1))
    else
     Option.bind (WL t1.Stops 0 i1) fun l1 =>
     Option.bind (YC l1 x1) fun r1 =>
     bif r1 then
      some (.inr (6,w1))
     else
      Option.bind (getI w1.p.Demands x1) fun x2 =>
      Option.bind (Ww w1.v x2.Kind) fun r2 =>
      bif (!r2) then
       some (.inr (21,w1))
      else
       Option.bind (getI w1.p.Demands x1) fun x3 =>
       some (.inl x3.Node))
  else
   some (.inl w1.p.Unload)) (fun o_=>Qy o_ (fun node1 =>
  Option.bind (Qao F w1 node1) fun j_=>oun j_ fun r3 j_=>oun j_ fun r4 r5 =>
  bif (!r4) then
   some (22,r5)
  else
   bif (decide (x1=(-1))) then
    Option.bind (Vf (QC.mk (ZY.mk node1 (w64 ((w64 (r5.place.time+r3.Secs))+r5.p.UnloadSecs)) 0 (w64 (r5.place.meters+r3.Meters))) r5.p r5.v r5.legs r5.visits) x1 (w64 (r5.place.time+r3.Secs)) (w64 (r5.place.time+r3.Secs))) fun r6 =>
    some (0,r6)
   else
    Option.bind (getI r5.p.Demands x1) fun x4 =>
    bif (decide (x4.When.To≤(max (w64 (r5.place.time+r3.Secs)) x4.When.From))) then
     some (19,(QC.mk (ZY.mk node1 (w64 (r5.place.time+r3.Secs)) r5.place.load (w64 (r5.place.meters+r3.Meters))) r5.p r5.v r5.legs r5.visits))
    else
     bif (decide (r5.v.Grams<(w64 (r5.place.load+x4.Grams)))) then
      some (20,(QC.mk (ZY.mk node1 (w64 (r5.place.time+r3.Secs)) r5.place.load (w64 (r5.place.meters+r3.Meters))) r5.p r5.v r5.legs r5.visits))
     else
      Option.bind (Vf (QC.mk (ZY.mk node1 (w64 ((max (w64 (r5.place.time+r3.Secs)) x4.When.From)+x4.Service)) (w64 (r5.place.load+x4.Grams)) (w64 (r5.place.meters+r3.Meters))) r5.p r5.v r5.legs r5.visits) x1 (w64 (r5.place.time+r3.Secs)) (max (w64 (r5.place.time+r3.Secs)) x4.When.From)) fun r7 =>
      some (0,r7)) (fun rv3307=>some rv3307))
def VX (F:Nat) (w1:QC):Option (Int×QC) :=
 Option.bind (Qao F w1 w1.v.Depot) fun j_=>oun j_ fun r1 j_=>oun j_ fun r2 r3 =>
 bif (!r2) then
  some (22,r3)
 else
  bif (!(decide (r3.place.load=0))) then
   some (20,r3)
  else
   bif (decide (r3.v.Shift.To≤(w64 (r3.place.time+r1.Secs)))) then
    some (19,(QC.mk (ZY.mk r3.v.Depot (w64 (r3.place.time+r1.Secs)) r3.place.load (w64 (r3.place.meters+r1.Meters))) r3.p r3.v r3.legs r3.visits))
   else
    Option.bind (Vf (QC.mk (ZY.mk r3.v.Depot (w64 (r3.place.time+r1.Secs)) r3.place.load (w64 (r3.place.meters+r1.Meters))) r3.p r3.v r3.legs r3.visits) (-2) (w64 (r3.place.time+r1.Secs)) (w64 (r3.place.time+r1.Secs))) fun r4 =>
    some (0,r4)
def Jz (F:Nat) (t1:Qb) (j_:QC×Int×Int):Option ((QC×Int×Int)⊕((QC×Int×Int))) :=
 oun j_ fun q1 j_=>oun j_ fun e1 f_at1 =>
 bif (decide (f_at1<((t1.Stops.length:Nat):Int))) then
  Option.bind (Vs F q1 t1 f_at1) fun j_=>oun j_ fun r1 r2 =>
  bif (!(decide (r1=0))) then
   some (.inr (r2,r1,f_at1))
  else
   some (.inl (r2,r1,w64 (f_at1+1)))
 else
  some (.inr (q1,e1,f_at1))
def V0 (F:Nat) (p1:Qe) (t1:Qb):Option ((Option QC)×Int×Int) :=
 Option.bind (
  bif (decide (t1.Vehicle<0)) then
   some true
  else
   some (decide (((p1.Vehicles.length:Nat):Int)≤t1.Vehicle))) (fun v1 =>
  bif v1 then
   some (none,7,0)
  else
   bif (decide (40<((t1.Stops.length:Nat):Int))) then
    some (none,8,0)
   else
    Option.bind (getI p1.Vehicles t1.Vehicle) fun x1 =>
    Option.bind (
     iter (Jz F t1) (((t1.Stops.length:Nat):Int).toNat+1) ((QC.mk (ZY.mk x1.Depot x1.Shift.From 0 0) p1 x1 [] []),0,0)) (fun j_=>oun j_ fun q2 j_=>oun j_ fun e2 f_at2 =>
     Option.bind (
      bif (decide (e2=0)) then
       Option.bind (VX F q2) fun j_=>oun j_ fun r3 r4 =>
       some (r4,r3)
      else
       some (q2,e2)) (fun j_=>oun j_ fun q3 e3 =>
      bif (!(decide (e3=0))) then
       some (none,e3,f_at2)
      else
       some ((some q3),0,0))))
def QdV (F:Nat) (p1:Qe) (t1:Qb):Option (Int×Int) :=
 Option.bind (Qad F p1) fun r1 =>
 bif (!(decide (r1=0))) then
  some (0,r1)
 else
  Option.bind (V0 F p1 t1) fun j_=>oun j_ fun r2 j_=>oun j_ fun r3 r4 =>
  bif (!(decide (r3=0))) then
   some (0,r3)
  else
   Option.bind (r2) fun q1 =>
   some (q1.place.meters,0)
def Yd (a1:Qc) (b1:Qc):Option (Int) :=
 some (w64 (a1.cost-b1.cost))
def JJ (a1:Int) (j_:(List Qc)×Int):Option (((List Qc)×Int)⊕((List Qc))) :=
 oun j_ fun data3 j1 =>
 Option.bind (
  bif (decide (a1<j1)) then
   Option.bind (getI data3 j1) fun x1 =>
   Option.bind (getI data3 (w64 (j1-1))) fun x2 =>
   Option.bind (Yd x1 x2) fun r1 =>
   some (decide (r1<0))
  else
   some false) (fun v1 =>
  bif v1 then
   Option.bind (getI data3 (w64 (j1-1))) fun x3 =>
   Option.bind (getI data3 j1) fun x4 =>
   Option.bind (getI data3 j1) fun x5 =>
   Option.bind (getI (Yk data3 j1 x3) (w64 (j1-1))) fun x6 =>
   some (.inl ((Yk (Yk data3 j1 x3) (w64 (j1-1)) x4),w64 (j1-1)))
  else
   some (.inr data3))
def JK (F:Nat) (a1:Int) (b1:Int) (j_:(List Qc)×Int):Option (((List Qc)×Int)⊕((List Qc))) :=
 oun j_ fun data2 i1 =>
 bif (decide (i1<b1)) then
  Option.bind (
   Option.bind (
    iter (JJ a1) F (data2,i1)) (fun data4 =>
    some data4)) (fun data5 =>
   some (.inl (data5,w64 (i1+1))))
 else
  some (.inr data2)
def YH (F:Nat) (data1:(List Qc)) (a1:Int) (b1:Int):Option ((List Qc)) :=
 Option.bind (
  iter (JK F a1 b1) F (data1,w64 (a1+1))) (fun data6 =>
  some data6)
def Wp (a1:Int) (b1:Int) (n2:Int) (j_:(List Qc)×Int):Option (((List Qc)×Int)⊕((List Qc))) :=
 oun j_ fun data2 i1 =>
 bif (decide (i1<n2)) then
  Option.bind (getI data2 (w64 (b1+i1))) fun x1 =>
  Option.bind (getI data2 (w64 (a1+i1))) fun x2 =>
  Option.bind (getI data2 (w64 (a1+i1))) fun x3 =>
  Option.bind (getI (Yk data2 (w64 (a1+i1)) x1) (w64 (b1+i1))) fun x4 =>
  some (.inl ((Yk (Yk data2 (w64 (a1+i1)) x1) (w64 (b1+i1)) x2),w64 (i1+1)))
 else
  some (.inr data2)
def Ys (data1:(List Qc)) (a1:Int) (b1:Int) (n2:Int):Option ((List Qc)) :=
 Option.bind (
  iter (Wp a1 b1 n2) (n2.toNat+1) (data1,0)) (fun data3 =>
  some data3)
def Vb (m1:Int) (j_:(List Qc)×Int×Int):Option (((List Qc)×Int×Int)⊕(((List Qc)×Int))) :=
 oun j_ fun data2 j_=>oun j_ fun i1 j1 =>
 bif (!(decide (i1=j1))) then
  bif (decide (j1<i1)) then
   Option.bind (Ys data2 (w64 (m1-i1)) m1 j1) fun r1 =>
   some (.inl (r1,w64 (i1-j1),j1))
  else
   Option.bind (Ys data2 (w64 (m1-i1)) (w64 ((w64 (m1+j1))-i1)) i1) fun r2 =>
   some (.inl (r2,i1,w64 (j1-i1)))
 else
  some (.inr (data2,i1))
def JL (F:Nat) (data1:(List Qc)) (a1:Int) (m1:Int) (b1:Int):Option ((List Qc)) :=
 Option.bind (
  iter (Vb m1) F (data1,w64 (m1-a1),w64 (b1-m1))) (fun j_=>oun j_ fun data3 i2 =>
  Option.bind (Ys data3 (w64 (m1-i2)) m1 i2) fun r3 =>
  some r3)
def WG (data1:(List Qc)) (a1:Int) (j_:Int×Int):Option ((Int×Int)⊕(Int)) :=
 oun j_ fun i1 j1 =>
 bif (decide (i1<j1)) then
  Option.bind (Wd (0≤1∧1≤64)) fun _ =>
  Option.bind (getI data1 (w64 ((IntKind.u64.wrap (w64 (i1+j1)))/2^(1:Int).toNat))) fun x1 =>
  Option.bind (getI data1 a1) fun x2 =>
  Option.bind (Yd x1 x2) fun r1 =>
  bif (decide (r1<0)) then
   some (.inl (w64 ((w64 ((IntKind.u64.wrap (w64 (i1+j1)))/2^(1:Int).toNat))+1),j1))
  else
   some (.inl (i1,w64 ((IntKind.u64.wrap (w64 (i1+j1)))/2^(1:Int).toNat)))
 else
  some (.inr i1)
def WH (i2:Int) (j_:(List Qc)×Int):Option (((List Qc)×Int)⊕((List Qc))) :=
 oun j_ fun data2 k1 =>
 bif (decide (k1<(w64 (i2-1)))) then
  Option.bind (getI data2 (w64 (k1+1))) fun x3 =>
  Option.bind (getI data2 k1) fun x4 =>
  Option.bind (getI data2 k1) fun x5 =>
  Option.bind (getI (Yk data2 k1 x3) (w64 (k1+1))) fun x6 =>
  some (.inl ((Yk (Yk data2 k1 x3) (w64 (k1+1)) x4),w64 (k1+1)))
 else
  some (.inr data2)
def WI (data1:(List Qc)) (m1:Int) (j_:Int×Int):Option ((Int×Int)⊕(Int)) :=
 oun j_ fun i3 j2 =>
 bif (decide (i3<j2)) then
  Option.bind (Wd (0≤1∧1≤64)) fun _ =>
  Option.bind (getI data1 m1) fun x7 =>
  Option.bind (getI data1 (w64 ((IntKind.u64.wrap (w64 (i3+j2)))/2^(1:Int).toNat))) fun x8 =>
  Option.bind (Yd x7 x8) fun r2 =>
  bif (!(decide (r2<0))) then
   some (.inl (w64 ((w64 ((IntKind.u64.wrap (w64 (i3+j2)))/2^(1:Int).toNat))+1),j2))
  else
   some (.inl (i3,w64 ((IntKind.u64.wrap (w64 (i3+j2)))/2^(1:Int).toNat)))
 else
  some (.inr i3)
def WJ (i4:Int) (j_:(List Qc)×Int):Option (((List Qc)×Int)⊕((List Qc))) :=
 oun j_ fun data4 k2 =>
 bif (decide (i4<k2)) then
  Option.bind (getI data4 (w64 (k2-1))) fun x9 =>
  Option.bind (getI data4 k2) fun x10 =>
  Option.bind (getI data4 k2) fun x11 =>
  Option.bind (getI (Yk data4 k2 x9) (w64 (k2-1))) fun x12 =>
  some (.inl ((Yk (Yk data4 k2 x9) (w64 (k2-1)) x10),w64 (k2-1)))
 else
  some (.inr data4)
def WK (data1:(List Qc)) (j_:Int×Int×Int):Option ((Int×Int×Int)⊕(Int)) :=
 oun j_ fun start2 j_=>oun j_ fun r4 p1 =>
 bif (decide (start2<r4)) then
  Option.bind (Wd (0≤1∧1≤64)) fun _ =>
  Option.bind (getI data1 (w64 (p1-(w64 ((IntKind.u64.wrap (w64 (start2+r4)))/2^(1:Int).toNat))))) fun x13 =>
  Option.bind (getI data1 (w64 ((IntKind.u64.wrap (w64 (start2+r4)))/2^(1:Int).toNat))) fun x14 =>
  Option.bind (Yd x13 x14) fun r5 =>
  bif (!(decide (r5<0))) then
   some (.inl (w64 ((w64 ((IntKind.u64.wrap (w64 (start2+r4)))/2^(1:Int).toNat))+1),r4,p1))
  else
   some (.inl (start2,w64 ((IntKind.u64.wrap (w64 (start2+r4)))/2^(1:Int).toNat),p1))
 else
  some (.inr start2)
def YU (rec_:(List Qc)→Int→Int→Int→Option ((List Qc))) (F:Nat) (data1:(List Qc)) (a1:Int) (m1:Int) (b1:Int):Option ((List Qc)) :=
 bif (decide ((w64 (m1-a1))=1)) then
  Option.bind (
   iter (WG data1 a1) F (m1,b1)) (fun i2 =>
   Option.bind (
    iter (WH i2) F (data1,a1)) (fun data3 =>
    some data3))
 else
  bif (decide ((w64 (b1-m1))=1)) then
   Option.bind (
    iter (WI data1 m1) F (a1,m1)) (fun i4 =>
    Option.bind (
     iter (WJ i4) F (data1,m1)) (fun data5 =>
     some data5))
  else
   Option.bind (Wd (0≤1∧1≤64)) fun _ =>
   Option.bind (
    bif (decide ((w64 ((IntKind.u64.wrap (w64 (a1+b1)))/2^(1:Int).toNat))<m1)) then
     some (w64 ((IntKind.u64.wrap (w64 (a1+b1)))/2^(1:Int).toNat),w64 ((w64 ((IntKind.u64.wrap (w64 (a1+b1)))/2^(1:Int).toNat))+m1),w64 ((w64 ((w64 ((IntKind.u64.wrap (w64 (a1+b1)))/2^(1:Int).toNat))+m1))-b1),w64 ((IntKind.u64.wrap (w64 (a1+b1)))/2^(1:Int).toNat))
    else
     some (w64 ((IntKind.u64.wrap (w64 (a1+b1)))/2^(1:Int).toNat),w64 ((w64 ((IntKind.u64.wrap (w64 (a1+b1)))/2^(1:Int).toNat))+m1),a1,m1)) (fun j_=>oun j_ fun mid1 j_=>oun j_ fun n2 j_=>oun j_ fun start1 r3 =>
    Option.bind (
     iter (WK data1) F (start1,r3,w64 (n2-1))) (fun start3 =>
     Option.bind (
      bif (decide (start3<m1)) then
       some (w64 (n2-start3),(decide (m1<(w64 (n2-start3)))))
      else
       some (w64 (n2-start3),false)) (fun j_=>oun j_ fun f_end1 v1 =>
      Option.bind (
       bif v1 then
        Option.bind (JL F data1 start3 m1 f_end1) fun r6 =>
        some r6
       else
        some data1) (fun data6 =>
       Option.bind (
        bif (decide (a1<start3)) then
         some (decide (start3<mid1))
        else
         some false) (fun v2 =>
        Option.bind (
         bif v2 then
          Option.bind (rec_ data6 a1 start3 mid1) fun r7 =>
          some r7
         else
          some data6) (fun data7 =>
         Option.bind (
          bif (decide (mid1<f_end1)) then
           some (decide (f_end1<b1))
          else
           some false) (fun v3 =>
          Option.bind (
           bif v3 then
            Option.bind (rec_ data7 mid1 f_end1 b1) fun r8 =>
            some r8
           else
            some data7) (fun data8 =>
           some data8))))))))
def Q5:Nat→(List Qc)→Int→Int→Int→Option ((List Qc))
 | 0,_,_,_,_=>none
 | F+1,data1,a1,m1,b1=>YU (Q5 F) F data1 a1 m1 b1
def Vc (F:Nat) (n2:Int) (j_:(List Qc)×Int×Int):Option (((List Qc)×Int×Int)⊕(((List Qc)×Int))) :=
 oun j_ fun data2 j_=>oun j_ fun a1 b1 =>
 bif (decide (b1≤n2)) then
  Option.bind (YH F data2 a1 b1) fun r1 =>
  some (.inl (r1,b1,w64 (b1+20)))
 else
  some (.inr (data2,a1))
def Y1 (F:Nat) (n2:Int) (blockSize1:Int) (j_:(List Qc)×Int×Int):Option (((List Qc)×Int×Int)⊕(((List Qc)×Int))) :=
 oun j_ fun data5 j_=>oun j_ fun a3 b2 =>
 bif (decide (b2≤n2)) then
  Option.bind (Q5 F data5 a3 (w64 (a3+blockSize1)) b2) fun r3 =>
  some (.inl (r3,b2,w64 (b2+(w64 (2*blockSize1)))))
 else
  some (.inr (data5,a3))
def Y2 (F:Nat) (n2:Int) (j_:(List Qc)×Int):Option (((List Qc)×Int)⊕((List Qc))) :=
 oun j_ fun data4 blockSize1 =>
 bif (decide (blockSize1<n2)) then
  Option.bind (
   iter (Y1 F n2 blockSize1) F (data4,0,w64 (2*blockSize1))) (fun j_=>oun j_ fun data6 a4 =>
   Option.bind (
    bif (decide ((w64 (a4+blockSize1))<n2)) then
     Option.bind (Q5 F data6 a4 (w64 (a4+blockSize1)) n2) fun r4 =>
     some r4
    else
     some data6) (fun data7 =>
    some (.inl (data7,w64 (blockSize1*2)))))
 else
  some (.inr data4)
def Zq (F:Nat) (data1:(List Qc)) (n2:Int):Option ((List Qc)) :=
 Option.bind (
  iter (Vc F n2) F (data1,0,20)) (fun j_=>oun j_ fun data3 a2 =>
  Option.bind (YH F data3 a2 n2) fun r2 =>
  Option.bind (
   iter (Y2 F n2) F (r2,20)) (fun data8 =>
   some data8))
def Yl (F:Nat) (x1:(List Qc)):Option ((List Qc)) :=
 Option.bind (Zq F x1 ((x1.length:Nat):Int)) fun r1 =>
 some r1
def Wl (F:Nat) (p1:Qe) (r3:(List Qb)) (j_:(List Qc)×Int):Option (((List Qc)×Int)⊕((List Qc))) :=
 oun j_ fun out1 v4 =>
 bif (decide (v4<((r3.length:Nat):Int))) then
  Option.bind (
   Option.bind (getI r3 v4) fun x1 =>
   Option.bind (QdV F p1 x1) fun j_=>oun j_ fun r4 r5 =>
   bif (decide (r5=0)) then
    Option.bind (ZO out1 [(Qc.mk x1 r4)]) fun l1 =>
    some l1
   else
    some out1) (fun out2 =>
   some (.inl (out2,w64 (v4+1))))
 else
  some (.inr out1)
def ZS (F:Nat) (p1:Qe) (t1:Qb) (d1:Int):Option ((List Qc)×Int) :=
 Option.bind (Qad F p1) fun r1 =>
 bif (!(decide (r1=0))) then
  some ([],r1)
 else
  Option.bind (
   bif (decide (t1.Vehicle<0)) then
    some true
   else
    bif (decide (((p1.Vehicles.length:Nat):Int)≤t1.Vehicle)) then
     some true
    else
     bif (decide (d1<0)) then
      some true
     else
      some (decide (((p1.Demands.length:Nat):Int)≤d1))) (fun v2 =>
   bif v2 then
    some ([],7)
   else
    Option.bind (YC t1.Stops d1) fun r2 =>
    bif r2 then
     some ([],6)
    else
     bif (decide (40≤((t1.Stops.length:Nat):Int))) then
      some ([],0)
     else
      Option.bind (Vx F t1 d1) fun r3 =>
      Option.bind (
       iter (Wl F p1 r3) (((r3.length:Nat):Int).toNat+1) ([],0)) (fun out3 =>
       Option.bind (Yl F out3) fun r6 =>
       some (r6,0)))
def Vp (l1:(List Qc)) (j_:(List Qc)×Int):Option (((List Qc)×Int)⊕((List Qc))) :=
 oun j_ fun tours1 v2 =>
 bif (decide (v2<((l1.length:Nat):Int))) then
  Option.bind (getI tours1 v2) fun x1 =>
  some (.inl ((Yk tours1 v2 (Qc.mk (Qb.mk v2 x1.tour.Stops) x1.cost)),w64 (v2+1)))
 else
  some (.inr tours1)
def ZZ (F:Nat) (p1:Qe) (tours3:(List Qc)) (v3:Int) (j_:Int×(List Int)×Int×Int×Int):Option ((Int×(List Int)×Int×Int×Int)⊕((Int×(List Int)×Int×Int))) :=
 oun j_ fun f2 j_=>oun j_ fun f3 j_=>oun j_ fun f4 j_=>oun j_ fun f_at1 v4 =>
 bif (decide (v4<((tours3.length:Nat):Int))) then
  Option.bind (
   Option.bind (getI tours3 v4) fun x2 =>
   Option.bind (ZS F p1 x2.tour v3) fun j_=>oun j_ fun r2 r3 =>
   Option.bind (
    bif (decide (0<((r2.length:Nat):Int))) then
     bif (decide (f_at1<0)) then
      some true
     else
      Option.bind (getI r2 0) fun x3 =>
      Option.bind (getI tours3 f_at1) fun x4 =>
      some (decide ((w64 (x3.cost-x2.cost))<(w64 (f4-x4.cost))))
    else
     some false) (fun v6 =>
    bif v6 then
     Option.bind (getI r2 0) fun x5 =>
     some (x5.tour.Vehicle,x5.tour.Stops,x5.cost,v4)
    else
     some (f2,f3,f4,f_at1))) (fun j_=>oun j_ fun f5 j_=>oun j_ fun f6 j_=>oun j_ fun f7 f_at2 =>
   some (.inl (f5,f6,f7,f_at2,w64 (v4+1))))
 else
  some (.inr (f2,f3,f4,f_at1))
def Wr (F:Nat) (p1:Qe) (j_:(List Qc)×(List Int)×Int):Option (((List Qc)×(List Int)×Int)⊕(((List Qc)×(List Int)))) :=
 oun j_ fun tours3 j_=>oun j_ fun f1 v3 =>
 bif (decide (v3<((p1.Demands.length:Nat):Int))) then
  Option.bind (
   Option.bind (
    iter (ZZ F p1 tours3 v3) (((tours3.length:Nat):Int).toNat+1) (0,[],0,(-1),0)) (fun j_=>oun j_ fun f8 j_=>oun j_ fun f9 j_=>oun j_ fun f10 f_at3 =>
    bif (decide (f_at3<0)) then
     Option.bind (ZO f1 [v3]) fun l2 =>
     some (tours3,l2)
    else
     Option.bind (getI tours3 f_at3) fun x6 =>
     some ((Yk tours3 f_at3 (Qc.mk (Qb.mk f8 f9) f10)),f1))) (fun j_=>oun j_ fun tours4 f11 =>
   some (.inl (tours4,f11,w64 (v3+1))))
 else
  some (.inr (tours3,f1))
def Vq (tours5:(List Qc)) (j_:(List Qb)×Int):Option (((List Qb)×Int)⊕((List Qb))) :=
 oun j_ fun f13 v7 =>
 bif (decide (v7<((tours5.length:Nat):Int))) then
  Option.bind (
   Option.bind (getI tours5 v7) fun x7 =>
   bif (decide (0<((x7.tour.Stops.length:Nat):Int))) then
    Option.bind (ZO f13 [x7.tour]) fun l3 =>
    some l3
   else
    some f13) (fun f14 =>
   some (.inl (f14,w64 (v7+1))))
 else
  some (.inr f13)
def Vw (F:Nat) (p1:Qe):Option (Qh×Int) :=
 Option.bind (Qad F p1) fun r1 =>
 bif (!(decide (r1=0))) then
  some ((Qh.mk [] []),r1)
 else
  Option.bind (Qca (Qc.mk (Qb.mk 0 []) 0) ((p1.Vehicles.length:Nat):Int)) fun l1 =>
  Option.bind (
   iter (Vp l1) (((l1.length:Nat):Int).toNat+1) (l1,0)) (fun tours2 =>
   Option.bind (
    iter (Wr F p1) (((p1.Demands.length:Nat):Int).toNat+1) (tours2,[],0)) (fun j_=>oun j_ fun tours5 f12 =>
    Option.bind (
     iter (Vq tours5) (((tours5.length:Nat):Int).toNat+1) ([],0)) (fun f15 =>
     some ((Qh.mk f15 f12),0))))
def Qdn (u1:Qb) (b1:Qb):Option (Bool) :=
 some (decide (u1.Vehicle=b1.Vehicle))
def Y7 (s1:(List Qb)) (b1:Qb) (v1:Int):Option ((Int)⊕(Unit⊕Int)) :=
 bif (decide (v1<((s1.length:Nat):Int))) then
  Option.bind (getI s1 v1) fun x1 =>
  Option.bind (Qdn x1 b1) fun r1 =>
  bif r1 then
   some (.inr (.inr v1))
  else
   some (.inl (w64 (v1+1)))
 else
  some (.inr (.inl ()))
def JO (s1:(List Qb)) (b1:Qb):Option (Int) :=
 Option.bind (
  iter (Y7 s1 b1) (((s1.length:Nat):Int).toNat+1) 0) (fun o_=>Qy o_ (fun _ =>
  some (-1)) (fun rv10548=>some rv10548))
def Y6 (s1:(List Qb)) (b1:Qb):Option (Bool) :=
 Option.bind (JO s1 b1) fun r1 =>
 some (decide (0≤r1))
def Qdo (n1:Int):Option (Bool) :=
 some (decide (1<n1))
def Zl (s1:(List Int)) (v1:Int):Option ((Int)⊕(Unit⊕Int)) :=
 bif (decide (v1<((s1.length:Nat):Int))) then
  Option.bind (getI s1 v1) fun x1 =>
  Option.bind (Qdo x1) fun r1 =>
  bif r1 then
   some (.inr (.inr v1))
  else
   some (.inl (w64 (v1+1)))
 else
  some (.inr (.inl ()))
def J8 (s1:(List Int)):Option (Int) :=
 Option.bind (
  iter (Zl s1) (((s1.length:Nat):Int).toNat+1) 0) (fun o_=>Qy o_ (fun _ =>
  some (-1)) (fun rv10693=>some rv10693))
def Zj (s1:(List Int)):Option (Bool) :=
 Option.bind (J8 s1) fun r1 =>
 some (decide (0≤r1))
def QaR (F:Nat) (p1:Qe) (x1:Qh) (j_:Int×Int):Option ((Int×Int)⊕(Int⊕(Int×Int))) :=
 oun j_ fun sum1 v2 =>
 bif (decide (v2<((x1.Tours.length:Nat):Int))) then
  Option.bind (getI x1.Tours v2) fun x2 =>
  Option.bind (WL x1.Tours 0 v2) fun l1 =>
  Option.bind (Y6 l1 x2) fun r2 =>
  bif r2 then
   some (.inr (.inr (0,6)))
  else
   Option.bind (V0 F p1 x2) fun j_=>oun j_ fun r3 j_=>oun j_ fun r4 r5 =>
   bif (!(decide (r4=0))) then
    some (.inr (.inr (0,r4)))
   else
    Option.bind (r3) fun q1 =>
    some (.inl (w64 (sum1+q1.place.meters),w64 (v2+1)))
 else
  some (.inr (.inl sum1))
def QaS (x1:Qh) (j_:(List Int)×Int):Option (((List Int)×Int)⊕((List Int)⊕(Int×Int))) :=
 oun j_ fun times1 v4 =>
 bif (decide (v4<((x1.Left.length:Nat):Int))) then
  Option.bind (getI x1.Left v4) fun x3 =>
  Option.bind (
   bif (decide (x3<0)) then
    some true
   else
    some (decide (((times1.length:Nat):Int)≤x3))) (fun v5 =>
   bif v5 then
    some (.inr (.inr (0,7)))
   else
    Option.bind (getI times1 x3) fun x4 =>
    Option.bind (getI times1 x3) fun x5 =>
    some (.inl ((Yk times1 x3 (w64 (x4+1))),w64 (v4+1))))
 else
  some (.inr (.inl times1))
def QaT (x6:Qb) (j_:(List Int)×Int):Option (((List Int)×Int)⊕((List Int))) :=
 oun j_ fun times4 v7 =>
 bif (decide (v7<((x6.Stops.length:Nat):Int))) then
  Option.bind (
   Option.bind (getI x6.Stops v7) fun x7 =>
   bif (!(decide (x7=(-1)))) then
    Option.bind (getI times4 x7) fun x8 =>
    Option.bind (getI times4 x7) fun x9 =>
    some (Yk times4 x7 (w64 (x8+1)))
   else
    some times4) (fun times5 =>
   some (.inl (times5,w64 (v7+1))))
 else
  some (.inr times4)
def QaU (x1:Qh) (j_:(List Int)×Int):Option (((List Int)×Int)⊕((List Int))) :=
 oun j_ fun times3 v6 =>
 bif (decide (v6<((x1.Tours.length:Nat):Int))) then
  Option.bind (
   Option.bind (getI x1.Tours v6) fun x6 =>
   Option.bind (
    iter (QaT x6) (((x6.Stops.length:Nat):Int).toNat+1) (times3,0)) (fun times6 =>
    some times6)) (fun times7 =>
   some (.inl (times7,w64 (v6+1))))
 else
  some (.inr times3)
def Zc (F:Nat) (p1:Qe) (x1:Qh):Option (Int×Int) :=
 Option.bind (Qad F p1) fun r1 =>
 bif (!(decide (r1=0))) then
  some (0,r1)
 else
  Option.bind (
   iter (QaR F p1 x1) (((x1.Tours.length:Nat):Int).toNat+1) (0,0)) (fun o_=>Qy o_ (fun sum2 =>
   Option.bind (Qca (0:Int) ((p1.Demands.length:Nat):Int)) fun l2 =>
   Option.bind (
    iter (QaS x1) (((x1.Left.length:Nat):Int).toNat+1) (l2,0)) (fun o_=>Qy o_ (fun times2 =>
    Option.bind (
     iter (QaU x1) (((x1.Tours.length:Nat):Int).toNat+1) (times2,0)) (fun times8 =>
     Option.bind (Zj times8) fun r6 =>
     bif r6 then
      some (0,6)
     else
      Option.bind (YC times8 0) fun r7 =>
      bif r7 then
       some (0,38)
      else
       some (sum2,0))) (fun rv10769=>some rv10769))) (fun rv10703=>some rv10703))
def Qb1 (F:Nat) (p1:Qe) (x1:Qh):Option (Int×Int) :=
 Option.bind (Zc F p1 x1) fun j_=>oun j_ fun r1 r2 =>
 some (r1,r2)
def QeM (x1:Qh) (v1:Int) (v2:Int):Option ((Int)⊕(Unit⊕Qb)) :=
 bif (decide (v2<((x1.Tours.length:Nat):Int))) then
  Option.bind (getI x1.Tours v2) fun x2 =>
  bif (decide (x2.Vehicle=v1)) then
   some (.inr (.inr x2))
  else
   some (.inl (w64 (v2+1)))
 else
  some (.inr (.inl ()))
def Qbm (x1:Qh) (v1:Int):Option (Qb) :=
 Option.bind (
  iter (QeM x1 v1) (((x1.Tours.length:Nat):Int).toNat+1) 0) (fun o_=>Qy o_ (fun _ =>
  some (Qb.mk v1 [])) (fun rv10923=>some rv10923))
def J1 (k1:Int) (b1:Int):Option (Bool) :=
 some (decide (k1=b1))
def Wu (s1:(List Int)) (b1:Int) (v1:Int):Option ((Int)⊕(Unit⊕Int)) :=
 bif (decide (v1<((s1.length:Nat):Int))) then
  Option.bind (getI s1 v1) fun x1 =>
  Option.bind (J1 x1 b1) fun r1 =>
  bif r1 then
   some (.inr (.inr v1))
  else
   some (.inl (w64 (v1+1)))
 else
  some (.inr (.inl ()))
def JP (s1:(List Int)) (b1:Int):Option (Int) :=
 Option.bind (
  iter (Wu s1 b1) (((s1.length:Nat):Int).toNat+1) 0) (fun o_=>Qy o_ (fun _ =>
  some (-1)) (fun rv10960=>some rv10960))
def YB (s1:(List Int)) (b1:Int) (j_:(List Int)×Int×Int):Option (((List Int)×Int×Int)⊕(((List Int)×Int))) :=
 oun j_ fun s2 j_=>oun j_ fun i1 j1 =>
 bif (decide (j1<((s1.length:Nat):Int))) then
  Option.bind (
   Option.bind (getI s2 j1) fun x1 =>
   Option.bind (J1 x1 b1) fun r2 =>
   bif (!r2) then
    Option.bind (getI s2 i1) fun x2 =>
    some ((Yk s2 i1 x1),w64 (i1+1))
   else
    some (s2,i1)) (fun j_=>oun j_ fun s3 i2 =>
   some (.inl (s3,i2,w64 (j1+1))))
 else
  some (.inr (s2,i1))
def Zv (F:Nat) (s1:(List Int)) (b1:Int):Option ((List Int)) :=
 Option.bind (JP s1 b1) fun r1 =>
 bif (decide (r1=(-1))) then
  some s1
 else
  Option.bind (
   iter (YB s1 b1) F (s1,r1,w64 (r1+1))) (fun j_=>oun j_ fun s4 i3 =>
   Option.bind (WL s4 i3 ((s4.length:Nat):Int)) fun l1 =>
   Option.bind (WL (QfZ s4 i3 0) 0 i3) fun l2 =>
   some l2)
def J0 (F:Nat) (l1:(List Int)) (n1:Int):Option ((List Int)) :=
 Option.bind (Qiv l1) fun l2 =>
 Option.bind (Zv F l2 n1) fun r1 =>
 some r1
def QaG (F:Nat) (p1:Qe) (t1:Qb) (d1:Int):Option (Qb×Int) :=
 Option.bind (ZS F p1 t1 d1) fun j_=>oun j_ fun r1 r2 =>
 bif (!(decide (r2=0))) then
  some ((Qb.mk 0 []),r2)
 else
  bif (decide (((r1.length:Nat):Int)=0)) then
   some ((Qb.mk 0 []),40)
  else
   Option.bind (getI r1 0) fun x1 =>
   some (x1.tour,0)
def QbA (s1:Int):Option (Bool) :=
 some (decide (0≤s1))
def Wv (s1:(List Int)) (v1:Int):Option ((Int)⊕(Unit⊕Int)) :=
 bif (decide (v1<((s1.length:Nat):Int))) then
  Option.bind (getI s1 v1) fun x1 =>
  Option.bind (QbA x1) fun r1 =>
  bif r1 then
   some (.inr (.inr v1))
  else
   some (.inl (w64 (v1+1)))
 else
  some (.inr (.inl ()))
def JQ (s1:(List Int)):Option (Int) :=
 Option.bind (
  iter (Wv s1) (((s1.length:Nat):Int).toNat+1) 0) (fun o_=>Qy o_ (fun _ =>
  some (-1)) (fun rv11318=>some rv11318))
def Z0 (s1:(List Int)):Option (Bool) :=
 Option.bind (JQ s1) fun r1 =>
 some (decide (0≤r1))
def Vo (t1:Qb):Option (Bool) :=
 Option.bind (Z0 t1.Stops) fun r1 =>
 some r1
def JZ (F:Nat) (p1:Qe) (x1:Qh) (d1:Int) (v1:Int) (f1:Int) (f2:(List Int)) (j_:(List Qb)×Int):Option (((List Qb)×Int)⊕((List Qb))) :=
 oun j_ fun f3 v4 =>
 bif (decide (v4<((p1.Vehicles.length:Nat):Int))) then
  Option.bind (
   Option.bind (
    bif (!(decide (v4=v1))) then
     Option.bind (Qbm x1 v4) fun r5 =>
     Option.bind (J0 F r5.Stops d1) fun r6 =>
     some (v4,r6)
    else
     some (f1,f2)) (fun j_=>oun j_ fun f4 f5 =>
    Option.bind (Vo (Qb.mk f4 f5)) fun r7 =>
    bif r7 then
     Option.bind (ZO f3 [(Qb.mk f4 f5)]) fun l1 =>
     some l1
    else
     some f3)) (fun f6 =>
   some (.inl (f6,w64 (v4+1))))
 else
  some (.inr f3)
def Qak (F:Nat) (p1:Qe) (x1:Qh) (d1:Int) (v1:Int):Option (Qh×Bool) :=
 Option.bind (
  Option.bind (Qbm x1 v1) fun r1 =>
  Option.bind (J0 F r1.Stops d1) fun r2 =>
  Option.bind (QaG F p1 (Qb.mk v1 r2) d1) fun j_=>oun j_ fun r3 r4 =>
  some (r3.Vehicle,r3.Stops,r4)) (fun j_=>oun j_ fun f1 j_=>oun j_ fun f2 e1 =>
  bif (!(decide (e1=0))) then
   some ((Qh.mk [] []),false)
  else
   Option.bind (
    iter (JZ F p1 x1 d1 v1 f1 f2) (((p1.Vehicles.length:Nat):Int).toNat+1) ([],0)) (fun f7 =>
    Option.bind (J0 F x1.Left d1) fun r8 =>
    Option.bind (Qjh r8) fun l2 =>
    some ((Qh.mk f7 l2),true)))
def Qa3 (x1:Int):Option (Bool) :=
 some (!(decide (x1=x1)))
def Vn (x1:Int) (y1:Int):Option (Int) :=
 Option.bind (Qa3 x1) fun r1 =>
 Option.bind (Qa3 y1) fun r2 =>
 bif r1 then
  bif r2 then
   some 0
  else
   some (-1)
 else
  bif r2 then
   some 1
  else
   bif (decide (x1<y1)) then
    some (-1)
   else
    bif (decide (y1<x1)) then
     some 1
    else
     some 0
def Qb3 (vals1:(List Int)) (v1:Int):Option ((Int)⊕(Unit⊕Int)) :=
 bif (decide (v1<((vals1.length:Nat):Int))) then
  Option.bind (getI vals1 v1) fun x1 =>
  bif (!(decide (x1=0))) then
   some (.inr (.inr x1))
  else
   some (.inl (w64 (v1+1)))
 else
  some (.inr (.inl ()))
def QcP (vals1:(List Int)):Option (Int) :=
 Option.bind (
  iter (Qb3 vals1) (((vals1.length:Nat):Int).toNat+1) 0) (fun o_=>Qy o_ (fun _ =>
  some 0) (fun rv11834=>some rv11834))
def QW (a1:Qa) (b1:Qa):Option (Int) :=
 Option.bind (Vn ((a1.plan.Left.length:Nat):Int) ((b1.plan.Left.length:Nat):Int)) fun r1 =>
 Option.bind (Vn a1.cost b1.cost) fun r2 =>
 Option.bind (QcP [r1,r2]) fun r3 =>
 some r3
def VQ (F:Nat) (b1:Qe) (b2:Qh) (b3:Int) (b4:(List Qa)) (y1:Qh):Option ((List Qa)) :=
 Option.bind (Qb1 F b1 y1) fun j_=>oun j_ fun r1 r2 =>
 Option.bind (
  bif (decide (r2=0)) then
   Option.bind (QW (Qa.mk y1 r1) (Qa.mk b2 b3)) fun r3 =>
   some (decide (r3<0))
  else
   some false) (fun v2 =>
  bif v2 then
   Option.bind (ZO b4 [(Qa.mk y1 r1)]) fun l2 =>
   some l2
  else
   some b4)
def Zm (F:Nat) (b1:Qe) (b2:Qh) (b3:Int) (b5:Qe) (b6:Qh) (v1:Int) (j_:Int×(List Qa)):Option ((Int×(List Qa))⊕((List Qa))) :=
 oun j_ fun v2 q3 =>
 bif (decide (v2<((b5.Vehicles.length:Nat):Int))) then
  Option.bind (Qak F b5 b6 v1 v2) fun j_=>oun j_ fun r1 r2 =>
  Option.bind (
   bif r2 then
    Option.bind (VQ F b1 b2 b3 q3 r1) fun r3 =>
    some r3
   else
    some q3) (fun q4 =>
   some (.inl (w64 (v2+1),q4)))
 else
  some (.inr q3)
def Z9 (F:Nat) (b1:Qe) (b2:Qh) (b3:Int) (b5:Qe) (b6:Qh) (j_:Int×(List Qa)):Option ((Int×(List Qa))⊕((List Qa))) :=
 oun j_ fun v1 q2 =>
 bif (decide (v1<((b5.Demands.length:Nat):Int))) then
  Option.bind (
   Option.bind (
    iter (Zm F b1 b2 b3 b5 b6 v1) (((b5.Vehicles.length:Nat):Int).toNat+1) (0,q2)) (fun q5 =>
    some q5)) (fun q6 =>
   some (.inl (w64 (v1+1),q6)))
 else
  some (.inr q2)
def Wc (F:Nat) (b1:Qe) (b2:Qh) (b3:Int) (b4:(List Qa)) (b5:Qe) (b6:Qh):Option ((List Qa)) :=
 Option.bind (
  iter (Z9 F b1 b2 b3 b5 b6) (((b5.Demands.length:Nat):Int).toNat+1) (0,b4)) (fun q7 =>
  some q7)
def JW (a1:Int) (j_:(List Qa)×Int):Option (((List Qa)×Int)⊕((List Qa))) :=
 oun j_ fun data3 j1 =>
 Option.bind (
  bif (decide (a1<j1)) then
   Option.bind (getI data3 j1) fun x1 =>
   Option.bind (getI data3 (w64 (j1-1))) fun x2 =>
   Option.bind (QW x1 x2) fun r1 =>
   some (decide (r1<0))
  else
   some false) (fun v1 =>
  bif v1 then
   Option.bind (getI data3 (w64 (j1-1))) fun x3 =>
   Option.bind (getI data3 j1) fun x4 =>
   Option.bind (getI data3 j1) fun x5 =>
   Option.bind (getI (Yk data3 j1 x3) (w64 (j1-1))) fun x6 =>
   some (.inl ((Yk (Yk data3 j1 x3) (w64 (j1-1)) x4),w64 (j1-1)))
  else
   some (.inr data3))
def JX (F:Nat) (a1:Int) (b1:Int) (j_:(List Qa)×Int):Option (((List Qa)×Int)⊕((List Qa))) :=
 oun j_ fun data2 i1 =>
 bif (decide (i1<b1)) then
  Option.bind (
   Option.bind (
    iter (JW a1) F (data2,i1)) (fun data4 =>
    some data4)) (fun data5 =>
   some (.inl (data5,w64 (i1+1))))
 else
  some (.inr data2)
def YK (F:Nat) (data1:(List Qa)) (a1:Int) (b1:Int):Option ((List Qa)) :=
 Option.bind (
  iter (JX F a1 b1) F (data1,w64 (a1+1))) (fun data6 =>
  some data6)
def WE (a1:Int) (b1:Int) (n2:Int) (j_:(List Qa)×Int):Option (((List Qa)×Int)⊕((List Qa))) :=
 oun j_ fun data2 i1 =>
 bif (decide (i1<n2)) then
  Option.bind (getI data2 (w64 (b1+i1))) fun x1 =>
  Option.bind (getI data2 (w64 (a1+i1))) fun x2 =>
  Option.bind (getI data2 (w64 (a1+i1))) fun x3 =>
  Option.bind (getI (Yk data2 (w64 (a1+i1)) x1) (w64 (b1+i1))) fun x4 =>
  some (.inl ((Yk (Yk data2 (w64 (a1+i1)) x1) (w64 (b1+i1)) x2),w64 (i1+1)))
 else
  some (.inr data2)
def YE (data1:(List Qa)) (a1:Int) (b1:Int) (n2:Int):Option ((List Qa)) :=
 Option.bind (
  iter (WE a1 b1 n2) (n2.toNat+1) (data1,0)) (fun data3 =>
  some data3)
def Vj (m1:Int) (j_:(List Qa)×Int×Int):Option (((List Qa)×Int×Int)⊕(((List Qa)×Int))) :=
 oun j_ fun data2 j_=>oun j_ fun i1 j1 =>
 bif (!(decide (i1=j1))) then
  bif (decide (j1<i1)) then
   Option.bind (YE data2 (w64 (m1-i1)) m1 j1) fun r1 =>
   some (.inl (r1,w64 (i1-j1),j1))
  else
   Option.bind (YE data2 (w64 (m1-i1)) (w64 ((w64 (m1+j1))-i1)) i1) fun r2 =>
   some (.inl (r2,i1,w64 (j1-i1)))
 else
  some (.inr (data2,i1))
def J5 (F:Nat) (data1:(List Qa)) (a1:Int) (m1:Int) (b1:Int):Option ((List Qa)) :=
 Option.bind (
  iter (Vj m1) F (data1,w64 (m1-a1),w64 (b1-m1))) (fun j_=>oun j_ fun data3 i2 =>
  Option.bind (YE data3 (w64 (m1-i2)) m1 i2) fun r3 =>
  some r3)
def WX (data1:(List Qa)) (a1:Int) (j_:Int×Int):Option ((Int×Int)⊕(Int)) :=
 oun j_ fun i1 j1 =>
 bif (decide (i1<j1)) then
  Option.bind (Wd (0≤1∧1≤64)) fun _ =>
  Option.bind (getI data1 (w64 ((IntKind.u64.wrap (w64 (i1+j1)))/2^(1:Int).toNat))) fun x1 =>
  Option.bind (getI data1 a1) fun x2 =>
  Option.bind (QW x1 x2) fun r1 =>
  bif (decide (r1<0)) then
   some (.inl (w64 ((w64 ((IntKind.u64.wrap (w64 (i1+j1)))/2^(1:Int).toNat))+1),j1))
  else
   some (.inl (i1,w64 ((IntKind.u64.wrap (w64 (i1+j1)))/2^(1:Int).toNat)))
 else
  some (.inr i1)
def WY (i2:Int) (j_:(List Qa)×Int):Option (((List Qa)×Int)⊕((List Qa))) :=
 oun j_ fun data2 k1 =>
 bif (decide (k1<(w64 (i2-1)))) then
  Option.bind (getI data2 (w64 (k1+1))) fun x3 =>
  Option.bind (getI data2 k1) fun x4 =>
  Option.bind (getI data2 k1) fun x5 =>
  Option.bind (getI (Yk data2 k1 x3) (w64 (k1+1))) fun x6 =>
  some (.inl ((Yk (Yk data2 k1 x3) (w64 (k1+1)) x4),w64 (k1+1)))
 else
  some (.inr data2)
def WZ (data1:(List Qa)) (m1:Int) (j_:Int×Int):Option ((Int×Int)⊕(Int)) :=
 oun j_ fun i3 j2 =>
 bif (decide (i3<j2)) then
  Option.bind (Wd (0≤1∧1≤64)) fun _ =>
  Option.bind (getI data1 m1) fun x7 =>
  Option.bind (getI data1 (w64 ((IntKind.u64.wrap (w64 (i3+j2)))/2^(1:Int).toNat))) fun x8 =>
  Option.bind (QW x7 x8) fun r2 =>
  bif (!(decide (r2<0))) then
   some (.inl (w64 ((w64 ((IntKind.u64.wrap (w64 (i3+j2)))/2^(1:Int).toNat))+1),j2))
  else
   some (.inl (i3,w64 ((IntKind.u64.wrap (w64 (i3+j2)))/2^(1:Int).toNat)))
 else
  some (.inr i3)
def W0 (i4:Int) (j_:(List Qa)×Int):Option (((List Qa)×Int)⊕((List Qa))) :=
 oun j_ fun data4 k2 =>
 bif (decide (i4<k2)) then
  Option.bind (getI data4 (w64 (k2-1))) fun x9 =>
  Option.bind (getI data4 k2) fun x10 =>
  Option.bind (getI data4 k2) fun x11 =>
  Option.bind (getI (Yk data4 k2 x9) (w64 (k2-1))) fun x12 =>
  some (.inl ((Yk (Yk data4 k2 x9) (w64 (k2-1)) x10),w64 (k2-1)))
 else
  some (.inr data4)
def W1 (data1:(List Qa)) (j_:Int×Int×Int):Option ((Int×Int×Int)⊕(Int)) :=
 oun j_ fun start2 j_=>oun j_ fun r4 p1 =>
 bif (decide (start2<r4)) then
  Option.bind (Wd (0≤1∧1≤64)) fun _ =>
  Option.bind (getI data1 (w64 (p1-(w64 ((IntKind.u64.wrap (w64 (start2+r4)))/2^(1:Int).toNat))))) fun x13 =>
  Option.bind (getI data1 (w64 ((IntKind.u64.wrap (w64 (start2+r4)))/2^(1:Int).toNat))) fun x14 =>
  Option.bind (QW x13 x14) fun r5 =>
  bif (!(decide (r5<0))) then
   some (.inl (w64 ((w64 ((IntKind.u64.wrap (w64 (start2+r4)))/2^(1:Int).toNat))+1),r4,p1))
  else
   some (.inl (start2,w64 ((IntKind.u64.wrap (w64 (start2+r4)))/2^(1:Int).toNat),p1))
 else
  some (.inr start2)
def Y3 (rec_:(List Qa)→Int→Int→Int→Option ((List Qa))) (F:Nat) (data1:(List Qa)) (a1:Int) (m1:Int) (b1:Int):Option ((List Qa)) :=
 bif (decide ((w64 (m1-a1))=1)) then
  Option.bind (
   iter (WX data1 a1) F (m1,b1)) (fun i2 =>
   Option.bind (
    iter (WY i2) F (data1,a1)) (fun data3 =>
    some data3))
 else
  bif (decide ((w64 (b1-m1))=1)) then
   Option.bind (
    iter (WZ data1 m1) F (a1,m1)) (fun i4 =>
    Option.bind (
     iter (W0 i4) F (data1,m1)) (fun data5 =>
     some data5))
  else
   Option.bind (Wd (0≤1∧1≤64)) fun _ =>
   Option.bind (
    bif (decide ((w64 ((IntKind.u64.wrap (w64 (a1+b1)))/2^(1:Int).toNat))<m1)) then
     some (w64 ((IntKind.u64.wrap (w64 (a1+b1)))/2^(1:Int).toNat),w64 ((w64 ((IntKind.u64.wrap (w64 (a1+b1)))/2^(1:Int).toNat))+m1),w64 ((w64 ((w64 ((IntKind.u64.wrap (w64 (a1+b1)))/2^(1:Int).toNat))+m1))-b1),w64 ((IntKind.u64.wrap (w64 (a1+b1)))/2^(1:Int).toNat))
    else
     some (w64 ((IntKind.u64.wrap (w64 (a1+b1)))/2^(1:Int).toNat),w64 ((w64 ((IntKind.u64.wrap (w64 (a1+b1)))/2^(1:Int).toNat))+m1),a1,m1)) (fun j_=>oun j_ fun mid1 j_=>oun j_ fun n2 j_=>oun j_ fun start1 r3 =>
    Option.bind (
     iter (W1 data1) F (start1,r3,w64 (n2-1))) (fun start3 =>
     Option.bind (
      bif (decide (start3<m1)) then
       some (w64 (n2-start3),(decide (m1<(w64 (n2-start3)))))
      else
       some (w64 (n2-start3),false)) (fun j_=>oun j_ fun f_end1 v1 =>
      Option.bind (
       bif v1 then
        Option.bind (J5 F data1 start3 m1 f_end1) fun r6 =>
        some r6
       else
        some data1) (fun data6 =>
       Option.bind (
        bif (decide (a1<start3)) then
         some (decide (start3<mid1))
        else
         some false) (fun v2 =>
        Option.bind (
         bif v2 then
          Option.bind (rec_ data6 a1 start3 mid1) fun r7 =>
          some r7
         else
          some data6) (fun data7 =>
         Option.bind (
          bif (decide (mid1<f_end1)) then
           some (decide (f_end1<b1))
          else
           some false) (fun v3 =>
          Option.bind (
           bif v3 then
            Option.bind (rec_ data7 mid1 f_end1 b1) fun r8 =>
            some r8
           else
            some data7) (fun data8 =>
           some data8))))))))
def Ya:Nat→(List Qa)→Int→Int→Int→Option ((List Qa))
 | 0,_,_,_,_=>none
 | F+1,data1,a1,m1,b1=>Y3 (Ya F) F data1 a1 m1 b1
def Vk (F:Nat) (n2:Int) (j_:(List Qa)×Int×Int):Option (((List Qa)×Int×Int)⊕(((List Qa)×Int))) :=
 oun j_ fun data2 j_=>oun j_ fun a1 b1 =>
 bif (decide (b1≤n2)) then
  Option.bind (YK F data2 a1 b1) fun r1 =>
  some (.inl (r1,b1,w64 (b1+20)))
 else
  some (.inr (data2,a1))
def Y9 (F:Nat) (n2:Int) (blockSize1:Int) (j_:(List Qa)×Int×Int):Option (((List Qa)×Int×Int)⊕(((List Qa)×Int))) :=
 oun j_ fun data5 j_=>oun j_ fun a3 b2 =>
 bif (decide (b2≤n2)) then
  Option.bind (Ya F data5 a3 (w64 (a3+blockSize1)) b2) fun r3 =>
  some (.inl (r3,b2,w64 (b2+(w64 (2*blockSize1)))))
 else
  some (.inr (data5,a3))
def Za (F:Nat) (n2:Int) (j_:(List Qa)×Int):Option (((List Qa)×Int)⊕((List Qa))) :=
 oun j_ fun data4 blockSize1 =>
 bif (decide (blockSize1<n2)) then
  Option.bind (
   iter (Y9 F n2 blockSize1) F (data4,0,w64 (2*blockSize1))) (fun j_=>oun j_ fun data6 a4 =>
   Option.bind (
    bif (decide ((w64 (a4+blockSize1))<n2)) then
     Option.bind (Ya F data6 a4 (w64 (a4+blockSize1)) n2) fun r4 =>
     some r4
    else
     some data6) (fun data7 =>
    some (.inl (data7,w64 (blockSize1*2)))))
 else
  some (.inr data4)
def ZC (F:Nat) (data1:(List Qa)) (n2:Int):Option ((List Qa)) :=
 Option.bind (
  iter (Vk F n2) F (data1,0,20)) (fun j_=>oun j_ fun data3 a2 =>
  Option.bind (YK F data3 a2 n2) fun r2 =>
  Option.bind (
   iter (Za F n2) F (r2,20)) (fun data8 =>
   some data8))
def Ym (F:Nat) (x1:(List Qa)):Option ((List Qa)) :=
 Option.bind (ZC F x1 ((x1.length:Nat):Int)) fun r1 =>
 some r1
def Wi (r4:(List Qa)) (j_:(List Qh)×Int):Option (((List Qh)×Int)⊕((List Qh))) :=
 oun j_ fun out1 v3 =>
 bif (decide (v3<((r4.length:Nat):Int))) then
  Option.bind (getI r4 v3) fun x2 =>
  Option.bind (ZO out1 [x2.plan]) fun l2 =>
  some (.inl (l2,w64 (v3+1)))
 else
  some (.inr out1)
def W8 (F:Nat) (p1:Qe) (x1:Qh):Option ((List Qh)×Int) :=
 Option.bind (Qb1 F p1 x1) fun j_=>oun j_ fun r1 r2 =>
 bif (!(decide (r2=0))) then
  some ([],r2)
 else
  Option.bind (Wc F p1 x1 r1 [] p1 x1) fun r3 =>
  Option.bind (Ym F r3) fun r4 =>
  Option.bind (
   iter (Wi r4) (((r4.length:Nat):Int).toNat+1) ([],0)) (fun out2 =>
   some (out2,0))
def VR (F:Nat) (p1:Qe) (j_:(List Qb)×(List Int)):Option (((List Qb)×(List Int))⊕((Qh×Int))) :=
 oun j_ fun f1 f2 =>
 Option.bind (W8 F p1 (Qh.mk f1 f2)) fun j_=>oun j_ fun r3 r4 =>
 bif (!(decide (r4=0))) then
  some (.inr ((Qh.mk [] []),r4))
 else
  bif (decide (((r3.length:Nat):Int)=0)) then
   some (.inr ((Qh.mk f1 f2),0))
  else
   Option.bind (getI r3 0) fun x1 =>
   some (.inl (x1.Tours,x1.Left))
def VF (F:Nat) (p1:Qe):Option (Qh×Int) :=
 Option.bind (Vw F p1) fun j_=>oun j_ fun r1 r2 =>
 bif (!(decide (r2=0))) then
  some ((Qh.mk [] []),r2)
 else
  Option.bind (
   iter (VR F p1) F (r1.Tours,r1.Left)) (fun rv20634=>some rv20634)
def ZW (F:Nat) (p1:Qe) (x1:Qh):Option (Int) :=
 Option.bind (Zc F p1 x1) fun j_=>oun j_ fun r1 r2 =>
 some r2
def QdX (F:Nat) (p1:Qe) (t1:Qb):Option ((List QT)×Int×Int) :=
 Option.bind (Qad F p1) fun r1 =>
 bif (!(decide (r1=0))) then
  some ([],r1,0)
 else
  Option.bind (V0 F p1 t1) fun j_=>oun j_ fun r2 j_=>oun j_ fun r3 r4 =>
  bif (!(decide (r3=0))) then
   some ([],r3,r4)
  else
   Option.bind (r2) fun q1 =>
   some (q1.visits,0,0)
def Wj (r1:(List Qc)) (j_:(List Qb)×Int):Option (((List Qb)×Int)⊕((List Qb))) :=
 oun j_ fun out1 v2 =>
 bif (decide (v2<((r1.length:Nat):Int))) then
  Option.bind (getI r1 v2) fun x1 =>
  Option.bind (ZO out1 [x1.tour]) fun l1 =>
  some (.inl (l1,w64 (v2+1)))
 else
  some (.inr out1)
def VS (F:Nat) (p1:Qe) (t1:Qb) (d1:Int):Option ((List Qb)×Int) :=
 Option.bind (ZS F p1 t1 d1) fun j_=>oun j_ fun r1 r2 =>
 Option.bind (
  iter (Wj r1) (((r1.length:Nat):Int).toNat+1) ([],0)) (fun out2 =>
  some (out2,r2))
def JH (F:Nat) (p1:Qe) (x1:Qh) (d1:Int) (v1:Int):Option (Int) :=
 Option.bind (getI p1.Vehicles v1) fun x2 =>
 Option.bind (getI p1.Demands d1) fun x3 =>
 Option.bind (Ww x2 x3.Kind) fun r1 =>
 bif (!r1) then
  some 21
 else
  Option.bind (getI p1.Demands d1) fun x4 =>
  Option.bind (getI p1.Vehicles v1) fun x5 =>
  bif (decide (x5.Grams<x4.Grams)) then
   some 20
  else
   Option.bind (QdX F p1 (Qb.mk v1 [d1,(-1)])) fun j_=>oun j_ fun r2 j_=>oun j_ fun r3 r4 =>
   bif (!(decide (r3=0))) then
    some r3
   else
    Option.bind (Qbm x1 v1) fun r5 =>
    Option.bind (VS F p1 r5 d1) fun j_=>oun j_ fun r6 r7 =>
    bif (!(decide (r7=0))) then
     some r7
    else
     bif (decide (((r6.length:Nat):Int)=0)) then
      some 40
     else
      some 0
def Qci (F:Nat) (p1:Qe) (x1:Qh) (d1:Int) (j_:(List QL)×Int):Option (((List QL)×Int)⊕((List QL))) :=
 oun j_ fun out1 v3 =>
 bif (decide (v3<((p1.Vehicles.length:Nat):Int))) then
  Option.bind (JH F p1 x1 d1 v3) fun r3 =>
  Option.bind (ZO out1 [(QL.mk v3 r3)]) fun l1 =>
  some (.inl (l1,w64 (v3+1)))
 else
  some (.inr out1)
def QaO (F:Nat) (p1:Qe) (x1:Qh) (d1:Int):Option ((List QL)×Int) :=
 Option.bind (ZW F p1 x1) fun r1 =>
 bif (!(decide (r1=0))) then
  some ([],r1)
 else
  Option.bind (
   bif (decide (d1<0)) then
    some true
   else
    some (decide (((p1.Demands.length:Nat):Int)≤d1))) (fun v2 =>
   bif v2 then
    some ([],7)
   else
    Option.bind (YC x1.Left d1) fun r2 =>
    bif (!r2) then
     some ([],13)
    else
     Option.bind (
      iter (Qci F p1 x1 d1) (((p1.Vehicles.length:Nat):Int).toNat+1) ([],0)) (fun out2 =>
      some (out2,0)))
def Qac (s11:(List QL)) (s21:(List QL)) (v1:Int):Option ((Int)⊕(Unit⊕Bool)) :=
 bif (decide (v1<((s11.length:Nat):Int))) then
  Option.bind (getI s11 v1) fun x1 =>
  Option.bind (getI s21 v1) fun x2 =>
  bif (!(decide (x1=x2))) then
   some (.inr (.inr false))
  else
   some (.inl (w64 (v1+1)))
 else
  some (.inr (.inl ()))
def WC (s11:(List QL)) (s21:(List QL)):Option (Bool) :=
 bif (!(decide (((s11.length:Nat):Int)=((s21.length:Nat):Int)))) then
  some false
 else
  Option.bind (
   iter (Qac s11 s21) (((s11.length:Nat):Int).toNat+1) 0) (fun o_=>Qy o_ (fun _ =>
   some true) (fun rv21123=>some rv21123))
def QaD (F:Nat) (p1:Qe) (x1:Qh) (d1:Int) (l1:(List QL)):Option (Bool) :=
 Option.bind (QaO F p1 x1 d1) fun j_=>oun j_ fun r1 r2 =>
 Option.bind (
  bif (decide (r2=0)) then
   Option.bind (WC r1 l1) fun r3 =>
   some r3
  else
   some false) (fun v2 =>
  some v2)
def Yx (r2:(List Qt)) (x1:Qb) (j_:(List Int)×Int):Option (((List Int)×Int)⊕((List Int)⊕Bool)) :=
 oun j_ fun served2 v11 =>
 bif (decide (v11<((x1.Stops.length:Nat):Int))) then
  Option.bind (
   Option.bind (getI x1.Stops v11) fun x2 =>
   bif (decide (((r2.length:Nat):Int)≤x2)) then
    some (.inr false)
   else
    bif (decide (0≤x2)) then
     Option.bind (getI served2 x2) fun x3 =>
     Option.bind (getI served2 x2) fun x4 =>
     some (.inl (Yk served2 x2 (w64 (x3+1))))
    else
     some (.inl served2)) (fun o_=>Qy o_ (fun served3 =>
   some (.inl (served3,w64 (v11+1)))) (fun rv20800=>some (.inr (.inr rv20800))))
 else
  some (.inr (.inl served2))
def Yy (r2:(List Qt)) (r7:Qh) (j_:(List Int)×Int):Option (((List Int)×Int)⊕((List Int)⊕Bool)) :=
 oun j_ fun served1 v10 =>
 bif (decide (v10<((r7.Tours.length:Nat):Int))) then
  Option.bind (
   Option.bind (getI r7.Tours v10) fun x1 =>
   Option.bind (
    iter (Yx r2 x1) (((x1.Stops.length:Nat):Int).toNat+1) (served1,0)) (fun o_=>Qy o_ (fun served4 =>
    some (.inl served4)) (fun rv20773=>some (.inr rv20773)))) (fun o_=>Qy o_ (fun served5 =>
   some (.inl (served5,w64 (v10+1)))) (fun rv20768=>some (.inr (.inr rv20768))))
 else
  some (.inr (.inl served1))
def Yz (r10:(List QL)) (v17:Int):Option ((Int)⊕(Unit⊕Bool)) :=
 bif (decide (v17<((r10.length:Nat):Int))) then
  Option.bind (getI r10 v17) fun x8 =>
  Option.bind (
   bif (!(decide (x8.Vehicle=v17))) then
    some true
   else
    some (decide (x8.Err=0))) (fun v18 =>
   bif v18 then
    some (.inr (.inr false))
   else
    some (.inl (w64 (v17+1))))
 else
  some (.inr (.inl ()))
def YA (F:Nat) (p1:Qe) (r2:(List Qt)) (r7:Qh) (j_:(List Int)×Int):Option (((List Int)×Int)⊕((List Int)⊕Bool)) :=
 oun j_ fun served7 v12 =>
 bif (decide (v12<((r7.Left.length:Nat):Int))) then
  Option.bind (
   Option.bind (getI r7.Left v12) fun x5 =>
   Option.bind (
    bif (decide (x5<0)) then
     some true
    else
     some (decide (((r2.length:Nat):Int)≤x5))) (fun v13 =>
    bif v13 then
     some (.inr false)
    else
     Option.bind (getI served7 x5) fun x6 =>
     Option.bind (getI served7 x5) fun x7 =>
     Option.bind (QaO F (Qe.mk p1.Road p1.Vehicles r2 p1.Unload p1.UnloadSecs) r7 x5) fun j_=>oun j_ fun r10 r11 =>
     Option.bind (
      bif (!(decide (r11=0))) then
       some ((Yk served7 x5 (w64 (x6+1))),true)
      else
       bif (!(decide (((r10.length:Nat):Int)=((p1.Vehicles.length:Nat):Int)))) then
        some ((Yk served7 x5 (w64 (x6+1))),true)
       else
        Option.bind (QaD F (Qe.mk p1.Road p1.Vehicles r2 p1.Unload p1.UnloadSecs) r7 x5 r10) fun r12 =>
        some ((Yk served7 x5 (w64 (x6+1))), !r12)) (fun j_=>oun j_ fun served8 v16 =>
      bif v16 then
       some (.inr false)
      else
       Option.bind (
        iter (Yz r10) (((r10.length:Nat):Int).toNat+1) 0) (fun o_=>Qy o_ (fun _ =>
        some (.inl served8)) (fun rv21203=>some (.inr rv21203)))))) (fun o_=>Qy o_ (fun served9 =>
   some (.inl (served9,w64 (v12+1)))) (fun rv21187=>some (.inr (.inr rv21187))))
 else
  some (.inr (.inl served7))
def YV (served10:(List Int)) (v19:Int):Option ((Int)⊕(Unit⊕Bool)) :=
 bif (decide (v19<((served10.length:Nat):Int))) then
  Option.bind (getI served10 v19) fun x9 =>
  bif (!(decide (x9=1))) then
   some (.inr (.inr false))
  else
   some (.inl (w64 (v19+1)))
 else
  some (.inr (.inl ()))
def Zu (F:Nat) (p1:Qe) (c4:(List QA)) (s1:(List Qv)) (day1:Int):Option (Bool) :=
 Option.bind (
  bif (decide (8<p1.Road.Nodes)) then
   some true
  else
   bif (decide (40<((p1.Road.Edges.length:Nat):Int))) then
    some true
   else
    bif (decide (3<((p1.Vehicles.length:Nat):Int))) then
     some true
    else
     bif (decide (5<((c4.length:Nat):Int))) then
      some true
     else
      some (decide (5<((s1.length:Nat):Int)))) (fun v1 =>
  bif v1 then
   Option.bind (Yh F) fun r1 =>
   some r1
  else
   Option.bind (Vu F c4 s1 [] day1 1000 (ZX.mk 0 86400) 60) fun j_=>oun j_ fun r2 r3 =>
   Option.bind (
    bif (!(decide (r3=0))) then
     some true
    else
     some (decide (5<((r2.length:Nat):Int)))) (fun v3 =>
    bif v3 then
     Option.bind (Yh F) fun r4 =>
     some r4
    else
     Option.bind (Qq (Qe.mk p1.Road p1.Vehicles r2 p1.Unload p1.UnloadSecs)) fun r5 =>
     bif (!(decide (r5=0))) then
      Option.bind (Yh F) fun r6 =>
      some r6
     else
      Option.bind (VF F (Qe.mk p1.Road p1.Vehicles r2 p1.Unload p1.UnloadSecs)) fun j_=>oun j_ fun r7 r8 =>
      Option.bind (
       bif (!(decide (r8=0))) then
        some true
       else
        Option.bind (ZW F (Qe.mk p1.Road p1.Vehicles r2 p1.Unload p1.UnloadSecs) r7) fun r9 =>
        some (!(decide (r9=0)))) (fun v9 =>
       bif v9 then
        some false
       else
        Option.bind (Qca (0:Int) ((r2.length:Nat):Int)) fun l1 =>
        Option.bind (
         iter (Yy r2 r7) (((r7.Tours.length:Nat):Int).toNat+1) (l1,0)) (fun o_=>Qy o_ (fun served6 =>
         Option.bind (
          iter (YA F p1 r2 r7) (((r7.Left.length:Nat):Int).toNat+1) (served6,0)) (fun o_=>Qy o_ (fun served10 =>
          Option.bind (
           iter (YV served10) (((served10.length:Nat):Int).toNat+1) 0) (fun o_=>Qy o_ (fun _ =>
           Option.bind (Yh F) fun r13 =>
           some r13) (fun rv21242=>some rv21242))) (fun rv20824=>some rv20824))) (fun rv20701=>some rv20701)))))
def WQ (a1:(List Int)) (b1:(List Int)) (i1:Int):Option ((Int)⊕(Unit⊕Bool)) :=
 bif (decide (i1<((a1.length:Nat):Int))) then
  Option.bind (getI a1 i1) fun x1 =>
  Option.bind (getI b1 i1) fun x2 =>
  bif (!(decide (x1=x2))) then
   some (.inr (.inr false))
  else
   some (.inl (w64 (i1+1)))
 else
  some (.inr (.inl ()))
def VK (a1:(List Int)) (b1:(List Int)):Option (Bool) :=
 bif (!(decide (((a1.length:Nat):Int)=((b1.length:Nat):Int)))) then
  some false
 else
  Option.bind (
   iter (WQ a1 b1) (((a1.length:Nat):Int).toNat+1) 0) (fun o_=>Qy o_ (fun _ =>
   some true) (fun rv20606=>some rv20606))
def WR (a1:(List Qb)) (b1:(List Qb)) (i1:Int):Option ((Int)⊕(Unit⊕Bool)) :=
 bif (decide (i1<((a1.length:Nat):Int))) then
  Option.bind (
   Option.bind (getI a1 i1) fun x1 =>
   Option.bind (getI b1 i1) fun x2 =>
   bif (!(decide (x1.Vehicle=x2.Vehicle))) then
    some true
   else
    Option.bind (getI a1 i1) fun x3 =>
    Option.bind (getI b1 i1) fun x4 =>
    Option.bind (VK x3.Stops x4.Stops) fun r1 =>
    some (!r1)) (fun v1 =>
   bif v1 then
    some (.inr (.inr false))
   else
    some (.inl (w64 (i1+1))))
 else
  some (.inr (.inl ()))
def QaX (a1:(List Qb)) (b1:(List Qb)):Option (Bool) :=
 bif (!(decide (((a1.length:Nat):Int)=((b1.length:Nat):Int)))) then
  some false
 else
  Option.bind (
   iter (WR a1 b1) (((a1.length:Nat):Int).toNat+1) 0) (fun o_=>Qy o_ (fun _ =>
   some true) (fun rv20598=>some rv20598))
def QaY (a1:Qh) (b1:Qh):Option (Bool) :=
 Option.bind (
  Option.bind (QaX a1.Tours b1.Tours) fun r1 =>
  bif r1 then
   Option.bind (VK a1.Left b1.Left) fun r2 =>
   some r2
  else
   some false) (fun v1 =>
  some v1)
def VZ (a1:(List QL)) (b1:(List QL)) (v1:Int):Option ((Int)⊕(Unit⊕Bool)) :=
 bif (decide (v1<((a1.length:Nat):Int))) then
  Option.bind (getI a1 v1) fun x1 =>
  Option.bind (getI b1 v1) fun x2 =>
  bif (!(decide (x1=x2))) then
   some (.inr (.inr false))
  else
   some (.inl (w64 (v1+1)))
 else
  some (.inr (.inl ()))
def QaM (a1:(List QL)) (b1:(List QL)):Option (Bool) :=
 bif (!(decide (((a1.length:Nat):Int)=((b1.length:Nat):Int)))) then
  some false
 else
  Option.bind (
   iter (VZ a1 b1) (((a1.length:Nat):Int).toNat+1) 0) (fun o_=>Qy o_ (fun _ =>
   some true) (fun rv20681=>some rv20681))
def J7 (stops1:(List Int)) (d1:Int) (k1:Int) (unload1:Bool):Option ((List Int)) :=
 Option.bind (WL stops1 0 k1) fun l1 =>
 Option.bind (ZO [] l1) fun l2 =>
 Option.bind (ZO l2 [d1]) fun l3 =>
 Option.bind (
  bif unload1 then
   Option.bind (ZO l3 [(-1)]) fun l4 =>
   some l4
  else
   some l3) (fun l5 =>
  Option.bind (WL stops1 k1 ((stops1.length:Nat):Int)) fun l6 =>
  Option.bind (ZO l5 l6) fun l7 =>
  Option.bind (getI l7 (w64 (((l7.length:Nat):Int)-1))) fun x1 =>
  Option.bind (
   bif (!(decide (x1=(-1)))) then
    Option.bind (ZO l7 [(-1)]) fun l8 =>
    some l8
   else
    some l7) (fun l9 =>
   some l9))
def WO (v1:QD) (kind1:Int):Option (Bool) :=
 Option.bind (
  bif (decide (kind1<0)) then
   some true
  else
   some (decide (16≤kind1))) (fun v2 =>
  bif v2 then
   some false
  else
   Option.bind (Wd (0≤kind1∧kind1≤64)) fun _ =>
   some (decide ((Int.tmod ((IntKind.u64.wrap (v1.Kinds))/2^kind1.toNat) 2)=1)))
def Jg (stops1:(List Int)) (i1:Int) (x1:Int) (k1:Int):Option ((Int)⊕(Unit⊕Int)) :=
 bif (decide (k1<i1)) then
  Option.bind (getI stops1 k1) fun x2 =>
  bif (decide (x2=x1)) then
   some (.inr (.inr 6))
  else
   some (.inl (w64 (k1+1)))
 else
  some (.inr (.inl ()))
def Qcd (p1:Qe) (v1:QD) (stops1:(List Int)) (i1:Int):Option (Int) :=
 Option.bind (getI stops1 i1) fun x1 =>
 bif (decide (x1=(-1))) then
  some 0
 else
  Option.bind (
   bif (decide (x1<0)) then
    some true
   else
    some (decide (((p1.Demands.length:Nat):Int)≤x1))) (fun v2 =>
   bif v2 then
    some 7
   else
    Option.bind (
     iter (Jg stops1 i1 x1) (i1.toNat+1) 0) (fun o_=>Qy o_ (fun _ =>
     Option.bind (getI p1.Demands x1) fun x3 =>
     Option.bind (WO v1 x3.Kind) fun r1 =>
     bif (!r1) then
      some 21
     else
      some 0) (fun rv21561=>some rv21561)))
def Qcr (r1:QR) (n1:Int):Option (Bool) :=
 Option.bind (
  bif (decide (0≤n1)) then
   some (decide (n1<r1.Nodes))
  else
   some false) (fun v1 =>
  some v1)
def Qcc (a1:Qr) (b1:Qr):Option (Qr) :=
 some (Qr.mk (w64 (a1.Secs+b1.Secs)) (w64 (a1.Meters+b1.Meters)))
def Vh (a1:Qr) (b1:Qr):Option (Bool) :=
 Option.bind (
  bif (decide (a1.Secs<0)) then
   some true
  else
   some (decide (b1.Secs<0))) (fun v1 =>
  bif v1 then
   some (decide (0≤a1.Secs))
  else
   Option.bind (
    bif (decide (a1.Secs<b1.Secs)) then
     some true
    else
     bif (decide (a1.Secs=b1.Secs)) then
      some (decide (a1.Meters<b1.Meters))
     else
      some false) (fun v2 =>
    some v2))
def Js (l1:(List Qr)) (j_:(List Qr)×Int):Option (((List Qr)×Int)⊕((List Qr))) :=
 oun j_ fun out1 v1 =>
 bif (decide (v1<((l1.length:Nat):Int))) then
  Option.bind (getI out1 v1) fun x1 =>
  some (.inl ((Yk out1 v1 (Qr.mk (-1) x1.Meters)),w64 (v1+1)))
 else
  some (.inr out1)
def Jt (r1:QR) (j_:(List Qr)×Int):Option (((List Qr)×Int)⊕((List Qr))) :=
 oun j_ fun out4 v2 =>
 bif (decide (v2<((r1.Edges.length:Nat):Int))) then
  Option.bind (
   Option.bind (getI r1.Edges v2) fun x3 =>
   Option.bind (getI out4 x3.From) fun x4 =>
   bif (decide (0≤x4.Secs)) then
    Option.bind (
     Option.bind (getI out4 x3.From) fun x5 =>
     Option.bind (Qcc x5 (Qr.mk x3.Secs x3.Meters)) fun r4 =>
     some (r4.Secs,r4.Meters)) (fun j_=>oun j_ fun f1 f2 =>
     Option.bind (getI out4 x3.To) fun x6 =>
     Option.bind (Vh (Qr.mk f1 f2) x6) fun r5 =>
     bif r5 then
      Option.bind (getI out4 x3.To) fun x7 =>
      some (Yk out4 x3.To (Qr.mk f1 f2))
     else
      some out4)
   else
    some out4) (fun out5 =>
   some (.inl (out5,w64 (v2+1))))
 else
  some (.inr out4)
def WN (r1:QR) (j_:(List Qr)×Int):Option (((List Qr)×Int)⊕((List Qr))) :=
 oun j_ fun out3 n1 =>
 bif (decide (n1<r1.Nodes)) then
  Option.bind (
   Option.bind (
    iter (Jt r1) (((r1.Edges.length:Nat):Int).toNat+1) (out3,0)) (fun out6 =>
    some out6)) (fun out7 =>
   some (.inl (out7,w64 (n1+1))))
 else
  some (.inr out3)
def JB (r1:QR) (f_from1:Int):Option ((List Qr)×Int) :=
 Option.bind (Jd r1) fun r2 =>
 bif (!(decide (r2=0))) then
  some ([],r2)
 else
  Option.bind (Qcr r1 f_from1) fun r3 =>
  bif (!r3) then
   some ([],7)
  else
   Option.bind (Qca (Qr.mk 0 0) r1.Nodes) fun l1 =>
   Option.bind (
    iter (Js l1) (((l1.length:Nat):Int).toNat+1) (l1,0)) (fun out2 =>
    Option.bind (getI out2 f_from1) fun x2 =>
    Option.bind (
     iter (WN r1) (r1.Nodes.toNat+1) ((Yk out2 f_from1 (Qr.mk 0 x2.Meters)),0)) (fun out8 =>
     some (out8,0)))
def W9 (p1:Qe) (f_from1:Int) (f_to1:Int):Option (Qr) :=
 Option.bind (JB p1.Road f_from1) fun j_=>oun j_ fun r1 r2 =>
 Option.bind (
  bif (!(decide (r2=0))) then
   some true
  else
   bif (decide (f_to1<0)) then
    some true
   else
    some (decide (((r1.length:Nat):Int)≤f_to1))) (fun v1 =>
  bif v1 then
   some (Qr.mk (-1) 0)
  else
   Option.bind (getI r1 f_to1) fun x1 =>
   some x1)
def QaL (p1:Qe) (v1:QD) (x1:QT) (s1:Int):Option (QT×Int) :=
 Option.bind (
  bif (decide (0≤s1)) then
   Option.bind (getI p1.Demands s1) fun x2 =>
   some x2.Node
  else
   some p1.Unload) (fun f1 =>
  Option.bind (W9 p1 x1.Node f1) fun r1 =>
  bif (decide (r1.Secs<0)) then
   some ((QT.mk 0 0 0 0 0 0),22)
  else
   bif (decide (s1<0)) then
    some ((QT.mk s1 f1 (w64 (x1.Leave+r1.Secs)) (w64 (x1.Leave+r1.Secs)) (w64 ((w64 (x1.Leave+r1.Secs))+p1.UnloadSecs)) 0),0)
   else
    Option.bind (getI p1.Demands s1) fun x3 =>
    bif (decide (x3.When.To≤(max (w64 (x1.Leave+r1.Secs)) x3.When.From))) then
     some ((QT.mk 0 0 0 0 0 0),19)
    else
     bif (decide (v1.Grams<(w64 (x1.Load+x3.Grams)))) then
      some ((QT.mk 0 0 0 0 0 0),20)
     else
      some ((QT.mk s1 f1 (w64 (x1.Leave+r1.Secs)) (max (w64 (x1.Leave+r1.Secs)) x3.When.From) (w64 ((max (w64 (x1.Leave+r1.Secs)) x3.When.From)+x3.Service)) (w64 (x1.Load+x3.Grams))),0))
def VJ (p1:Qe) (v1:QD) (x1:QT):Option (QT×Int) :=
 Option.bind (W9 p1 x1.Node v1.Depot) fun r1 =>
 bif (decide (r1.Secs<0)) then
  some ((QT.mk 0 0 0 0 0 0),22)
 else
  bif (decide (0<x1.Load)) then
   some ((QT.mk 0 0 0 0 0 0),20)
  else
   bif (decide (v1.Shift.To≤(w64 (x1.Leave+r1.Secs)))) then
    some ((QT.mk 0 0 0 0 0 0),19)
   else
    some ((QT.mk (-2) v1.Depot (w64 (x1.Leave+r1.Secs)) (w64 (x1.Leave+r1.Secs)) (w64 (x1.Leave+r1.Secs)) 0),0)
def ZA (p1:Qe) (t1:Qb) (x1:QD) (j_:Int×Int×Int×Int×Int×Int×(List QT)×Int):Option ((Int×Int×Int×Int×Int×Int×(List QT)×Int)⊕((Int×Int×Int×Int×Int×Int×(List QT))⊕((List QT)×Int×Int))) :=
 oun j_ fun f1 j_=>oun j_ fun f2 j_=>oun j_ fun f3 j_=>oun j_ fun f4 j_=>oun j_ fun f5 j_=>oun j_ fun f6 j_=>oun j_ fun out1 v2 =>
 bif (decide (v2<((t1.Stops.length:Nat):Int))) then
  Option.bind (getI t1.Stops v2) fun x2 =>
  Option.bind (Qcd p1 x1 t1.Stops v2) fun r2 =>
  Option.bind (
   bif (decide (r2=0)) then
    Option.bind (QaL p1 x1 (QT.mk f1 f2 f3 f4 f5 f6) x2) fun j_=>oun j_ fun r3 r4 =>
    some (r3.Stop,r3.Node,r3.Arrive,r3.Start,r3.Leave,r3.Load,r4)
   else
    some (f1,f2,f3,f4,f5,f6,r2)) (fun j_=>oun j_ fun f7 j_=>oun j_ fun f8 j_=>oun j_ fun f9 j_=>oun j_ fun f10 j_=>oun j_ fun f11 j_=>oun j_ fun f12 e1 =>
   bif (!(decide (e1=0))) then
    some (.inr (.inr ([],e1,v2)))
   else
    Option.bind (ZO out1 [(QT.mk f7 f8 f9 f10 f11 f12)]) fun l1 =>
    some (.inl (f7,f8,f9,f10,f11,f12,l1,w64 (v2+1))))
 else
  some (.inr (.inl (f1,f2,f3,f4,f5,f6,out1)))
def WB (p1:Qe) (t1:Qb):Option ((List QT)×Int×Int) :=
 Option.bind (Qq p1) fun r1 =>
 bif (!(decide (r1=0))) then
  some ([],r1,0)
 else
  Option.bind (
   bif (decide (t1.Vehicle<0)) then
    some true
   else
    some (decide (((p1.Vehicles.length:Nat):Int)≤t1.Vehicle))) (fun v1 =>
   bif v1 then
    some ([],7,0)
   else
    bif (decide (40<((t1.Stops.length:Nat):Int))) then
     some ([],8,0)
    else
     Option.bind (getI p1.Vehicles t1.Vehicle) fun x1 =>
     Option.bind (
      iter (ZA p1 t1 x1) (((t1.Stops.length:Nat):Int).toNat+1) (0,x1.Depot,0,0,x1.Shift.From,0,[],0)) (fun o_=>Qy o_ (fun j_=>oun j_ fun f13 j_=>oun j_ fun f14 j_=>oun j_ fun f15 j_=>oun j_ fun f16 j_=>oun j_ fun f17 j_=>oun j_ fun f18 out2 =>
      Option.bind (VJ p1 x1 (QT.mk f13 f14 f15 f16 f17 f18)) fun j_=>oun j_ fun r5 r6 =>
      bif (!(decide (r6=0))) then
       some ([],r6,((t1.Stops.length:Nat):Int))
      else
       Option.bind (ZO out2 [r5]) fun l2 =>
       some (l2,0,0)) (fun rv21536=>some rv21536)))
def Ju (p1:Qe) (r1:(List QT)) (j_:Int×Int×Int):Option ((Int×Int×Int)⊕(Int)) :=
 oun j_ fun sum1 j_=>oun j_ fun f_at1 v1 =>
 bif (decide (v1<((r1.length:Nat):Int))) then
  Option.bind (getI r1 v1) fun x2 =>
  Option.bind (W9 p1 f_at1 x2.Node) fun r4 =>
  some (.inl (w64 (sum1+r4.Meters),x2.Node,w64 (v1+1)))
 else
  some (.inr sum1)
def Zd (p1:Qe) (t1:Qb):Option (Int×Int) :=
 Option.bind (WB p1 t1) fun j_=>oun j_ fun r1 j_=>oun j_ fun r2 r3 =>
 bif (!(decide (r2=0))) then
  some (0,r2)
 else
  Option.bind (getI p1.Vehicles t1.Vehicle) fun x1 =>
  Option.bind (
   iter (Ju p1 r1) (((r1.length:Nat):Int).toNat+1) (0,x1.Depot,0)) (fun sum2 =>
   some (sum2,0))
def ZF (t1:Qb) (d1:Int) (i1:Int):Option ((Int)⊕(Unit⊕((List Qb)×Int))) :=
 bif (decide (i1<((t1.Stops.length:Nat):Int))) then
  Option.bind (getI t1.Stops i1) fun x1 =>
  bif (decide (x1=d1)) then
   some (.inr (.inr ([],6)))
  else
   some (.inl (w64 (i1+1)))
 else
  some (.inr (.inl ()))
def ZG (costs1:(List Int)) (r3:Int) (f_at1:Int):Option ((Int)⊕(Int)) :=
 Option.bind (
  bif (decide (0<f_at1)) then
   Option.bind (getI costs1 (w64 (f_at1-1))) fun x2 =>
   some (decide (r3<x2))
  else
   some false) (fun v3 =>
  bif v3 then
   some (.inl (w64 (f_at1-1)))
  else
   some (.inr f_at1))
def ZH (F:Nat) (p1:Qe) (t1:Qb) (d1:Int) (j_:(List Qb)×(List Int)×Int):Option (((List Qb)×(List Int)×Int)⊕((List Qb))) :=
 oun j_ fun out1 j_=>oun j_ fun costs1 i2 =>
 bif (decide (i2≤(w64 (2*((t1.Stops.length:Nat):Int))))) then
  Option.bind (
   Option.bind (
    Option.bind (J7 t1.Stops d1 (w64 (Int.tdiv i2 2)) (decide ((Int.tmod i2 2)=1))) fun r2 =>
    some r2) (fun f1 =>
    Option.bind (Zd p1 (Qb.mk t1.Vehicle f1)) fun j_=>oun j_ fun r3 r4 =>
    bif (!(decide (r4=0))) then
     some (out1,costs1)
    else
     Option.bind (
      iter (ZG costs1 r3) F ((out1.length:Nat):Int)) (fun f_at2 =>
      Option.bind (WL out1 0 f_at2) fun l1 =>
      Option.bind (ZO [] l1) fun l2 =>
      Option.bind (ZO l2 [(Qb.mk t1.Vehicle f1)]) fun l3 =>
      Option.bind (WL out1 f_at2 ((out1.length:Nat):Int)) fun l4 =>
      Option.bind (ZO l3 l4) fun l5 =>
      Option.bind (WL costs1 0 f_at2) fun l6 =>
      Option.bind (ZO [] l6) fun l7 =>
      Option.bind (ZO l7 [r3]) fun l8 =>
      Option.bind (WL costs1 f_at2 ((costs1.length:Nat):Int)) fun l9 =>
      Option.bind (ZO l8 l9) fun l10 =>
      some (l5,l10)))) (fun j_=>oun j_ fun out2 costs2 =>
   some (.inl (out2,costs2,w64 (i2+1))))
 else
  some (.inr out1)
def Y0 (F:Nat) (p1:Qe) (t1:Qb) (d1:Int):Option ((List Qb)×Int) :=
 Option.bind (Qq p1) fun r1 =>
 bif (!(decide (r1=0))) then
  some ([],r1)
 else
  Option.bind (
   bif (decide (t1.Vehicle<0)) then
    some true
   else
    bif (decide (((p1.Vehicles.length:Nat):Int)≤t1.Vehicle)) then
     some true
    else
     bif (decide (d1<0)) then
      some true
     else
      some (decide (((p1.Demands.length:Nat):Int)≤d1))) (fun v1 =>
   bif v1 then
    some ([],7)
   else
    Option.bind (
     iter (ZF t1 d1) (((t1.Stops.length:Nat):Int).toNat+1) 0) (fun o_=>Qy o_ (fun _ =>
     Option.bind (
      iter (ZH F p1 t1 d1) F ([],[],0)) (fun out3 =>
      some (out3,0))) (fun rv22204=>some rv22204)))
def Ze (F:Nat) (p1:Qe) (t1:Qb) (d1:Int):Option (Qb×Int) :=
 Option.bind (Y0 F p1 t1 d1) fun j_=>oun j_ fun r1 r2 =>
 bif (!(decide (r2=0))) then
  some ((Qb.mk 0 []),r2)
 else
  bif (decide (((r1.length:Nat):Int)=0)) then
   some ((Qb.mk 0 []),40)
  else
   Option.bind (getI r1 0) fun x1 =>
   some (x1,0)
def Jh (p1:Qe) (j_:(List Qb)×Int):Option (((List Qb)×Int)⊕((List Qb))) :=
 oun j_ fun tours1 v1 =>
 bif (decide (v1<((p1.Vehicles.length:Nat):Int))) then
  Option.bind (ZO tours1 [(Qb.mk v1 [])]) fun l1 =>
  some (.inl (l1,w64 (v1+1)))
 else
  some (.inr tours1)
def Yw (F:Nat) (p1:Qe) (tours3:(List Qb)) (d1:Int) (j_:Int×Int×Int×(List Int)×Int):Option ((Int×Int×Int×(List Int)×Int)⊕((Int×Int×(List Int)))) :=
 oun j_ fun f_at1 j_=>oun j_ fun least1 j_=>oun j_ fun f2 j_=>oun j_ fun f3 v2 =>
 bif (decide (v2<((tours3.length:Nat):Int))) then
  Option.bind (
   Option.bind (
    Option.bind (getI tours3 v2) fun x1 =>
    Option.bind (Ze F p1 x1 d1) fun j_=>oun j_ fun r2 r3 =>
    some (r2.Vehicle,r2.Stops,r3)) (fun j_=>oun j_ fun f4 j_=>oun j_ fun f5 e1 =>
    bif (!(decide (e1=0))) then
     some (f_at1,least1,f2,f3)
    else
     Option.bind (Zd p1 (Qb.mk f4 f5)) fun j_=>oun j_ fun r4 r5 =>
     Option.bind (getI tours3 v2) fun x2 =>
     Option.bind (Zd p1 x2) fun j_=>oun j_ fun r6 r7 =>
     Option.bind (
      bif (decide (f_at1<0)) then
       some true
      else
       some (decide ((w64 (r4-r6))<least1))) (fun v4 =>
      bif v4 then
       some (v2,w64 (r4-r6),f4,f5)
      else
       some (f_at1,least1,f2,f3)))) (fun j_=>oun j_ fun f_at2 j_=>oun j_ fun least2 j_=>oun j_ fun f6 f7 =>
   some (.inl (f_at2,least2,f6,f7,w64 (v2+1))))
 else
  some (.inr (f_at1,f2,f3))
def Zn (F:Nat) (p1:Qe) (j_:(List Qb)×(List Int)×Int):Option (((List Qb)×(List Int)×Int)⊕(((List Qb)×(List Int)))) :=
 oun j_ fun tours3 j_=>oun j_ fun f1 d1 =>
 bif (decide (d1<((p1.Demands.length:Nat):Int))) then
  Option.bind (
   Option.bind (
    iter (Yw F p1 tours3 d1) (((tours3.length:Nat):Int).toNat+1) ((-1),0,0,[],0)) (fun j_=>oun j_ fun f_at3 j_=>oun j_ fun f8 f9 =>
    bif (decide (f_at3<0)) then
     Option.bind (ZO f1 [d1]) fun l2 =>
     some (tours3,l2)
    else
     Option.bind (getI tours3 f_at3) fun x3 =>
     some ((Yk tours3 f_at3 (Qb.mk f8 f9)),f1))) (fun j_=>oun j_ fun tours4 f10 =>
   some (.inl (tours4,f10,w64 (d1+1))))
 else
  some (.inr (tours3,f1))
def Ji (tours5:(List Qb)) (j_:(List Qb)×Int):Option (((List Qb)×Int)⊕((List Qb))) :=
 oun j_ fun f12 v5 =>
 bif (decide (v5<((tours5.length:Nat):Int))) then
  Option.bind (
   Option.bind (getI tours5 v5) fun x4 =>
   bif (decide (0<((x4.Stops.length:Nat):Int))) then
    Option.bind (getI tours5 v5) fun x5 =>
    Option.bind (ZO f12 [x5]) fun l3 =>
    some l3
   else
    some f12) (fun f13 =>
   some (.inl (f13,w64 (v5+1))))
 else
  some (.inr f12)
def VA (F:Nat) (p1:Qe):Option (Qh×Int) :=
 Option.bind (Qq p1) fun r1 =>
 bif (!(decide (r1=0))) then
  some ((Qh.mk [] []),r1)
 else
  Option.bind (
   iter (Jh p1) (((p1.Vehicles.length:Nat):Int).toNat+1) ([],0)) (fun tours2 =>
   Option.bind (
    iter (Zn F p1) (((p1.Demands.length:Nat):Int).toNat+1) (tours2,[],0)) (fun j_=>oun j_ fun tours5 f11 =>
    Option.bind (
     iter (Ji tours5) (((tours5.length:Nat):Int).toNat+1) ([],0)) (fun f14 =>
     some ((Qh.mk f14 f11),0))))
def ZT (x2:Qb) (j_:(List Int)×Int):Option (((List Int)×Int)⊕((List Int))) :=
 oun j_ fun out2 v2 =>
 bif (decide (v2<((x2.Stops.length:Nat):Int))) then
  Option.bind (
   Option.bind (getI x2.Stops v2) fun x3 =>
   bif (decide (0≤x3)) then
    Option.bind (getI out2 x3) fun x4 =>
    Option.bind (getI out2 x3) fun x5 =>
    some (Yk out2 x3 (w64 (x4+1)))
   else
    some out2) (fun out3 =>
   some (.inl (out3,w64 (v2+1))))
 else
  some (.inr out2)
def ZU (x1:Qh) (j_:(List Int)×Int):Option (((List Int)×Int)⊕((List Int))) :=
 oun j_ fun out1 v1 =>
 bif (decide (v1<((x1.Tours.length:Nat):Int))) then
  Option.bind (
   Option.bind (getI x1.Tours v1) fun x2 =>
   Option.bind (
    iter (ZT x2) (((x2.Stops.length:Nat):Int).toNat+1) (out1,0)) (fun out4 =>
    some out4)) (fun out5 =>
   some (.inl (out5,w64 (v1+1))))
 else
  some (.inr out1)
def ZV (x1:Qh) (j_:(List Int)×Int):Option (((List Int)×Int)⊕((List Int)⊕((List Int)×Int))) :=
 oun j_ fun out7 v3 =>
 bif (decide (v3<((x1.Left.length:Nat):Int))) then
  Option.bind (getI x1.Left v3) fun x6 =>
  Option.bind (
   bif (decide (x6<0)) then
    some true
   else
    some (decide (((out7.length:Nat):Int)≤x6))) (fun v4 =>
   bif v4 then
    some (.inr (.inr ([],7)))
   else
    Option.bind (getI out7 x6) fun x7 =>
    Option.bind (getI out7 x6) fun x8 =>
    some (.inl ((Yk out7 x6 (w64 (x7+1))),w64 (v3+1))))
 else
  some (.inr (.inl out7))
def QbS (p1:Qe) (x1:Qh):Option ((List Int)×Int) :=
 Option.bind (Qca (0:Int) ((p1.Demands.length:Nat):Int)) fun l1 =>
 Option.bind (
  iter (ZU x1) (((x1.Tours.length:Nat):Int).toNat+1) (l1,0)) (fun out6 =>
  Option.bind (
   iter (ZV x1) (((x1.Left.length:Nat):Int).toNat+1) (out6,0)) (fun o_=>Qy o_ (fun out8 =>
   some (out8,0)) (fun rv24113=>some rv24113)))
def Jv (x1:Qh) (v1:Int) (x2:Qb) (k1:Int):Option ((Int)⊕(Unit⊕Int)) :=
 bif (decide (k1<v1)) then
  Option.bind (getI x1.Tours k1) fun x3 =>
  bif (decide (x3.Vehicle=x2.Vehicle)) then
   some (.inr (.inr 6))
  else
   some (.inl (w64 (k1+1)))
 else
  some (.inr (.inl ()))
def Zs (p1:Qe) (x1:Qh) (v1:Int):Option ((Int)⊕(Unit⊕Int)) :=
 bif (decide (v1<((x1.Tours.length:Nat):Int))) then
  Option.bind (
   Option.bind (getI x1.Tours v1) fun x2 =>
   Option.bind (
    iter (Jv x1 v1 x2) (v1.toNat+1) 0) (fun o_=>Qy o_ (fun _ =>
    Option.bind (WB p1 x2) fun j_=>oun j_ fun r2 j_=>oun j_ fun r3 r4 =>
    bif (!(decide (r3=0))) then
     some (.inr r3)
    else
     some (.inl ())) (fun rv23970=>some (.inr rv23970)))) (fun o_=>Qy o_ (fun _ =>
   some (.inl (w64 (v1+1)))) (fun rv23965=>some (.inr (.inr rv23965))))
 else
  some (.inr (.inl ()))
def Zt (r5:(List Int)) (j_:Bool×Int):Option ((Bool×Int)⊕(Bool⊕Int)) :=
 oun j_ fun missing1 v2 =>
 bif (decide (v2<((r5.length:Nat):Int))) then
  Option.bind (
   Option.bind (getI r5 v2) fun x4 =>
   bif (decide (1<x4)) then
    some (.inr 6)
   else
    bif missing1 then
     some (.inl true)
    else
     some (.inl (decide (x4=0)))) (fun o_=>Qy o_ (fun missing2 =>
   some (.inl (missing2,w64 (v2+1)))) (fun rv24137=>some (.inr (.inr rv24137))))
 else
  some (.inr (.inl missing1))
def QO (p1:Qe) (x1:Qh):Option (Int) :=
 Option.bind (Qq p1) fun r1 =>
 bif (!(decide (r1=0))) then
  some r1
 else
  Option.bind (
   iter (Zs p1 x1) (((x1.Tours.length:Nat):Int).toNat+1) 0) (fun o_=>Qy o_ (fun _ =>
   Option.bind (QbS p1 x1) fun j_=>oun j_ fun r5 r6 =>
   bif (!(decide (r6=0))) then
    some r6
   else
    Option.bind (
     iter (Zt r5) (((r5.length:Nat):Int).toNat+1) (false,0)) (fun o_=>Qy o_ (fun missing3 =>
     bif missing3 then
      some 38
     else
      some 0) (fun rv24129=>some rv24129))) (fun rv23901=>some rv23901))
def Wm (p1:Qe) (x1:Qh) (j_:Int×Int):Option ((Int×Int)⊕(Int)) :=
 oun j_ fun sum1 v1 =>
 bif (decide (v1<((x1.Tours.length:Nat):Int))) then
  Option.bind (getI x1.Tours v1) fun x2 =>
  Option.bind (Zd p1 x2) fun j_=>oun j_ fun r2 r3 =>
  some (.inl (w64 (sum1+r2),w64 (v1+1)))
 else
  some (.inr sum1)
def Yg (p1:Qe) (x1:Qh):Option (Int×Int) :=
 Option.bind (QO p1 x1) fun r1 =>
 bif (!(decide (r1=0))) then
  some (0,r1)
 else
  Option.bind (
   iter (Wm p1 x1) (((x1.Tours.length:Nat):Int).toNat+1) (0,0)) (fun sum2 =>
   some (sum2,0))
def Qfd (x1:Qh) (v1:Int) (v2:Int):Option ((Int)⊕(Unit⊕Qb)) :=
 bif (decide (v2<((x1.Tours.length:Nat):Int))) then
  Option.bind (getI x1.Tours v2) fun x2 =>
  bif (decide (x2.Vehicle=v1)) then
   some (.inr (.inr x2))
  else
   some (.inl (w64 (v2+1)))
 else
  some (.inr (.inl ()))
def QbE (x1:Qh) (v1:Int):Option (Qb) :=
 Option.bind (
  iter (Qfd x1 v1) (((x1.Tours.length:Nat):Int).toNat+1) 0) (fun o_=>Qy o_ (fun _ =>
  some (Qb.mk v1 [])) (fun rv24224=>some rv24224))
def JM (stops1:(List Int)) (d1:Int) (j_:(List Int)×Int):Option (((List Int)×Int)⊕((List Int))) :=
 oun j_ fun out1 v1 =>
 bif (decide (v1<((stops1.length:Nat):Int))) then
  Option.bind (
   Option.bind (getI stops1 v1) fun x1 =>
   bif (!(decide (x1=d1))) then
    Option.bind (ZO out1 [x1]) fun l1 =>
    some l1
   else
    some out1) (fun out2 =>
   some (.inl (out2,w64 (v1+1))))
 else
  some (.inr out1)
def V9 (stops1:(List Int)) (d1:Int):Option ((List Int)) :=
 Option.bind (
  iter (JM stops1 d1) (((stops1.length:Nat):Int).toNat+1) ([],0)) (fun out3 =>
  some out3)
def VG (t1:Qb) (v1:Int):Option ((Int)⊕(Unit⊕Bool)) :=
 bif (decide (v1<((t1.Stops.length:Nat):Int))) then
  Option.bind (getI t1.Stops v1) fun x1 =>
  bif (decide (0≤x1)) then
   some (.inr (.inr true))
  else
   some (.inl (w64 (v1+1)))
 else
  some (.inr (.inl ()))
def Qat (t1:Qb):Option (Bool) :=
 Option.bind (
  iter (VG t1) (((t1.Stops.length:Nat):Int).toNat+1) 0) (fun o_=>Qy o_ (fun _ =>
  some false) (fun rv24320=>some rv24320))
def Qas (l1:(List Int)) (n1:Int) (v1:Int):Option ((Int)⊕(Unit⊕Bool)) :=
 bif (decide (v1<((l1.length:Nat):Int))) then
  Option.bind (getI l1 v1) fun x1 =>
  bif (decide (x1=n1)) then
   some (.inr (.inr true))
  else
   some (.inl (w64 (v1+1)))
 else
  some (.inr (.inl ()))
def V8 (l1:(List Int)) (n1:Int):Option (Bool) :=
 Option.bind (
  iter (Qas l1 n1) (((l1.length:Nat):Int).toNat+1) 0) (fun o_=>Qy o_ (fun _ =>
  some false) (fun rv24441=>some rv24441))
def ZB (F:Nat) (p1:Qe) (x1:Qh) (d1:Int) (v1:Int) (j_:(List Qb)×Int):Option (((List Qb)×Int)⊕((List Qb)⊕(Qh×Bool))) :=
 oun j_ fun f1 v2 =>
 bif (decide (v2<((p1.Vehicles.length:Nat):Int))) then
  Option.bind (
   Option.bind (QbE x1 v2) fun r1 =>
   Option.bind (V9 r1.Stops d1) fun r2 =>
   Option.bind (
    bif (decide (v2=v1)) then
     Option.bind (Ze F p1 (Qb.mk v2 r2) d1) fun j_=>oun j_ fun r3 r4 =>
     bif (!(decide (r4=0))) then
      some (.inr ((Qh.mk [] []),false))
     else
      some (.inl (r3.Vehicle,r3.Stops))
    else
     some (.inl (v2,r2))) (fun o_=>Qy o_ (fun j_=>oun j_ fun f2 f3 =>
    Option.bind (Qat (Qb.mk f2 f3)) fun r5 =>
    bif r5 then
     Option.bind (ZO f1 [(Qb.mk f2 f3)]) fun l1 =>
     some (.inl l1)
    else
     some (.inl f1)) (fun rv24645=>some (.inr rv24645)))) (fun o_=>Qy o_ (fun f4 =>
   some (.inl (f4,w64 (v2+1)))) (fun rv24615=>some (.inr (.inr rv24615))))
 else
  some (.inr (.inl f1))
def Jw (p1:Qe) (x1:Qh) (d1:Int) (j_:(List Int)×Int):Option (((List Int)×Int)⊕((List Int))) :=
 oun j_ fun f6 v5 =>
 bif (decide (v5<((p1.Demands.length:Nat):Int))) then
  Option.bind (
   Option.bind (
    bif (!(decide (v5=d1))) then
     Option.bind (V8 x1.Left v5) fun r6 =>
     some r6
    else
     some false) (fun v6 =>
    bif v6 then
     Option.bind (ZO f6 [v5]) fun l2 =>
     some l2
    else
     some f6)) (fun f7 =>
   some (.inl (f7,w64 (v5+1))))
 else
  some (.inr f6)
def VM (F:Nat) (p1:Qe) (x1:Qh) (d1:Int) (v1:Int):Option (Qh×Bool) :=
 Option.bind (
  iter (ZB F p1 x1 d1 v1) (((p1.Vehicles.length:Nat):Int).toNat+1) ([],0)) (fun o_=>Qy o_ (fun f5 =>
  Option.bind (
   iter (Jw p1 x1 d1) (((p1.Demands.length:Nat):Int).toNat+1) ([],0)) (fun f8 =>
   some ((Qh.mk f5 f8),true))) (fun rv24522=>some rv24522))
def ZR (left1:Int) (cost1:Int) (otherLeft1:Int) (otherCost1:Int):Option (Bool) :=
 Option.bind (
  bif (decide (left1<otherLeft1)) then
   some true
  else
   bif (decide (left1=otherLeft1)) then
    some (decide (cost1<otherCost1))
   else
    some false) (fun v1 =>
  some v1)
def Zo (out2:(List Qh)) (costs2:(List Int)) (r4:Qh) (r6:Int) (f_at1:Int):Option ((Int)⊕(Int)) :=
 Option.bind (
  bif (decide (0<f_at1)) then
   Option.bind (getI out2 (w64 (f_at1-1))) fun x2 =>
   Option.bind (getI costs2 (w64 (f_at1-1))) fun x3 =>
   Option.bind (ZR ((r4.Left.length:Nat):Int) r6 ((x2.Left.length:Nat):Int) x3) fun r9 =>
   some r9
  else
   some false) (fun v5 =>
  bif v5 then
   some (.inl (w64 (f_at1-1)))
  else
   some (.inr f_at1))
def YR (F:Nat) (p1:Qe) (x1:Qh) (r2:Int) (v1:Int) (j_:(List Qh)×(List Int)×Int):Option (((List Qh)×(List Int)×Int)⊕(((List Qh)×(List Int)))) :=
 oun j_ fun out2 j_=>oun j_ fun costs2 v2 =>
 bif (decide (v2<((p1.Vehicles.length:Nat):Int))) then
  Option.bind (
   Option.bind (VM F p1 x1 v1 v2) fun j_=>oun j_ fun r4 r5 =>
   Option.bind (Yg p1 r4) fun j_=>oun j_ fun r6 r7 =>
   Option.bind (
    bif (!r5) then
     some true
    else
     bif (!(decide (r7=0))) then
      some true
     else
      Option.bind (ZR ((r4.Left.length:Nat):Int) r6 ((x1.Left.length:Nat):Int) r2) fun r8 =>
      some (!r8)) (fun v4 =>
    bif v4 then
     some (out2,costs2)
    else
     Option.bind (
      iter (Zo out2 costs2 r4 r6) F ((out2.length:Nat):Int)) (fun f_at2 =>
      Option.bind (WL out2 0 f_at2) fun l1 =>
      Option.bind (ZO [] l1) fun l2 =>
      Option.bind (ZO l2 [r4]) fun l3 =>
      Option.bind (WL out2 f_at2 ((out2.length:Nat):Int)) fun l4 =>
      Option.bind (ZO l3 l4) fun l5 =>
      Option.bind (WL costs2 0 f_at2) fun l6 =>
      Option.bind (ZO [] l6) fun l7 =>
      Option.bind (ZO l7 [r6]) fun l8 =>
      Option.bind (WL costs2 f_at2 ((costs2.length:Nat):Int)) fun l9 =>
      Option.bind (ZO l8 l9) fun l10 =>
      some (l5,l10)))) (fun j_=>oun j_ fun out3 costs3 =>
   some (.inl (out3,costs3,w64 (v2+1))))
 else
  some (.inr (out2,costs2))
def Zp (F:Nat) (p1:Qe) (x1:Qh) (r2:Int) (j_:(List Qh)×(List Int)×Int):Option (((List Qh)×(List Int)×Int)⊕((List Qh))) :=
 oun j_ fun out1 j_=>oun j_ fun costs1 v1 =>
 bif (decide (v1<((p1.Demands.length:Nat):Int))) then
  Option.bind (
   Option.bind (
    iter (YR F p1 x1 r2 v1) (((p1.Vehicles.length:Nat):Int).toNat+1) (out1,costs1,0)) (fun j_=>oun j_ fun out4 costs4 =>
    some (out4,costs4))) (fun j_=>oun j_ fun out5 costs5 =>
   some (.inl (out5,costs5,w64 (v1+1))))
 else
  some (.inr out1)
def VB (F:Nat) (p1:Qe) (x1:Qh):Option ((List Qh)×Int) :=
 Option.bind (QO p1 x1) fun r1 =>
 bif (!(decide (r1=0))) then
  some ([],r1)
 else
  Option.bind (Yg p1 x1) fun j_=>oun j_ fun r2 r3 =>
  Option.bind (
   iter (Zp F p1 x1 r2) (((p1.Demands.length:Nat):Int).toNat+1) ([],[],0)) (fun out6 =>
   some (out6,0))
def WS (F:Nat) (p1:Qe) (j_:(List Qb)×(List Int)):Option (((List Qb)×(List Int))⊕((Qh×Int))) :=
 oun j_ fun f1 f2 =>
 Option.bind (VB F p1 (Qh.mk f1 f2)) fun j_=>oun j_ fun r3 r4 =>
 Option.bind (
  bif (!(decide (r4=0))) then
   some true
  else
   some (decide (((r3.length:Nat):Int)=0))) (fun v3 =>
  bif v3 then
   some (.inr ((Qh.mk f1 f2),r4))
  else
   Option.bind (getI r3 0) fun x1 =>
   some (.inl (x1.Tours,x1.Left)))
def VL (F:Nat) (p1:Qe):Option (Qh×Int) :=
 Option.bind (VA F p1) fun j_=>oun j_ fun r1 r2 =>
 bif (!(decide (r2=0))) then
  some ((Qh.mk [] []),r2)
 else
  Option.bind (
   iter (WS F p1) F (r1.Tours,r1.Left)) (fun rv25851=>some rv25851)
def Va (F:Nat) (p1:Qe) (x1:Qh) (d1:Int) (v1:Int):Option (Int) :=
 Option.bind (getI p1.Vehicles v1) fun x2 =>
 Option.bind (getI p1.Demands d1) fun x3 =>
 Option.bind (WO x2 x3.Kind) fun r1 =>
 bif (!r1) then
  some 21
 else
  Option.bind (getI p1.Demands d1) fun x4 =>
  Option.bind (getI p1.Vehicles v1) fun x5 =>
  bif (decide (x5.Grams<x4.Grams)) then
   some 20
  else
   Option.bind (WB p1 (Qb.mk v1 [d1,(-1)])) fun j_=>oun j_ fun r2 j_=>oun j_ fun r3 r4 =>
   bif (!(decide (r3=0))) then
    some r3
   else
    Option.bind (QbE x1 v1) fun r5 =>
    Option.bind (Y0 F p1 r5 d1) fun j_=>oun j_ fun r6 r7 =>
    bif (decide (((r6.length:Nat):Int)=0)) then
     some 40
    else
     some 0
def QbT (F:Nat) (p1:Qe) (x1:Qh) (d1:Int) (j_:(List QL)×Int):Option (((List QL)×Int)⊕((List QL))) :=
 oun j_ fun out1 v2 =>
 bif (decide (v2<((p1.Vehicles.length:Nat):Int))) then
  Option.bind (Va F p1 x1 d1 v2) fun r3 =>
  Option.bind (ZO out1 [(QL.mk v2 r3)]) fun l1 =>
  some (.inl (l1,w64 (v2+1)))
 else
  some (.inr out1)
def QcX (F:Nat) (p1:Qe) (x1:Qh) (d1:Int):Option ((List QL)×Int) :=
 Option.bind (QO p1 x1) fun r1 =>
 bif (!(decide (r1=0))) then
  some ([],r1)
 else
  Option.bind (
   bif (decide (d1<0)) then
    some true
   else
    some (decide (((p1.Demands.length:Nat):Int)≤d1))) (fun v1 =>
   bif v1 then
    some ([],7)
   else
    Option.bind (V8 x1.Left d1) fun r2 =>
    bif (!r2) then
     some ([],13)
    else
     Option.bind (
      iter (QbT F p1 x1 d1) (((p1.Vehicles.length:Nat):Int).toNat+1) ([],0)) (fun out2 =>
      some (out2,0)))
end Go.Proofs.YtoojkdejnbnniaaGreat
