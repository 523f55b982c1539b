/- ExactBests: for every input the given law returns true, and its arguments read as before. No condition. -/
import Derived.Test.YtilbengnjgglhaaGreatc1x2
import Derived.Test.YtilbengnjgglhaaGreatc1x1
namespace Go.Proofs.YtilbengnjgglhaaGreat
open Go.RowKit
set_option linter.unusedSimpArgs false
set_option linter.unusedVariables false
structure QM where
 From:Int
 To:Int
 Meters:Int
 Secs:Int
deriving DecidableEq
def Qcm (x:QM):List Value:=[.int .i64 x.From,.int .i64 x.To,.int .i64 x.Meters,.int .i64 x.Secs]
def Qw:Rp QM:=Qdf 4 Qcm (fun _=>rfl) (by intro x u hu;simp only[Qcm,List.mem_cons,List.not_mem_nil,or_false] at hu;rcases hu with rfl | rfl | rfl | rfl<;>rfl)
structure QA where
 Nodes:Int
 Edges:(List QM)
deriving DecidableEq
def QgZ:Rp QA where
 sz:=2
 rep μ x cs:= ∃(A1:Option Addr) (c1:Nat),cs=[.int .i64 x.Nodes,.slice A1 x.Edges.length c1]∧(x.Edges.length≤c1∧c1≤maxLen)∧Qk Qw μ A1 x.Edges
 len:=by rintro μ x cs ⟨A1,c1,rfl,_⟩;rfl
 mono:=by rintro μ μ' x cs hm ⟨A1,c1,h,hl1,ha1⟩;exact ⟨A1,c1,h,hl1,ha1.mono hm⟩
 one:=by rintro μ x cs ⟨A1,c1,rfl,_⟩ u hu;simp only[List.mem_cons,List.not_mem_nil,or_false] at hu;rcases hu with rfl | rfl<;>rfl
structure Yd where
 From:Int
 To:Int
deriving DecidableEq
def Qa4 (x:Yd):List Value:=[.int .i64 x.From,.int .i64 x.To]
def QfE:Rp Yd:=Qdf 2 Qa4 (fun _=>rfl) (by intro x u hu;simp only[Qa4,List.mem_cons,List.not_mem_nil,or_false] at hu;rcases hu with rfl | rfl<;>rfl)
structure Qn where
 ID:ByteArray
 Depot:Int
 Shift:Yd
 Grams:Int
 Kinds:Int
deriving DecidableEq
def QaO (x:Qn):List Value:=[.string x.ID,.int .i64 x.Depot,.int .i64 x.Shift.From,.int .i64 x.Shift.To,.int .i64 x.Grams,.int .i64 x.Kinds]
def Qq:Rp Qn:=Qdf 6 QaO (fun _=>rfl) (by intro x u hu;simp only[QaO,List.mem_cons,List.not_mem_nil,or_false] at hu;rcases hu with rfl | rfl | rfl | rfl | rfl | rfl<;>rfl)
structure Qm where
 Container:Int
 Node:Int
 Kind:Int
 Grams:Int
 When:Yd
 Service:Int
deriving DecidableEq
def Qa3 (x:Qm):List Value:=[.int .i64 x.Container,.int .i64 x.Node,.int .i64 x.Kind,.int .i64 x.Grams,.int .i64 x.When.From,.int .i64 x.When.To,.int .i64 x.Service]
def Qs:Rp Qm:=Qdf 7 Qa3 (fun _=>rfl) (by intro x u hu;simp only[Qa3,List.mem_cons,List.not_mem_nil,or_false] at hu;rcases hu with rfl | rfl | rfl | rfl | rfl | rfl | rfl<;>rfl)
structure Qb where
 Road:QA
 Vehicles:(List Qn)
 Demands:(List Qm)
 Unload:Int
 UnloadSecs:Int
deriving DecidableEq
def QeD:Rp Qb where
 sz:=6
 rep μ x cs:= ∃(A1:Option Addr) (c1:Nat) (A2:Option Addr) (c2:Nat) (A3:Option Addr) (c3:Nat),cs=[.int .i64 x.Road.Nodes,.slice A1 x.Road.Edges.length c1,.slice A2 x.Vehicles.length c2,.slice A3 x.Demands.length c3,.int .i64 x.Unload,.int .i64 x.UnloadSecs]∧(x.Road.Edges.length≤c1∧c1≤maxLen)∧Qk Qw μ A1 x.Road.Edges∧(x.Vehicles.length≤c2∧c2≤maxLen)∧Qk Qq μ A2 x.Vehicles∧(x.Demands.length≤c3∧c3≤maxLen)∧Qk Qs μ A3 x.Demands
 len:=by rintro μ x cs ⟨A1,c1,A2,c2,A3,c3,rfl,_⟩;rfl
 mono:=by rintro μ μ' x cs hm ⟨A1,c1,A2,c2,A3,c3,h,hl1,ha1,hl2,ha2,hl3,ha3⟩;exact ⟨A1,c1,A2,c2,A3,c3,h,hl1,ha1.mono hm,hl2,ha2.mono hm,hl3,ha3.mono hm⟩
 one:=by rintro μ x cs ⟨A1,c1,A2,c2,A3,c3,rfl,_⟩ u hu;simp only[List.mem_cons,List.not_mem_nil,or_false] at hu;rcases hu with rfl | rfl | rfl | rfl | rfl | rfl<;>rfl
structure YV where
 From:Int
 To:Int
deriving DecidableEq
def Qc8 (x:YV):List Value:=[.int .i64 x.From,.int .i64 x.To]
def Vo:Rp YV:=Qdf 2 Qc8 (fun _=>rfl) (by intro x u hu;simp only[Qc8,List.mem_cons,List.not_mem_nil,or_false] at hu;rcases hu with rfl | rfl<;>rfl)
structure Wn where
 Nodes:Int
 Arcs:(List YV)
deriving DecidableEq
structure Qi where
 Vehicle:Int
 Stops:(List Int)
deriving DecidableEq
structure Qc where
 Secs:Int
 Meters:Int
deriving DecidableEq
def Qc9 (x:Qc):List Value:=[.int .i64 x.Secs,.int .i64 x.Meters]
def QB:Rp Qc:=Qdf 2 Qc9 (fun _=>rfl) (by intro x u hu;simp only[Qc9,List.mem_cons,List.not_mem_nil,or_false] at hu;rcases hu with rfl | rfl<;>rfl)
structure Y1 where
 node:Int
 time:Int
 load:Int
 meters:Int
deriving DecidableEq
structure QH where
 Stop:Int
 Node:Int
 Arrive:Int
 Start:Int
 Leave:Int
 Load:Int
deriving DecidableEq
def QbK (x:QH):List Value:=[.int .i64 x.Stop,.int .i64 x.Node,.int .i64 x.Arrive,.int .i64 x.Start,.int .i64 x.Leave,.int .i64 x.Load]
def Qbi:Rp QH:=Qdf 6 QbK (fun _=>rfl) (by intro x u hu;simp only[QbK,List.mem_cons,List.not_mem_nil,or_false] at hu;rcases hu with rfl | rfl | rfl | rfl | rfl | rfl<;>rfl)
structure Qr where
 place:Y1
 p:Qb
 v:Qn
 legs:(List (Int×(List Qc)))
 visits:(List QH)
deriving DecidableEq
def Qy (μ:Gh) (v:Value) (x:Qr) (so:Seg):Prop:= ∃(g:Nat) (A5:Option Addr) (c5:Nat) (A6:Option Addr) (c6:Nat) (A7:Option Addr) (c7:Nat) (m16:Nat) (es16:Array MapEntry) (cn16:Nat) (A17:Option Addr) (c17:Nat) (ch17:Seg),v= .pointer (some ⟨g,0,none⟩)∧so=((g,Obj.cells #[.int .i64 x.place.node,.int .i64 x.place.time,.int .i64 x.place.load,.int .i64 x.place.meters,.int .i64 x.p.Road.Nodes,.slice A5 x.p.Road.Edges.length c5,.slice A6 x.p.Vehicles.length c6,.slice A7 x.p.Demands.length c7,.int .i64 x.p.Unload,.int .i64 x.p.UnloadSecs,.string x.v.ID,.int .i64 x.v.Depot,.int .i64 x.v.Shift.From,.int .i64 x.v.Shift.To,.int .i64 x.v.Grams,.int .i64 x.v.Kinds,.map (some m16),.slice A17 x.visits.length c17] 97 (0,0))::((m16,Obj.map es16 cn16)::ch17))∧((x.p.Road.Edges.length≤c5∧c5≤maxLen)∧Qk Qw μ A5 x.p.Road.Edges)∧((x.p.Vehicles.length≤c6∧c6≤maxLen)∧Qk Qq μ A6 x.p.Vehicles)∧((x.p.Demands.length≤c7∧c7≤maxLen)∧Qk Qs μ A7 x.p.Demands)∧QbV QB μ es16 cn16 x.legs∧Own Qbi 158 μ (.slice A17 x.visits.length c17) x.visits ch17
theorem Qy.mono {μ μ':Gh} {v:Value} {x:Qr} {so:Seg} (h:Qy μ v x so) (hm:μ.le μ'):Qy μ' v x so:=by
 obtain ⟨g,A5,c5,A6,c6,A7,c7,m16,es16,cn16,A17,c17,ch17,hv,hs,h5,h6,h7,h16,h17⟩:=h;exact ⟨g,A5,c5,A6,c6,A7,c7,m16,es16,cn16,A17,c17,ch17,hv,hs,⟨h5.1,h5.2.mono hm⟩,⟨h6.1,h6.2.mono hm⟩,⟨h7.1,h7.2.mono hm⟩,h16.mono hm,h17.mono hm⟩
theorem Qy.fl {x:Qr} {g:Nat} {A5:Option Addr} {c5:Nat} {A6:Option Addr} {c6:Nat} {A7:Option Addr} {c7:Nat} {m16:Nat} {es16:Array MapEntry} {cn16:Nat} {A17:Option Addr} {c17:Nat} {ch17:Seg}:([[(g,Obj.cells #[.int .i64 x.place.node,.int .i64 x.place.time,.int .i64 x.place.load,.int .i64 x.place.meters,.int .i64 x.p.Road.Nodes,.slice A5 x.p.Road.Edges.length c5,.slice A6 x.p.Vehicles.length c6,.slice A7 x.p.Demands.length c7,.int .i64 x.p.Unload,.int .i64 x.p.UnloadSecs,.string x.v.ID,.int .i64 x.v.Depot,.int .i64 x.v.Shift.From,.int .i64 x.v.Shift.To,.int .i64 x.v.Grams,.int .i64 x.v.Kinds,.map (some m16),.slice A17 x.visits.length c17] 97 (0,0))],[(m16,Obj.map es16 cn16)],ch17]:List Seg).flatten=((g,Obj.cells #[.int .i64 x.place.node,.int .i64 x.place.time,.int .i64 x.place.load,.int .i64 x.place.meters,.int .i64 x.p.Road.Nodes,.slice A5 x.p.Road.Edges.length c5,.slice A6 x.p.Vehicles.length c6,.slice A7 x.p.Demands.length c7,.int .i64 x.p.Unload,.int .i64 x.p.UnloadSecs,.string x.v.ID,.int .i64 x.v.Depot,.int .i64 x.v.Shift.From,.int .i64 x.v.Shift.To,.int .i64 x.v.Grams,.int .i64 x.v.Kinds,.map (some m16),.slice A17 x.visits.length c17] 97 (0,0))::((m16,Obj.map es16 cn16)::ch17)):=by simp
structure QN where
 node:Int
 leg:Qc
deriving DecidableEq
structure Qz where
 value:QN
 n:Int
deriving DecidableEq
def W4 (x:Qz):List Value:=[.int .i64 x.value.node,.int .i64 x.value.leg.Secs,.int .i64 x.value.leg.Meters,.int .i64 x.n]
def Yf:Rp Qz:=Qdf 4 W4 (fun _=>rfl) (by intro x u hu;simp only[W4,List.mem_cons,List.not_mem_nil,or_false] at hu;rcases hu with rfl | rfl | rfl | rfl<;>rfl)
structure Qa where
 heap:(List Qz)
 count:Int
deriving DecidableEq
def Qe (μ:Gh) (v:Value) (x:Qa) (so:Seg):Prop:= ∃(g:Nat) (A1:Option Addr) (c1:Nat) (ch1:Seg),v= .pointer (some ⟨g,0,none⟩)∧so=((g,Obj.cells #[.func (.func 104) #[] #[],.slice A1 x.heap.length c1,.int .i64 x.count] 176 (0,0))::ch1)∧Own Yf 178 μ (.slice A1 x.heap.length c1) x.heap ch1
theorem Qe.mono {μ μ':Gh} {v:Value} {x:Qa} {so:Seg} (h:Qe μ v x so) (hm:μ.le μ'):Qe μ' v x so:=by
 obtain ⟨g,A1,c1,ch1,hv,hs,h1⟩:=h;exact ⟨g,A1,c1,ch1,hv,hs,h1.mono hm⟩
theorem Qe.fl {x:Qa} {g:Nat} {A1:Option Addr} {c1:Nat} {ch1:Seg}:([[(g,Obj.cells #[.func (.func 104) #[] #[],.slice A1 x.heap.length c1,.int .i64 x.count] 176 (0,0))],ch1]:List Seg).flatten=((g,Obj.cells #[.func (.func 104) #[] #[],.slice A1 x.heap.length c1,.int .i64 x.count] 176 (0,0))::ch1):=by simp
structure Qv where
 P:Qb
 V:Qn
 Demands:(List Int)
 Legs:(List (List Qc))
deriving DecidableEq
structure Ql where
 Stops:(List Int)
 Served:(List Bool)
 At:Int
 Time:Int
 Load:Int
 Meters:Int
deriving DecidableEq
structure Qp where
 Ok:Bool
 Cost:Int
 Stops:(List Int)
deriving DecidableEq
def QV (μ:Gh) (v:Value) (x:(List Int)) (so:Seg):Prop:= ∃(g:Nat) (A0:Option Addr) (c0:Nat) (ch0:Seg),v= .pointer (some ⟨g,0,none⟩)∧so=((g,Obj.cells #[.slice A0 x.length c0] 29 (0,0))::ch0)∧Own QJ 3 μ (.slice A0 x.length c0) x ch0
theorem QV.mono {μ μ':Gh} {v:Value} {x:(List Int)} {so:Seg} (h:QV μ v x so) (hm:μ.le μ'):QV μ' v x so:=by
 obtain ⟨g,A0,c0,ch0,hv,hs,h0⟩:=h;exact ⟨g,A0,c0,ch0,hv,hs,h0.mono hm⟩
theorem QV.fl {x:(List Int)} {g:Nat} {A0:Option Addr} {c0:Nat} {ch0:Seg}:([[(g,Obj.cells #[.slice A0 x.length c0] 29 (0,0))],ch0]:List Seg).flatten=((g,Obj.cells #[.slice A0 x.length c0] 29 (0,0))::ch0):=by simp
def ZD (μ:Gh) (v:Value) (x:(List Bool)) (so:Seg):Prop:= ∃(g:Nat) (A0:Option Addr) (c0:Nat) (ch0:Seg),v= .pointer (some ⟨g,0,none⟩)∧so=((g,Obj.cells #[.slice A0 x.length c0] 79 (0,0))::ch0)∧Own WM 4 μ (.slice A0 x.length c0) x ch0
theorem ZD.mono {μ μ':Gh} {v:Value} {x:(List Bool)} {so:Seg} (h:ZD μ v x so) (hm:μ.le μ'):ZD μ' v x so:=by
 obtain ⟨g,A0,c0,ch0,hv,hs,h0⟩:=h;exact ⟨g,A0,c0,ch0,hv,hs,h0.mono hm⟩
theorem ZD.fl {x:(List Bool)} {g:Nat} {A0:Option Addr} {c0:Nat} {ch0:Seg}:([[(g,Obj.cells #[.slice A0 x.length c0] 79 (0,0))],ch0]:List Seg).flatten=((g,Obj.cells #[.slice A0 x.length c0] 79 (0,0))::ch0):=by simp
def Qdl (x:QM):Prop:=(wfI .i64) x.From∧(wfI .i64) x.To∧(wfI .i64) x.Meters∧(wfI .i64) x.Secs
def Qdm (x:QA):Prop:=(wfI .i64) x.Nodes∧(fun xs:List QM=> ∀x∈xs,Qdl x) x.Edges
def V2 (x:Yd):Prop:=(wfI .i64) x.From∧(wfI .i64) x.To
def Qbt (x:Qn):Prop:=(fun s:ByteArray=>s.size≤maxLen) x.ID∧(wfI .i64) x.Depot∧V2 x.Shift∧(wfI .i64) x.Grams∧(wfI .i64) x.Kinds
def QbU (x:Qm):Prop:=(wfI .i64) x.Container∧(wfI .i64) x.Node∧(wfI .i64) x.Kind∧(wfI .i64) x.Grams∧V2 x.When∧(wfI .i64) x.Service
def Qbs (x:Qb):Prop:=Qdm x.Road∧(fun xs:List Qn=> ∀x∈xs,Qbt x) x.Vehicles∧(fun xs:List Qm=> ∀x∈xs,QbU x) x.Demands∧(wfI .i64) x.Unload∧(wfI .i64) x.UnloadSecs
def Zc (p1:Qb) (v2:Int):Option ((Int)⊕(Unit⊕Bool)) :=
 bif (decide (v2<((p1.Vehicles.length:Nat):Int))) then
  Option.bind (QI p1.Vehicles v2) fun x1 =>
  bif (decide (200<((x1.ID.size:Nat):Int))) then
   some (.inr (.inr true))
  else
   some (.inl (w64 (v2+1)))
 else
  some (.inr (.inl ()))
def Zb (p1:Qb):Option (Bool) :=
 Option.bind (
  bif (decide (600<((p1.Road.Edges.length:Nat):Int))) then
   some true
  else
   bif (decide (30<((p1.Vehicles.length:Nat):Int))) then
    some true
   else
    some (decide (60<((p1.Demands.length:Nat):Int)))) (fun v1 =>
  bif v1 then
   some true
  else
   Option.bind (
    iter (Zc p1) (((p1.Vehicles.length:Nat):Int).toNat+1) 0) (fun o_=>QS o_ (fun _ =>
    some false) (fun rv19=>some rv19)))
def Y7 (p1:Qb) (demands1:(List Int)):Option (Bool) :=
 Option.bind (
  Option.bind (Zb p1) fun r1 =>
  bif r1 then
   some true
  else
   bif (decide (40<((p1.Demands.length:Nat):Int))) then
    some true
   else
    bif (decide (((demands1.length:Nat):Int)=5)) then
     some true
    else
     some (decide (10<((demands1.length:Nat):Int)))) (fun v1 =>
  some v1)
def QY (grams1:Int):Option (Qb) :=
 some (Qb.mk (QA.mk 3 [(QM.mk 0 1 100 60),(QM.mk 1 0 100 60),(QM.mk 1 2 100 60),(QM.mk 2 1 100 60)]) [(Qn.mk ⟨#[118]⟩ 0 (Yd.mk 0 86400) grams1 1)] [(Qm.mk 0 1 0 10 (Yd.mk 0 86400) 0),(Qm.mk 1 2 0 10 (Yd.mk 0 86400) 0)] 0 0)
def JB (r1:QA) (j_:(List YV)×Int):Option (((List YV)×Int)⊕((List YV))) :=
 oun j_ fun f1 v1 =>
 bif (decide (v1<((r1.Edges.length:Nat):Int))) then
  Option.bind (QI r1.Edges v1) fun x1 =>
  Option.bind (Vc f1 [(YV.mk x1.From x1.To)]) fun l1 =>
  some (.inl (l1,w64 (v1+1)))
 else
  some (.inr f1)
def WF (r1:QA):Option (Wn) :=
 Option.bind (
  iter (JB r1) (((r1.Edges.length:Nat):Int).toNat+1) ([],0)) (fun f2 =>
  some (Wn.mk r1.Nodes f2))
def JT (g1:Wn) (v2:Int):Option ((Int)⊕(Unit⊕Int)) :=
 bif (decide (v2<((g1.Arcs.length:Nat):Int))) then
  Option.bind (QI g1.Arcs v2) fun x1 =>
  Option.bind (
   bif (decide (x1.From<0)) then
    some true
   else
    bif (decide (g1.Nodes≤x1.From)) then
     some true
    else
     bif (decide (x1.To<0)) then
      some true
     else
      some (decide (g1.Nodes≤x1.To))) (fun v3 =>
   bif v3 then
    some (.inr (.inr 7))
   else
    some (.inl (w64 (v2+1))))
 else
  some (.inr (.inl ()))
def W6 (g1:Wn):Option (Int) :=
 Option.bind (
  bif (decide (g1.Nodes<0)) then
   some true
  else
   some (decide (64<g1.Nodes))) (fun v1 =>
  bif v1 then
   some 1
  else
   bif (decide (512<((g1.Arcs.length:Nat):Int))) then
    some 8
   else
    Option.bind (
     iter (JT g1) (((g1.Arcs.length:Nat):Int).toNat+1) 0) (fun o_=>QS o_ (fun _ =>
     some 0) (fun rv238=>some rv238)))
def W2 (r1:QA) (v2:Int):Option ((Int)⊕(Unit⊕Int)) :=
 bif (decide (v2<((r1.Edges.length:Nat):Int))) then
  Option.bind (QI r1.Edges v2) fun x1 =>
  Option.bind (
   bif (decide (x1.From<0)) then
    some true
   else
    bif (decide (r1.Nodes≤x1.From)) then
     some true
    else
     bif (decide (x1.To<0)) then
      some true
     else
      some (decide (r1.Nodes≤x1.To))) (fun v3 =>
   bif v3 then
    some (.inr (.inr 7))
   else
    Option.bind (
     bif (decide (x1.From=x1.To)) then
      some true
     else
      bif (decide (x1.Meters<1)) then
       some true
      else
       bif (decide (100000<x1.Meters)) then
        some true
       else
        bif (decide (x1.Secs<1)) then
         some true
        else
         some (decide (100000<x1.Secs))) (fun v4 =>
     bif v4 then
      some (.inr (.inr 1))
     else
      some (.inl (w64 (v2+1)))))
 else
  some (.inr (.inl ()))
def Wm (r1:QA):Option (Int) :=
 Option.bind (
  bif (decide (r1.Nodes<1)) then
   some true
  else
   some (decide (64<r1.Nodes))) (fun v1 =>
  bif v1 then
   some 1
  else
   bif (decide (512<((r1.Edges.length:Nat):Int))) then
    some 8
   else
    Option.bind (
     iter (W2 r1) (((r1.Edges.length:Nat):Int).toNat+1) 0) (fun o_=>QS o_ (fun _ =>
     Option.bind (WF r1) fun r2 =>
     Option.bind (W6 r2) fun r3 =>
     some r3) (fun rv262=>some rv262)))
def J1 (c1:Int):Option (Bool) :=
 Option.bind (
  bif (decide (97≤c1)) then
   bif (decide (c1≤122)) then
    some true
   else
    bif (decide (65≤c1)) then
     some (decide (c1≤90))
    else
     some false
  else
   bif (decide (65≤c1)) then
    some (decide (c1≤90))
   else
    some false) (fun v1 =>
  some v1)
def WD (s1:ByteArray) (i1:Int):Option ((Int)⊕(Unit⊕Bool)) :=
 bif (decide (i1<((s1.size:Nat):Int))) then
  Option.bind (QeC s1 i1) fun x2 =>
  Option.bind (
   Option.bind (J1 x2) fun r2 =>
   bif (!r2) then
    bif (decide (x2<48)) then
     bif (!(decide (x2=45))) then
      bif (!(decide (x2=95))) then
       some (!(decide (x2=46)))
      else
       some false
     else
      some false
    else
     bif (decide (57<x2)) then
      bif (!(decide (x2=45))) then
       bif (!(decide (x2=95))) then
        some (!(decide (x2=46)))
       else
        some false
      else
       some false
     else
      some false
   else
    some false) (fun v2 =>
   bif v2 then
    some (.inr (.inr false))
   else
    some (.inl (w64 (i1+1))))
 else
  some (.inr (.inl ()))
def W7 (F:Nat) (s1:ByteArray):Option (Bool) :=
 Option.bind (
  bif (decide (((s1.size:Nat):Int)<1)) then
   some true
  else
   bif (decide (32<((s1.size:Nat):Int))) then
    some true
   else
    Option.bind (QeC s1 0) fun x1 =>
    Option.bind (J1 x1) fun r1 =>
    some (!r1)) (fun v1 =>
  bif v1 then
   some false
  else
   Option.bind (
    iter (WD s1) F 1) (fun o_=>QS o_ (fun _ =>
    some true) (fun rv303=>some rv303)))
def Wg (F:Nat) (v1:Qn) (nodes1:Int) (materials1:Int):Option (Int) :=
 Option.bind (W7 F v1.ID) fun r1 =>
 bif (!r1) then
  some 5
 else
  Option.bind (
   bif (decide (v1.Depot<0)) then
    some true
   else
    some (decide (nodes1≤v1.Depot))) (fun v2 =>
   bif v2 then
    some 7
   else
    Option.bind (
     bif (decide (v1.Shift.From<0)) then
      some true
     else
      bif (decide (v1.Shift.To≤v1.Shift.From)) then
       some true
      else
       some (decide (86400<v1.Shift.To))) (fun v3 =>
     bif v3 then
      some 19
     else
      Option.bind (
       bif (decide (v1.Grams<1)) then
        some true
       else
        some (decide (1073741824<v1.Grams))) (fun v4 =>
       bif v4 then
        some 1
       else
        Option.bind (
         bif (decide (v1.Kinds<1)) then
          some true
         else
          Option.bind (Vw (0≤materials1∧materials1≤64)) fun _ =>
          some (decide ((w64 (1*2^materials1.toNat))≤v1.Kinds))) (fun v5 =>
         bif v5 then
          some 21
         else
          some 0))))
def ZZ (F:Nat) (l1:(List Qn)) (nodes1:Int) (materials1:Int) (v2:Int):Option ((Int)⊕(Unit⊕Int)) :=
 bif (decide (v2<((l1.length:Nat):Int))) then
  Option.bind (QI l1 v2) fun x1 =>
  Option.bind (Wg F x1 nodes1 materials1) fun r1 =>
  bif (!(decide (r1=0))) then
   some (.inr (.inr r1))
  else
   some (.inl (w64 (v2+1)))
 else
  some (.inr (.inl ()))
def Z0 (l1:(List Qn)) (j_:(List (ByteArray×Bool))×Int):Option (((List (ByteArray×Bool))×Int)⊕(Unit⊕Int)) :=
 oun j_ fun m1 v3 =>
 bif (decide (v3<((l1.length:Nat):Int))) then
  Option.bind (QI l1 v3) fun x2 =>
  bif ((QaJ x2.ID m1).getD false) then
   some (.inr (.inr 6))
  else
   some (.inl ((QeF x2.ID true m1),w64 (v3+1)))
 else
  some (.inr (.inl ()))
def JG (F:Nat) (l1:(List Qn)) (nodes1:Int) (materials1:Int):Option (Int) :=
 Option.bind (
  bif (decide (nodes1<1)) then
   some true
  else
   bif (decide (64<nodes1)) then
    some true
   else
    bif (decide (materials1<1)) then
     some true
    else
     some (decide (16<materials1))) (fun v1 =>
  bif v1 then
   some 1
  else
   bif (decide (((l1.length:Nat):Int)=0)) then
    some 10
   else
    bif (decide (16<((l1.length:Nat):Int))) then
     some 8
    else
     Option.bind (
      iter (ZZ F l1 nodes1 materials1) (((l1.length:Nat):Int).toNat+1) 0) (fun o_=>QS o_ (fun _ =>
      Option.bind (
       iter (Z0 l1) (((l1.length:Nat):Int).toNat+1) ([],0)) (fun o_=>QS o_ (fun _ =>
       some 0) (fun rv322=>some rv322))) (fun rv296=>some rv296)))
def Je (n1:Int) (low1:Int) (high1:Int):Option (Bool) :=
 Option.bind (
  bif (decide (low1≤n1)) then
   some (decide (n1≤high1))
  else
   some false) (fun v1 =>
  some v1)
def Qas (
        x1:Qm) (nodes1:Int) (materials1:Int):Option (Int) :=
 Option.bind (
  Option.bind (Je x1.Container 0 255) fun r1 =>
  bif (!r1) then
   some true
  else
   bif (decide (x1.Node<0)) then
    some true
   else
    bif (decide (nodes1≤x1.Node)) then
     some true
    else
     bif (decide (x1.Kind<0)) then
      some true
     else
      some (decide (materials1≤x1.Kind))) (fun v1 =>
  bif v1 then
   some 7
  else
   Option.bind (
    Option.bind (Je x1.Grams 0 1073741824) fun r2 =>
    bif (!r2) then
     some true
    else
     bif (decide (x1.When.From<0)) then
      some true
     else
      bif (decide (x1.When.To<x1.When.From)) then
       some true
      else
       bif (decide (86400<x1.When.To)) then
        some true
       else
        Option.bind (Je x1.Service 0 3600) fun r3 =>
        some (!r3)) (fun v2 =>
    bif v2 then
     some 1
    else
     some 0))
def WB (y1:Qm) (b1:Qm):Option (Bool) :=
 some (decide (y1.Container=b1.Container))
def Ym (s1:(List Qm)) (b1:Qm) (v1:Int):Option ((Int)⊕(Unit⊕Int)) :=
 bif (decide (v1<((s1.length:Nat):Int))) then
  Option.bind (QI s1 v1) fun x1 =>
  Option.bind (WB x1 b1) fun r1 =>
  bif r1 then
   some (.inr (.inr v1))
  else
   some (.inl (w64 (v1+1)))
 else
  some (.inr (.inl ()))
def Zf (s1:(List Qm)) (b1:Qm):Option (Int) :=
 Option.bind (
  iter (Ym s1 b1) (((s1.length:Nat):Int).toNat+1) 0) (fun o_=>QS o_ (fun _ =>
  some (-1)) (fun rv356=>some rv356))
def Yl (s1:(List Qm)) (b1:Qm):Option (Bool) :=
 Option.bind (Zf s1 b1) fun r1 =>
 some (decide (0≤r1))
def Wh (l1:(List Qm)) (nodes1:Int) (materials1:Int) (v1:Int):Option ((Int)⊕(Unit⊕Int)) :=
 bif (decide (v1<((l1.length:Nat):Int))) then
  Option.bind (QI l1 v1) fun x1 =>
  Option.bind (Qas x1 nodes1 materials1) fun r1 =>
  bif (!(decide (r1=0))) then
   some (.inr (.inr r1))
  else
   some (.inl (w64 (v1+1)))
 else
  some (.inr (.inl ()))
def JA (l1:(List Qm)) (v2:Int):Option ((Int)⊕(Unit⊕Int)) :=
 bif (decide (v2<((l1.length:Nat):Int))) then
  Option.bind (QI l1 v2) fun x2 =>
  Option.bind (WH l1 0 v2) fun l2 =>
  Option.bind (Yl l2 x2) fun r2 =>
  bif r2 then
   some (.inr (.inr 6))
  else
   some (.inl (w64 (v2+1)))
 else
  some (.inr (.inl ()))
def WA (l1:(List Qm)) (nodes1:Int) (materials1:Int):Option (Int) :=
 bif (decide (32<((l1.length:Nat):Int))) then
  some 8
 else
  Option.bind (
   iter (Wh l1 nodes1 materials1) (((l1.length:Nat):Int).toNat+1) 0) (fun o_=>QS o_ (fun _ =>
   Option.bind (
    iter (JA l1) (((l1.length:Nat):Int).toNat+1) 0) (fun o_=>QS o_ (fun _ =>
    some 0) (fun rv347=>some rv347))) (fun rv334=>some rv334))
def WV (
        F:Nat) (p1:Qb):Option (Int) :=
 Option.bind (Wm p1.Road) fun r1 =>
 bif (!(decide (r1=0))) then
  some r1
 else
  Option.bind (JG F p1.Vehicles p1.Road.Nodes 16) fun r2 =>
  bif (!(decide (r2=0))) then
   some r2
  else
   Option.bind (WA p1.Demands p1.Road.Nodes 16) fun r3 =>
   bif (!(decide (r3=0))) then
    some r3
   else
    Option.bind (
     bif (decide (p1.Unload<0)) then
      some true
     else
      some (decide (p1.Road.Nodes≤p1.Unload))) (fun v2 =>
     bif v2 then
      some 7
     else
      Option.bind (
       bif (decide (p1.UnloadSecs<0)) then
        some true
       else
        some (decide (7200<p1.UnloadSecs))) (fun v3 =>
       bif v3 then
        some 1
       else
        some 0))
def WY (d1:Int) (b1:Qb):Option (Bool) :=
 Option.bind (
  bif (decide (d1<0)) then
   some true
  else
   some (decide (((b1.Demands.length:Nat):Int)≤d1))) (fun v1 =>
  some v1)
def YC (s1:(List Int)) (b1:Qb) (v1:Int):Option ((Int)⊕(Unit⊕Int)) :=
 bif (decide (v1<((s1.length:Nat):Int))) then
  Option.bind (QI s1 v1) fun x1 =>
  Option.bind (WY x1 b1) fun r1 =>
  bif r1 then
   some (.inr (.inr v1))
  else
   some (.inl (w64 (v1+1)))
 else
  some (.inr (.inl ()))
def ZE (s1:(List Int)) (b1:Qb):Option (Int) :=
 Option.bind (
  iter (YC s1 b1) (((s1.length:Nat):Int).toNat+1) 0) (fun o_=>QS o_ (fun _ =>
  some (-1)) (fun rv403=>some rv403))
def YB (s1:(List Int)) (b1:Qb):Option (Bool) :=
 Option.bind (ZE s1 b1) fun r1 =>
 some (decide (0≤r1))
def ZQ (s1:(List Int)) (v1:Int) (v2:Int):Option ((Int)⊕(Unit⊕Int)) :=
 bif (decide (v2<((s1.length:Nat):Int))) then
  Option.bind (QI s1 v2) fun x1 =>
  bif (decide (v1=x1)) then
   some (.inr (.inr v2))
  else
   some (.inl (w64 (v2+1)))
 else
  some (.inr (.inl ()))
def J3 (s1:(List Int)) (v1:Int):Option (Int) :=
 Option.bind (
  iter (ZQ s1 v1) (((s1.length:Nat):Int).toNat+1) 0) (fun o_=>QS o_ (fun _ =>
  some (-1)) (fun rv431=>some rv431))
def YS (s1:(List Int)) (v1:Int):Option (Bool) :=
 Option.bind (J3 s1 v1) fun r1 =>
 some (decide (0≤r1))
def Jn (demands1:(List Int)) (v3:Int):Option ((Int)⊕(Unit⊕Int)) :=
 bif (decide (v3<((demands1.length:Nat):Int))) then
  Option.bind (QI demands1 v3) fun x1 =>
  Option.bind (WH demands1 0 v3) fun l1 =>
  Option.bind (YS l1 x1) fun r3 =>
  bif r3 then
   some (.inr (.inr 6))
  else
   some (.inl (w64 (v3+1)))
 else
  some (.inr (.inl ()))
def JR (F:Nat) (p1:Qb) (vehicle1:Int) (demands1:(List Int)):Option (Int) :=
 Option.bind (WV F p1) fun r1 =>
 bif (!(decide (r1=0))) then
  some r1
 else
  Option.bind (
   bif (decide (vehicle1<0)) then
    some true
   else
    some (decide (((p1.Vehicles.length:Nat):Int)≤vehicle1))) (fun v2 =>
   bif v2 then
    some 7
   else
    bif (decide (5<((demands1.length:Nat):Int))) then
     some 8
    else
     Option.bind (YB demands1 p1) fun r2 =>
     bif r2 then
      some 7
     else
      Option.bind (
       iter (Jn demands1) (((demands1.length:Nat):Int).toNat+1) 0) (fun o_=>QS o_ (fun _ =>
       some 0) (fun rv446=>some rv446)))
def JD (v1:Qn) (kind1:Int):Option (Bool) :=
 Option.bind (
  bif (decide (0≤kind1)) then
   bif (decide (kind1<16)) then
    Option.bind (Vw (0≤kind1∧kind1≤64)) fun _ =>
    some (decide ((QfS .i64 (v1.Kinds/2^kind1.toNat) 1)=1))
   else
    some false
  else
   some false) (fun v2 =>
  some v2)
def Vq:Option (Qc) :=
 some (Qc.mk (-1) 0)
def Jc:Option (Qa) :=
 some (Qa.mk [] 0)
def Wt (a1:Qc) (b1:Qc):Option (Bool) :=
 Option.bind (
  Option.bind (Vq) fun r1 =>
  bif (decide (b1=r1)) then
   some true
  else
   bif (decide (a1.Secs<b1.Secs)) then
    some true
   else
    bif (decide (a1.Secs=b1.Secs)) then
     some (decide (a1.Meters<b1.Meters))
    else
     some false) (fun v1 =>
  some v1)
def JE (a1:QN) (b1:QN):Option (Bool) :=
 Option.bind (
  bif (!(decide (a1.leg=b1.leg))) then
   Option.bind (Wt a1.leg b1.leg) fun r1 =>
   some r1
  else
   some false) (fun v1 =>
  some v1)
def Yt (q1:Qa) (i1:Int) (k1:Int):Option (Bool) :=
 Option.bind (
  Option.bind (QI q1.heap i1) fun x1 =>
  Option.bind (QI q1.heap k1) fun x2 =>
  some (x1.value.node,x1.value.leg.Secs,x1.value.leg.Meters,x1.n,x2.value.node,x2.value.leg.Secs,x2.value.leg.Meters,x2.n)) (fun j_=>oun j_ fun f1 j_=>oun j_ fun f2 j_=>oun j_ fun f3 j_=>oun j_ fun f4 j_=>oun j_ fun f5 j_=>oun j_ fun f6 j_=>oun j_ fun f7 f8 =>
  Option.bind (JE (QN.mk f1 (Qc.mk f2 f3)) (QN.mk f5 (Qc.mk f6 f7))) fun r1 =>
  bif r1 then
   some true
  else
   Option.bind (
    bif (decide (f4<f8)) then
     Option.bind (JE (QN.mk f5 (Qc.mk f6 f7)) (QN.mk f1 (Qc.mk f2 f3))) fun r2 =>
     some (!r2)
    else
     some false) (fun v1 =>
    some v1))
def Ys (q1:Qa) (i1:Int) (k1:Int):Option (Qa) :=
 Option.bind (QI q1.heap k1) fun x1 =>
 Option.bind (QI q1.heap i1) fun x2 =>
 Option.bind (QI q1.heap i1) fun x3 =>
 Option.bind (QI (ZS q1.heap i1 x1) k1) fun x4 =>
 some (Qa.mk (ZS (ZS q1.heap i1 x1) k1 x2) q1.count)
def Yo (j_:Qa×Int):Option ((Qa×Int)⊕(Qa⊕Qa)) :=
 oun j_ fun q2 i1 =>
 bif (decide (0<i1)) then
  Option.bind (Yt q2 i1 (w64 (Int.tdiv (w64 (i1-1)) 2))) fun r1 =>
  bif (!r1) then
   some (.inr (.inr q2))
  else
   Option.bind (Ys q2 i1 (w64 (Int.tdiv (w64 (i1-1)) 2))) fun r2 =>
   some (.inl (r2,w64 (Int.tdiv (w64 (i1-1)) 2)))
 else
  some (.inr (.inl q2))
def YK (F:Nat) (q1:Qa) (x1:QN):Option (Qa) :=
 Option.bind (Vc q1.heap [(Qz.mk x1 q1.count)]) fun l1 =>
 Option.bind (
  iter (Yo) F ((Qa.mk l1 (w64 (q1.count+1))),w64 (((l1.length:Nat):Int)-1))) (fun o_=>QS o_ (fun q3 =>
  some q3) (fun rv1036=>some rv1036))
def Zx (q1:Qa):Option (Int) :=
 some ((q1.heap.length:Nat):Int)
def Zl (q1:Qa):Option (QN×Bool) :=
 Option.bind (Zx q1) fun r1 =>
 bif (decide (r1=0)) then
  some ((QN.mk 0 (Qc.mk 0 0)),false)
 else
  Option.bind (QI q1.heap 0) fun x1 =>
  some (x1.value,true)
def pqueue_Queue_stop_sink_l1 (i1:Int) (j_:(List Qz)×Int×Int×Int):Option (((List Qz)×Int×Int×Int)⊕(((List Qz)×Int×Int))) :=
 oun j_ fun f3 j_=>oun j_ fun f4 j_=>oun j_ fun next1 k1 =>
 Option.bind (
  bif (decide (k1≤(w64 ((w64 (2*i1))+2)))) then
   some (decide (k1<((f3.length:Nat):Int)))
  else
   some false) (fun v1 =>
  bif v1 then
   Option.bind (
    Option.bind (Yt (Qa.mk f3 f4) k1 next1) fun r1 =>
    bif r1 then
     some ((Qa.mk f3 f4).heap,k1)
    else
     some ((Qa.mk f3 f4).heap,next1)) (fun j_=>oun j_ fun f5 next2 =>
    some (.inl (f5,(Qa.mk f3 f4).count,next2,w64 (k1+1))))
  else
   some (.inr (f3,f4,next1)))
def Yp (F:Nat) (j_:(List Qz)×Int×Int):Option (((List Qz)×Int×Int)⊕(Qa)) :=
 oun j_ fun f1 j_=>oun j_ fun f2 i1 =>
 Option.bind (
  iter (pqueue_Queue_stop_sink_l1 i1) F (f1,f2,i1,w64 ((w64 (2*i1))+1))) (fun j_=>oun j_ fun f6 j_=>oun j_ fun f7 next3 =>
  bif (decide (next3=i1)) then
   some (.inr (Qa.mk f6 f7))
  else
   Option.bind (Ys (Qa.mk f6 f7) i1 next3) fun r2 =>
   some (.inl (r2.heap,r2.count,next3)))
def Yr (F:Nat) (q1:Qa):Option (Qa) :=
 Option.bind (
  iter (Yp F) F (q1.heap,q1.count,0)) (fun rv1244=>some rv1244)
def Yz (F:Nat) (q1:Qa):Option (QN×Bool×Qa) :=
 Option.bind (Zl q1) fun j_=>oun j_ fun r1 r2 =>
 bif (!r2) then
  some (r1,false,q1)
 else
  Option.bind (Ys q1 0 (w64 (((q1.heap.length:Nat):Int)-1))) fun r3 =>
  Option.bind (WH r3.heap (w64 (((q1.heap.length:Nat):Int)-1)) ((r3.heap.length:Nat):Int)) fun l1 =>
  Option.bind (WH (QdV r3.heap (w64 (((q1.heap.length:Nat):Int)-1)) (Qz.mk (QN.mk 0 (Qc.mk 0 0)) 0)) 0 (w64 (((q1.heap.length:Nat):Int)-1))) fun l2 =>
  Option.bind (Yr F (Qa.mk l2 r3.count)) fun r4 =>
  some (r1,true,r4)
def Vj (x1:QM):Option (Int×Int) :=
 some (x1.From,x1.To)
def VA (l1:Qc) (x1:QM):Option (Qc) :=
 some (Qc.mk (w64 (l1.Secs+x1.Secs)) (w64 (l1.Meters+x1.Meters)))
def Zs (l1:(List Qc)) (j_:(List Qc)×Int):Option (((List Qc)×Int)⊕((List Qc))) :=
 oun j_ fun out1 v1 =>
 bif (decide (v1<((l1.length:Nat):Int))) then
  Option.bind (Vq) fun r2 =>
  Option.bind (QI out1 v1) fun x1 =>
  some (.inl ((ZS out1 v1 r2),w64 (v1+1)))
 else
  some (.inr out1)
def Zt (F:Nat) (r1:QA) (r5:QN) (j_:(List Qc)×Qa×Int):Option (((List Qc)×Qa×Int)⊕(((List Qc)×Qa))) :=
 oun j_ fun out4 j_=>oun j_ fun q2 v2 =>
 bif (decide (v2<((r1.Edges.length:Nat):Int))) then
  Option.bind (
   Option.bind (QI r1.Edges v2) fun x4 =>
   Option.bind (Vj x4) fun j_=>oun j_ fun r8 r9 =>
   bif (!(decide (r8=r5.node))) then
    some (out4,q2)
   else
    Option.bind (VA r5.leg x4) fun r10 =>
    Option.bind (QI out4 r9) fun x5 =>
    Option.bind (Wt r10 x5) fun r11 =>
    bif r11 then
     Option.bind (QI out4 r9) fun x6 =>
     Option.bind (YK F q2 (QN.mk r9 r10)) fun r12 =>
     some ((ZS out4 r9 r10),r12)
    else
     some (out4,q2)) (fun j_=>oun j_ fun out5 q3 =>
   some (.inl (out5,q3,w64 (v2+1))))
 else
  some (.inr (out4,q2))
def Zu (F:Nat) (r1:QA) (j_:(List Qc)×Qa):Option (((List Qc)×Qa)⊕((List Qc))) :=
 oun j_ fun out3 q1 =>
 Option.bind (Yz F q1) fun j_=>oun j_ fun r5 j_=>oun j_ fun r6 r7 =>
 bif (!r6) then
  some (.inr out3)
 else
  Option.bind (QI out3 r5.node) fun x3 =>
  bif (!(decide (x3=r5.leg))) then
   some (.inl (out3,r7))
  else
   Option.bind (
    iter (Zt F r1 r5) (((r1.Edges.length:Nat):Int).toNat+1) (out3,r7,0)) (fun j_=>oun j_ fun out6 q4 =>
    some (.inl (out6,q4)))
def Js (F:Nat) (r1:QA) (f_from1:Int):Option ((List Qc)) :=
 Option.bind (WE (Qc.mk 0 0) r1.Nodes) fun l1 =>
 Option.bind (
  iter (Zs l1) (((l1.length:Nat):Int).toNat+1) (l1,0)) (fun out2 =>
  Option.bind (QI out2 f_from1) fun x2 =>
  Option.bind (Jc) fun r3 =>
  Option.bind (YK F r3 (QN.mk f_from1 (Qc.mk 0 0))) fun r4 =>
  Option.bind (
   iter (Zu F r1) F ((ZS out2 f_from1 (Qc.mk 0 0)),r4)) (fun rv1054=>some rv1054))
def Vp (F:Nat) (r1:QA) (f_from1:Int):Option ((List Qc)×Int) :=
 Option.bind (Wm r1) fun r2 =>
 bif (!(decide (r2=0))) then
  some ([],r2)
 else
  Option.bind (
   bif (decide (f_from1<0)) then
    some true
   else
    some (decide (r1.Nodes≤f_from1))) (fun v2 =>
   bif v2 then
    some ([],7)
   else
    Option.bind (Js F r1 f_from1) fun r3 =>
    some (r3,0))
def JF (F:Nat) (w1:Qr) (f_to1:Int):Option (Qc×Bool×Qr) :=
 Option.bind (
  bif (!((Wj w1.place.node w1.legs).isSome)) then
   Option.bind (Vp F w1.p.Road w1.place.node) fun j_=>oun j_ fun r1 r2 =>
   some (r1,(V8 w1.place.node r1 w1.legs))
  else
   some (((Wj w1.place.node w1.legs).getD []),w1.legs)) (fun j_=>oun j_ fun l1 m1 =>
  Option.bind (QI l1 f_to1) fun x1 =>
  Option.bind (QI l1 f_to1) fun x2 =>
  some (x1,(decide (0≤x2.Secs)),(Qr.mk w1.place w1.p w1.v m1 w1.visits)))
def Z2 (w1:Qr) (stop1:Int) (arrive1:Int) (start1:Int):Option (Qr) :=
 Option.bind (Vc w1.visits [(QH.mk stop1 w1.place.node arrive1 start1 w1.place.time w1.place.load)]) fun l1 =>
 some (Qr.mk w1.place w1.p w1.v w1.legs l1)
def Z6 (F:Nat) (w1:Qr) (t1:Qi) (i1:Int):Option (Int×Qr) :=
 Option.bind (QI t1.Stops i1) fun x1 =>
 Option.bind (
  bif (!(decide (x1=(-1)))) then
   Option.bind (
    bif (decide (x1<0)) then
     some true
    else
     some (decide (((w1.p.Demands.length:Nat):Int)≤x1))) (fun v1 =>
    bif v1 then
     some (.inr (7,w1))
    else
     Option.bind (WH t1.Stops 0 i1) fun l1 =>
     Option.bind (YS l1 x1) fun r1 =>
     bif r1 then
      some (.inr (6,w1))
     else
      Option.bind (QI w1.p.Demands x1) fun x2 =>
      Option.bind (JD w1.v x2.Kind) fun r2 =>
      bif (!r2) then
       some (.inr (21,w1))
      else
       Option.bind (QI w1.p.Demands x1) fun x3 =>
       some (.inl x3.Node))
  else
   some (.inl w1.p.Unload)) (fun o_=>QS o_ (fun node1 =>
  Option.bind (JF F w1 node1) fun j_=>oun j_ fun r3 j_=>oun j_ fun r4 r5 =>
  bif (!r4) then
   some (22,r5)
  else
   bif (decide (x1=(-1))) then
    Option.bind (Z2 (Qr.mk (Y1.mk node1 (w64 ((w64 (r5.place.time+r3.Secs))+r5.p.UnloadSecs)) 0 (w64 (r5.place.meters+r3.Meters))) r5.p r5.v r5.legs r5.visits) x1 (w64 (r5.place.time+r3.Secs)) (w64 (r5.place.time+r3.Secs))) fun r6 =>
    some (0,r6)
   else
    Option.bind (QI r5.p.Demands x1) fun x4 =>
    bif (decide (x4.When.To≤(max (w64 (r5.place.time+r3.Secs)) x4.When.From))) then
     some (19,(Qr.mk (Y1.mk node1 (w64 (r5.place.time+r3.Secs)) r5.place.load (w64 (r5.place.meters+r3.Meters))) r5.p r5.v r5.legs r5.visits))
    else
     bif (decide (r5.v.Grams<(w64 (r5.place.load+x4.Grams)))) then
      some (20,(Qr.mk (Y1.mk node1 (w64 (r5.place.time+r3.Secs)) r5.place.load (w64 (r5.place.meters+r3.Meters))) r5.p r5.v r5.legs r5.visits))
     else
      Option.bind (Z2 (Qr.mk (Y1.mk node1 (w64 ((max (w64 (r5.place.time+r3.Secs)) x4.When.From)+x4.Service)) (w64 (r5.place.load+x4.Grams)) (w64 (r5.place.meters+r3.Meters))) r5.p r5.v r5.legs r5.visits) x1 (w64 (r5.place.time+r3.Secs)) (max (w64 (r5.place.time+r3.Secs)) x4.When.From)) fun r7 =>
      some (0,r7)) (fun rv2361=>some rv2361))
def Jt (F:Nat) (w1:Qr):Option (Int×Qr) :=
 Option.bind (JF F w1 w1.v.Depot) fun j_=>oun j_ fun r1 j_=>oun j_ fun r2 r3 =>
 bif (!r2) then
  some (22,r3)
 else
  bif (!(decide (r3.place.load=0))) then
   some (20,r3)
  else
   bif (decide (r3.v.Shift.To≤(w64 (r3.place.time+r1.Secs)))) then
    some (19,(Qr.mk (Y1.mk r3.v.Depot (w64 (r3.place.time+r1.Secs)) r3.place.load (w64 (r3.place.meters+r1.Meters))) r3.p r3.v r3.legs r3.visits))
   else
    Option.bind (Z2 (Qr.mk (Y1.mk r3.v.Depot (w64 (r3.place.time+r1.Secs)) r3.place.load (w64 (r3.place.meters+r1.Meters))) r3.p r3.v r3.legs r3.visits) (-2) (w64 (r3.place.time+r1.Secs)) (w64 (r3.place.time+r1.Secs))) fun r4 =>
    some (0,r4)
def Zr (F:Nat) (t1:Qi) (j_:Qr×Int×Int):Option ((Qr×Int×Int)⊕((Qr×Int×Int))) :=
 oun j_ fun q1 j_=>oun j_ fun e1 f_at1 =>
 bif (decide (f_at1<((t1.Stops.length:Nat):Int))) then
  Option.bind (Z6 F q1 t1 f_at1) fun j_=>oun j_ fun r1 r2 =>
  bif (!(decide (r1=0))) then
   some (.inr (r2,r1,f_at1))
  else
   some (.inl (r2,r1,w64 (f_at1+1)))
 else
  some (.inr (q1,e1,f_at1))
def Wu (F:Nat) (p1:Qb) (t1:Qi):Option ((Option Qr)×Int×Int) :=
 Option.bind (
  bif (decide (t1.Vehicle<0)) then
   some true
  else
   some (decide (((p1.Vehicles.length:Nat):Int)≤t1.Vehicle))) (fun v1 =>
  bif v1 then
   some (none,7,0)
  else
   bif (decide (40<((t1.Stops.length:Nat):Int))) then
    some (none,8,0)
   else
    Option.bind (QI p1.Vehicles t1.Vehicle) fun x1 =>
    Option.bind (
     iter (Zr F t1) (((t1.Stops.length:Nat):Int).toNat+1) ((Qr.mk (Y1.mk x1.Depot x1.Shift.From 0 0) p1 x1 [] []),0,0)) (fun j_=>oun j_ fun q2 j_=>oun j_ fun e2 f_at2 =>
     Option.bind (
      bif (decide (e2=0)) then
       Option.bind (Jt F q2) fun j_=>oun j_ fun r3 r4 =>
       some (r4,r3)
      else
       some (q2,e2)) (fun j_=>oun j_ fun q3 e3 =>
      bif (!(decide (e3=0))) then
       some (none,e3,f_at2)
      else
       some ((some q3),0,0))))
def Qai (F:Nat) (p1:Qb) (t1:Qi):Option (Int×Int) :=
 Option.bind (WV F p1) fun r1 =>
 bif (!(decide (r1=0))) then
  some (0,r1)
 else
  Option.bind (Wu F p1 t1) fun j_=>oun j_ fun r2 j_=>oun j_ fun r3 r4 =>
  bif (!(decide (r3=0))) then
   some (0,r3)
  else
   Option.bind (r2) fun q1 =>
   some (q1.place.meters,0)
def Wd (x1:Int):Option (Bool) :=
 some (!(decide (x1=x1)))
def Jz (x1:Int) (y1:Int):Option (Int) :=
 Option.bind (Wd x1) fun r1 =>
 Option.bind (Wd y1) fun r2 =>
 bif r1 then
  bif r2 then
   some 0
  else
   some (-1)
 else
  bif r2 then
   some 1
  else
   bif (decide (x1<y1)) then
    some (-1)
   else
    bif (decide (y1<x1)) then
     some 1
    else
     some 0
def Q9 (s11:(List Int)) (s21:(List Int)) (v1:Int):Option ((Int)⊕(Unit⊕Int)) :=
 bif (decide (v1<((s11.length:Nat):Int))) then
  Option.bind (QI s11 v1) fun x1 =>
  bif (decide (((s21.length:Nat):Int)≤v1)) then
   some (.inr (.inr 1))
  else
   Option.bind (QI s21 v1) fun x2 =>
   Option.bind (Jz x1 x2) fun r1 =>
   bif (!(decide (r1=0))) then
    some (.inr (.inr r1))
   else
    some (.inl (w64 (v1+1)))
 else
  some (.inr (.inl ()))
def ZA (s11:(List Int)) (s21:(List Int)):Option (Int) :=
 Option.bind (
  iter (Q9 s11 s21) (((s11.length:Nat):Int).toNat+1) 0) (fun o_=>QS o_ (fun _ =>
  bif (decide (((s11.length:Nat):Int)<((s21.length:Nat):Int))) then
   some (-1)
  else
   some 0) (fun rv4416=>some rv4416))
def WC (F:Nat) (stops1:(List Int)) (b1:Qb) (b2:Int) (b3:Bool) (b4:Int) (b5:Qi):Option (Bool×Int×Qi) :=
 Option.bind (Qai F b1 (Qi.mk b2 stops1)) fun j_=>oun j_ fun r1 r2 =>
 bif (!(decide (r2=0))) then
  some (b3,b4,b5)
 else
  Option.bind (
   bif (!b3) then
    some true
   else
    bif (decide (r1<b4)) then
     some true
    else
     bif (decide (r1=b4)) then
      Option.bind (ZA stops1 b5.Stops) fun r3 =>
      some (decide (r3<0))
     else
      some false) (fun v2 =>
   Option.bind (
    bif v2 then
     Option.bind (QdU stops1) fun l1 =>
     some (true,r1,l1)
    else
     some (b3,b4,b5.Stops)) (fun j_=>oun j_ fun f1 j_=>oun j_ fun f2 f3 =>
    some (f1,f2,(Qi.mk b5.Vehicle f3))))
def Yx (left1:Int) (b2:Qb) (b3:Int) (b7:(List Int)) (b8:(List Int)) (rec_:Int→Unit→Qb→Int→Bool→Int→Qi→(List Int)→(List Int)→(List Bool)→Unit→Option (Bool×Int×Qi×(List Int)×(List Bool))) (j_:(List Int)×(List Bool)×Bool×Int×Int×(List Int)×Int):Option (((List Int)×(List Bool)×Bool×Int×Int×(List Int)×Int)⊕((Bool×Int×Int×(List Int)×(List Int)×(List Bool)))) :=
 oun j_ fun f1 j_=>oun j_ fun f2 j_=>oun j_ fun f3 j_=>oun j_ fun f4 j_=>oun j_ fun f5 j_=>oun j_ fun f6 v2 =>
 bif (decide (v2<((b8.length:Nat):Int))) then
  Option.bind (
   Option.bind (QI b8 v2) fun x1 =>
   Option.bind (QI f2 v2) fun x2 =>
   bif x2 then
    some (f1,f2,f3,f4,f5,f6)
   else
    Option.bind (QI f2 v2) fun x3 =>
    Option.bind (WH f1 0 ((b7.length:Nat):Int)) fun l1 =>
    Option.bind (Vc l1 [x1]) fun l2 =>
    Option.bind (rec_ (w64 (left1-1)) () b2 b3 f3 f4 (Qi.mk f5 f6) l2 b8 (ZS f2 v2 true) ()) fun j_=>oun j_ fun r4 j_=>oun j_ fun r5 j_=>oun j_ fun r6 j_=>oun j_ fun r7 r8 =>
    Option.bind (WH r7 0 ((b7.length:Nat):Int)) fun l3 =>
    Option.bind (Vc l3 [x1,(-1)]) fun l4 =>
    Option.bind (rec_ (w64 (left1-1)) () b2 b3 r4 r5 r6 l4 b8 r8 ()) fun j_=>oun j_ fun r9 j_=>oun j_ fun r10 j_=>oun j_ fun r11 j_=>oun j_ fun r12 r13 =>
    Option.bind (WH r12 0 ((b7.length:Nat):Int)) fun l5 =>
    Option.bind (QI r13 v2) fun x4 =>
    some (l5,(ZS r13 v2 false),r9,r10,r11.Vehicle,r11.Stops)) (fun j_=>oun j_ fun f7 j_=>oun j_ fun f8 j_=>oun j_ fun f9 j_=>oun j_ fun f10 j_=>oun j_ fun f11 f12 =>
   some (.inl (f7,f8,f9,f10,f11,f12,w64 (v2+1))))
 else
  some (.inr (f3,f4,f5,f6,f1,f2))
def Z9 (rec_:Int→Unit→Qb→Int→Bool→Int→Qi→(List Int)→(List Int)→(List Bool)→Unit→Option (Bool×Int×Qi×(List Int)×(List Bool))) (F:Nat) (left1:Int) (b1:Unit) (b2:Qb) (b3:Int) (b4:Bool) (b5:Int) (b6:Qi) (b7:(List Int)) (b8:(List Int)) (b9:(List Bool)) (b10:Unit):Option (Bool×Int×Qi×(List Int)×(List Bool)) :=
 bif (decide (left1=0)) then
  Option.bind (WC F b7 b2 b3 b4 b5 b6) fun j_=>oun j_ fun r1 j_=>oun j_ fun r2 r3 =>
  some (r1,r2,r3,b7,b9)
 else
  Option.bind (
   iter (Yx left1 b2 b3 b7 b8 rec_) (((b8.length:Nat):Int).toNat+1) (b7,b9,b4,b5,b6.Vehicle,b6.Stops,0)) (fun j_=>oun j_ fun f13 j_=>oun j_ fun f14 j_=>oun j_ fun f15 j_=>oun j_ fun f16 j_=>oun j_ fun f17 f18 =>
   some (f13,f14,(Qi.mk f15 f16),f17,f18))
def YH:Nat→Int→Unit→Qb→Int→Bool→Int→Qi→(List Int)→(List Int)→(List Bool)→Unit→Option (Bool×Int×Qi×(List Int)×(List Bool))
 | 0,_,_,_,_,_,_,_,_,_,_,_=>none
 | F+1,left1,b1,b2,b3,b4,b5,b6,b7,b8,b9,b10=>Z9 (YH F) F left1 b1 b2 b3 b4 b5 b6 b7 b8 b9 b10
def Ja (F:Nat) (demands1:(List Int)) (b1:Qb) (b2:Int) (b3:Bool) (b4:Int) (b5:Qi):Option (Bool×Int×Qi) :=
 Option.bind (WE false ((demands1.length:Nat):Int)) fun l1 =>
 Option.bind (WE (0:Int) (w64 (2*((demands1.length:Nat):Int)))) fun l2 =>
 Option.bind (YH F ((demands1.length:Nat):Int) () b1 b2 b3 b4 b5 [] demands1 l1 ()) fun j_=>oun j_ fun r1 j_=>oun j_ fun r2 j_=>oun j_ fun r3 j_=>oun j_ fun r4 r5 =>
 some (r1,r2,r3)
def Wi (F:Nat) (p1:Qb) (vehicle1:Int) (demands1:(List Int)):Option (Qi×Int×Bool) :=
 Option.bind (Ja F demands1 p1 vehicle1 false 0 (Qi.mk vehicle1 [])) fun j_=>oun j_ fun r1 j_=>oun j_ fun r2 r3 =>
 some (r3,r2,r1)
def JQ (F:Nat) (p1:Qb) (vehicle1:Int) (demands1:(List Int)):Option (Qi×Int×Int) :=
 Option.bind (JR F p1 vehicle1 demands1) fun r1 =>
 bif (!(decide (r1=0))) then
  some ((Qi.mk 0 []),0,r1)
 else
  Option.bind (Wi F p1 vehicle1 demands1) fun j_=>oun j_ fun r2 j_=>oun j_ fun r3 r4 =>
  bif (!r4) then
   some ((Qi.mk 0 []),0,40)
  else
   some (r2,r3,0)
def JZ (F:Nat) (p1:Qb) (vehicle1:Int) (demands1:(List Int)):Option (Bool×Int) :=
 Option.bind (JR F p1 vehicle1 demands1) fun r1 =>
 bif (!(decide (r1=0))) then
  some (false,r1)
 else
  Option.bind (Wi F p1 vehicle1 demands1) fun j_=>oun j_ fun r2 j_=>oun j_ fun r3 r4 =>
  some (r4,0)
def ZT (b1:(List Int)) (y1:Int):Option ((List Int)) :=
 Option.bind (Vc b1 [y1]) fun l2 =>
 some l2
def Yn (b2:(List Int)) (j_:Int×(List Int)):Option ((Int×(List Int))⊕((List Int))) :=
 oun j_ fun v1 q2 =>
 bif (decide (v1<((b2.length:Nat):Int))) then
  Option.bind (QI b2 v1) fun x1 =>
  Option.bind (ZT q2 x1) fun r1 =>
  some (.inl (w64 (v1+1),r1))
 else
  some (.inr q2)
def ZI (b1:(List Int)) (b2:(List Int)):Option ((List Int)) :=
 Option.bind (
  iter (Yn b2) (((b2.length:Nat):Int).toNat+1) (0,b1)) (fun q3 =>
  some q3)
def Y2 (b1:(List Int)):Option ((List Int)) :=
 Option.bind (ZI [] b1) fun r1 =>
 some r1
def ZU (b1:(List Int)):Option ((List Int)) :=
 Option.bind (Y2 b1) fun r1 =>
 some r1
def Zz (b1:(List Int)):Option ((List Int)) :=
 Option.bind (ZU b1) fun r1 =>
 Option.bind (Qfb r1) fun l1 =>
 some l1
def Jf (r2:(List Int)) (v3:Int) (j_:(List Int)×Int):Option (((List Int)×Int)⊕((List Int))) :=
 oun j_ fun l1 v4 =>
 bif (decide (v4<((r2.length:Nat):Int))) then
  Option.bind (
   Option.bind (QI r2 v4) fun x1 =>
   Option.bind (Vw (0≤v4∧v4≤64)) fun _ =>
   bif (decide ((QfS .i64 (v3/2^v4.toNat) 1)=1)) then
    Option.bind (Vc l1 [x1]) fun l2 =>
    some l2
   else
    some l1) (fun l3 =>
   some (.inl (l3,w64 (v4+1))))
 else
  some (.inr l1)
def Jg (F:Nat) (p1:Qb) (vehicle1:Int) (r2:(List Int)) (j_:(List Int)×Int×Int):Option (((List Int)×Int×Int)⊕((List Int))) :=
 oun j_ fun out1 j_=>oun j_ fun v2 v3 =>
 bif (decide (v3<v2)) then
  Option.bind (
   Option.bind (
    iter (Jf r2 v3) (((r2.length:Nat):Int).toNat+1) ([],0)) (fun l4 =>
    Option.bind (
     bif (decide (((l4.length:Nat):Int)<((out1.length:Nat):Int))) then
      some true
     else
      bif (decide (((l4.length:Nat):Int)=((out1.length:Nat):Int))) then
       Option.bind (ZA l4 out1) fun r3 =>
       some (decide (0≤r3))
      else
       some false) (fun v5 =>
     bif v5 then
      some out1
     else
      Option.bind (Wi F p1 vehicle1 l4) fun j_=>oun j_ fun r4 j_=>oun j_ fun r5 r6 =>
      bif r6 then
       some l4
      else
       some out1))) (fun out2 =>
   some (.inl (out2,v2,w64 (v3+1))))
 else
  some (.inr out1)
def Vt (F:Nat) (p1:Qb) (vehicle1:Int) (demands1:(List Int)):Option ((List Int)×Int) :=
 Option.bind (JR F p1 vehicle1 demands1) fun r1 =>
 bif (!(decide (r1=0))) then
  some ([],r1)
 else
  Option.bind (Zz demands1) fun r2 =>
  Option.bind (Vw (0≤((r2.length:Nat):Int)∧((r2.length:Nat):Int)≤64)) fun _ =>
  Option.bind (
   iter (Jg F p1 vehicle1 r2) F ([],w64 (1*2^((r2.length:Nat):Int).toNat),0)) (fun out3 =>
   some (out3,0))
def YO (a1:(List Int)) (b1:(List Int)) (i1:Int):Option ((Int)⊕(Unit⊕Bool)) :=
 bif (decide (i1<((a1.length:Nat):Int))) then
  Option.bind (QI a1 i1) fun x1 =>
  Option.bind (QI b1 i1) fun x2 =>
  bif (!(decide (x1=x2))) then
   some (.inr (.inr false))
  else
   some (.inl (w64 (i1+1)))
 else
  some (.inr (.inl ()))
def Yw (a1:(List Int)) (b1:(List Int)):Option (Bool) :=
 bif (!(decide (((a1.length:Nat):Int)=((b1.length:Nat):Int)))) then
  some false
 else
  Option.bind (
   iter (YO a1 b1) (((a1.length:Nat):Int).toNat+1) 0) (fun o_=>QS o_ (fun _ =>
   some true) (fun rv8047=>some rv8047))
def Y6 (
             F:Nat):Option (Bool) :=
 Option.bind (QY 20) fun r1 =>
 Option.bind (JQ F r1 0 [1,0]) fun j_=>oun j_ fun r2 j_=>oun j_ fun r3 r4 =>
 Option.bind (QY 10) fun r5 =>
 Option.bind (JQ F r5 0 [0,1]) fun j_=>oun j_ fun r6 j_=>oun j_ fun r7 r8 =>
 Option.bind (QY 9) fun r9 =>
 Option.bind (JQ F r9 0 [0,1]) fun j_=>oun j_ fun r10 j_=>oun j_ fun r11 r12 =>
 Option.bind (QY 9) fun r13 =>
 Option.bind (JZ F r13 0 [0]) fun j_=>oun j_ fun r14 r15 =>
 Option.bind (QY 20) fun r16 =>
 Option.bind (JZ F r16 0 [0,1]) fun j_=>oun j_ fun r17 r18 =>
 Option.bind (QY 10) fun r19 =>
 Option.bind (Vt F r19 0 [1,0]) fun j_=>oun j_ fun r20 r21 =>
 Option.bind (
  bif (decide (r4=0)) then
   bif (decide (r3=400)) then
    Option.bind (Yw r2.Stops [0,1,(-1)]) fun r22 =>
    bif r22 then
     bif (decide (r8=0)) then
      bif (decide (r7=600)) then
       Option.bind (Yw r6.Stops [0,(-1),1,(-1)]) fun r23 =>
       bif r23 then
        bif (decide (r12=40)) then
         bif (!r14) then
          bif (decide (r15=0)) then
           bif r17 then
            bif (decide (r18=0)) then
             Option.bind (Yw r20 [0,1]) fun r24 =>
             bif r24 then
              some (decide (r21=0))
             else
              some false
            else
             some false
           else
            some false
          else
           some false
         else
          some false
        else
         some false
       else
        some false
      else
       some false
     else
      some false
    else
     some false
   else
    some false
  else
   some false) (fun v19 =>
  some v19)
def Yi (r1:QA) (v2:Int):Option ((Int)⊕(Unit⊕Int)) :=
 bif (decide (v2<((r1.Edges.length:Nat):Int))) then
  Option.bind (QI r1.Edges v2) fun x1 =>
  Option.bind (
   bif (decide (x1.From<0)) then
    some true
   else
    bif (decide (r1.Nodes≤x1.From)) then
     some true
    else
     bif (decide (x1.To<0)) then
      some true
     else
      some (decide (r1.Nodes≤x1.To))) (fun v3 =>
   bif v3 then
    some (.inr (.inr 7))
   else
    Option.bind (
     bif (decide (x1.From=x1.To)) then
      some true
     else
      bif (decide (x1.Meters<1)) then
       some true
      else
       bif (decide (100000<x1.Meters)) then
        some true
       else
        bif (decide (x1.Secs<1)) then
         some true
        else
         some (decide (100000<x1.Secs))) (fun v4 =>
     bif v4 then
      some (.inr (.inr 1))
     else
      some (.inl (w64 (v2+1)))))
 else
  some (.inr (.inl ()))
def Y8 (r1:QA):Option (Int) :=
 Option.bind (
  bif (decide (r1.Nodes<1)) then
   some true
  else
   some (decide (64<r1.Nodes))) (fun v1 =>
  bif v1 then
   some 1
  else
   bif (decide (512<((r1.Edges.length:Nat):Int))) then
    some 8
   else
    Option.bind (
     iter (Yi r1) (((r1.Edges.length:Nat):Int).toNat+1) 0) (fun o_=>QS o_ (fun _ =>
     some 0) (fun rv8147=>some rv8147)))
def Yg (c1:Int):Option (Bool) :=
 Option.bind (
  bif (decide (65≤c1)) then
   bif (decide (c1≤90)) then
    some true
   else
    bif (decide (97≤c1)) then
     some (decide (c1≤122))
    else
     some false
  else
   bif (decide (97≤c1)) then
    some (decide (c1≤122))
   else
    some false) (fun v1 =>
  some v1)
def QF (s1:ByteArray) (i1:Int):Option ((Int)⊕(Unit⊕Bool)) :=
 bif (decide (i1<((s1.size:Nat):Int))) then
  Option.bind (QeC s1 i1) fun x2 =>
  Option.bind (
   Option.bind (Yg x2) fun r2 =>
   bif (!r2) then
    bif (decide (x2<48)) then
     bif (!(decide (x2=45))) then
      bif (!(decide (x2=95))) then
       some (!(decide (x2=46)))
      else
       some false
     else
      some false
    else
     bif (decide (57<x2)) then
      bif (!(decide (x2=45))) then
       bif (!(decide (x2=95))) then
        some (!(decide (x2=46)))
       else
        some false
      else
       some false
     else
      some false
   else
    some false) (fun v2 =>
   bif v2 then
    some (.inr (.inr false))
   else
    some (.inl (w64 (i1+1))))
 else
  some (.inr (.inl ()))
def YI (s1:ByteArray):Option (Bool) :=
 Option.bind (
  bif (decide (((s1.size:Nat):Int)<1)) then
   some true
  else
   bif (decide (32<((s1.size:Nat):Int))) then
    some true
   else
    Option.bind (QeC s1 0) fun x1 =>
    Option.bind (Yg x1) fun r1 =>
    some (!r1)) (fun v1 =>
  bif v1 then
   some false
  else
   Option.bind (
    iter (QF s1) (((s1.size:Nat):Int).toNat+1) 0) (fun o_=>QS o_ (fun _ =>
    some true) (fun rv8183=>some rv8183)))
def QR (v1:Qn) (nodes1:Int) (materials1:Int):Option (Int) :=
 Option.bind (YI v1.ID) fun r1 =>
 bif (!r1) then
  some 5
 else
  Option.bind (
   bif (decide (v1.Depot<0)) then
    some true
   else
    some (decide (nodes1≤v1.Depot))) (fun v2 =>
   bif v2 then
    some 7
   else
    Option.bind (
     bif (decide (v1.Shift.From<0)) then
      some true
     else
      bif (decide (v1.Shift.To≤v1.Shift.From)) then
       some true
      else
       some (decide (86400<v1.Shift.To))) (fun v3 =>
     bif v3 then
      some 19
     else
      Option.bind (
       bif (decide (v1.Grams<1)) then
        some true
       else
        some (decide (1073741824<v1.Grams))) (fun v4 =>
       bif v4 then
        some 1
       else
        Option.bind (
         bif (decide (v1.Kinds<1)) then
          some true
         else
          Option.bind (Vw (0≤materials1∧materials1≤64)) fun _ =>
          some (decide ((w64 (1*2^materials1.toNat))≤v1.Kinds))) (fun v5 =>
         bif v5 then
          some 21
         else
          some 0))))
def QG (l1:(List Qn)) (nodes1:Int) (materials1:Int) (i1:Int):Option ((Int)⊕(Unit⊕Int)) :=
 bif (decide (i1<((l1.length:Nat):Int))) then
  Option.bind (QI l1 i1) fun x1 =>
  Option.bind (QR x1 nodes1 materials1) fun r1 =>
  bif (!(decide (r1=0))) then
   some (.inr (.inr r1))
  else
   some (.inl (w64 (i1+1)))
 else
  some (.inr (.inl ()))
def Y9 (l1:(List Qn)) (i2:Int) (k1:Int):Option ((Int)⊕(Unit⊕Int)) :=
 bif (decide (k1<i2)) then
  Option.bind (QI l1 i2) fun x2 =>
  Option.bind (QI l1 k1) fun x3 =>
  bif (decide (x2.ID=x3.ID)) then
   some (.inr (.inr 6))
  else
   some (.inl (w64 (k1+1)))
 else
  some (.inr (.inl ()))
def Za (l1:(List Qn)) (i2:Int):Option ((Int)⊕(Unit⊕Int)) :=
 bif (decide (i2<((l1.length:Nat):Int))) then
  Option.bind (
   Option.bind (
    iter (Y9 l1 i2) (i2.toNat+1) 0) (fun o_=>QS o_ (fun _ =>
    some (.inl ())) (fun rv8207=>some (.inr rv8207)))) (fun o_=>QS o_ (fun _ =>
   some (.inl (w64 (i2+1)))) (fun rv8206=>some (.inr (.inr rv8206))))
 else
  some (.inr (.inl ()))
def QZ (l1:(List Qn)) (nodes1:Int) (materials1:Int):Option (Int) :=
 Option.bind (
  bif (decide (nodes1<1)) then
   some true
  else
   bif (decide (64<nodes1)) then
    some true
   else
    bif (decide (materials1<1)) then
     some true
    else
     some (decide (16<materials1))) (fun v1 =>
  bif v1 then
   some 1
  else
   bif (decide (((l1.length:Nat):Int)=0)) then
    some 10
   else
    bif (decide (16<((l1.length:Nat):Int))) then
     some 8
    else
     Option.bind (
      iter (QG l1 nodes1 materials1) (((l1.length:Nat):Int).toNat+1) 0) (fun o_=>QS o_ (fun _ =>
      Option.bind (
       iter (Za l1) (((l1.length:Nat):Int).toNat+1) 0) (fun o_=>QS o_ (fun _ =>
       some 0) (fun rv8199=>some rv8199))) (fun rv8178=>some rv8178)))
def QK (l1:(List Qm)) (nodes1:Int) (materials1:Int) (i1:Int):Option ((Int)⊕(Unit⊕Int)) :=
 bif (decide (i1<((
           l1.length:Nat):Int))) then
  Option.bind (QI l1 i1) fun x1 =>
  Option.bind (
   bif (decide (x1.Container<0)) then
    some true
   else
    bif (decide (256≤x1.Container)) then
     some true
    else
     bif (decide (x1.Node<0)) then
      some true
     else
      bif (decide (nodes1≤x1.Node)) then
       some true
      else
       bif (decide (x1.Kind<0)) then
        some true
       else
        some (decide (materials1≤x1.Kind))) (fun v1 =>
   bif v1 then
    some (.inr (.inr 7))
   else
    Option.bind (
     bif (decide (x1.Grams<0)) then
      some true
     else
      bif (decide (1073741824<x1.Grams)) then
       some true
      else
       bif (decide (x1.When.From<0)) then
        some true
       else
        bif (decide (x1.When.To<x1.When.From)) then
         some true
        else
         bif (decide (86400<x1.When.To)) then
          some true
         else
          bif (decide (x1.Service<0)) then
           some true
          else
           some (decide (3600<x1.Service))) (fun v2 =>
     bif v2 then
      some (.inr (.inr 1))
     else
      some (.inl (w64 (i1+1)))))
 else
  some (.inr (.inl ()))
def Ya (l1:(List Qm)) (i2:Int) (k1:Int):Option ((Int)⊕(Unit⊕Int)) :=
 bif (decide (k1<i2)) then
  Option.bind (QI l1 i2) fun x2 =>
  Option.bind (QI l1 k1) fun x3 =>
  bif (decide (x2.Container=x3.Container)) then
   some (.inr (.inr 6))
  else
   some (.inl (w64 (k1+1)))
 else
  some (.inr (.inl ()))
def Yb (l1:(List Qm)) (i2:Int):Option ((Int)⊕(Unit⊕Int)) :=
 bif (decide (i2<((l1.length:Nat):Int))) then
  Option.bind (
   Option.bind (
    iter (Ya l1 i2) (i2.toNat+1) 0) (fun o_=>QS o_ (fun _ =>
    some (.inl ())) (fun rv8234=>some (.inr rv8234)))) (fun o_=>QS o_ (fun _ =>
   some (.inl (w64 (i2+1)))) (fun rv8233=>some (.inr (.inr rv8233))))
 else
  some (.inr (.inl ()))
def Q4 (l1:(List Qm)) (nodes1:Int) (materials1:Int):Option (Int) :=
 bif (decide (32<((l1.length:Nat):Int))) then
  some 8
 else
  Option.bind (
   iter (QK l1 nodes1 materials1) (((l1.length:Nat):Int).toNat+1) 0) (fun o_=>QS o_ (fun _ =>
   Option.bind (
    iter (Yb l1) (((l1.length:Nat):Int).toNat+1) 0) (fun o_=>QS o_ (fun _ =>
    some 0) (fun rv8226=>some rv8226))) (fun rv8211=>some rv8211))
def Qj (p1:Qb):Option (Int) :=
 Option.bind (Y8 p1.Road) fun r1 =>
 bif (!(decide (r1=0))) then
  some r1
 else
  Option.bind (QZ p1.Vehicles p1.Road.Nodes 16) fun r2 =>
  bif (!(decide (r2=0))) then
   some r2
  else
   Option.bind (Q4 p1.Demands p1.Road.Nodes 16) fun r3 =>
   bif (!(decide (r3=0))) then
    some r3
   else
    Option.bind (
     bif (decide (p1.Unload<0)) then
      some true
     else
      some (decide (p1.Road.Nodes≤p1.Unload))) (fun v1 =>
     bif v1 then
      some 7
     else
      Option.bind (
       bif (decide (p1.UnloadSecs<0)) then
        some true
       else
        some (decide (7200<p1.UnloadSecs))) (fun v2 =>
       bif v2 then
        some 1
       else
        some 0))
def YD (p1:Qb) (demands1:(List Int)) (i1:Int):Option ((Int)⊕(Unit⊕Int)) :=
 bif (decide (i1<((demands1.length:Nat):Int))) then
  Option.bind (
   Option.bind (QI demands1 i1) fun x1 =>
   bif (decide (x1<0)) then
    some true
   else
    Option.bind (QI demands1 i1) fun x2 =>
    some (decide (((p1.Demands.length:Nat):Int)≤x2))) (fun v2 =>
   bif v2 then
    some (.inr (.inr 7))
   else
    some (.inl (w64 (i1+1))))
 else
  some (.inr (.inl ()))
def YE (demands1:(List Int)) (i2:Int) (k1:Int):Option ((Int)⊕(Unit⊕Int)) :=
 bif (decide (k1<i2)) then
  Option.bind (QI demands1 i2) fun x3 =>
  Option.bind (QI demands1 k1) fun x4 =>
  bif (decide (x3=x4)) then
   some (.inr (.inr 6))
  else
   some (.inl (w64 (k1+1)))
 else
  some (.inr (.inl ()))
def YF (demands1:(List Int)) (i2:Int):Option ((Int)⊕(Unit⊕Int)) :=
 bif (decide (i2<((demands1.length:Nat):Int))) then
  Option.bind (
   Option.bind (
    iter (YE demands1 i2) (i2.toNat+1) 0) (fun o_=>QS o_ (fun _ =>
    some (.inl ())) (fun rv8267=>some (.inr rv8267)))) (fun o_=>QS o_ (fun _ =>
   some (.inl (w64 (i2+1)))) (fun rv8266=>some (.inr (.inr rv8266))))
 else
  some (.inr (.inl ()))
def ZH (p1:Qb) (vehicle1:Int) (demands1:(List Int)):Option (Int) :=
 Option.bind (Qj p1) fun r1 =>
 bif (!(decide (r1=0))) then
  some r1
 else
  Option.bind (
   bif (decide (vehicle1<0)) then
    some true
   else
    some (decide (((p1.Vehicles.length:Nat):Int)≤vehicle1))) (fun v1 =>
   bif v1 then
    some 7
   else
    bif (decide (5<((demands1.length:Nat):Int))) then
     some 8
    else
     Option.bind (
      iter (YD p1 demands1) (((demands1.length:Nat):Int).toNat+1) 0) (fun o_=>QS o_ (fun _ =>
      Option.bind (
       iter (YF demands1) (((demands1.length:Nat):Int).toNat+1) 0) (fun o_=>QS o_ (fun _ =>
       some 0) (fun rv8259=>some rv8259))) (fun rv8244=>some rv8244)))
def Jj (r1:QA) (n1:Int):Option (Bool) :=
 Option.bind (
  bif (decide (0≤n1)) then
   some (decide (n1<r1.Nodes))
  else
   some false) (fun v1 =>
  some v1)
def Jd (a1:Qc) (b1:Qc):Option (Qc) :=
 some (Qc.mk (w64 (a1.Secs+b1.Secs)) (w64 (a1.Meters+b1.Meters)))
def YX (a1:Qc) (b1:Qc):Option (Bool) :=
 Option.bind (
  bif (decide (a1.Secs<0)) then
   some true
  else
   some (decide (b1.Secs<0))) (fun v1 =>
  bif v1 then
   some (decide (0≤a1.Secs))
  else
   Option.bind (
    bif (decide (a1.Secs<b1.Secs)) then
     some true
    else
     bif (decide (a1.Secs=b1.Secs)) then
      some (decide (a1.Meters<b1.Meters))
     else
      some false) (fun v2 =>
    some v2))
def YL (l1:(List Qc)) (j_:(List Qc)×Int):Option (((List Qc)×Int)⊕((List Qc))) :=
 oun j_ fun out1 v1 =>
 bif (decide (v1<((l1.length:Nat):Int))) then
  Option.bind (QI out1 v1) fun x1 =>
  some (.inl ((ZS out1 v1 (Qc.mk (-1) x1.Meters)),w64 (v1+1)))
 else
  some (.inr out1)
def YM (r1:QA) (j_:(List Qc)×Int):Option (((List Qc)×Int)⊕((List Qc))) :=
 oun j_ fun out4 v2 =>
 bif (decide (v2<((r1.Edges.length:Nat):Int))) then
  Option.bind (
   Option.bind (QI r1.Edges v2) fun x3 =>
   Option.bind (QI out4 x3.From) fun x4 =>
   bif (decide (0≤x4.Secs)) then
    Option.bind (
     Option.bind (QI out4 x3.From) fun x5 =>
     Option.bind (Jd x5 (Qc.mk x3.Secs x3.Meters)) fun r4 =>
     some (r4.Secs,r4.Meters)) (fun j_=>oun j_ fun f1 f2 =>
     Option.bind (QI out4 x3.To) fun x6 =>
     Option.bind (YX (Qc.mk f1 f2) x6) fun r5 =>
     bif r5 then
      Option.bind (QI out4 x3.To) fun x7 =>
      some (ZS out4 x3.To (Qc.mk f1 f2))
     else
      some out4)
   else
    some out4) (fun out5 =>
   some (.inl (out5,w64 (v2+1))))
 else
  some (.inr out4)
def Zn (r1:QA) (j_:(List Qc)×Int):Option (((List Qc)×Int)⊕((List Qc))) :=
 oun j_ fun out3 n1 =>
 bif (decide (n1<r1.Nodes)) then
  Option.bind (
   Option.bind (
    iter (YM r1) (((r1.Edges.length:Nat):Int).toNat+1) (out3,0)) (fun out6 =>
    some out6)) (fun out7 =>
   some (.inl (out7,w64 (n1+1))))
 else
  some (.inr out3)
def Yv (r1:QA) (f_from1:Int):Option ((List Qc)×Int) :=
 Option.bind (Y8 r1) fun r2 =>
 bif (!(decide (r2=0))) then
  some ([],r2)
 else
  Option.bind (Jj r1 f_from1) fun r3 =>
  bif (!r3) then
   some ([],7)
  else
   Option.bind (WE (Qc.mk 0 0) r1.Nodes) fun l1 =>
   Option.bind (
    iter (YL l1) (((l1.length:Nat):Int).toNat+1) (l1,0)) (fun out2 =>
    Option.bind (QI out2 f_from1) fun x2 =>
    Option.bind (
     iter (Zn r1) (r1.Nodes.toNat+1) ((ZS out2 f_from1 (Qc.mk 0 x2.Meters)),0)) (fun out8 =>
     some (out8,0)))
def YJ (p1:Qb) (f_from1:Int) (f_to1:Int):Option (Qc) :=
 Option.bind (Yv p1.Road f_from1) fun j_=>oun j_ fun r1 r2 =>
 Option.bind (
  bif (!(decide (r2=0))) then
   some true
  else
   bif (decide (f_to1<0)) then
    some true
   else
    some (decide (((r1.length:Nat):Int)≤f_to1))) (fun v1 =>
  bif v1 then
   some (Qc.mk (-1) 0)
  else
   Option.bind (QI r1 f_to1) fun x1 =>
   some x1)
def Yj (p1:Qb) (demands1:(List Int)) (j_:(List Int)×Int):Option (((List Int)×Int)⊕((List Int))) :=
 oun j_ fun nodes1 i1 =>
 bif (decide (i1<((demands1.length:Nat):Int))) then
  Option.bind (QI demands1 i1) fun x2 =>
  Option.bind (QI p1.Demands x2) fun x3 =>
  Option.bind (Vc nodes1 [x3.Node]) fun l1 =>
  some (.inl (l1,w64 (i1+1)))
 else
  some (.inr nodes1)
def Yk (p1:Qb) (nodes2:(List Int)) (i2:Int) (j_:(List Qc)×Int):Option (((List Qc)×Int)⊕((List Qc))) :=
 oun j_ fun row1 k1 =>
 bif (decide (k1<((nodes2.length:Nat):Int))) then
  Option.bind (QI nodes2 i2) fun x4 =>
  Option.bind (QI nodes2 k1) fun x5 =>
  Option.bind (YJ p1 x4 x5) fun r1 =>
  Option.bind (Vc row1 [r1]) fun l2 =>
  some (.inl (l2,w64 (k1+1)))
 else
  some (.inr row1)
def Q5 (p1:Qb) (nodes2:(List Int)) (j_:(List (List Qc))×Int):Option (((List (List Qc))×Int)⊕((List (List Qc)))) :=
 oun j_ fun f1 i2 =>
 bif (decide (i2<((nodes2.length:Nat):Int))) then
  Option.bind (
   Option.bind (
    iter (Yk p1 nodes2 i2) (((nodes2.length:Nat):Int).toNat+1) ([],0)) (fun row2 =>
    Option.bind (Vc f1 [row2]) fun l3 =>
    some l3)) (fun f2 =>
   some (.inl (f2,w64 (i2+1))))
 else
  some (.inr f1)
def Ze (p1:Qb) (vehicle1:Int) (demands1:(List Int)):Option (Qv) :=
 Option.bind (QI p1.Vehicles vehicle1) fun x1 =>
 Option.bind (
  iter (Yj p1 demands1) (((demands1.length:Nat):Int).toNat+1) ([x1.Depot,p1.Unload],0)) (fun nodes2 =>
  Option.bind (
   iter (Q5 p1 nodes2) (((nodes2.length:Nat):Int).toNat+1) ([],0)) (fun f3 =>
   some (Qv.mk p1 x1 demands1 f3)))
def recyclingref24_moved (t1:Qv) (x1:Ql) (f_to1:Int):Option (Ql×Bool) :=
 Option.bind (QI t1.Legs x1.At) fun x2 =>
 Option.bind (QI x2 f_to1) fun x3 =>
 bif (decide (x3.Secs<0)) then
  some (x1,false)
 else
  some ((Ql.mk x1.Stops x1.Served f_to1 (w64 (x1.Time+x3.Secs)) x1.Load (w64 (x1.Meters+x3.Meters))),true)
def YY (t1:Qv) (x1:Ql) (i1:Int):Option (Ql×Bool) :=
 Option.bind (QI t1.Demands i1) fun x2 =>
 Option.bind (QI t1.P.Demands x2) fun x3 =>
 Option.bind (recyclingref24_moved t1 x1 (w64 (i1+2))) fun j_=>oun j_ fun r1 r2 =>
 Option.bind (
  bif (!r2) then
   some true
  else
   Option.bind (Vw (0≤(IntKind.u64.wrap (x3.Kind))∧(IntKind.u64.wrap (x3.Kind))≤64)) fun _ =>
   some (decide ((QfS .i64 (t1.V.Kinds/2^(IntKind.u64.wrap (x3.Kind)).toNat) 1)=0))) (fun v1 =>
  bif v1 then
   some (x1,false)
  else
   Option.bind (
    bif (decide (r1.Time<x3.When.From)) then
     some x3.When.From
    else
     some r1.Time) (fun f1 =>
    Option.bind (
     bif (decide (x3.When.To≤f1)) then
      some true
     else
      some (decide (t1.V.Grams<(w64 (r1.Load+x3.Grams))))) (fun v2 =>
     bif v2 then
      some (x1,false)
     else
      Option.bind (
       Option.bind (QI t1.Demands i1) fun x4 =>
       Option.bind (Vc [] x1.Stops) fun l1 =>
       Option.bind (Vc l1 [x4]) fun l2 =>
       some (l2,w64 (f1+x3.Service),w64 (r1.Load+x3.Grams))) (fun j_=>oun j_ fun f2 j_=>oun j_ fun f3 f4 =>
       Option.bind (Vc [] x1.Served) fun l3 =>
       Option.bind (QI l3 i1) fun x5 =>
       some ((Ql.mk f2 (ZS l3 i1 true) r1.At f3 f4 r1.Meters),true)))))
def Ye (a1:(List Int)) (b1:(List Int)) (i1:Int):Option ((Int)⊕(Unit⊕Bool)) :=
 Option.bind (
  bif (decide (i1<((a1.length:Nat):Int))) then
   some (decide (i1<((b1.length:Nat):Int)))
  else
   some false) (fun v1 =>
  bif v1 then
   Option.bind (QI a1 i1) fun x1 =>
   Option.bind (QI b1 i1) fun x2 =>
   bif (!(decide (x1=x2))) then
    Option.bind (QI a1 i1) fun x3 =>
    Option.bind (QI b1 i1) fun x4 =>
    some (.inr (.inr (decide (x3<x4))))
   else
    some (.inl (w64 (i1+1)))
  else
   some (.inr (.inl ())))
def ZO (F:Nat) (a1:(List Int)) (b1:(List Int)):Option (Bool) :=
 Option.bind (
  iter (Ye a1 b1) F 0) (fun o_=>QS o_ (fun _ =>
  some (decide (((a1.length:Nat):Int)<((b1.length:Nat):Int)))) (fun rv9854=>some rv9854))
def Q7 (F:Nat) (a1:Qp) (b1:Qp):Option (Qp) :=
 Option.bind (
  bif (!b1.Ok) then
   some true
  else
   bif a1.Ok then
    bif (decide (a1.Cost<b1.Cost)) then
     some true
    else
     bif (decide (a1.Cost=b1.Cost)) then
      Option.bind (ZO F a1.Stops b1.Stops) fun r1 =>
      some r1
     else
      some false
   else
    some false) (fun v1 =>
  bif v1 then
   some a1
  else
   some b1)
def YG (t1:Qv) (x1:Ql):Option (Ql×Bool) :=
 Option.bind (recyclingref24_moved t1 x1 1) fun j_=>oun j_ fun r1 r2 =>
 Option.bind (Vc [] x1.Stops) fun l1 =>
 Option.bind (Vc l1 [(-1)]) fun l2 =>
 some ((Ql.mk l2 r1.Served r1.At (w64 (r1.Time+t1.P.UnloadSecs)) 0 r1.Meters),r2)
def QO (F:Nat) (t1:Qv) (x1:Ql) (rec_:Qv→Ql→Option (Qp)) (j_:Bool×Int×(List Int)×Bool×Int):Option ((Bool×Int×(List Int)×Bool×Int)⊕((Bool×Int×(List Int)×Bool))) :=
 oun j_ fun f1 j_=>oun j_ fun f2 j_=>oun j_ fun f3 j_=>oun j_ fun all1 i1 =>
 bif (decide (i1<((t1.Demands.length:Nat):Int))) then
  Option.bind (
   Option.bind (QI x1.Served i1) fun x2 =>
   bif x2 then
    some (f1,f2,f3,all1)
   else
    Option.bind (YY t1 x1 i1) fun j_=>oun j_ fun r1 r2 =>
    bif (!r2) then
     some (f1,f2,f3,false)
    else
     Option.bind (rec_ t1 r1) fun r3 =>
     Option.bind (Q7 F (Qp.mk f1 f2 f3) r3) fun r4 =>
     Option.bind (YG t1 r1) fun j_=>oun j_ fun r5 r6 =>
     bif r6 then
      Option.bind (rec_ t1 r5) fun r7 =>
      Option.bind (Q7 F r4 r7) fun r8 =>
      some (r8.Ok,r8.Cost,r8.Stops,false)
     else
      some (r4.Ok,r4.Cost,r4.Stops,false)) (fun j_=>oun j_ fun f4 j_=>oun j_ fun f5 j_=>oun j_ fun f6 all2 =>
   some (.inl (f4,f5,f6,all2,w64 (i1+1))))
 else
  some (.inr (f1,f2,f3,all1))
def Jr (rec_:Qv→Ql→Option (Qp)) (F:Nat) (t1:Qv) (x1:Ql):Option (Qp) :=
 Option.bind (
  iter (QO F t1 x1 rec_) (((t1.Demands.length:Nat):Int).toNat+1) (false,0,[],true,0)) (fun j_=>oun j_ fun f7 j_=>oun j_ fun f8 j_=>oun j_ fun f9 all3 =>
  Option.bind (
   bif (!all3) then
    some true
   else
    some (decide (0<x1.Load))) (fun v5 =>
   bif v5 then
    some (Qp.mk f7 f8 f9)
   else
    Option.bind (recyclingref24_moved t1 x1 0) fun j_=>oun j_ fun r9 r10 =>
    Option.bind (
     bif r10 then
      some (decide (r9.Time<t1.V.Shift.To))
     else
      some false) (fun v6 =>
     Option.bind (
      bif v6 then
       Option.bind (Q7 F (Qp.mk f7 f8 f9) (Qp.mk true r9.Meters x1.Stops)) fun r11 =>
       some (r11.Ok,r11.Cost,r11.Stops)
      else
       some (f7,f8,f9)) (fun j_=>oun j_ fun f10 j_=>oun j_ fun f11 f12 =>
      some (Qp.mk f10 f11 f12)))))
def Yh:Nat→Qv→Ql→Option (Qp)
 | 0,_,_=>none
 | F+1,t1,x1=>Jr (Yh F) F t1 x1
def ZP (F:Nat) (p1:Qb) (vehicle1:Int) (demands1:(List Int)):Option (Qp) :=
 Option.bind (Ze p1 vehicle1 demands1) fun r1 =>
 Option.bind (WE false ((demands1.length:Nat):Int)) fun l1 =>
 Option.bind (Yh F r1 (Ql.mk [] l1 0 r1.V.Shift.From 0 0)) fun r2 =>
 some r2
def ZN (F:Nat) (p1:Qb) (vehicle1:Int) (demands1:(List Int)):Option (Qi×Int×Int) :=
 Option.bind (ZH p1 vehicle1 demands1) fun r1 =>
 bif (!(decide (r1=0))) then
  some ((Qi.mk 0 []),0,r1)
 else
  Option.bind (ZP F p1 vehicle1 demands1) fun r2 =>
  bif (!r2.Ok) then
   some ((Qi.mk 0 []),0,40)
  else
   some ((Qi.mk vehicle1 r2.Stops),r2.Cost,0)
def Zv (F:Nat) (p1:Qb) (vehicle1:Int) (demands1:(List Int)):Option (Bool) :=
 Option.bind (Y7 p1 demands1) fun r1 =>
 bif r1 then
  Option.bind (Y6 F) fun r2 =>
  some r2
 else
  Option.bind (JQ F p1 vehicle1 demands1) fun j_=>oun j_ fun r3 j_=>oun j_ fun r4 r5 =>
  Option.bind (ZN F p1 vehicle1 demands1) fun j_=>oun j_ fun r6 j_=>oun j_ fun r7 r8 =>
  Option.bind (
   bif (decide (r3.Vehicle=r6.Vehicle)) then
    Option.bind (Yw r3.Stops r6.Stops) fun r9 =>
    bif r9 then
     bif (decide (r4=r7)) then
      bif (decide (r5=r8)) then
       Option.bind (Y6 F) fun r10 =>
       some r10
      else
       some false
     else
      some false
    else
     some false
   else
    some false) (fun v5 =>
   some v5)
structure Qjv where
 Vehicle:Int
 Err:Int
deriving DecidableEq
def Jw (v1:Qn) (kind1:Int):Option (Bool) :=
 Option.bind (
  bif (decide (kind1<0)) then
   some true
  else
   some (decide (16≤kind1))) (fun v2 =>
  bif v2 then
   some false
  else
   Option.bind (Vw (0≤kind1∧kind1≤64)) fun _ =>
   some (decide ((Int.tmod ((IntKind.u64.wrap (v1.Kinds))/2^kind1.toNat) 2)=1)))
def Zd (stops1:(List Int)) (i1:Int) (x1:Int) (k1:Int):Option ((Int)⊕(Unit⊕Int)) :=
 bif (decide (k1<i1)) then
  Option.bind (QI stops1 k1) fun x2 =>
  bif (decide (x2=x1)) then
   some (.inr (.inr 6))
  else
   some (.inl (w64 (k1+1)))
 else
  some (.inr (.inl ()))
def W8 (p1:Qb) (v1:Qn) (stops1:(List Int)) (i1:Int):Option (Int) :=
 Option.bind (QI stops1 i1) fun x1 =>
 bif (decide (x1=(-1))) then
  some 0
 else
  Option.bind (
   bif (decide (x1<0)) then
    some true
   else
    some (decide (((p1.Demands.length:Nat):Int)≤x1))) (fun v2 =>
   bif v2 then
    some 7
   else
    Option.bind (
     iter (Zd stops1 i1 x1) (i1.toNat+1) 0) (fun o_=>QS o_ (fun _ =>
     Option.bind (QI p1.Demands x1) fun x3 =>
     Option.bind (Jw v1 x3.Kind) fun r1 =>
     bif (!r1) then
      some 21
     else
      some 0) (fun rv21561=>some rv21561)))
def JW (p1:Qb) (v1:Qn) (x1:QH) (s1:Int):Option (QH×Int) :=
 Option.bind (
  bif (decide (0≤s1)) then
   Option.bind (QI p1.Demands s1) fun x2 =>
   some x2.Node
  else
   some p1.Unload) (fun f1 =>
  Option.bind (YJ p1 x1.Node f1) fun r1 =>
  bif (decide (r1.Secs<0)) then
   some ((QH.mk 0 0 0 0 0 0),22)
  else
   bif (decide (s1<0)) then
    some ((QH.mk s1 f1 (w64 (x1.Leave+r1.Secs)) (w64 (x1.Leave+r1.Secs)) (w64 ((w64 (x1.Leave+r1.Secs))+p1.UnloadSecs)) 0),0)
   else
    Option.bind (QI p1.Demands s1) fun x3 =>
    bif (decide (x3.When.To≤(max (w64 (x1.Leave+r1.Secs)) x3.When.From))) then
     some ((QH.mk 0 0 0 0 0 0),19)
    else
     bif (decide (v1.Grams<(w64 (x1.Load+x3.Grams)))) then
      some ((QH.mk 0 0 0 0 0 0),20)
     else
      some ((QH.mk s1 f1 (w64 (x1.Leave+r1.Secs)) (max (w64 (x1.Leave+r1.Secs)) x3.When.From) (w64 ((max (w64 (x1.Leave+r1.Secs)) x3.When.From)+x3.Service)) (w64 (x1.Load+x3.Grams))),0))
def Jk (p1:Qb) (v1:Qn) (x1:QH):Option (QH×Int) :=
 Option.bind (YJ p1 x1.Node v1.Depot) fun r1 =>
 bif (decide (r1.Secs<0)) then
  some ((QH.mk 0 0 0 0 0 0),22)
 else
  bif (decide (0<x1.Load)) then
   some ((QH.mk 0 0 0 0 0 0),20)
  else
   bif (decide (v1.Shift.To≤(w64 (x1.Leave+r1.Secs)))) then
    some ((QH.mk 0 0 0 0 0 0),19)
   else
    some ((QH.mk (-2) v1.Depot (w64 (x1.Leave+r1.Secs)) (w64 (x1.Leave+r1.Secs)) (w64 (x1.Leave+r1.Secs)) 0),0)
def YN (p1:Qb) (t1:Qi) (x1:Qn) (j_:Int×Int×Int×Int×Int×Int×(List QH)×Int):Option ((Int×Int×Int×Int×Int×Int×(List QH)×Int)⊕((Int×Int×Int×Int×Int×Int×(List QH))⊕((List QH)×Int×Int))) :=
 oun j_ fun f1 j_=>oun j_ fun f2 j_=>oun j_ fun f3 j_=>oun j_ fun f4 j_=>oun j_ fun f5 j_=>oun j_ fun f6 j_=>oun j_ fun out1 v2 =>
 bif (decide (v2<((t1.Stops.length:Nat):Int))) then
  Option.bind (QI t1.Stops v2) fun x2 =>
  Option.bind (W8 p1 x1 t1.Stops v2) fun r2 =>
  Option.bind (
   bif (decide (r2=0)) then
    Option.bind (JW p1 x1 (QH.mk f1 f2 f3 f4 f5 f6) x2) fun j_=>oun j_ fun r3 r4 =>
    some (r3.Stop,r3.Node,r3.Arrive,r3.Start,r3.Leave,r3.Load,r4)
   else
    some (f1,f2,f3,f4,f5,f6,r2)) (fun j_=>oun j_ fun f7 j_=>oun j_ fun f8 j_=>oun j_ fun f9 j_=>oun j_ fun f10 j_=>oun j_ fun f11 j_=>oun j_ fun f12 e1 =>
   bif (!(decide (e1=0))) then
    some (.inr (.inr ([],e1,v2)))
   else
    Option.bind (Vc out1 [(QH.mk f7 f8 f9 f10 f11 f12)]) fun l1 =>
    some (.inl (f7,f8,f9,f10,f11,f12,l1,w64 (v2+1))))
 else
  some (.inr (.inl (f1,f2,f3,f4,f5,f6,out1)))
def J7 (p1:Qb) (t1:Qi):Option ((List QH)×Int×Int) :=
 Option.bind (Qj p1) fun r1 =>
 bif (!(decide (r1=0))) then
  some ([],r1,0)
 else
  Option.bind (
   bif (decide (t1.Vehicle<0)) then
    some true
   else
    some (decide (((p1.Vehicles.length:Nat):Int)≤t1.Vehicle))) (fun v1 =>
   bif v1 then
    some ([],7,0)
   else
    bif (decide (40<((t1.Stops.length:Nat):Int))) then
     some ([],8,0)
    else
     Option.bind (QI p1.Vehicles t1.Vehicle) fun x1 =>
     Option.bind (
      iter (YN p1 t1 x1) (((t1.Stops.length:Nat):Int).toNat+1) (0,x1.Depot,0,0,x1.Shift.From,0,[],0)) (fun o_=>QS o_ (fun j_=>oun j_ fun f13 j_=>oun j_ fun f14 j_=>oun j_ fun f15 j_=>oun j_ fun f16 j_=>oun j_ fun f17 j_=>oun j_ fun f18 out2 =>
      Option.bind (Jk p1 x1 (QH.mk f13 f14 f15 f16 f17 f18)) fun j_=>oun j_ fun r5 r6 =>
      bif (!(decide (r6=0))) then
       some ([],r6,((t1.Stops.length:Nat):Int))
      else
       Option.bind (Vc out2 [r5]) fun l2 =>
       some (l2,0,0)) (fun rv21536=>some rv21536)))
def Zo (p1:Qb) (r1:(List QH)) (j_:Int×Int×Int):Option ((Int×Int×Int)⊕(Int)) :=
 oun j_ fun sum1 j_=>oun j_ fun f_at1 v1 =>
 bif (decide (v1<((r1.length:Nat):Int))) then
  Option.bind (QI r1 v1) fun x2 =>
  Option.bind (YJ p1 f_at1 x2.Node) fun r4 =>
  some (.inl (w64 (sum1+r4.Meters),x2.Node,w64 (v1+1)))
 else
  some (.inr sum1)
def J6 (p1:Qb) (t1:Qi):Option (Int×Int) :=
 Option.bind (J7 p1 t1) fun j_=>oun j_ fun r1 j_=>oun j_ fun r2 r3 =>
 bif (!(decide (r2=0))) then
  some (0,r2)
 else
  Option.bind (QI p1.Vehicles t1.Vehicle) fun x1 =>
  Option.bind (
   iter (Zo p1 r1) (((r1.length:Nat):Int).toNat+1) (0,x1.Depot,0)) (fun sum2 =>
   some (sum2,0))
end Go.Proofs.YtilbengnjgglhaaGreat
namespace Go.Proofs.YtilbengnjgglhaaGreat
open Go.RowKit
set_option linter.unusedSimpArgs false
set_option linter.unusedVariables false
attribute [local irreducible] WP Y0 Wx Fn AN Upd vcR vcO QaV ZB Zm W5 W9 QaS VJ ZK Qap QL
theorem QhS {μ:Gh} {L:List Seg} {A:Option Addr} {n c:Nat} {css:List (List Value)} (hr:Rd μ L A 1 css) (hn:css.length=n) (h1: ∀cs∈css,∀u∈cs,u.oneCell'=true) (hb:n≤1000000)
  {R:Value→Gh→List Seg→Prop} (hR: ∀v ch,Jy 3 1 v css ch→R v μ (ch::L)):Fn Tryz.prog 32 [.slice A n c] μ L R:=by
 refine Fn.of_body QW Tryz.func32 (by kernel_rfl) rfl Tryz.ntmps32 (by simp) ?_
 simp only[Tryz.f32,Qhn,List.zipIdx,List.map,Nat.reduceAdd]
 repeat' first | (apply Qif) | (apply Yc;exact rfl) | (apply JH) | ((first | (apply Vs;exact rfl));first | (apply YQ;exact rfl) | (apply QdM;exact rfl) | (apply Qii;exact rfl;exact rfl;all_goals (intro h;try (exfalso;omega))) | (apply QfN;exact rfl;exact rfl) | (apply QgF;exact rfl;exact rfl;exact rfl;exact rfl) | (apply QgG;exact rfl;exact rfl;exact rfl;exact rfl) | (apply QjS;exact rfl;exact rfl;exact rfl;exact rfl;all_goals (intro h)) | (apply Qih;exact rfl;exact rfl;exact rfl;exact rfl;all_goals (intro h))) | (apply QjQ) | (apply ZC) | (apply QP;exact rfl;exact rfl;exact rfl;(focus (simp only[WK,List.set_cons_zero,List.set_cons_succ,List.take_succ_cons,List.take_zero,List.drop_succ_cons,List.drop_zero,Value.cells,Nat.reduceAdd,Nat.reduceMul,Nat.zero_add,Nat.add_zero,List.toList_toArray,List.cons_append,List.nil_append,cyc];first | done | exact rfl))) | (apply WP.seq_k;intro K hK) | refine WP.region QW ?_ | (apply Qch;exact rfl) | (apply Qcg;exact rfl) | (apply QfQ;exact rfl;all_goals (intro h)) | (apply WP.skip) | (apply WP.ret) | (apply QjV) | (apply Qin;exact rfl) | (first | (apply ZL;exact rfl;exact rfl;exact rfl;exact rfl;exact rfl;exact rfl;(focus (simp only[WK,List.set_cons_zero,List.set_cons_succ,List.take_succ_cons,List.take_zero,List.drop_succ_cons,List.drop_zero,Value.cells,Nat.reduceAdd,Nat.reduceMul,Nat.zero_add,Nat.add_zero,List.toList_toArray,List.cons_append,List.nil_append,cyc];first | done | exact rfl))) | (apply YZ;exact rfl)) | (fail) | (first | (refine hK _ _ _ ?_;clear hK K) | (clear hK K;refine hK _ _ _ ?_;clear hK K) | (clear hK K;clear hK K;refine hK _ _ _ ?_;clear hK K) | (clear hK K;clear hK K;clear hK K;refine hK _ _ _ ?_;clear hK K)) | intro g
 ·subst h;obtain rfl:css=[]:=by
   cases css with
   | nil=>rfl
   | cons a r=>obtain ⟨a,ha,_⟩:=hr.2 (by simp);cases ha
  exact Upd.know fun ⟨w,hw⟩=>Upd.sub (L':=[]::L) (by simp) (Upd.done (hR _ _ Jy.nil))
 ·refine QhB QW rfl rfl rfl rfl (by decide) 0 rfl (css:=[]) ⟨by simp,.inr ⟨g,0, #[],rfl,rfl,by simp,by simp[maxLen],by simp,by simp⟩⟩ hn hr.cons h1 (by simp;omega) (by simp;omega) fun v' ch' hv _=> ?_
  repeat' first | (apply Qif) | (apply Yc;exact rfl) | (apply JH) | ((first | (apply Vs;exact rfl));first | (apply YQ;exact rfl) | (apply QdM;exact rfl) | (apply Qii;exact rfl;exact rfl;all_goals (intro h;try (exfalso;omega))) | (apply QfN;exact rfl;exact rfl) | (apply QgF;exact rfl;exact rfl;exact rfl;exact rfl) | (apply QgG;exact rfl;exact rfl;exact rfl;exact rfl) | (apply QjS;exact rfl;exact rfl;exact rfl;exact rfl;all_goals (intro h)) | (apply Qih;exact rfl;exact rfl;exact rfl;exact rfl;all_goals (intro h))) | (apply QjQ) | (apply ZC) | (apply QP;exact rfl;exact rfl;exact rfl;(focus (simp only[WK,List.set_cons_zero,List.set_cons_succ,List.take_succ_cons,List.take_zero,List.drop_succ_cons,List.drop_zero,Value.cells,Nat.reduceAdd,Nat.reduceMul,Nat.zero_add,Nat.add_zero,List.toList_toArray,List.cons_append,List.nil_append,cyc];first | done | exact rfl))) | (apply WP.seq_k;intro K hK) | refine WP.region QW ?_ | (apply Qch;exact rfl) | (apply Qcg;exact rfl) | (apply QfQ;exact rfl;all_goals (intro h)) | (apply WP.skip) | (apply WP.ret) | (apply QjV) | (apply Qin;exact rfl) | (first | (apply ZL;exact rfl;exact rfl;exact rfl;exact rfl;exact rfl;exact rfl;(focus (simp only[WK,List.set_cons_zero,List.set_cons_succ,List.take_succ_cons,List.take_zero,List.drop_succ_cons,List.drop_zero,Value.cells,Nat.reduceAdd,Nat.reduceMul,Nat.zero_add,Nat.add_zero,List.toList_toArray,List.cons_append,List.nil_append,cyc];first | done | exact rfl))) | (apply YZ;exact rfl)) | (fail) | (first | (refine hK _ _ _ ?_;clear hK K) | (clear hK K;refine hK _ _ _ ?_;clear hK K) | (clear hK K;clear hK K;refine hK _ _ _ ?_;clear hK K) | (clear hK K;clear hK K;clear hK K;refine hK _ _ _ ?_;clear hK K)) | intro g
  rw[List.nil_append] at hv
  exact Upd.done (hR _ _ hv)
end Go.Proofs.YtilbengnjgglhaaGreat
namespace Go.Proofs.YtilbengnjgglhaaGreat
open Go.RowKit
set_option linter.unusedSimpArgs false
set_option linter.unusedVariables false
section
variable {P:Program} {ops:Array Oper} {Q:Exit→Act→World→Prop} {S S0:World→Prop} {b:List Nat}
def QfT (P:Program) (ops:Array Oper) (Q:Exit→Act→World→Prop) (S S0:World→Prop) (b:List Nat):Nat→Array Bool→Act→World→Prop
 | 0,listed,a,w=>Region.ready .any ops listed=[]∧Q .normal a w
 | fuel+1,listed,a,w=>(Region.ready .any ops listed=[]→Q .normal a w) ∧
  ∀i∈Region.ready .any ops listed,wpOp P ops Q i (fun a' w'=>S0 w'∧(i∉b→S w→S w')∧QfT P ops Q S S0 b fuel (listed.setIfInBounds i true) a' w') a w
theorem QfV: ∀(fuel:Nat) (listed:Array Bool) (a:Act) (w:World),QfT P ops Q S S0 b fuel listed a w→wpAny P .any ops Q fuel listed a w
 | 0,_,_,_,h=>h
 | fuel+1,_,_,_,h=>⟨h.1,fun i hi=>wpOp_mono (fun a' w' h'=>QfV fuel _ a' w' h'.2.2) (h.2 i hi)⟩
def Ww (ops:Array Oper) (l:Array Bool):Prop:= ∀j oj,ops[j]? =some oj→l.getD j false=true→ ∀e∈oj.after,Region.binds .any e=true→l.getD e.on false=true
theorem Ww.start (n:Nat):Ww ops (List.replicate n false).toArray:=by
 intro j oj _ h;rcases Nat.lt_or_ge j n with h' | h'<;>simp[h'] at h
theorem Ww.set {l:Array Bool} {i:Nat} (h:Ww ops l) (hr:i∈Region.ready .any ops l):Ww ops (l.setIfInBounds i true):=by
 intro j oj hj hl e he hb
 by_cases hij:i=j
 ·subst hij;obtain ⟨_,o,ho,hall⟩:=mem_ready.1 hr
  rw[hj] at ho;injection ho with ho;subst ho
  exact getD_set_true (hall e he hb)
 ·rw[getD_set_ne false hij] at hl
  exact getD_set_true (h j oj hj hl e he hb)
def Wy (ops:Array Oper) (b i:Nat):Prop:= ∀l:Array Bool,Ww ops l→(∃ob,ops[b]? =some ob∧ ∀e∈ob.after,Region.binds .any e=true→l.getD e.on false=true)→l.getD i false=true
theorem Wy.trans {d c i:Nat} {oc:Oper} (h1:Wy ops d c) (hc:ops[c]? =some oc) (h2:Wy ops c i):Wy ops d i:=fun l hl hd=>by
 have h3:=h1 l hl hd;exact h2 l hl ⟨oc,hc,fun e he hb=>hl c oc hc h3 e he hb⟩
theorem QbW {Sx:World→Prop} {i:Nat} {oi:Oper} {v:Value} (hi:ops[i]? =some oi) (hsel: ∀(j:Nat) (o:Oper) cs c,ops[j]? =some o→o.op≠ .select cs c)
  (hQ: ∀c a w,Q (.panic c) (a.put oi.dst v) w→Q (.panic c) a w) (hb:(∀w,S0 w→Sx w)∨(Sx=S∧ ∀d∈b,Wy ops d i)) :
  ∀(fuel:Nat) (listed:Array Bool) (a:Act) (w:World),
   (∀j oj,ops[j]? =some oj→j≠i→listed.getD j true=false→(∀e∈oj.after,Region.binds .any e=true→e.on≠i)→oi.apart ops oj=true) →
   i∈Region.ready .any ops listed→Ww ops listed→YieldsIf P ops Sx oi v a→S0 w→Sx w →
   QfT P ops Q S S0 b fuel (listed.setIfInBounds i true) (a.put oi.dst v) w→QfT P ops Q S S0 b (fuel+1) listed a w:=by
 intro fuel
 induction fuel with
 | zero =>
  intro listed a w _ hr _ hy hS0 hS H;refine ⟨fun h=>(by rw[h] at hr;cases hr),fun j hj=> ?_⟩
  by_cases hji:j=i
  ·subst hji;exact hy.wpOp hi hS ⟨hS0,fun _ h=>h,H⟩
  ·have:=ready_mono hj hji
   rw[H.1] at this
   cases this
 | succ fuel ih =>
  intro listed a w hfree hr hcl hy hS0 hS H;refine ⟨fun h=>(by rw[h] at hr;cases hr),fun j hj=> ?_⟩
  by_cases hji:j=i
  ·subst hji;exact hy.wpOp hi hS ⟨hS0,fun _ h=>h,H⟩
  ·have h1:=H.2 j (ready_mono hj hji);obtain ⟨hjun,oj,hoj,hall⟩:=mem_ready.1 hj;have hnot: ∀e∈oj.after,Region.binds .any e=true→e.on≠i:=fun e he hb heq=>by
    have h1:=hall e he hb;have h0:=(mem_ready.1 hr).1
    rw[heq] at h1
    rcases Nat.lt_or_ge i listed.size with h' | h'
    ·simp[h'] at h0 h1;rw[h0] at h1;cases h1
    ·simp[Array.getElem?_eq_none h'] at h1
   have hSx: ∀w',S0 w'→(j∉b→S w→S w')→Sx w':=fun w' q0 q1=>by
    rcases hb with hb | ⟨rfl,hb⟩
    ·exact hb w' q0
    ·refine q1 (fun hjm=> ?_) hS;have h3:=hb j hjm listed hcl ⟨oj,hoj,hall⟩;have h0:=(mem_ready.1 hr).1;rcases Nat.lt_or_ge i listed.size with h' | h'
     ·simp[h'] at h0 h3;rw[h0] at h3;cases h3
     ·simp[Array.getElem?_eq_none h'] at h3
   have h2:=wpOp_putIf hoj (hfree j oj hoj hji hjun hnot) (fun cs c=>hsel i oi cs c hi) (fun cs c=>hsel j oj cs c hoj) hQ hy h1;have hfree': ∀k ok,ops[k]? =some ok→k≠i→(listed.setIfInBounds j true).getD k true=false →
     (∀e∈ok.after,Region.binds .any e=true→e.on≠i)→oi.apart ops ok=true:=fun k ok hk hki hun hno=>by
    refine hfree k ok hk hki ?_ hno
    by_cases hjk:j=k
    ·subst hjk;exact hjun
    ·rw[getD_set_ne true hjk] at hun;exact hun
   refine wpOp_mono (fun a' w' h3=>⟨h3.2.1,h3.2.2.1,ih (listed.setIfInBounds j true) a' w' hfree' (ready_mono hr (Ne.symm hji)) (hcl.set hj) h3.1 h3.2.1 (hSx w' h3.2.1 h3.2.2.1) ?_⟩) h2
   rw[Array.setIfInBounds_comm _ _ hji]
   exact h3.2.2.2
end
def QiT:Op→Bool
 | .load _ _ | .lookup _ _ _ _ | .call _=>false
 | _=>true
theorem Qjj {P:Program} {T:TT} {o:Op} {fr:Fr} {μ μ':Gh} {L L':List Seg} {k:Value→Prop} (hp:QiT o=true) (h:vcR P T o fr μ L k):vcR P T o fr μ' L' k:=by
 cases o<;>first | exact h | cases hp
def QdY (ops:List Oper) (b i:Nat):Bool:=match Jp ops b with
 | some o=>o.after.toList.any fun e=>Region.binds .any e&&e.on==i
 | none=>false
def Qc1 (ops:List Oper):Nat→List Nat→Nat→Bool
 | b,[],i=>QdY ops b i
 | b,k::r,i=>QdY ops b k&&Qc1 ops k r i
theorem Qat {ops:List Oper} {b i:Nat} (h:QdY ops b i=true): ∃ob,ops.toArray[b]? =some ob∧ ∃e∈ob.after,Region.binds .any e=true∧e.on=i:=by
 unfold QdY at h
 rw[Vx] at h
 cases hob:ops[b]? with
 | none=>rw[hob] at h;cases h
 | some ob =>
  rw[hob] at h
  simp only[List.any_eq_true,Bool.and_eq_true,beq_iff_eq] at h
  obtain ⟨e,h10,h11,h12⟩:=h;exact ⟨ob,by simpa using hob,e,by simpa using h10,h11,h12⟩
theorem Qbr {ops:List Oper}: ∀{p:List Nat} {b i:Nat} (_:Qc1 ops b p i=true),Wy ops.toArray b i
 | [],b,i,h,l,hc,⟨ob,h1,h2⟩=>by
  obtain ⟨ob',h3,e,h4,h5,h6⟩:=Qat h
  rw[h1] at h3;injection h3 with h3;subst h3
  rw[←h6];exact h2 e h4 h5
 | k::r,b,i,h,l,hc,⟨ob,h1,h2⟩=>by
  unfold Qc1 at h
  rw[Bool.and_eq_true] at h
  obtain ⟨ob',h3,e,h4,h5,h6⟩:=Qat h.1
  rw[h1] at h3;injection h3 with h3;subst h3
  have hk:l.getD k false=true:=by rw[←h6];exact h2 e h4 h5
  have hok: ∃ok,ops.toArray[k]? =some ok:=by
   cases r with
   | nil=>obtain ⟨o,h7,_⟩:=Qat (show QdY ops k i=true from h.2);exact ⟨o,h7⟩
   | cons k' r'=>obtain ⟨o,h7,_⟩:=Qat (Bool.and_eq_true _ _▸(show (QdY ops k k'&&Qc1 ops k' r' i)=true from h.2):QdY ops k k'=true∧_).1;exact ⟨o,h7⟩
  obtain ⟨ok,h7⟩:=hok;exact Qbr h.2 l hc ⟨ok,h7,fun e he hb=>hc k ok h7 hk e he hb⟩
def QiL (ps:List (Nat×List Nat)) (i:Nat):List Nat:=match ps with
 | []=>[]
 | p::r=>bif p.1==i then p.2 else QiL r i
def Qbg (ops:List Oper) (ps:List (Nat×List Nat)) (b:Nat):List (Bool×Nat)→List Bool→Option (List Bool)
 | [],l=>some l
 | p::r,l=>match (match p.1 with
   | true=>Region.free .any ops.toArray l.toArray p.2&&(Region.ready .any ops.toArray l.toArray).contains p.2&&((match Jp ops p.2 with | some o=>QiT o.op | none=>false)||Qc1 ops b (QiL ps p.2) p.2)
   | false=>Region.ready .any ops.toArray l.toArray==[p.2]) with
  | true=>Qbg ops ps b r (l.set p.2 true)
  | false=>none
def Qge (ops:List Oper) (ps:List (Nat×List Nat)) (b:Nat):List Nat→Bool
 | []=>true
 | d::r=>Qc1 ops d (QiL ps d) b&&Qge ops ps b r
def Qb9 (ops:List Oper):List Nat→List Bool→Bool
 | [],l=>Region.ready .any ops.toArray l.toArray==[]
 | i::r,l=>(Region.ready .any ops.toArray l.toArray==[i])&&Qb9 ops r (l.set i true)
section
variable {P:Program} {T:TT} {N:NN} {ops:List Oper} {μ0:Gh} {keep:List Seg} {K:QT} {fr:Fr} {μ:Gh} {L:List Seg} {fuel:Nat} {listed:List Bool} {b:Nat} {ds:List Nat} {ps:List (Nat×List Nat)}
def ANB (P:Program) (N:NN) (ops:List Oper) (μ0:Gh) (keep:List Seg) (ds:List Nat) (fuel:Nat) (listed:List Bool) (K:QT) (fr:Fr) (μ:Gh) (L:List Seg):Prop :=
 μ0.le μ→QL keep L→ ∀(a:Act) (w:World) (Q:Exit→Act→World→Prop),Agr N fr a→Inv w μ L →
  (∀fr' μ' L' a' w',μ.le μ'→Agr N fr' a'→Inv w' μ' L'→K fr' μ' L'→Q .normal a' w') →
  (∀c a d v w,Q (.panic c) (Act.put a d v) w→Q (.panic c) a w)→QfT P ops.toArray Q (fun w=>Ju w μ0 keep) (fun w=>Ju w μ0 []) ds fuel listed.toArray a w
def Qgz (P:Program) (T:TT) (N:NN) (ops:List Oper):List Nat→QT→QT
 | [],K=>K
 | i::r,K=>fun fr μ L=> ∃o,Jp ops i=some o∧o.guard=none∧vcO P T o.op o.type fr μ L fun v μ' L'=>Zm N o.dst v fr fun fr'=>Qgz P T N ops r K fr' μ' L'
theorem Qlk {dst:Option Tmp} {op:Op} {ty:TypeId} {pos:String} {aft:Array Edge} {r:List Nat} (hi:Jp ops b=some ⟨dst,op,ty,pos,aft,none⟩) (h:vcO P T op ty fr μ L fun v μ' L'=>Zm N dst v fr fun fr'=>Qgz P T N ops r K fr' μ' L'):Qgz P T N ops (b::r) K fr μ L :=
 ⟨_,hi,rfl,h⟩
theorem Qea {dst:Option Tmp} {op:Op} {ty:TypeId} {pos:String} {aft:Array Edge} (hi:Jp ops b=some ⟨dst,op,ty,pos,aft,none⟩) (h:vcO P T op ty fr μ L fun v μ' L'=>Zm N dst v fr fun fr'=>K fr' μ' L'):Qgz P T N ops [b] K fr μ L :=
 ⟨_,hi,rfl,h⟩
theorem QfU {S:World→Prop} {μ0:Gh} {Q:Exit→Act→World→Prop} (hT:TOk P T): ∀(r:List Nat) (listed:List Bool) (_: ∀i∈r,i∈ds) (_:Qb9 ops r listed=true) {fr:Fr} {μ:Gh} {L:List Seg} (_:Qgz P T N ops r K fr μ L) (_:μ0.le μ) (a:Act) (w:World) (_:Agr N fr a) (_:Inv w μ L)
  (_: ∀fr' μ' L' a' w',μ.le μ'→Agr N fr' a'→Inv w' μ' L'→K fr' μ' L'→Q .normal a' w'),QfT P ops.toArray Q S (fun w=>Ju w μ0 []) ds r.length listed.toArray a w
 | [],listed,_,hs,fr,μ,L,h,hm,a,w,ha,hw,hQ=>by
  simp only[Qb9,beq_iff_eq] at hs
  exact ⟨hs,hQ fr μ L a w (Gh.le.refl _) ha hw h⟩
 | i::r,listed,hd,hs,fr,μ,L,h,hm,a,w,ha,hw,hQ=>by
  simp only[Qb9,Bool.and_eq_true,beq_iff_eq] at hs
  obtain ⟨hr,hs⟩:=hs;obtain ⟨o,ho,hg,h⟩:=h
  rw[Vx] at ho
  have ho':ops.toArray[i]? =some o:=by simpa using ho
  refine ⟨fun h0=>absurd (hr▸h0) (by simp),fun j hj=> ?_⟩
  rw[hr] at hj
  have hj':j=i:=by simpa using hj
  subst hj';unfold wpOp
  rw[ho']
  simp only
  have hwt:Region.wanted o (yielded ops.toArray a.tmps)=true:=by unfold Region.wanted;rw[hg]
  rw[if_pos hwt]
  refine .inl (WW hT ha h hw fun v μ' L' w' hm' hw' hv=> ?_);obtain ⟨fr',hv',ha'⟩:=YA ha hv;refine ⟨ZM (hm.trans hm') QL.nil hw',fun hne=>absurd (hd j (by simp)) hne,?_⟩
  rw[YU]
  exact QfU hT r _ (fun k hk=>hd k (by simp[hk])) hs hv' (hm.trans hm') _ _ ha' hw' fun fr2 μ2 L2 a2 w2 h2=>hQ fr2 μ2 L2 a2 w2 (hm'.trans h2)
theorem Qeb: ∀{r:List Nat} (_:Qge ops ps b r=true),∀d∈r,Wy ops.toArray d b
 | c::r,h,d,hd=>by
  simp only[Qge,Bool.and_eq_true] at h
  rcases List.mem_cons.1 hd with rfl | hd
  ·exact Qbr h.1
  ·exact Qeb h.2 d hd
theorem ANB.steps (hT:TOk P T) (hs:Region.noSelect ops.toArray=true) {listed':List Bool} {r0:List Nat} (hsr:Qb9 ops (b::r0) listed'=true) (hlt:Qge ops ps b r0=true) :
  ∀(plan:List (Bool×Nat)) (listed:List Bool) (_:Qbg ops ps b plan listed=some listed') (_:Ww ops.toArray listed.toArray) {fr:Fr} {μ:Gh} {L:List Seg}
  (_:ZB P T N ops μ0 keep plan fr μ L (Qgz P T N ops (b::r0) K)),ANB P N ops μ0 keep (b::r0) ((b::r0).length+plan.length) listed K fr μ L
 | [],listed,hp,_,fr,μ,L,h=>by
  simp only[Qbg,Option.some.injEq] at hp
  subst hp;intro hm hk a w Q ha hw hQ hQp;exact QfU hT (b::r0) _ (fun i hi=>hi) hsr h hm a w ha hw hQ
 | (q,i)::r,listed,hp,hcl,fr,μ,L,h=>by
  intro hm hk a w Qx ha hw hQ hQp;unfold Qbg at hp
  split at hp
  ·rename_i hc
   unfold ZB at h
   simp only[Vx] at h hc
   cases ho:ops[i]? with
   | none=>rw[ho] at h;exact h.elim
   | some o =>
    rw[ho] at h
    have ho':ops.toArray[i]? =some o:=by simpa using ho
    show QfT P ops.toArray Qx _ _ (b::r0) (((b::r0).length+r.length)+1) listed.toArray a w
    cases q with
    | true =>
     simp only[Bool.and_eq_true,Bool.or_eq_true,ho] at h hc
     have hri:i∈Region.ready .any ops.toArray listed.toArray:=by simpa using hc.1.2
     have hcl2:Ww ops.toArray (listed.set i true).toArray:=by rw[←YU];exact hcl.set hri
     have hcont: ∀v,Zm N o.dst v fr (fun fr'=>ZB P T N ops μ0 keep r fr' μ L (Qgz P T N ops (b::r0) K)) →
       QfT P ops.toArray Qx (fun w=>Ju w μ0 keep) (fun w=>Ju w μ0 []) (b::r0) ((b::r0).length+r.length) (listed.toArray.setIfInBounds i true) (a.put o.dst v) w:=by
      intro v hv;obtain ⟨fr',hv',ha'⟩:=YA ha hv
      rw[YU]
      exact ANB.steps hT hs hsr hlt r _ hp hcl2 hv' hm hk _ w Qx ha' hw hQ hQp
     have h00:Ju w μ0 []:=ZM hm QL.nil hw;rcases ZX ha h with ⟨hg,h⟩ | ⟨hg,h⟩
     ·rcases hc.2 with hpu | hwt
      ·obtain ⟨v,hv,hrun⟩:=Qak hT ha (Qjj (μ':=μ0) (L':=[]) hpu h);exact QbW (Sx:=fun w=>Ju w μ0 []) ho' (Region.noSelect_spec hs) (fun c a w h=>hQp c a _ _ w h) (.inl fun _ h=>h) _ _ a w (Region.free_spec ho' hc.1.1) hri hcl (.inl ⟨hg,fun w hw=>hrun w hw⟩) h00 h00 (hcont v hv)
      ·have hw0:Wy ops.toArray b i:=Qbr hwt;have hwb: ∀d∈b::r0,Wy ops.toArray d i:=fun d hd=>by
        rcases List.mem_cons.1 hd with rfl | hd
        ·exact hw0
        ·simp only[Qb9,Bool.and_eq_true,beq_iff_eq] at hsr
         obtain ⟨_,ob,hob,_⟩:=mem_ready.1 (show b∈Region.ready .any ops.toArray listed'.toArray by rw[hsr.1];simp);exact (Qeb hlt d hd).trans hob hw0
       obtain ⟨v,hv,hrun⟩:=Qak hT ha h;exact QbW (Sx:=fun w=>Ju w μ0 keep) ho' (Region.noSelect_spec hs) (fun c a w h=>hQp c a _ _ w h) (.inr ⟨rfl,hwb⟩) _ _ a w (Region.free_spec ho' hc.1.1) hri hcl (.inl ⟨hg,fun w hw=>hrun w hw⟩) h00 (ZM hm hk hw) (hcont v hv)
     ·exact QbW (Sx:=fun w=>Ju w μ0 []) ho' (Region.noSelect_spec hs) (fun c a w h=>hQp c a _ _ w h) (.inl fun _ h=>h) _ _ a w (Region.free_spec ho' hc.1.1) hri hcl (.inr ⟨hg,rfl⟩) h00 h00 (hcont undef h)
    | false =>
     simp only[beq_iff_eq] at h hc
     refine ⟨fun h0=>absurd (hc▸h0) (by simp),fun j hj=> ?_⟩
     rw[hc] at hj
     have hj':j=i:=by simpa using hj
     subst hj';have hcl2:Ww ops.toArray (listed.set j true).toArray:=by rw[←YU];exact hcl.set (by rw[hc];simp)
     unfold wpOp
     rw[ho']
     simp only
     rcases ZX ha h with ⟨hg,h⟩ | ⟨hg,h⟩
     ·rw[if_pos hg]
      refine .inl (WW hT ha h hw fun v μ' L' w' hm' hw' hv=> ?_);obtain ⟨fr',hv',ha'⟩:=YA ha hv.2;refine ⟨ZM (hm.trans hm') QL.nil hw',fun _ _=>ZM (hm.trans hm') hv.1 hw',?_⟩
      rw[YU]
      exact ANB.steps hT hs hsr hlt r _ hp hcl2 hv' (hm.trans hm') hv.1 _ w' Qx ha' hw' (fun fr2 μ2 L2 a2 w2 h2=>hQ fr2 μ2 L2 a2 w2 (hm'.trans h2)) hQp
     ·rw[if_neg (by rw[hg];exact Bool.false_ne_true)]
      obtain ⟨fr',hv',ha'⟩:=YA ha h;refine ⟨ZM hm QL.nil hw,fun _ h=>h,?_⟩
      rw[YU]
      exact ANB.steps hT hs hsr hlt r _ hp hcl2 hv' hm hk _ w Qx ha' hw hQ hQp
  ·cases hp
theorem WP.drawB {B:Nat→QT} {R:QT} (hx:P.follows .mixedOrders=true) (hT:TOk P T) {id:Nat} (keep:List Seg) (hk:QL keep L) (b:Nat) (ps:List (Nat×List Nat)) (plan:List (Bool×Nat)) {l':List Bool}
  (hs:Region.noSelect ops.toArray=true) (hp:Qbg ops ps b plan (List.replicate ops.length false)=some l') (r0:List Nat) (hl:plan.length+(b::r0).length=ops.length)
  (hsr:Qb9 ops (b::r0) l'=true) (hlt:Qge ops ps b r0=true)
  (h:ZB P T N ops μ keep plan fr μ L (Qgz P T N ops (b::r0) K)) (hnd:N.rd=none∨Qbb ops=true:=by first | exact .inl rfl | exact .inr (by kernel_rfl)):WP P N (.region id ops.toArray true) K B R fr μ L:=by
 intro a w ha hw;refine Qe4 hx hnd Qct (QfV (S:=fun w=>Ju w μ keep) (S0:=fun w=>Ju w μ []) (b:=b::r0) _ _ _ _ ?_);have e1:ops.toArray.size=(b::r0).length+plan.length:=by simp at hl ⊢;omega
 have e2:Array.replicate ((b::r0).length+plan.length) false=(List.replicate ops.length false).toArray:=by simp at hl ⊢;omega
 rw[e1,e2]
 exact ANB.steps hT hs hsr hlt plan _ hp (Ww.start _) h (Gh.le.refl _) hk a _ _ ha hw.drew (fun fr' μ' L' a' w' hm ha' hw' hk'=>⟨fr',μ',L',ha',hm,hw',hk'⟩) (fun _ _ _ _ _ h=>h)
end
theorem E.{u} {α:Sort u} {a:α}:a=a:=rfl
section
variable {P:Program} {T:TT} {N:NN} {ops r:List Oper} {dst:Option Tmp} {op:Op} {ty:TypeId} {pos:String} {aft:Array Edge} {K:QT} {d:Tmp} {fr:Fr} {μ:Gh} {L:List Seg} {v:Value}
theorem Pt {μ0:Gh} {keep:List Seg} {pl:List (Bool×Nat)} {i:Nat} (hd:Nat.blt d N.n=true) (hi:Jp ops i=some ⟨dst,op,ty,pos,aft,none⟩) (h:vcR P T op ((d,v)::fr) μ0 keep fun u=>Zm N dst u ((d,v)::fr) fun fr'=>ZB P T N ops μ0 keep pl fr' μ L K) :
  Zm N (some d) v fr fun fr'=>ZB P T N ops μ0 keep ((true,i)::pl) fr' μ L K:=Yc hd (Qce hi h)
end
end Go.Proofs.YtilbengnjgglhaaGreat
