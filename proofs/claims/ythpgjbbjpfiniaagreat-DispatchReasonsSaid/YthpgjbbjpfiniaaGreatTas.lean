/- Printed by gen.py of this repo: specifications of Go functions as Lean functions. -/
import Derived.Test.YthpgjbbjpfiniaaGreatGa
import Derived.Test.YthpgjbbjpfiniaaGreatGs
import Derived.Test.YthpgjbbjpfiniaaGreatGt
import Derived.Test.YthpgjbbjpfiniaaGreatGx
namespace Go.Proofs.YthpgjbbjpfiniaaGreat
open Go.RowKit
set_option linter.unusedSimpArgs false
set_option linter.unusedVariables false
structure T_api_Edge where
  From : Int
  To : Int
  Meters : Int
  Secs : Int
deriving DecidableEq
def enc_api_Edge (x : T_api_Edge) : List Value := [.int .i64 x.From, .int .i64 x.To, .int .i64 x.Meters, .int .i64 x.Secs]
def r_api_Edge : Rp T_api_Edge := rFlat 4 enc_api_Edge (fun _ => rfl) (by intro x u hu; simp only [enc_api_Edge, List.mem_cons, List.not_mem_nil, or_false] at hu; rcases hu with rfl | rfl | rfl | rfl <;> rfl)
structure T_api_Road where
  Nodes : Int
  Edges : (List T_api_Edge)
deriving DecidableEq
def r_api_Road : Rp T_api_Road where
  sz := 2
  rep μ x cs := ∃ (A1 : Option Addr) (c1 : Nat), cs = [.int .i64 x.Nodes, .slice A1 x.Edges.length c1] ∧ (x.Edges.length ≤ c1 ∧ c1 ≤ maxLen) ∧ ArrR r_api_Edge μ A1 x.Edges
  len := by rintro μ x cs ⟨A1, c1, rfl, _⟩; rfl
  mono := by rintro μ μ' x cs hm ⟨A1, c1, h, hl1, ha1⟩; exact ⟨A1, c1, h, hl1, ha1.mono hm⟩
  one := by rintro μ x cs ⟨A1, c1, rfl, _⟩ u hu; simp only [List.mem_cons, List.not_mem_nil, or_false] at hu; rcases hu with rfl | rfl <;> rfl
structure T_api_Window where
  From : Int
  To : Int
deriving DecidableEq
def enc_api_Window (x : T_api_Window) : List Value := [.int .i64 x.From, .int .i64 x.To]
def r_api_Window : Rp T_api_Window := rFlat 2 enc_api_Window (fun _ => rfl) (by intro x u hu; simp only [enc_api_Window, List.mem_cons, List.not_mem_nil, or_false] at hu; rcases hu with rfl | rfl <;> rfl)
structure T_api_Vehicle where
  ID : ByteArray
  Depot : Int
  Shift : T_api_Window
  Grams : Int
  Kinds : Int
deriving DecidableEq
def enc_api_Vehicle (x : T_api_Vehicle) : List Value := [.string x.ID, .int .i64 x.Depot, .int .i64 x.Shift.From, .int .i64 x.Shift.To, .int .i64 x.Grams, .int .i64 x.Kinds]
def r_api_Vehicle : Rp T_api_Vehicle := rFlat 6 enc_api_Vehicle (fun _ => rfl) (by intro x u hu; simp only [enc_api_Vehicle, List.mem_cons, List.not_mem_nil, or_false] at hu; rcases hu with rfl | rfl | rfl | rfl | rfl | rfl <;> rfl)
structure T_api_Demand where
  Container : Int
  Node : Int
  Kind : Int
  Grams : Int
  When : T_api_Window
  Service : Int
deriving DecidableEq
def enc_api_Demand (x : T_api_Demand) : List Value := [.int .i64 x.Container, .int .i64 x.Node, .int .i64 x.Kind, .int .i64 x.Grams, .int .i64 x.When.From, .int .i64 x.When.To, .int .i64 x.Service]
def r_api_Demand : Rp T_api_Demand := rFlat 7 enc_api_Demand (fun _ => rfl) (by intro x u hu; simp only [enc_api_Demand, List.mem_cons, List.not_mem_nil, or_false] at hu; rcases hu with rfl | rfl | rfl | rfl | rfl | rfl | rfl <;> rfl)
structure T_api_Problem where
  Road : T_api_Road
  Vehicles : (List T_api_Vehicle)
  Demands : (List T_api_Demand)
  Unload : Int
  UnloadSecs : Int
deriving DecidableEq
def r_api_Problem : Rp T_api_Problem where
  sz := 6
  rep μ x cs := ∃ (A1 : Option Addr) (c1 : Nat) (A2 : Option Addr) (c2 : Nat) (A3 : Option Addr) (c3 : Nat), cs = [.int .i64 x.Road.Nodes, .slice A1 x.Road.Edges.length c1, .slice A2 x.Vehicles.length c2, .slice A3 x.Demands.length c3, .int .i64 x.Unload, .int .i64 x.UnloadSecs] ∧ (x.Road.Edges.length ≤ c1 ∧ c1 ≤ maxLen) ∧ ArrR r_api_Edge μ A1 x.Road.Edges ∧ (x.Vehicles.length ≤ c2 ∧ c2 ≤ maxLen) ∧ ArrR r_api_Vehicle μ A2 x.Vehicles ∧ (x.Demands.length ≤ c3 ∧ c3 ≤ maxLen) ∧ ArrR r_api_Demand μ A3 x.Demands
  len := by rintro μ x cs ⟨A1, c1, A2, c2, A3, c3, rfl, _⟩; rfl
  mono := by rintro μ μ' x cs hm ⟨A1, c1, A2, c2, A3, c3, h, hl1, ha1, hl2, ha2, hl3, ha3⟩; exact ⟨A1, c1, A2, c2, A3, c3, h, hl1, ha1.mono hm, hl2, ha2.mono hm, hl3, ha3.mono hm⟩
  one := by rintro μ x cs ⟨A1, c1, A2, c2, A3, c3, rfl, _⟩ u hu; simp only [List.mem_cons, List.not_mem_nil, or_false] at hu; rcases hu with rfl | rfl | rfl | rfl | rfl | rfl <;> rfl
structure T_api_Tour where
  Vehicle : Int
  Stops : (List Int)
deriving DecidableEq
def r_api_Tour : Rp T_api_Tour where
  sz := 2
  rep μ x cs := ∃ (A1 : Option Addr) (c1 : Nat), cs = [.int .i64 x.Vehicle, .slice A1 x.Stops.length c1] ∧ (x.Stops.length ≤ c1 ∧ c1 ≤ maxLen) ∧ ArrR rInt μ A1 x.Stops
  len := by rintro μ x cs ⟨A1, c1, rfl, _⟩; rfl
  mono := by rintro μ μ' x cs hm ⟨A1, c1, h, hl1, ha1⟩; exact ⟨A1, c1, h, hl1, ha1.mono hm⟩
  one := by rintro μ x cs ⟨A1, c1, rfl, _⟩ u hu; simp only [List.mem_cons, List.not_mem_nil, or_false] at hu; rcases hu with rfl | rfl <;> rfl
structure T_api_Plan where
  Tours : (List T_api_Tour)
  Left : (List Int)
deriving DecidableEq
def r_api_Plan : Rp T_api_Plan where
  sz := 2
  rep μ x cs := ∃ (A0 : Option Addr) (c0 : Nat) (A1 : Option Addr) (c1 : Nat), cs = [.slice A0 x.Tours.length c0, .slice A1 x.Left.length c1] ∧ (x.Tours.length ≤ c0 ∧ c0 ≤ maxLen) ∧ ArrR r_api_Tour μ A0 x.Tours ∧ (x.Left.length ≤ c1 ∧ c1 ≤ maxLen) ∧ ArrR rInt μ A1 x.Left
  len := by rintro μ x cs ⟨A0, c0, A1, c1, rfl, _⟩; rfl
  mono := by rintro μ μ' x cs hm ⟨A0, c0, A1, c1, h, hl0, ha0, hl1, ha1⟩; exact ⟨A0, c0, A1, c1, h, hl0, ha0.mono hm, hl1, ha1.mono hm⟩
  one := by rintro μ x cs ⟨A0, c0, A1, c1, rfl, _⟩ u hu; simp only [List.mem_cons, List.not_mem_nil, or_false] at hu; rcases hu with rfl | rfl <;> rfl
structure T_api_Arc where
  From : Int
  To : Int
deriving DecidableEq
def enc_api_Arc (x : T_api_Arc) : List Value := [.int .i64 x.From, .int .i64 x.To]
def r_api_Arc : Rp T_api_Arc := rFlat 2 enc_api_Arc (fun _ => rfl) (by intro x u hu; simp only [enc_api_Arc, List.mem_cons, List.not_mem_nil, or_false] at hu; rcases hu with rfl | rfl <;> rfl)
structure T_api_Graph where
  Nodes : Int
  Arcs : (List T_api_Arc)
deriving DecidableEq
structure T_insert_option where
  tour : T_api_Tour
  cost : Int
deriving DecidableEq
def r_insert_option : Rp T_insert_option where
  sz := 3
  rep μ x cs := ∃ (A1 : Option Addr) (c1 : Nat), cs = [.int .i64 x.tour.Vehicle, .slice A1 x.tour.Stops.length c1, .int .i64 x.cost] ∧ (x.tour.Stops.length ≤ c1 ∧ c1 ≤ maxLen) ∧ ArrR rInt μ A1 x.tour.Stops
  len := by rintro μ x cs ⟨A1, c1, rfl, _⟩; rfl
  mono := by rintro μ μ' x cs hm ⟨A1, c1, h, hl1, ha1⟩; exact ⟨A1, c1, h, hl1, ha1.mono hm⟩
  one := by rintro μ x cs ⟨A1, c1, rfl, _⟩ u hu; simp only [List.mem_cons, List.not_mem_nil, or_false] at hu; rcases hu with rfl | rfl | rfl <;> rfl
structure T_api_Leg where
  Secs : Int
  Meters : Int
deriving DecidableEq
def enc_api_Leg (x : T_api_Leg) : List Value := [.int .i64 x.Secs, .int .i64 x.Meters]
def r_api_Leg : Rp T_api_Leg := rFlat 2 enc_api_Leg (fun _ => rfl) (by intro x u hu; simp only [enc_api_Leg, List.mem_cons, List.not_mem_nil, or_false] at hu; rcases hu with rfl | rfl <;> rfl)
structure T_tour_place where
  node : Int
  time : Int
  load : Int
  meters : Int
deriving DecidableEq
structure T_api_Visit where
  Stop : Int
  Node : Int
  Arrive : Int
  Start : Int
  Leave : Int
  Load : Int
deriving DecidableEq
def enc_api_Visit (x : T_api_Visit) : List Value := [.int .i64 x.Stop, .int .i64 x.Node, .int .i64 x.Arrive, .int .i64 x.Start, .int .i64 x.Leave, .int .i64 x.Load]
def r_api_Visit : Rp T_api_Visit := rFlat 6 enc_api_Visit (fun _ => rfl) (by intro x u hu; simp only [enc_api_Visit, List.mem_cons, List.not_mem_nil, or_false] at hu; rcases hu with rfl | rfl | rfl | rfl | rfl | rfl <;> rfl)
structure T_tour_walk where
  place : T_tour_place
  p : T_api_Problem
  v : T_api_Vehicle
  legs : (List (Int × (List T_api_Leg)))
  visits : (List T_api_Visit)
deriving DecidableEq
def Obj_tour_walk (μ : Gh) (v : Value) (x : T_tour_walk) (so : Seg) : Prop := ∃ (g : Nat) (A5 : Option Addr) (c5 : Nat) (A6 : Option Addr) (c6 : Nat) (A7 : Option Addr) (c7 : Nat) (m16 : Nat) (es16 : Array MapEntry) (cn16 : Nat) (A17 : Option Addr) (c17 : Nat) (ch17 : Seg), v = .pointer (some ⟨g, 0, none⟩) ∧ so = ((g, Obj.cells #[.int .i64 x.place.node, .int .i64 x.place.time, .int .i64 x.place.load, .int .i64 x.place.meters, .int .i64 x.p.Road.Nodes, .slice A5 x.p.Road.Edges.length c5, .slice A6 x.p.Vehicles.length c6, .slice A7 x.p.Demands.length c7, .int .i64 x.p.Unload, .int .i64 x.p.UnloadSecs, .string x.v.ID, .int .i64 x.v.Depot, .int .i64 x.v.Shift.From, .int .i64 x.v.Shift.To, .int .i64 x.v.Grams, .int .i64 x.v.Kinds, .map (some m16), .slice A17 x.visits.length c17] 104 (0, 0)) :: ((m16, Obj.map es16 cn16) :: ch17)) ∧ ((x.p.Road.Edges.length ≤ c5 ∧ c5 ≤ maxLen) ∧ ArrR r_api_Edge μ A5 x.p.Road.Edges) ∧ ((x.p.Vehicles.length ≤ c6 ∧ c6 ≤ maxLen) ∧ ArrR r_api_Vehicle μ A6 x.p.Vehicles) ∧ ((x.p.Demands.length ≤ c7 ∧ c7 ≤ maxLen) ∧ ArrR r_api_Demand μ A7 x.p.Demands) ∧ MapF r_api_Leg μ es16 cn16 x.legs ∧ Own r_api_Visit 135 μ (.slice A17 x.visits.length c17) x.visits ch17
theorem Obj_tour_walk.mono {μ μ' : Gh} {v : Value} {x : T_tour_walk} {so : Seg} (h : Obj_tour_walk μ v x so) (hm : μ.le μ') : Obj_tour_walk μ' v x so := by
  obtain ⟨g, A5, c5, A6, c6, A7, c7, m16, es16, cn16, A17, c17, ch17, hv, hs, h5, h6, h7, h16, h17⟩ := h
  exact ⟨g, A5, c5, A6, c6, A7, c7, m16, es16, cn16, A17, c17, ch17, hv, hs, ⟨h5.1, h5.2.mono hm⟩, ⟨h6.1, h6.2.mono hm⟩, ⟨h7.1, h7.2.mono hm⟩, h16.mono hm, h17.mono hm⟩
theorem Obj_tour_walk.fl {x : T_tour_walk} {g : Nat} {A5 : Option Addr} {c5 : Nat} {A6 : Option Addr} {c6 : Nat} {A7 : Option Addr} {c7 : Nat} {m16 : Nat} {es16 : Array MapEntry} {cn16 : Nat} {A17 : Option Addr} {c17 : Nat} {ch17 : Seg} : ([[(g, Obj.cells #[.int .i64 x.place.node, .int .i64 x.place.time, .int .i64 x.place.load, .int .i64 x.place.meters, .int .i64 x.p.Road.Nodes, .slice A5 x.p.Road.Edges.length c5, .slice A6 x.p.Vehicles.length c6, .slice A7 x.p.Demands.length c7, .int .i64 x.p.Unload, .int .i64 x.p.UnloadSecs, .string x.v.ID, .int .i64 x.v.Depot, .int .i64 x.v.Shift.From, .int .i64 x.v.Shift.To, .int .i64 x.v.Grams, .int .i64 x.v.Kinds, .map (some m16), .slice A17 x.visits.length c17] 104 (0, 0))], [(m16, Obj.map es16 cn16)], ch17] : List Seg).flatten = ((g, Obj.cells #[.int .i64 x.place.node, .int .i64 x.place.time, .int .i64 x.place.load, .int .i64 x.place.meters, .int .i64 x.p.Road.Nodes, .slice A5 x.p.Road.Edges.length c5, .slice A6 x.p.Vehicles.length c6, .slice A7 x.p.Demands.length c7, .int .i64 x.p.Unload, .int .i64 x.p.UnloadSecs, .string x.v.ID, .int .i64 x.v.Depot, .int .i64 x.v.Shift.From, .int .i64 x.v.Shift.To, .int .i64 x.v.Grams, .int .i64 x.v.Kinds, .map (some m16), .slice A17 x.visits.length c17] 104 (0, 0)) :: ((m16, Obj.map es16 cn16) :: ch17)) := by simp
structure T_road_stop where
  node : Int
  leg : T_api_Leg
deriving DecidableEq
structure T_pqueue_item_stop where
  value : T_road_stop
  n : Int
deriving DecidableEq
def enc_pqueue_item_stop (x : T_pqueue_item_stop) : List Value := [.int .i64 x.value.node, .int .i64 x.value.leg.Secs, .int .i64 x.value.leg.Meters, .int .i64 x.n]
def r_pqueue_item_stop : Rp T_pqueue_item_stop := rFlat 4 enc_pqueue_item_stop (fun _ => rfl) (by intro x u hu; simp only [enc_pqueue_item_stop, List.mem_cons, List.not_mem_nil, or_false] at hu; rcases hu with rfl | rfl | rfl | rfl <;> rfl)
structure T_pqueue_Queue_stop where
  heap : (List T_pqueue_item_stop)
  count : Int
deriving DecidableEq
def Obj_pqueue_Queue_stop (μ : Gh) (v : Value) (x : T_pqueue_Queue_stop) (so : Seg) : Prop := ∃ (g : Nat) (A1 : Option Addr) (c1 : Nat) (ch1 : Seg), v = .pointer (some ⟨g, 0, none⟩) ∧ so = ((g, Obj.cells #[.func (.func 153) #[] #[], .slice A1 x.heap.length c1, .int .i64 x.count] 211 (0, 0)) :: ch1) ∧ Own r_pqueue_item_stop 213 μ (.slice A1 x.heap.length c1) x.heap ch1
theorem Obj_pqueue_Queue_stop.mono {μ μ' : Gh} {v : Value} {x : T_pqueue_Queue_stop} {so : Seg} (h : Obj_pqueue_Queue_stop μ v x so) (hm : μ.le μ') : Obj_pqueue_Queue_stop μ' v x so := by
  obtain ⟨g, A1, c1, ch1, hv, hs, h1⟩ := h
  exact ⟨g, A1, c1, ch1, hv, hs, h1.mono hm⟩
theorem Obj_pqueue_Queue_stop.fl {x : T_pqueue_Queue_stop} {g : Nat} {A1 : Option Addr} {c1 : Nat} {ch1 : Seg} : ([[(g, Obj.cells #[.func (.func 153) #[] #[], .slice A1 x.heap.length c1, .int .i64 x.count] 211 (0, 0))], ch1] : List Seg).flatten = ((g, Obj.cells #[.func (.func 153) #[] #[], .slice A1 x.heap.length c1, .int .i64 x.count] 211 (0, 0)) :: ch1) := by simp
structure T_dispatch_rated where
  plan : T_api_Plan
  cost : Int
deriving DecidableEq
def r_dispatch_rated : Rp T_dispatch_rated where
  sz := 3
  rep μ x cs := ∃ (A0 : Option Addr) (c0 : Nat) (A1 : Option Addr) (c1 : Nat), cs = [.slice A0 x.plan.Tours.length c0, .slice A1 x.plan.Left.length c1, .int .i64 x.cost] ∧ (x.plan.Tours.length ≤ c0 ∧ c0 ≤ maxLen) ∧ ArrR r_api_Tour μ A0 x.plan.Tours ∧ (x.plan.Left.length ≤ c1 ∧ c1 ≤ maxLen) ∧ ArrR rInt μ A1 x.plan.Left
  len := by rintro μ x cs ⟨A0, c0, A1, c1, rfl, _⟩; rfl
  mono := by rintro μ μ' x cs hm ⟨A0, c0, A1, c1, h, hl0, ha0, hl1, ha1⟩; exact ⟨A0, c0, A1, c1, h, hl0, ha0.mono hm, hl1, ha1.mono hm⟩
  one := by rintro μ x cs ⟨A0, c0, A1, c1, rfl, _⟩ u hu; simp only [List.mem_cons, List.not_mem_nil, or_false] at hu; rcases hu with rfl | rfl | rfl <;> rfl
structure T_api_Reason where
  Vehicle : Int
  Err : Int
deriving DecidableEq
def enc_api_Reason (x : T_api_Reason) : List Value := [.int .i64 x.Vehicle, .int .i64 x.Err]
def r_api_Reason : Rp T_api_Reason := rFlat 2 enc_api_Reason (fun _ => rfl) (by intro x u hu; simp only [enc_api_Reason, List.mem_cons, List.not_mem_nil, or_false] at hu; rcases hu with rfl | rfl <;> rfl)
def Obj_box_dispatch_rated (μ : Gh) (v : Value) (x : (List T_dispatch_rated)) (so : Seg) : Prop := ∃ (g : Nat) (A0 : Option Addr) (c0 : Nat) (ch0 : Seg), v = .pointer (some ⟨g, 0, none⟩) ∧ so = ((g, Obj.cells #[.slice A0 x.length c0] 77 (0, 0)) :: ch0) ∧ Own r_dispatch_rated 82 μ (.slice A0 x.length c0) x ch0
theorem Obj_box_dispatch_rated.mono {μ μ' : Gh} {v : Value} {x : (List T_dispatch_rated)} {so : Seg} (h : Obj_box_dispatch_rated μ v x so) (hm : μ.le μ') : Obj_box_dispatch_rated μ' v x so := by
  obtain ⟨g, A0, c0, ch0, hv, hs, h0⟩ := h
  exact ⟨g, A0, c0, ch0, hv, hs, h0.mono hm⟩
theorem Obj_box_dispatch_rated.fl {x : (List T_dispatch_rated)} {g : Nat} {A0 : Option Addr} {c0 : Nat} {ch0 : Seg} : ([[(g, Obj.cells #[.slice A0 x.length c0] 77 (0, 0))], ch0] : List Seg).flatten = ((g, Obj.cells #[.slice A0 x.length c0] 77 (0, 0)) :: ch0) := by simp
def wf_api_Edge (x : T_api_Edge) : Prop := (wfI .i64) x.From ∧ (wfI .i64) x.To ∧ (wfI .i64) x.Meters ∧ (wfI .i64) x.Secs
def wf_api_Road (x : T_api_Road) : Prop := (wfI .i64) x.Nodes ∧ (fun xs : List T_api_Edge => ∀ x ∈ xs, wf_api_Edge x) x.Edges
def wf_api_Window (x : T_api_Window) : Prop := (wfI .i64) x.From ∧ (wfI .i64) x.To
def wf_api_Vehicle (x : T_api_Vehicle) : Prop := (fun s : ByteArray => s.size ≤ maxLen) x.ID ∧ (wfI .i64) x.Depot ∧ wf_api_Window x.Shift ∧ (wfI .i64) x.Grams ∧ (wfI .i64) x.Kinds
def wf_api_Demand (x : T_api_Demand) : Prop := (wfI .i64) x.Container ∧ (wfI .i64) x.Node ∧ (wfI .i64) x.Kind ∧ (wfI .i64) x.Grams ∧ wf_api_Window x.When ∧ (wfI .i64) x.Service
def wf_api_Problem (x : T_api_Problem) : Prop := wf_api_Road x.Road ∧ (fun xs : List T_api_Vehicle => ∀ x ∈ xs, wf_api_Vehicle x) x.Vehicles ∧ (fun xs : List T_api_Demand => ∀ x ∈ xs, wf_api_Demand x) x.Demands ∧ (wfI .i64) x.Unload ∧ (wfI .i64) x.UnloadSecs
def wf_api_Tour (x : T_api_Tour) : Prop := (wfI .i64) x.Vehicle ∧ (fun xs : List Int => ∀ x ∈ xs, (wfI .i64) x) x.Stops
def wf_api_Plan (x : T_api_Plan) : Prop := (fun xs : List T_api_Tour => ∀ x ∈ xs, wf_api_Tour x) x.Tours ∧ (fun xs : List Int => ∀ x ∈ xs, (wfI .i64) x) x.Left
def recyclingref22_Large_l1 (p1 : T_api_Problem) (v2 : Int) : Option ((Int) ⊕ (Unit ⊕ Bool)) :=
  bif (decide (v2 < ((p1.Vehicles.length : Nat) : Int))) then
    Option.bind (getI p1.Vehicles v2) fun x1 =>
    bif (decide (200 < ((x1.ID.size : Nat) : Int))) then
      some (.inr (.inr true))
    else
      some (.inl (w64 (v2 + 1)))
  else
    some (.inr (.inl ()))
def recyclingref22_Large (p1 : T_api_Problem) : Option (Bool) :=
  Option.bind (
    bif (decide (600 < ((p1.Road.Edges.length : Nat) : Int))) then
      some true
    else
      bif (decide (30 < ((p1.Vehicles.length : Nat) : Int))) then
        some true
      else
        some (decide (60 < ((p1.Demands.length : Nat) : Int)))) (fun v1 =>
    bif v1 then
      some true
    else
      Option.bind (
        iter (recyclingref22_Large_l1 p1) (((p1.Vehicles.length : Nat) : Int).toNat + 1) 0) (fun o_ => osum o_ (fun _ =>
        some false) (fun rv22 => some rv22)))
def recyclingref22_LargePlan_l1 (x1 : T_api_Plan) (v2 : Int) : Option ((Int) ⊕ (Unit ⊕ Bool)) :=
  bif (decide (v2 < ((x1.Tours.length : Nat) : Int))) then
    Option.bind (getI x1.Tours v2) fun x2 =>
    bif (decide (100 < ((x2.Stops.length : Nat) : Int))) then
      some (.inr (.inr true))
    else
      some (.inl (w64 (v2 + 1)))
  else
    some (.inr (.inl ()))
def recyclingref22_LargePlan (x1 : T_api_Plan) : Option (Bool) :=
  Option.bind (
    bif (decide (30 < ((x1.Tours.length : Nat) : Int))) then
      some true
    else
      some (decide (100 < ((x1.Left.length : Nat) : Int)))) (fun v1 =>
    bif v1 then
      some true
    else
      Option.bind (
        iter (recyclingref22_LargePlan_l1 x1) (((x1.Tours.length : Nat) : Int).toNat + 1) 0) (fun o_ => osum o_ (fun _ =>
        some false) (fun rv37 => some rv37)))
def recyclingref25_Large_l1 (x1 : T_api_Plan) (v2 : Int) : Option ((Int) ⊕ (Unit ⊕ Bool)) :=
  bif (decide (v2 < ((x1.Tours.length : Nat) : Int))) then
    Option.bind (getI x1.Tours v2) fun x2 =>
    bif (decide (16 < ((x2.Stops.length : Nat) : Int))) then
      some (.inr (.inr true))
    else
      some (.inl (w64 (v2 + 1)))
  else
    some (.inr (.inl ()))
def recyclingref25_Large (p1 : T_api_Problem) (x1 : T_api_Plan) : Option (Bool) :=
  Option.bind (
    Option.bind (recyclingref22_Large p1) fun r1 =>
    bif r1 then
      some true
    else
      Option.bind (recyclingref22_LargePlan x1) fun r2 =>
      bif r2 then
        some true
      else
        bif (decide (100 < ((p1.Road.Edges.length : Nat) : Int))) then
          some true
        else
          bif (decide (4 < ((p1.Vehicles.length : Nat) : Int))) then
            some true
          else
            bif (decide (8 < ((p1.Demands.length : Nat) : Int))) then
              some true
            else
              some (decide (8 < ((x1.Tours.length : Nat) : Int)))) (fun v1 =>
    bif v1 then
      some true
    else
      Option.bind (
        iter (recyclingref25_Large_l1 x1) (((x1.Tours.length : Nat) : Int).toNat + 1) 0) (fun o_ => osum o_ (fun _ =>
        some false) (fun rv52 => some rv52)))
def road_network_l1 (r1 : T_api_Road) (j_ : (List T_api_Arc) × Int) : Option (((List T_api_Arc) × Int) ⊕ ((List T_api_Arc))) :=
  oun j_ fun f1 v1 =>
  bif (decide (v1 < ((r1.Edges.length : Nat) : Int))) then
    Option.bind (getI r1.Edges v1) fun x1 =>
    Option.bind (appO f1 [(T_api_Arc.mk x1.From x1.To)]) fun l1 =>
    some (.inl (l1, w64 (v1 + 1)))
  else
    some (.inr f1)
def road_network (r1 : T_api_Road) : Option (T_api_Graph) :=
  Option.bind (
    iter (road_network_l1 r1) (((r1.Edges.length : Nat) : Int).toNat + 1) ([], 0)) (fun f2 =>
    some (T_api_Graph.mk r1.Nodes f2))
def graph_Check_l1 (g1 : T_api_Graph) (v2 : Int) : Option ((Int) ⊕ (Unit ⊕ Int)) :=
  bif (decide (v2 < ((g1.Arcs.length : Nat) : Int))) then
    Option.bind (getI g1.Arcs v2) fun x1 =>
    Option.bind (
      bif (decide (x1.From < 0)) then
        some true
      else
        bif (decide (g1.Nodes ≤ x1.From)) then
          some true
        else
          bif (decide (x1.To < 0)) then
            some true
          else
            some (decide (g1.Nodes ≤ x1.To))) (fun v3 =>
      bif v3 then
        some (.inr (.inr 7))
      else
        some (.inl (w64 (v2 + 1))))
  else
    some (.inr (.inl ()))
def graph_Check (g1 : T_api_Graph) : Option (Int) :=
  Option.bind (
    bif (decide (g1.Nodes < 0)) then
      some true
    else
      some (decide (64 < g1.Nodes))) (fun v1 =>
    bif v1 then
      some 1
    else
      bif (decide (512 < ((g1.Arcs.length : Nat) : Int))) then
        some 8
      else
        Option.bind (
          iter (graph_Check_l1 g1) (((g1.Arcs.length : Nat) : Int).toNat + 1) 0) (fun o_ => osum o_ (fun _ =>
          some 0) (fun rv243 => some rv243)))
def road_Check_l1 (r1 : T_api_Road) (v2 : Int) : Option ((Int) ⊕ (Unit ⊕ Int)) :=
  bif (decide (v2 < ((r1.Edges.length : Nat) : Int))) then
    Option.bind (getI r1.Edges v2) fun x1 =>
    Option.bind (
      bif (decide (x1.From < 0)) then
        some true
      else
        bif (decide (r1.Nodes ≤ x1.From)) then
          some true
        else
          bif (decide (x1.To < 0)) then
            some true
          else
            some (decide (r1.Nodes ≤ x1.To))) (fun v3 =>
      bif v3 then
        some (.inr (.inr 7))
      else
        Option.bind (
          bif (decide (x1.From = x1.To)) then
            some true
          else
            bif (decide (x1.Meters < 1)) then
              some true
            else
              bif (decide (100000 < x1.Meters)) then
                some true
              else
                bif (decide (x1.Secs < 1)) then
                  some true
                else
                  some (decide (100000 < x1.Secs))) (fun v4 =>
          bif v4 then
            some (.inr (.inr 1))
          else
            some (.inl (w64 (v2 + 1)))))
  else
    some (.inr (.inl ()))
def road_Check (r1 : T_api_Road) : Option (Int) :=
  Option.bind (
    bif (decide (r1.Nodes < 1)) then
      some true
    else
      some (decide (64 < r1.Nodes))) (fun v1 =>
    bif v1 then
      some 1
    else
      bif (decide (512 < ((r1.Edges.length : Nat) : Int))) then
        some 8
      else
        Option.bind (
          iter (road_Check_l1 r1) (((r1.Edges.length : Nat) : Int).toNat + 1) 0) (fun o_ => osum o_ (fun _ =>
          Option.bind (road_network r1) fun r2 =>
          Option.bind (graph_Check r2) fun r3 =>
          some r3) (fun rv267 => some rv267)))
def ident_letter (c1 : Int) : Option (Bool) :=
  Option.bind (
    bif (decide (97 ≤ c1)) then
      bif (decide (c1 ≤ 122)) then
        some true
      else
        bif (decide (65 ≤ c1)) then
          some (decide (c1 ≤ 90))
        else
          some false
    else
      bif (decide (65 ≤ c1)) then
        some (decide (c1 ≤ 90))
      else
        some false) (fun v1 =>
    some v1)
def ident_Valid_l1 (s1 : ByteArray) (i1 : Int) : Option ((Int) ⊕ (Unit ⊕ Bool)) :=
  bif (decide (i1 < ((s1.size : Nat) : Int))) then
    Option.bind (getB s1 i1) fun x2 =>
    Option.bind (
      Option.bind (ident_letter x2) fun r2 =>
      bif (!r2) then
        bif (decide (x2 < 48)) then
          bif (!(decide (x2 = 45))) then
            bif (!(decide (x2 = 95))) then
              some (!(decide (x2 = 46)))
            else
              some false
          else
            some false
        else
          bif (decide (57 < x2)) then
            bif (!(decide (x2 = 45))) then
              bif (!(decide (x2 = 95))) then
                some (!(decide (x2 = 46)))
              else
                some false
            else
              some false
          else
            some false
      else
        some false) (fun v2 =>
      bif v2 then
        some (.inr (.inr false))
      else
        some (.inl (w64 (i1 + 1))))
  else
    some (.inr (.inl ()))
def ident_Valid (F : Nat) (s1 : ByteArray) : Option (Bool) :=
  Option.bind (
    bif (decide (((s1.size : Nat) : Int) < 1)) then
      some true
    else
      bif (decide (32 < ((s1.size : Nat) : Int))) then
        some true
      else
        Option.bind (getB s1 0) fun x1 =>
        Option.bind (ident_letter x1) fun r1 =>
        some (!r1)) (fun v1 =>
    bif v1 then
      some false
    else
      Option.bind (
        iter (ident_Valid_l1 s1) F 1) (fun o_ => osum o_ (fun _ =>
        some true) (fun rv308 => some rv308)))
def vehicle_fault (F : Nat) (v1 : T_api_Vehicle) (nodes1 : Int) (materials1 : Int) : Option (Int) :=
  Option.bind (ident_Valid F v1.ID) fun r1 =>
  bif (!r1) then
    some 5
  else
    Option.bind (
      bif (decide (v1.Depot < 0)) then
        some true
      else
        some (decide (nodes1 ≤ v1.Depot))) (fun v2 =>
      bif v2 then
        some 7
      else
        Option.bind (
          bif (decide (v1.Shift.From < 0)) then
            some true
          else
            bif (decide (v1.Shift.To ≤ v1.Shift.From)) then
              some true
            else
              some (decide (86400 < v1.Shift.To))) (fun v3 =>
          bif v3 then
            some 19
          else
            Option.bind (
              bif (decide (v1.Grams < 1)) then
                some true
              else
                some (decide (1073741824 < v1.Grams))) (fun v4 =>
              bif v4 then
                some 1
              else
                Option.bind (
                  bif (decide (v1.Kinds < 1)) then
                    some true
                  else
                    Option.bind (guardO (0 ≤ materials1 ∧ materials1 ≤ 64)) fun _ =>
                    some (decide ((w64 (1 * 2 ^ materials1.toNat)) ≤ v1.Kinds))) (fun v5 =>
                  bif v5 then
                    some 21
                  else
                    some 0))))
def vehicle_Check_l1 (F : Nat) (l1 : (List T_api_Vehicle)) (nodes1 : Int) (materials1 : Int) (v2 : Int) : Option ((Int) ⊕ (Unit ⊕ Int)) :=
  bif (decide (v2 < ((l1.length : Nat) : Int))) then
    Option.bind (getI l1 v2) fun x1 =>
    Option.bind (vehicle_fault F x1 nodes1 materials1) fun r1 =>
    bif (!(decide (r1 = 0))) then
      some (.inr (.inr r1))
    else
      some (.inl (w64 (v2 + 1)))
  else
    some (.inr (.inl ()))
def vehicle_Check_l2 (l1 : (List T_api_Vehicle)) (j_ : (List (ByteArray × Bool)) × Int) : Option (((List (ByteArray × Bool)) × Int) ⊕ (Unit ⊕ Int)) :=
  oun j_ fun m1 v3 =>
  bif (decide (v3 < ((l1.length : Nat) : Int))) then
    Option.bind (getI l1 v3) fun x2 =>
    bif ((sget x2.ID m1).getD false) then
      some (.inr (.inr 6))
    else
      some (.inl ((sput x2.ID true m1), w64 (v3 + 1)))
  else
    some (.inr (.inl ()))
def vehicle_Check (F : Nat) (l1 : (List T_api_Vehicle)) (nodes1 : Int) (materials1 : Int) : Option (Int) :=
  Option.bind (
    bif (decide (nodes1 < 1)) then
      some true
    else
      bif (decide (64 < nodes1)) then
        some true
      else
        bif (decide (materials1 < 1)) then
          some true
        else
          some (decide (16 < materials1))) (fun v1 =>
    bif v1 then
      some 1
    else
      bif (decide (((l1.length : Nat) : Int) = 0)) then
        some 10
      else
        bif (decide (16 < ((l1.length : Nat) : Int))) then
          some 8
        else
          Option.bind (
            iter (vehicle_Check_l1 F l1 nodes1 materials1) (((l1.length : Nat) : Int).toNat + 1) 0) (fun o_ => osum o_ (fun _ =>
            Option.bind (
              iter (vehicle_Check_l2 l1) (((l1.length : Nat) : Int).toNat + 1) ([], 0)) (fun o_ => osum o_ (fun _ =>
              some 0) (fun rv327 => some rv327))) (fun rv301 => some rv301)))
def demand_within (n1 : Int) (low1 : Int) (high1 : Int) : Option (Bool) :=
  Option.bind (
    bif (decide (low1 ≤ n1)) then
      some (decide (n1 ≤ high1))
    else
      some false) (fun v1 =>
    some v1)
def demand_one (x1 : T_api_Demand) (nodes1 : Int) (materials1 : Int) : Option (Int) :=
  Option.bind (
    Option.bind (demand_within x1.Container 0 255) fun r1 =>
    bif (!r1) then
      some true
    else
      bif (decide (x1.Node < 0)) then
        some true
      else
        bif (decide (nodes1 ≤ x1.Node)) then
          some true
        else
          bif (decide (x1.Kind < 0)) then
            some true
          else
            some (decide (materials1 ≤ x1.Kind))) (fun v1 =>
    bif v1 then
      some 7
    else
      Option.bind (
        Option.bind (demand_within x1.Grams 0 1073741824) fun r2 =>
        bif (!r2) then
          some true
        else
          bif (decide (x1.When.From < 0)) then
            some true
          else
            bif (decide (x1.When.To < x1.When.From)) then
              some true
            else
              bif (decide (86400 < x1.When.To)) then
                some true
              else
                Option.bind (demand_within x1.Service 0 3600) fun r3 =>
                some (!r3)) (fun v2 =>
        bif v2 then
          some 1
        else
          some 0))
def demand_Check_1 (y1 : T_api_Demand) (b1 : T_api_Demand) : Option (Bool) :=
  some (decide (y1.Container = b1.Container))
def slices_IndexFunc_Demand_c77_l1 (s1 : (List T_api_Demand)) (b1 : T_api_Demand) (v1 : Int) : Option ((Int) ⊕ (Unit ⊕ Int)) :=
  bif (decide (v1 < ((s1.length : Nat) : Int))) then
    Option.bind (getI s1 v1) fun x1 =>
    Option.bind (demand_Check_1 x1 b1) fun r1 =>
    bif r1 then
      some (.inr (.inr v1))
    else
      some (.inl (w64 (v1 + 1)))
  else
    some (.inr (.inl ()))
def slices_IndexFunc_Demand_c77 (s1 : (List T_api_Demand)) (b1 : T_api_Demand) : Option (Int) :=
  Option.bind (
    iter (slices_IndexFunc_Demand_c77_l1 s1 b1) (((s1.length : Nat) : Int).toNat + 1) 0) (fun o_ => osum o_ (fun _ =>
    some (-1)) (fun rv361 => some rv361))
def slices_ContainsFunc_Demand_c77 (s1 : (List T_api_Demand)) (b1 : T_api_Demand) : Option (Bool) :=
  Option.bind (slices_IndexFunc_Demand_c77 s1 b1) fun r1 =>
  some (decide (0 ≤ r1))
def demand_Check_l1 (l1 : (List T_api_Demand)) (nodes1 : Int) (materials1 : Int) (v1 : Int) : Option ((Int) ⊕ (Unit ⊕ Int)) :=
  bif (decide (v1 < ((l1.length : Nat) : Int))) then
    Option.bind (getI l1 v1) fun x1 =>
    Option.bind (demand_one x1 nodes1 materials1) fun r1 =>
    bif (!(decide (r1 = 0))) then
      some (.inr (.inr r1))
    else
      some (.inl (w64 (v1 + 1)))
  else
    some (.inr (.inl ()))
def demand_Check_l2 (l1 : (List T_api_Demand)) (v2 : Int) : Option ((Int) ⊕ (Unit ⊕ Int)) :=
  bif (decide (v2 < ((l1.length : Nat) : Int))) then
    Option.bind (getI l1 v2) fun x2 =>
    Option.bind (subO l1 0 v2) fun l2 =>
    Option.bind (slices_ContainsFunc_Demand_c77 l2 x2) fun r2 =>
    bif r2 then
      some (.inr (.inr 6))
    else
      some (.inl (w64 (v2 + 1)))
  else
    some (.inr (.inl ()))
def demand_Check (l1 : (List T_api_Demand)) (nodes1 : Int) (materials1 : Int) : Option (Int) :=
  bif (decide (32 < ((l1.length : Nat) : Int))) then
    some 8
  else
    Option.bind (
      iter (demand_Check_l1 l1 nodes1 materials1) (((l1.length : Nat) : Int).toNat + 1) 0) (fun o_ => osum o_ (fun _ =>
      Option.bind (
        iter (demand_Check_l2 l1) (((l1.length : Nat) : Int).toNat + 1) 0) (fun o_ => osum o_ (fun _ =>
        some 0) (fun rv352 => some rv352))) (fun rv339 => some rv339))
def tour_Check (F : Nat) (p1 : T_api_Problem) : Option (Int) :=
  Option.bind (road_Check p1.Road) fun r1 =>
  bif (!(decide (r1 = 0))) then
    some r1
  else
    Option.bind (vehicle_Check F p1.Vehicles p1.Road.Nodes 16) fun r2 =>
    bif (!(decide (r2 = 0))) then
      some r2
    else
      Option.bind (demand_Check p1.Demands p1.Road.Nodes 16) fun r3 =>
      bif (!(decide (r3 = 0))) then
        some r3
      else
        Option.bind (
          bif (decide (p1.Unload < 0)) then
            some true
          else
            some (decide (p1.Road.Nodes ≤ p1.Unload))) (fun v2 =>
          bif v2 then
            some 7
          else
            Option.bind (
              bif (decide (p1.UnloadSecs < 0)) then
                some true
              else
                some (decide (7200 < p1.UnloadSecs))) (fun v3 =>
              bif v3 then
                some 1
              else
                some 0))
def slices_Index_int_l1 (s1 : (List Int)) (v1 : Int) (v2 : Int) : Option ((Int) ⊕ (Unit ⊕ Int)) :=
  bif (decide (v2 < ((s1.length : Nat) : Int))) then
    Option.bind (getI s1 v2) fun x1 =>
    bif (decide (v1 = x1)) then
      some (.inr (.inr v2))
    else
      some (.inl (w64 (v2 + 1)))
  else
    some (.inr (.inl ()))
def slices_Index_int (s1 : (List Int)) (v1 : Int) : Option (Int) :=
  Option.bind (
    iter (slices_Index_int_l1 s1 v1) (((s1.length : Nat) : Int).toNat + 1) 0) (fun o_ => osum o_ (fun _ =>
    some (-1)) (fun rv488 => some rv488))
def slices_Contains_int (s1 : (List Int)) (v1 : Int) : Option (Bool) :=
  Option.bind (slices_Index_int s1 v1) fun r1 =>
  some (decide (0 ≤ r1))
def insert_joined (stops1 : (List Int)) (k1 : Int) (more1 : (List Int)) : Option ((List Int)) :=
  Option.bind (subO stops1 0 k1) fun l1 =>
  Option.bind (appO [] l1) fun l2 =>
  Option.bind (appO l2 more1) fun l3 =>
  Option.bind (subO stops1 k1 ((stops1.length : Nat) : Int)) fun l4 =>
  Option.bind (appO l3 l4) fun l5 =>
  Option.bind (getI l5 (w64 (((l5.length : Nat) : Int) - 1))) fun x1 =>
  Option.bind (
    bif (!(decide (x1 = (-1)))) then
      Option.bind (appO l5 [(-1)]) fun l6 =>
      some l6
    else
      some l5) (fun out1 =>
    some out1)
def insert_candidates_l1 (t1 : T_api_Tour) (d1 : Int) (j_ : (List T_api_Tour) × Int × Int) : Option (((List T_api_Tour) × Int × Int) ⊕ ((List T_api_Tour))) :=
  oun j_ fun out1 j_ => oun j_ fun v1 v2 =>
  bif (decide (v2 < v1)) then
    Option.bind (
      Option.bind (insert_joined t1.Stops v2 [d1]) fun r1 =>
      Option.bind (appO out1 [(T_api_Tour.mk t1.Vehicle r1)]) fun l1 =>
      bif (decide (v2 < ((t1.Stops.length : Nat) : Int))) then
        Option.bind (insert_joined t1.Stops v2 [d1, (-1)]) fun r2 =>
        Option.bind (appO l1 [(T_api_Tour.mk t1.Vehicle r2)]) fun l2 =>
        some l2
      else
        some l1) (fun out2 =>
      some (.inl (out2, v1, w64 (v2 + 1))))
  else
    some (.inr out1)
def insert_candidates (F : Nat) (t1 : T_api_Tour) (d1 : Int) : Option ((List T_api_Tour)) :=
  Option.bind (
    iter (insert_candidates_l1 t1 d1) F ([], w64 (((t1.Stops.length : Nat) : Int) + 1), 0)) (fun out3 =>
    some out3)
def vehicle_Carries (v1 : T_api_Vehicle) (kind1 : Int) : Option (Bool) :=
  Option.bind (
    bif (decide (0 ≤ kind1)) then
      bif (decide (kind1 < 16)) then
        Option.bind (guardO (0 ≤ kind1 ∧ kind1 ≤ 64)) fun _ =>
        some (decide ((andI .i64 (v1.Kinds / 2 ^ kind1.toNat) 1) = 1))
      else
        some false
    else
      some false) (fun v2 =>
    some v2)
def road_none : Option (T_api_Leg) :=
  some (T_api_Leg.mk (-1) 0)
def pqueue_New_stop_c153 : Option (T_pqueue_Queue_stop) :=
  some (T_pqueue_Queue_stop.mk [] 0)
def road_better (a1 : T_api_Leg) (b1 : T_api_Leg) : Option (Bool) :=
  Option.bind (
    Option.bind (road_none) fun r1 =>
    bif (decide (b1 = r1)) then
      some true
    else
      bif (decide (a1.Secs < b1.Secs)) then
        some true
      else
        bif (decide (a1.Secs = b1.Secs)) then
          some (decide (a1.Meters < b1.Meters))
        else
          some false) (fun v1 =>
    some v1)
def road_spread_1 (a1 : T_road_stop) (b1 : T_road_stop) : Option (Bool) :=
  Option.bind (
    bif (!(decide (a1.leg = b1.leg))) then
      Option.bind (road_better a1.leg b1.leg) fun r1 =>
      some r1
    else
      some false) (fun v1 =>
    some v1)
def pqueue_Queue_stop_before (q1 : T_pqueue_Queue_stop) (i1 : Int) (k1 : Int) : Option (Bool) :=
  Option.bind (
    Option.bind (getI q1.heap i1) fun x1 =>
    Option.bind (getI q1.heap k1) fun x2 =>
    some (x1.value.node, x1.value.leg.Secs, x1.value.leg.Meters, x1.n, x2.value.node, x2.value.leg.Secs, x2.value.leg.Meters, x2.n)) (fun j_ => oun j_ fun f1 j_ => oun j_ fun f2 j_ => oun j_ fun f3 j_ => oun j_ fun f4 j_ => oun j_ fun f5 j_ => oun j_ fun f6 j_ => oun j_ fun f7 f8 =>
    Option.bind (road_spread_1 (T_road_stop.mk f1 (T_api_Leg.mk f2 f3)) (T_road_stop.mk f5 (T_api_Leg.mk f6 f7))) fun r1 =>
    bif r1 then
      some true
    else
      Option.bind (
        bif (decide (f4 < f8)) then
          Option.bind (road_spread_1 (T_road_stop.mk f5 (T_api_Leg.mk f6 f7)) (T_road_stop.mk f1 (T_api_Leg.mk f2 f3))) fun r2 =>
          some (!r2)
        else
          some false) (fun v1 =>
        some v1))
def pqueue_Queue_stop_swap (q1 : T_pqueue_Queue_stop) (i1 : Int) (k1 : Int) : Option (T_pqueue_Queue_stop) :=
  Option.bind (
    Option.bind (getI q1.heap k1) fun x1 =>
    Option.bind (getI q1.heap i1) fun x2 =>
    Option.bind (getI q1.heap i1) fun x3 =>
    Option.bind (getI (setI q1.heap i1 x1) k1) fun x4 =>
    some (setI (setI q1.heap i1 x1) k1 x2)) (fun f1 =>
    some (T_pqueue_Queue_stop.mk f1 q1.count))
def pqueue_Queue_stop_Push_l1 (j_ : T_pqueue_Queue_stop × Int) : Option ((T_pqueue_Queue_stop × Int) ⊕ (T_pqueue_Queue_stop ⊕ T_pqueue_Queue_stop)) :=
  oun j_ fun q2 i1 =>
  bif (decide (0 < i1)) then
    Option.bind (pqueue_Queue_stop_before q2 i1 (w64 (Int.tdiv (w64 (i1 - 1)) 2))) fun r1 =>
    bif (!r1) then
      some (.inr (.inr q2))
    else
      Option.bind (pqueue_Queue_stop_swap q2 i1 (w64 (Int.tdiv (w64 (i1 - 1)) 2))) fun r2 =>
      some (.inl (r2, w64 (Int.tdiv (w64 (i1 - 1)) 2)))
  else
    some (.inr (.inl q2))
def pqueue_Queue_stop_Push (F : Nat) (q1 : T_pqueue_Queue_stop) (x1 : T_road_stop) : Option (T_pqueue_Queue_stop) :=
  Option.bind (appO q1.heap [(T_pqueue_item_stop.mk x1 q1.count)]) fun l1 =>
  Option.bind (
    iter (pqueue_Queue_stop_Push_l1) F ((T_pqueue_Queue_stop.mk l1 (w64 (q1.count + 1))), w64 (((l1.length : Nat) : Int) - 1))) (fun o_ => osum o_ (fun q3 =>
    some q3) (fun rv1669 => some rv1669))
def pqueue_Queue_stop_Len (q1 : T_pqueue_Queue_stop) : Option (Int) :=
  some ((q1.heap.length : Nat) : Int)
def pqueue_Queue_stop_Peek (q1 : T_pqueue_Queue_stop) : Option (T_road_stop × Bool) :=
  Option.bind (pqueue_Queue_stop_Len q1) fun r1 =>
  bif (decide (r1 = 0)) then
    some ((T_road_stop.mk 0 (T_api_Leg.mk 0 0)), false)
  else
    Option.bind (getI q1.heap 0) fun x1 =>
    some (x1.value, true)
def pqueue_Queue_stop_sink_l1 (i1 : Int) (j_ : (List T_pqueue_item_stop) × Int × Int × Int) : Option (((List T_pqueue_item_stop) × Int × Int × Int) ⊕ (((List T_pqueue_item_stop) × Int × Int))) :=
  oun j_ fun f3 j_ => oun j_ fun f4 j_ => oun j_ fun next1 k1 =>
  Option.bind (
    bif (decide (k1 ≤ (w64 ((w64 (2 * i1)) + 2)))) then
      some (decide (k1 < ((f3.length : Nat) : Int)))
    else
      some false) (fun v1 =>
    bif v1 then
      Option.bind (
        Option.bind (pqueue_Queue_stop_before (T_pqueue_Queue_stop.mk f3 f4) k1 next1) fun r1 =>
        bif r1 then
          some ((T_pqueue_Queue_stop.mk f3 f4).heap, k1)
        else
          some ((T_pqueue_Queue_stop.mk f3 f4).heap, next1)) (fun j_ => oun j_ fun f5 next2 =>
        some (.inl (f5, (T_pqueue_Queue_stop.mk f3 f4).count, next2, w64 (k1 + 1))))
    else
      some (.inr (f3, f4, next1)))
def pqueue_Queue_stop_sink_l2 (F : Nat) (j_ : (List T_pqueue_item_stop) × Int × Int) : Option (((List T_pqueue_item_stop) × Int × Int) ⊕ (T_pqueue_Queue_stop)) :=
  oun j_ fun f1 j_ => oun j_ fun f2 i1 =>
  Option.bind (
    iter (pqueue_Queue_stop_sink_l1 i1) F (f1, f2, i1, w64 ((w64 (2 * i1)) + 1))) (fun j_ => oun j_ fun f6 j_ => oun j_ fun f7 next3 =>
    bif (decide (next3 = i1)) then
      some (.inr (T_pqueue_Queue_stop.mk f6 f7))
    else
      Option.bind (pqueue_Queue_stop_swap (T_pqueue_Queue_stop.mk f6 f7) i1 next3) fun r2 =>
      some (.inl (r2.heap, r2.count, next3)))
def pqueue_Queue_stop_sink (F : Nat) (q1 : T_pqueue_Queue_stop) : Option (T_pqueue_Queue_stop) :=
  Option.bind (
    iter (pqueue_Queue_stop_sink_l2 F) F (q1.heap, q1.count, 0)) (fun rv1877 => some rv1877)
def pqueue_Queue_stop_Pop (F : Nat) (q1 : T_pqueue_Queue_stop) : Option (T_road_stop × Bool × T_pqueue_Queue_stop) :=
  Option.bind (pqueue_Queue_stop_Peek q1) fun j_ => oun j_ fun r1 r2 =>
  bif (!r2) then
    some (r1, false, q1)
  else
    Option.bind (pqueue_Queue_stop_swap q1 0 (w64 (((q1.heap.length : Nat) : Int) - 1))) fun r3 =>
    Option.bind (subO r3.heap (w64 (((q1.heap.length : Nat) : Int) - 1)) ((r3.heap.length : Nat) : Int)) fun l1 =>
    Option.bind (subO (clrO r3.heap (w64 (((q1.heap.length : Nat) : Int) - 1)) (T_pqueue_item_stop.mk (T_road_stop.mk 0 (T_api_Leg.mk 0 0)) 0)) 0 (w64 (((q1.heap.length : Nat) : Int) - 1))) fun l2 =>
    Option.bind (pqueue_Queue_stop_sink F (T_pqueue_Queue_stop.mk l2 r3.count)) fun r4 =>
    some (r1, true, r4)
def road_forward (x1 : T_api_Edge) : Option (Int × Int) :=
  some (x1.From, x1.To)
def road_after (l1 : T_api_Leg) (x1 : T_api_Edge) : Option (T_api_Leg) :=
  some (T_api_Leg.mk (w64 (l1.Secs + x1.Secs)) (w64 (l1.Meters + x1.Meters)))
def road_spread_c143_l1 (l1 : (List T_api_Leg)) (j_ : (List T_api_Leg) × Int) : Option (((List T_api_Leg) × Int) ⊕ ((List T_api_Leg))) :=
  oun j_ fun out1 v1 =>
  bif (decide (v1 < ((l1.length : Nat) : Int))) then
    Option.bind (road_none) fun r2 =>
    Option.bind (getI out1 v1) fun x1 =>
    some (.inl ((setI out1 v1 r2), w64 (v1 + 1)))
  else
    some (.inr out1)
def road_spread_c143_l2 (F : Nat) (r1 : T_api_Road) (r5 : T_road_stop) (j_ : (List T_api_Leg) × T_pqueue_Queue_stop × Int) : Option (((List T_api_Leg) × T_pqueue_Queue_stop × Int) ⊕ (((List T_api_Leg) × T_pqueue_Queue_stop))) :=
  oun j_ fun out4 j_ => oun j_ fun q2 v2 =>
  bif (decide (v2 < ((r1.Edges.length : Nat) : Int))) then
    Option.bind (
      Option.bind (getI r1.Edges v2) fun x4 =>
      Option.bind (road_forward x4) fun j_ => oun j_ fun r8 r9 =>
      bif (!(decide (r8 = r5.node))) then
        some (out4, q2)
      else
        Option.bind (road_after r5.leg x4) fun r10 =>
        Option.bind (getI out4 r9) fun x5 =>
        Option.bind (road_better r10 x5) fun r11 =>
        bif r11 then
          Option.bind (getI out4 r9) fun x6 =>
          Option.bind (pqueue_Queue_stop_Push F q2 (T_road_stop.mk r9 r10)) fun r12 =>
          some ((setI out4 r9 r10), r12)
        else
          some (out4, q2)) (fun j_ => oun j_ fun out5 q3 =>
      some (.inl (out5, q3, w64 (v2 + 1))))
  else
    some (.inr (out4, q2))
def road_spread_c143_l3 (F : Nat) (r1 : T_api_Road) (j_ : (List T_api_Leg) × T_pqueue_Queue_stop) : Option (((List T_api_Leg) × T_pqueue_Queue_stop) ⊕ ((List T_api_Leg))) :=
  oun j_ fun out3 q1 =>
  Option.bind (pqueue_Queue_stop_Pop F q1) fun j_ => oun j_ fun r5 j_ => oun j_ fun r6 r7 =>
  bif (!r6) then
    some (.inr out3)
  else
    Option.bind (getI out3 r5.node) fun x3 =>
    bif (!(decide (x3 = r5.leg))) then
      some (.inl (out3, r7))
    else
      Option.bind (
        iter (road_spread_c143_l2 F r1 r5) (((r1.Edges.length : Nat) : Int).toNat + 1) (out3, r7, 0)) (fun j_ => oun j_ fun out6 q4 =>
        some (.inl (out6, q4)))
def road_spread_c143 (F : Nat) (r1 : T_api_Road) (f_from1 : Int) : Option ((List T_api_Leg)) :=
  Option.bind (makeO (T_api_Leg.mk 0 0) r1.Nodes) fun l1 =>
  Option.bind (
    iter (road_spread_c143_l1 l1) (((l1.length : Nat) : Int).toNat + 1) (l1, 0)) (fun out2 =>
    Option.bind (getI out2 f_from1) fun x2 =>
    Option.bind (pqueue_New_stop_c153) fun r3 =>
    Option.bind (pqueue_Queue_stop_Push F r3 (T_road_stop.mk f_from1 (T_api_Leg.mk 0 0))) fun r4 =>
    Option.bind (
      iter (road_spread_c143_l3 F r1) F ((setI out2 f_from1 (T_api_Leg.mk 0 0)), r4)) (fun rv1687 => some rv1687))
def road_Legs (F : Nat) (r1 : T_api_Road) (f_from1 : Int) : Option ((List T_api_Leg) × Int) :=
  Option.bind (road_Check r1) fun r2 =>
  bif (!(decide (r2 = 0))) then
    some ([], r2)
  else
    Option.bind (
      bif (decide (f_from1 < 0)) then
        some true
      else
        some (decide (r1.Nodes ≤ f_from1))) (fun v2 =>
      bif v2 then
        some ([], 7)
      else
        Option.bind (road_spread_c143 F r1 f_from1) fun r3 =>
        some (r3, 0))
def tour_walk_leg (F : Nat) (w1 : T_tour_walk) (f_to1 : Int) : Option (T_api_Leg × Bool × T_tour_walk) :=
  Option.bind (
    bif (!((mget w1.place.node w1.legs).isSome)) then
      Option.bind (road_Legs F w1.p.Road w1.place.node) fun j_ => oun j_ fun r1 r2 =>
      some (r1, (mput w1.place.node r1 w1.legs))
    else
      some (((mget w1.place.node w1.legs).getD []), w1.legs)) (fun j_ => oun j_ fun l1 m1 =>
    Option.bind (getI l1 f_to1) fun x1 =>
    Option.bind (getI l1 f_to1) fun x2 =>
    some (x1, (decide (0 ≤ x2.Secs)), (T_tour_walk.mk w1.place w1.p w1.v m1 w1.visits)))
def tour_walk_note (w1 : T_tour_walk) (stop1 : Int) (arrive1 : Int) (start1 : Int) : Option (T_tour_walk) :=
  Option.bind (appO w1.visits [(T_api_Visit.mk stop1 w1.place.node arrive1 start1 w1.place.time w1.place.load)]) fun l1 =>
  some (T_tour_walk.mk w1.place w1.p w1.v w1.legs l1)
def tour_walk_serve (F : Nat) (w1 : T_tour_walk) (t1 : T_api_Tour) (i1 : Int) : Option (Int × T_tour_walk) :=
  Option.bind (getI t1.Stops i1) fun x1 =>
  Option.bind (
    bif (!(decide (x1 = (-1)))) then
      Option.bind (
        bif (decide (x1 < 0)) then
          some true
        else
          some (decide (((w1.p.Demands.length : Nat) : Int) ≤ x1))) (fun v1 =>
        bif v1 then
          some (.inr (7, w1))
        else
          Option.bind (subO t1.Stops 0 i1) fun l1 =>
          Option.bind (slices_Contains_int l1 x1) fun r1 =>
          bif r1 then
            some (.inr (6, w1))
          else
            Option.bind (getI w1.p.Demands x1) fun x2 =>
            Option.bind (vehicle_Carries w1.v x2.Kind) fun r2 =>
            bif (!r2) then
              some (.inr (21, w1))
            else
              Option.bind (getI w1.p.Demands x1) fun x3 =>
              some (.inl x3.Node))
    else
      some (.inl w1.p.Unload)) (fun o_ => osum o_ (fun node1 =>
    Option.bind (tour_walk_leg F w1 node1) fun j_ => oun j_ fun r3 j_ => oun j_ fun r4 r5 =>
    bif (!r4) then
      some (22, r5)
    else
      bif (decide (x1 = (-1))) then
        Option.bind (tour_walk_note (T_tour_walk.mk (T_tour_place.mk node1 (w64 ((w64 (r5.place.time + r3.Secs)) + r5.p.UnloadSecs)) 0 (w64 (r5.place.meters + r3.Meters))) r5.p r5.v r5.legs r5.visits) x1 (w64 (r5.place.time + r3.Secs)) (w64 (r5.place.time + r3.Secs))) fun r6 =>
        some (0, r6)
      else
        Option.bind (getI r5.p.Demands x1) fun x4 =>
        bif (decide (x4.When.To ≤ (max (w64 (r5.place.time + r3.Secs)) x4.When.From))) then
          some (19, (T_tour_walk.mk (T_tour_place.mk node1 (w64 (r5.place.time + r3.Secs)) r5.place.load (w64 (r5.place.meters + r3.Meters))) r5.p r5.v r5.legs r5.visits))
        else
          bif (decide (r5.v.Grams < (w64 (r5.place.load + x4.Grams)))) then
            some (20, (T_tour_walk.mk (T_tour_place.mk node1 (w64 (r5.place.time + r3.Secs)) r5.place.load (w64 (r5.place.meters + r3.Meters))) r5.p r5.v r5.legs r5.visits))
          else
            Option.bind (tour_walk_note (T_tour_walk.mk (T_tour_place.mk node1 (w64 ((max (w64 (r5.place.time + r3.Secs)) x4.When.From) + x4.Service)) (w64 (r5.place.load + x4.Grams)) (w64 (r5.place.meters + r3.Meters))) r5.p r5.v r5.legs r5.visits) x1 (w64 (r5.place.time + r3.Secs)) (max (w64 (r5.place.time + r3.Secs)) x4.When.From)) fun r7 =>
            some (0, r7)) (fun rv2994 => some rv2994))
def tour_walk_back (F : Nat) (w1 : T_tour_walk) : Option (Int × T_tour_walk) :=
  Option.bind (tour_walk_leg F w1 w1.v.Depot) fun j_ => oun j_ fun r1 j_ => oun j_ fun r2 r3 =>
  bif (!r2) then
    some (22, r3)
  else
    bif (!(decide (r3.place.load = 0))) then
      some (20, r3)
    else
      bif (decide (r3.v.Shift.To ≤ (w64 (r3.place.time + r1.Secs)))) then
        some (19, (T_tour_walk.mk (T_tour_place.mk r3.v.Depot (w64 (r3.place.time + r1.Secs)) r3.place.load (w64 (r3.place.meters + r1.Meters))) r3.p r3.v r3.legs r3.visits))
      else
        Option.bind (tour_walk_note (T_tour_walk.mk (T_tour_place.mk r3.v.Depot (w64 (r3.place.time + r1.Secs)) r3.place.load (w64 (r3.place.meters + r1.Meters))) r3.p r3.v r3.legs r3.visits) (-2) (w64 (r3.place.time + r1.Secs)) (w64 (r3.place.time + r1.Secs))) fun r4 =>
        some (0, r4)
def tour_follow_l1 (F : Nat) (t1 : T_api_Tour) (j_ : T_tour_walk × Int × Int) : Option ((T_tour_walk × Int × Int) ⊕ ((T_tour_walk × Int × Int))) :=
  oun j_ fun q1 j_ => oun j_ fun e1 f_at1 =>
  bif (decide (f_at1 < ((t1.Stops.length : Nat) : Int))) then
    Option.bind (tour_walk_serve F q1 t1 f_at1) fun j_ => oun j_ fun r1 r2 =>
    bif (!(decide (r1 = 0))) then
      some (.inr (r2, r1, f_at1))
    else
      some (.inl (r2, r1, w64 (f_at1 + 1)))
  else
    some (.inr (q1, e1, f_at1))
def tour_follow (F : Nat) (p1 : T_api_Problem) (t1 : T_api_Tour) : Option ((Option T_tour_walk) × Int × Int) :=
  Option.bind (
    bif (decide (t1.Vehicle < 0)) then
      some true
    else
      some (decide (((p1.Vehicles.length : Nat) : Int) ≤ t1.Vehicle))) (fun v1 =>
    bif v1 then
      some (none, 7, 0)
    else
      bif (decide (40 < ((t1.Stops.length : Nat) : Int))) then
        some (none, 8, 0)
      else
        Option.bind (getI p1.Vehicles t1.Vehicle) fun x1 =>
        Option.bind (
          iter (tour_follow_l1 F t1) (((t1.Stops.length : Nat) : Int).toNat + 1) ((T_tour_walk.mk (T_tour_place.mk x1.Depot x1.Shift.From 0 0) p1 x1 [] []), 0, 0)) (fun j_ => oun j_ fun q2 j_ => oun j_ fun e2 f_at2 =>
          Option.bind (
            bif (decide (e2 = 0)) then
              Option.bind (tour_walk_back F q2) fun j_ => oun j_ fun r3 r4 =>
              some (r4, r3)
            else
              some (q2, e2)) (fun j_ => oun j_ fun q3 e3 =>
            bif (!(decide (e3 = 0))) then
              some (none, e3, f_at2)
            else
              some ((some q3), 0, 0))))
def tour_Cost (F : Nat) (p1 : T_api_Problem) (t1 : T_api_Tour) : Option (Int × Int) :=
  Option.bind (tour_Check F p1) fun r1 =>
  bif (!(decide (r1 = 0))) then
    some (0, r1)
  else
    Option.bind (tour_follow F p1 t1) fun j_ => oun j_ fun r2 j_ => oun j_ fun r3 r4 =>
    bif (!(decide (r3 = 0))) then
      some (0, r3)
    else
      Option.bind (r2) fun q1 =>
      some (q1.place.meters, 0)
def insert_options_1 (a1 : T_insert_option) (b1 : T_insert_option) : Option (Int) :=
  some (w64 (a1.cost - b1.cost))
def slices_insertionSortCmpFunc_option_c85_l1 (a1 : Int) (j_ : (List T_insert_option) × Int) : Option (((List T_insert_option) × Int) ⊕ ((List T_insert_option))) :=
  oun j_ fun data3 j1 =>
  Option.bind (
    bif (decide (a1 < j1)) then
      Option.bind (getI data3 j1) fun x1 =>
      Option.bind (getI data3 (w64 (j1 - 1))) fun x2 =>
      Option.bind (insert_options_1 x1 x2) fun r1 =>
      some (decide (r1 < 0))
    else
      some false) (fun v1 =>
    bif v1 then
      Option.bind (
        Option.bind (getI data3 (w64 (j1 - 1))) fun x3 =>
        Option.bind (getI data3 j1) fun x4 =>
        Option.bind (getI data3 j1) fun x5 =>
        Option.bind (getI (setI data3 j1 x3) (w64 (j1 - 1))) fun x6 =>
        some (setI (setI data3 j1 x3) (w64 (j1 - 1)) x4)) (fun data4 =>
        some (.inl (data4, w64 (j1 - 1))))
    else
      some (.inr data3))
def slices_insertionSortCmpFunc_option_c85_l2 (F : Nat) (a1 : Int) (b1 : Int) (j_ : (List T_insert_option) × Int) : Option (((List T_insert_option) × Int) ⊕ ((List T_insert_option))) :=
  oun j_ fun data2 i1 =>
  bif (decide (i1 < b1)) then
    Option.bind (
      Option.bind (
        iter (slices_insertionSortCmpFunc_option_c85_l1 a1) F (data2, i1)) (fun data5 =>
        some data5)) (fun data6 =>
      some (.inl (data6, w64 (i1 + 1))))
  else
    some (.inr data2)
def slices_insertionSortCmpFunc_option_c85 (F : Nat) (data1 : (List T_insert_option)) (a1 : Int) (b1 : Int) : Option ((List T_insert_option)) :=
  Option.bind (
    iter (slices_insertionSortCmpFunc_option_c85_l2 F a1 b1) F (data1, w64 (a1 + 1))) (fun data7 =>
    some data7)
def slices_swapRangeCmpFunc_option_c85_l1 (a1 : Int) (b1 : Int) (n2 : Int) (j_ : (List T_insert_option) × Int) : Option (((List T_insert_option) × Int) ⊕ ((List T_insert_option))) :=
  oun j_ fun data2 i1 =>
  bif (decide (i1 < n2)) then
    Option.bind (
      Option.bind (getI data2 (w64 (b1 + i1))) fun x1 =>
      Option.bind (getI data2 (w64 (a1 + i1))) fun x2 =>
      Option.bind (getI data2 (w64 (a1 + i1))) fun x3 =>
      Option.bind (getI (setI data2 (w64 (a1 + i1)) x1) (w64 (b1 + i1))) fun x4 =>
      some (setI (setI data2 (w64 (a1 + i1)) x1) (w64 (b1 + i1)) x2)) (fun data3 =>
      some (.inl (data3, w64 (i1 + 1))))
  else
    some (.inr data2)
def slices_swapRangeCmpFunc_option_c85 (data1 : (List T_insert_option)) (a1 : Int) (b1 : Int) (n2 : Int) : Option ((List T_insert_option)) :=
  Option.bind (
    iter (slices_swapRangeCmpFunc_option_c85_l1 a1 b1 n2) (n2.toNat + 1) (data1, 0)) (fun data4 =>
    some data4)
def slices_rotateCmpFunc_option_c85_l1 (m1 : Int) (j_ : (List T_insert_option) × Int × Int) : Option (((List T_insert_option) × Int × Int) ⊕ (((List T_insert_option) × Int))) :=
  oun j_ fun data2 j_ => oun j_ fun i1 j1 =>
  bif (!(decide (i1 = j1))) then
    bif (decide (j1 < i1)) then
      Option.bind (slices_swapRangeCmpFunc_option_c85 data2 (w64 (m1 - i1)) m1 j1) fun r1 =>
      some (.inl (r1, w64 (i1 - j1), j1))
    else
      Option.bind (slices_swapRangeCmpFunc_option_c85 data2 (w64 (m1 - i1)) (w64 ((w64 (m1 + j1)) - i1)) i1) fun r2 =>
      some (.inl (r2, i1, w64 (j1 - i1)))
  else
    some (.inr (data2, i1))
def slices_rotateCmpFunc_option_c85 (F : Nat) (data1 : (List T_insert_option)) (a1 : Int) (m1 : Int) (b1 : Int) : Option ((List T_insert_option)) :=
  Option.bind (
    iter (slices_rotateCmpFunc_option_c85_l1 m1) F (data1, w64 (m1 - a1), w64 (b1 - m1))) (fun j_ => oun j_ fun data3 i2 =>
    Option.bind (slices_swapRangeCmpFunc_option_c85 data3 (w64 (m1 - i2)) m1 i2) fun r3 =>
    some r3)
def slices_symMergeCmpFunc_option_c85_l1 (data1 : (List T_insert_option)) (a1 : Int) (j_ : Int × Int) : Option ((Int × Int) ⊕ (Int)) :=
  oun j_ fun i1 j1 =>
  bif (decide (i1 < j1)) then
    Option.bind (guardO (0 ≤ 1 ∧ 1 ≤ 64)) fun _ =>
    Option.bind (getI data1 (w64 ((IntKind.u64.wrap (w64 (i1 + j1))) / 2 ^ (1 : Int).toNat))) fun x1 =>
    Option.bind (getI data1 a1) fun x2 =>
    Option.bind (insert_options_1 x1 x2) fun r1 =>
    bif (decide (r1 < 0)) then
      some (.inl (w64 ((w64 ((IntKind.u64.wrap (w64 (i1 + j1))) / 2 ^ (1 : Int).toNat)) + 1), j1))
    else
      some (.inl (i1, w64 ((IntKind.u64.wrap (w64 (i1 + j1))) / 2 ^ (1 : Int).toNat)))
  else
    some (.inr i1)
def slices_symMergeCmpFunc_option_c85_l2 (i2 : Int) (j_ : (List T_insert_option) × Int) : Option (((List T_insert_option) × Int) ⊕ ((List T_insert_option))) :=
  oun j_ fun data2 k1 =>
  bif (decide (k1 < (w64 (i2 - 1)))) then
    Option.bind (
      Option.bind (getI data2 (w64 (k1 + 1))) fun x3 =>
      Option.bind (getI data2 k1) fun x4 =>
      Option.bind (getI data2 k1) fun x5 =>
      Option.bind (getI (setI data2 k1 x3) (w64 (k1 + 1))) fun x6 =>
      some (setI (setI data2 k1 x3) (w64 (k1 + 1)) x4)) (fun data3 =>
      some (.inl (data3, w64 (k1 + 1))))
  else
    some (.inr data2)
def slices_symMergeCmpFunc_option_c85_l3 (data1 : (List T_insert_option)) (m1 : Int) (j_ : Int × Int) : Option ((Int × Int) ⊕ (Int)) :=
  oun j_ fun i3 j2 =>
  bif (decide (i3 < j2)) then
    Option.bind (guardO (0 ≤ 1 ∧ 1 ≤ 64)) fun _ =>
    Option.bind (getI data1 m1) fun x7 =>
    Option.bind (getI data1 (w64 ((IntKind.u64.wrap (w64 (i3 + j2))) / 2 ^ (1 : Int).toNat))) fun x8 =>
    Option.bind (insert_options_1 x7 x8) fun r2 =>
    bif (!(decide (r2 < 0))) then
      some (.inl (w64 ((w64 ((IntKind.u64.wrap (w64 (i3 + j2))) / 2 ^ (1 : Int).toNat)) + 1), j2))
    else
      some (.inl (i3, w64 ((IntKind.u64.wrap (w64 (i3 + j2))) / 2 ^ (1 : Int).toNat)))
  else
    some (.inr i3)
def slices_symMergeCmpFunc_option_c85_l4 (i4 : Int) (j_ : (List T_insert_option) × Int) : Option (((List T_insert_option) × Int) ⊕ ((List T_insert_option))) :=
  oun j_ fun data5 k2 =>
  bif (decide (i4 < k2)) then
    Option.bind (
      Option.bind (getI data5 (w64 (k2 - 1))) fun x9 =>
      Option.bind (getI data5 k2) fun x10 =>
      Option.bind (getI data5 k2) fun x11 =>
      Option.bind (getI (setI data5 k2 x9) (w64 (k2 - 1))) fun x12 =>
      some (setI (setI data5 k2 x9) (w64 (k2 - 1)) x10)) (fun data6 =>
      some (.inl (data6, w64 (k2 - 1))))
  else
    some (.inr data5)
def slices_symMergeCmpFunc_option_c85_l5 (data1 : (List T_insert_option)) (j_ : Int × Int × Int) : Option ((Int × Int × Int) ⊕ (Int)) :=
  oun j_ fun start2 j_ => oun j_ fun r4 p1 =>
  bif (decide (start2 < r4)) then
    Option.bind (guardO (0 ≤ 1 ∧ 1 ≤ 64)) fun _ =>
    Option.bind (getI data1 (w64 (p1 - (w64 ((IntKind.u64.wrap (w64 (start2 + r4))) / 2 ^ (1 : Int).toNat))))) fun x13 =>
    Option.bind (getI data1 (w64 ((IntKind.u64.wrap (w64 (start2 + r4))) / 2 ^ (1 : Int).toNat))) fun x14 =>
    Option.bind (insert_options_1 x13 x14) fun r5 =>
    bif (!(decide (r5 < 0))) then
      some (.inl (w64 ((w64 ((IntKind.u64.wrap (w64 (start2 + r4))) / 2 ^ (1 : Int).toNat)) + 1), r4, p1))
    else
      some (.inl (start2, w64 ((IntKind.u64.wrap (w64 (start2 + r4))) / 2 ^ (1 : Int).toNat), p1))
  else
    some (.inr start2)
def slices_symMergeCmpFunc_option_c85_b (rec_ : (List T_insert_option) → Int → Int → Int → Option ((List T_insert_option))) (F : Nat) (data1 : (List T_insert_option)) (a1 : Int) (m1 : Int) (b1 : Int) : Option ((List T_insert_option)) :=
  bif (decide ((w64 (m1 - a1)) = 1)) then
    Option.bind (
      iter (slices_symMergeCmpFunc_option_c85_l1 data1 a1) F (m1, b1)) (fun i2 =>
      Option.bind (
        iter (slices_symMergeCmpFunc_option_c85_l2 i2) F (data1, a1)) (fun data4 =>
        some data4))
  else
    bif (decide ((w64 (b1 - m1)) = 1)) then
      Option.bind (
        iter (slices_symMergeCmpFunc_option_c85_l3 data1 m1) F (a1, m1)) (fun i4 =>
        Option.bind (
          iter (slices_symMergeCmpFunc_option_c85_l4 i4) F (data1, m1)) (fun data7 =>
          some data7))
    else
      Option.bind (guardO (0 ≤ 1 ∧ 1 ≤ 64)) fun _ =>
      Option.bind (
        bif (decide ((w64 ((IntKind.u64.wrap (w64 (a1 + b1))) / 2 ^ (1 : Int).toNat)) < m1)) then
          some (w64 ((IntKind.u64.wrap (w64 (a1 + b1))) / 2 ^ (1 : Int).toNat), w64 ((w64 ((IntKind.u64.wrap (w64 (a1 + b1))) / 2 ^ (1 : Int).toNat)) + m1), w64 ((w64 ((w64 ((IntKind.u64.wrap (w64 (a1 + b1))) / 2 ^ (1 : Int).toNat)) + m1)) - b1), w64 ((IntKind.u64.wrap (w64 (a1 + b1))) / 2 ^ (1 : Int).toNat))
        else
          some (w64 ((IntKind.u64.wrap (w64 (a1 + b1))) / 2 ^ (1 : Int).toNat), w64 ((w64 ((IntKind.u64.wrap (w64 (a1 + b1))) / 2 ^ (1 : Int).toNat)) + m1), a1, m1)) (fun j_ => oun j_ fun mid1 j_ => oun j_ fun n2 j_ => oun j_ fun start1 r3 =>
        Option.bind (
          iter (slices_symMergeCmpFunc_option_c85_l5 data1) F (start1, r3, w64 (n2 - 1))) (fun start3 =>
          Option.bind (
            bif (decide (start3 < m1)) then
              some (w64 (n2 - start3), (decide (m1 < (w64 (n2 - start3)))))
            else
              some (w64 (n2 - start3), false)) (fun j_ => oun j_ fun f_end1 v1 =>
            Option.bind (
              bif v1 then
                Option.bind (slices_rotateCmpFunc_option_c85 F data1 start3 m1 f_end1) fun r6 =>
                some r6
              else
                some data1) (fun data8 =>
              Option.bind (
                bif (decide (a1 < start3)) then
                  some (decide (start3 < mid1))
                else
                  some false) (fun v2 =>
                Option.bind (
                  bif v2 then
                    Option.bind (rec_ data8 a1 start3 mid1) fun r7 =>
                    some r7
                  else
                    some data8) (fun data9 =>
                  Option.bind (
                    bif (decide (mid1 < f_end1)) then
                      some (decide (f_end1 < b1))
                    else
                      some false) (fun v3 =>
                    Option.bind (
                      bif v3 then
                        Option.bind (rec_ data9 mid1 f_end1 b1) fun r8 =>
                        some r8
                      else
                        some data9) (fun data10 =>
                      some data10))))))))
def slices_symMergeCmpFunc_option_c85 : Nat → (List T_insert_option) → Int → Int → Int → Option ((List T_insert_option))
  | 0, _, _, _, _ => none
  | F + 1, data1, a1, m1, b1 => slices_symMergeCmpFunc_option_c85_b (slices_symMergeCmpFunc_option_c85 F) F data1 a1 m1 b1
def slices_stableCmpFunc_option_c85_l1 (F : Nat) (n2 : Int) (j_ : (List T_insert_option) × Int × Int) : Option (((List T_insert_option) × Int × Int) ⊕ (((List T_insert_option) × Int))) :=
  oun j_ fun data2 j_ => oun j_ fun a1 b1 =>
  bif (decide (b1 ≤ n2)) then
    Option.bind (slices_insertionSortCmpFunc_option_c85 F data2 a1 b1) fun r1 =>
    some (.inl (r1, b1, w64 (b1 + 20)))
  else
    some (.inr (data2, a1))
def slices_stableCmpFunc_option_c85_l2 (F : Nat) (n2 : Int) (blockSize1 : Int) (j_ : (List T_insert_option) × Int × Int) : Option (((List T_insert_option) × Int × Int) ⊕ (((List T_insert_option) × Int))) :=
  oun j_ fun data5 j_ => oun j_ fun a3 b2 =>
  bif (decide (b2 ≤ n2)) then
    Option.bind (slices_symMergeCmpFunc_option_c85 F data5 a3 (w64 (a3 + blockSize1)) b2) fun r3 =>
    some (.inl (r3, b2, w64 (b2 + (w64 (2 * blockSize1)))))
  else
    some (.inr (data5, a3))
def slices_stableCmpFunc_option_c85_l3 (F : Nat) (n2 : Int) (j_ : (List T_insert_option) × Int) : Option (((List T_insert_option) × Int) ⊕ ((List T_insert_option))) :=
  oun j_ fun data4 blockSize1 =>
  bif (decide (blockSize1 < n2)) then
    Option.bind (
      iter (slices_stableCmpFunc_option_c85_l2 F n2 blockSize1) F (data4, 0, w64 (2 * blockSize1))) (fun j_ => oun j_ fun data6 a4 =>
      Option.bind (
        bif (decide ((w64 (a4 + blockSize1)) < n2)) then
          Option.bind (slices_symMergeCmpFunc_option_c85 F data6 a4 (w64 (a4 + blockSize1)) n2) fun r4 =>
          some r4
        else
          some data6) (fun data7 =>
        some (.inl (data7, w64 (blockSize1 * 2)))))
  else
    some (.inr data4)
def slices_stableCmpFunc_option_c85 (F : Nat) (data1 : (List T_insert_option)) (n2 : Int) : Option ((List T_insert_option)) :=
  Option.bind (
    iter (slices_stableCmpFunc_option_c85_l1 F n2) F (data1, 0, 20)) (fun j_ => oun j_ fun data3 a2 =>
    Option.bind (slices_insertionSortCmpFunc_option_c85 F data3 a2 n2) fun r2 =>
    Option.bind (
      iter (slices_stableCmpFunc_option_c85_l3 F n2) F (r2, 20)) (fun data8 =>
      some data8))
def slices_SortStableFunc_option_c85 (F : Nat) (x1 : (List T_insert_option)) : Option ((List T_insert_option)) :=
  Option.bind (slices_stableCmpFunc_option_c85 F x1 ((x1.length : Nat) : Int)) fun r1 =>
  some r1
def insert_options_l1 (F : Nat) (p1 : T_api_Problem) (r3 : (List T_api_Tour)) (j_ : (List T_insert_option) × Int) : Option (((List T_insert_option) × Int) ⊕ ((List T_insert_option))) :=
  oun j_ fun out1 v4 =>
  bif (decide (v4 < ((r3.length : Nat) : Int))) then
    Option.bind (
      Option.bind (getI r3 v4) fun x1 =>
      Option.bind (tour_Cost F p1 x1) fun j_ => oun j_ fun r4 r5 =>
      bif (decide (r5 = 0)) then
        Option.bind (appO out1 [(T_insert_option.mk x1 r4)]) fun l1 =>
        some l1
      else
        some out1) (fun out2 =>
      some (.inl (out2, w64 (v4 + 1))))
  else
    some (.inr out1)
def insert_options (F : Nat) (p1 : T_api_Problem) (t1 : T_api_Tour) (d1 : Int) : Option ((List T_insert_option) × Int) :=
  Option.bind (tour_Check F p1) fun r1 =>
  bif (!(decide (r1 = 0))) then
    some ([], r1)
  else
    Option.bind (
      bif (decide (t1.Vehicle < 0)) then
        some true
      else
        bif (decide (((p1.Vehicles.length : Nat) : Int) ≤ t1.Vehicle)) then
          some true
        else
          bif (decide (d1 < 0)) then
            some true
          else
            some (decide (((p1.Demands.length : Nat) : Int) ≤ d1))) (fun v2 =>
      bif v2 then
        some ([], 7)
      else
        Option.bind (slices_Contains_int t1.Stops d1) fun r2 =>
        bif r2 then
          some ([], 6)
        else
          bif (decide (40 ≤ ((t1.Stops.length : Nat) : Int))) then
            some ([], 0)
          else
            Option.bind (insert_candidates F t1 d1) fun r3 =>
            Option.bind (
              iter (insert_options_l1 F p1 r3) (((r3.length : Nat) : Int).toNat + 1) ([], 0)) (fun out3 =>
              Option.bind (slices_SortStableFunc_option_c85 F out3) fun r6 =>
              some (r6, 0)))
def insert_Build_l1 (l1 : (List T_insert_option)) (j_ : (List T_insert_option) × Int) : Option (((List T_insert_option) × Int) ⊕ ((List T_insert_option))) :=
  oun j_ fun tours1 v2 =>
  bif (decide (v2 < ((l1.length : Nat) : Int))) then
    Option.bind (getI tours1 v2) fun x1 =>
    some (.inl ((setI tours1 v2 (T_insert_option.mk (T_api_Tour.mk v2 x1.tour.Stops) x1.cost)), w64 (v2 + 1)))
  else
    some (.inr tours1)
def insert_Build_l2 (F : Nat) (p1 : T_api_Problem) (tours3 : (List T_insert_option)) (v3 : Int) (j_ : Int × (List Int) × Int × Int × Int) : Option ((Int × (List Int) × Int × Int × Int) ⊕ ((Int × (List Int) × Int × Int))) :=
  oun j_ fun f2 j_ => oun j_ fun f3 j_ => oun j_ fun f4 j_ => oun j_ fun f_at1 v4 =>
  bif (decide (v4 < ((tours3.length : Nat) : Int))) then
    Option.bind (
      Option.bind (getI tours3 v4) fun x2 =>
      Option.bind (insert_options F p1 x2.tour v3) fun j_ => oun j_ fun r2 r3 =>
      Option.bind (
        bif (decide (0 < ((r2.length : Nat) : Int))) then
          bif (decide (f_at1 < 0)) then
            some true
          else
            Option.bind (getI r2 0) fun x3 =>
            Option.bind (getI tours3 f_at1) fun x4 =>
            some (decide ((w64 (x3.cost - x2.cost)) < (w64 (f4 - x4.cost))))
        else
          some false) (fun v6 =>
        bif v6 then
          Option.bind (getI r2 0) fun x5 =>
          some (x5.tour.Vehicle, x5.tour.Stops, x5.cost, v4)
        else
          some (f2, f3, f4, f_at1))) (fun j_ => oun j_ fun f5 j_ => oun j_ fun f6 j_ => oun j_ fun f7 f_at2 =>
      some (.inl (f5, f6, f7, f_at2, w64 (v4 + 1))))
  else
    some (.inr (f2, f3, f4, f_at1))
def insert_Build_l3 (F : Nat) (p1 : T_api_Problem) (j_ : (List T_insert_option) × (List Int) × Int) : Option (((List T_insert_option) × (List Int) × Int) ⊕ (((List T_insert_option) × (List Int)))) :=
  oun j_ fun tours3 j_ => oun j_ fun f1 v3 =>
  bif (decide (v3 < ((p1.Demands.length : Nat) : Int))) then
    Option.bind (
      Option.bind (
        iter (insert_Build_l2 F p1 tours3 v3) (((tours3.length : Nat) : Int).toNat + 1) (0, [], 0, (-1), 0)) (fun j_ => oun j_ fun f8 j_ => oun j_ fun f9 j_ => oun j_ fun f10 f_at3 =>
        bif (decide (f_at3 < 0)) then
          Option.bind (appO f1 [v3]) fun l2 =>
          some (tours3, l2)
        else
          Option.bind (getI tours3 f_at3) fun x6 =>
          some ((setI tours3 f_at3 (T_insert_option.mk (T_api_Tour.mk f8 f9) f10)), f1))) (fun j_ => oun j_ fun tours4 f11 =>
      some (.inl (tours4, f11, w64 (v3 + 1))))
  else
    some (.inr (tours3, f1))
def insert_Build_l4 (tours5 : (List T_insert_option)) (j_ : (List T_api_Tour) × Int) : Option (((List T_api_Tour) × Int) ⊕ ((List T_api_Tour))) :=
  oun j_ fun f13 v7 =>
  bif (decide (v7 < ((tours5.length : Nat) : Int))) then
    Option.bind (
      Option.bind (getI tours5 v7) fun x7 =>
      bif (decide (0 < ((x7.tour.Stops.length : Nat) : Int))) then
        Option.bind (appO f13 [x7.tour]) fun l3 =>
        some l3
      else
        some f13) (fun f14 =>
      some (.inl (f14, w64 (v7 + 1))))
  else
    some (.inr f13)
def insert_Build (F : Nat) (p1 : T_api_Problem) : Option (T_api_Plan × Int) :=
  Option.bind (tour_Check F p1) fun r1 =>
  bif (!(decide (r1 = 0))) then
    some ((T_api_Plan.mk [] []), r1)
  else
    Option.bind (makeO (T_insert_option.mk (T_api_Tour.mk 0 []) 0) ((p1.Vehicles.length : Nat) : Int)) fun l1 =>
    Option.bind (
      iter (insert_Build_l1 l1) (((l1.length : Nat) : Int).toNat + 1) (l1, 0)) (fun tours2 =>
      Option.bind (
        iter (insert_Build_l3 F p1) (((p1.Demands.length : Nat) : Int).toNat + 1) (tours2, [], 0)) (fun j_ => oun j_ fun tours5 f12 =>
        Option.bind (
          iter (insert_Build_l4 tours5) (((tours5.length : Nat) : Int).toNat + 1) ([], 0)) (fun f15 =>
          some ((T_api_Plan.mk f15 f12), 0))))
def tour_plan_1 (u1 : T_api_Tour) (b1 : T_api_Tour) : Option (Bool) :=
  some (decide (u1.Vehicle = b1.Vehicle))
def slices_IndexFunc_Tour_c79_l1 (s1 : (List T_api_Tour)) (b1 : T_api_Tour) (v1 : Int) : Option ((Int) ⊕ (Unit ⊕ Int)) :=
  bif (decide (v1 < ((s1.length : Nat) : Int))) then
    Option.bind (getI s1 v1) fun x1 =>
    Option.bind (tour_plan_1 x1 b1) fun r1 =>
    bif r1 then
      some (.inr (.inr v1))
    else
      some (.inl (w64 (v1 + 1)))
  else
    some (.inr (.inl ()))
def slices_IndexFunc_Tour_c79 (s1 : (List T_api_Tour)) (b1 : T_api_Tour) : Option (Int) :=
  Option.bind (
    iter (slices_IndexFunc_Tour_c79_l1 s1 b1) (((s1.length : Nat) : Int).toNat + 1) 0) (fun o_ => osum o_ (fun _ =>
    some (-1)) (fun rv15035 => some rv15035))
def slices_ContainsFunc_Tour_c79 (s1 : (List T_api_Tour)) (b1 : T_api_Tour) : Option (Bool) :=
  Option.bind (slices_IndexFunc_Tour_c79 s1 b1) fun r1 =>
  some (decide (0 ≤ r1))
def tour_plan_2 (n1 : Int) : Option (Bool) :=
  some (decide (1 < n1))
def slices_IndexFunc_int_c81_l1 (s1 : (List Int)) (v1 : Int) : Option ((Int) ⊕ (Unit ⊕ Int)) :=
  bif (decide (v1 < ((s1.length : Nat) : Int))) then
    Option.bind (getI s1 v1) fun x1 =>
    Option.bind (tour_plan_2 x1) fun r1 =>
    bif r1 then
      some (.inr (.inr v1))
    else
      some (.inl (w64 (v1 + 1)))
  else
    some (.inr (.inl ()))
def slices_IndexFunc_int_c81 (s1 : (List Int)) : Option (Int) :=
  Option.bind (
    iter (slices_IndexFunc_int_c81_l1 s1) (((s1.length : Nat) : Int).toNat + 1) 0) (fun o_ => osum o_ (fun _ =>
    some (-1)) (fun rv15180 => some rv15180))
def slices_ContainsFunc_int_c81 (s1 : (List Int)) : Option (Bool) :=
  Option.bind (slices_IndexFunc_int_c81 s1) fun r1 =>
  some (decide (0 ≤ r1))
def tour_plan_l1 (F : Nat) (p1 : T_api_Problem) (x1 : T_api_Plan) (j_ : Int × Int) : Option ((Int × Int) ⊕ (Int ⊕ (Int × Int))) :=
  oun j_ fun sum1 v2 =>
  bif (decide (v2 < ((x1.Tours.length : Nat) : Int))) then
    Option.bind (getI x1.Tours v2) fun x2 =>
    Option.bind (subO x1.Tours 0 v2) fun l1 =>
    Option.bind (slices_ContainsFunc_Tour_c79 l1 x2) fun r2 =>
    bif r2 then
      some (.inr (.inr (0, 6)))
    else
      Option.bind (tour_follow F p1 x2) fun j_ => oun j_ fun r3 j_ => oun j_ fun r4 r5 =>
      bif (!(decide (r4 = 0))) then
        some (.inr (.inr (0, r4)))
      else
        Option.bind (r3) fun q1 =>
        some (.inl (w64 (sum1 + q1.place.meters), w64 (v2 + 1)))
  else
    some (.inr (.inl sum1))
def tour_plan_l2 (x1 : T_api_Plan) (j_ : (List Int) × Int) : Option (((List Int) × Int) ⊕ ((List Int) ⊕ (Int × Int))) :=
  oun j_ fun times1 v4 =>
  bif (decide (v4 < ((x1.Left.length : Nat) : Int))) then
    Option.bind (getI x1.Left v4) fun x3 =>
    Option.bind (
      bif (decide (x3 < 0)) then
        some true
      else
        some (decide (((times1.length : Nat) : Int) ≤ x3))) (fun v5 =>
      bif v5 then
        some (.inr (.inr (0, 7)))
      else
        Option.bind (getI times1 x3) fun x4 =>
        Option.bind (getI times1 x3) fun x5 =>
        some (.inl ((setI times1 x3 (w64 (x4 + 1))), w64 (v4 + 1))))
  else
    some (.inr (.inl times1))
def tour_plan_l3 (x6 : T_api_Tour) (j_ : (List Int) × Int) : Option (((List Int) × Int) ⊕ ((List Int))) :=
  oun j_ fun times4 v7 =>
  bif (decide (v7 < ((x6.Stops.length : Nat) : Int))) then
    Option.bind (
      Option.bind (getI x6.Stops v7) fun x7 =>
      bif (!(decide (x7 = (-1)))) then
        Option.bind (getI times4 x7) fun x8 =>
        Option.bind (getI times4 x7) fun x9 =>
        some (setI times4 x7 (w64 (x8 + 1)))
      else
        some times4) (fun times5 =>
      some (.inl (times5, w64 (v7 + 1))))
  else
    some (.inr times4)
def tour_plan_l4 (x1 : T_api_Plan) (j_ : (List Int) × Int) : Option (((List Int) × Int) ⊕ ((List Int))) :=
  oun j_ fun times3 v6 =>
  bif (decide (v6 < ((x1.Tours.length : Nat) : Int))) then
    Option.bind (
      Option.bind (getI x1.Tours v6) fun x6 =>
      Option.bind (
        iter (tour_plan_l3 x6) (((x6.Stops.length : Nat) : Int).toNat + 1) (times3, 0)) (fun times6 =>
        some times6)) (fun times7 =>
      some (.inl (times7, w64 (v6 + 1))))
  else
    some (.inr times3)
def tour_plan (F : Nat) (p1 : T_api_Problem) (x1 : T_api_Plan) : Option (Int × Int) :=
  Option.bind (tour_Check F p1) fun r1 =>
  bif (!(decide (r1 = 0))) then
    some (0, r1)
  else
    Option.bind (
      iter (tour_plan_l1 F p1 x1) (((x1.Tours.length : Nat) : Int).toNat + 1) (0, 0)) (fun o_ => osum o_ (fun sum2 =>
      Option.bind (makeO (0 : Int) ((p1.Demands.length : Nat) : Int)) fun l2 =>
      Option.bind (
        iter (tour_plan_l2 x1) (((x1.Left.length : Nat) : Int).toNat + 1) (l2, 0)) (fun o_ => osum o_ (fun times2 =>
        Option.bind (
          iter (tour_plan_l4 x1) (((x1.Tours.length : Nat) : Int).toNat + 1) (times2, 0)) (fun times8 =>
          Option.bind (slices_ContainsFunc_int_c81 times8) fun r6 =>
          bif r6 then
            some (0, 6)
          else
            Option.bind (slices_Contains_int times8 0) fun r7 =>
            bif r7 then
              some (0, 38)
            else
              some (sum2, 0))) (fun rv15256 => some rv15256))) (fun rv15190 => some rv15190))
def tour_Total (F : Nat) (p1 : T_api_Problem) (x1 : T_api_Plan) : Option (Int × Int) :=
  Option.bind (tour_plan F p1 x1) fun j_ => oun j_ fun r1 r2 =>
  some (r1, r2)
def dispatch_of_l1 (x1 : T_api_Plan) (v1 : Int) (v2 : Int) : Option ((Int) ⊕ (Unit ⊕ T_api_Tour)) :=
  bif (decide (v2 < ((x1.Tours.length : Nat) : Int))) then
    Option.bind (getI x1.Tours v2) fun x2 =>
    bif (decide (x2.Vehicle = v1)) then
      some (.inr (.inr x2))
    else
      some (.inl (w64 (v2 + 1)))
  else
    some (.inr (.inl ()))
def dispatch_of (x1 : T_api_Plan) (v1 : Int) : Option (T_api_Tour) :=
  Option.bind (
    iter (dispatch_of_l1 x1 v1) (((x1.Tours.length : Nat) : Int).toNat + 1) 0) (fun o_ => osum o_ (fun _ =>
    some (T_api_Tour.mk v1 [])) (fun rv15410 => some rv15410))
def dispatch_without_1 (k1 : Int) (b1 : Int) : Option (Bool) :=
  some (decide (k1 = b1))
def slices_IndexFunc_int_c116_l1 (s1 : (List Int)) (b1 : Int) (v1 : Int) : Option ((Int) ⊕ (Unit ⊕ Int)) :=
  bif (decide (v1 < ((s1.length : Nat) : Int))) then
    Option.bind (getI s1 v1) fun x1 =>
    Option.bind (dispatch_without_1 x1 b1) fun r1 =>
    bif r1 then
      some (.inr (.inr v1))
    else
      some (.inl (w64 (v1 + 1)))
  else
    some (.inr (.inl ()))
def slices_IndexFunc_int_c116 (s1 : (List Int)) (b1 : Int) : Option (Int) :=
  Option.bind (
    iter (slices_IndexFunc_int_c116_l1 s1 b1) (((s1.length : Nat) : Int).toNat + 1) 0) (fun o_ => osum o_ (fun _ =>
    some (-1)) (fun rv15447 => some rv15447))
def slices_DeleteFunc_int_c116_l1 (s1 : (List Int)) (b1 : Int) (j_ : (List Int) × Int × Int) : Option (((List Int) × Int × Int) ⊕ (((List Int) × Int))) :=
  oun j_ fun s2 j_ => oun j_ fun i1 j1 =>
  bif (decide (j1 < ((s1.length : Nat) : Int))) then
    Option.bind (
      Option.bind (getI s2 j1) fun x1 =>
      Option.bind (dispatch_without_1 x1 b1) fun r2 =>
      bif (!r2) then
        Option.bind (getI s2 i1) fun x2 =>
        some ((setI s2 i1 x1), w64 (i1 + 1))
      else
        some (s2, i1)) (fun j_ => oun j_ fun s3 i2 =>
      some (.inl (s3, i2, w64 (j1 + 1))))
  else
    some (.inr (s2, i1))
def slices_DeleteFunc_int_c116 (F : Nat) (s1 : (List Int)) (b1 : Int) : Option ((List Int)) :=
  Option.bind (slices_IndexFunc_int_c116 s1 b1) fun r1 =>
  bif (decide (r1 = (-1))) then
    some s1
  else
    Option.bind (
      iter (slices_DeleteFunc_int_c116_l1 s1 b1) F (s1, r1, w64 (r1 + 1))) (fun j_ => oun j_ fun s4 i3 =>
      Option.bind (subO s4 i3 ((s4.length : Nat) : Int)) fun l1 =>
      Option.bind (subO (clrO s4 i3 0) 0 i3) fun l2 =>
      some l2)
def dispatch_without (F : Nat) (l1 : (List Int)) (n1 : Int) : Option ((List Int)) :=
  Option.bind (cloneO l1) fun l2 =>
  Option.bind (slices_DeleteFunc_int_c116 F l2 n1) fun r1 =>
  some r1
def insert_Best (F : Nat) (p1 : T_api_Problem) (t1 : T_api_Tour) (d1 : Int) : Option (T_api_Tour × Int) :=
  Option.bind (insert_options F p1 t1 d1) fun j_ => oun j_ fun r1 r2 =>
  bif (!(decide (r2 = 0))) then
    some ((T_api_Tour.mk 0 []), r2)
  else
    bif (decide (((r1.length : Nat) : Int) = 0)) then
      some ((T_api_Tour.mk 0 []), 40)
    else
      Option.bind (getI r1 0) fun x1 =>
      some (x1.tour, 0)
def dispatch_serves_1 (s1 : Int) : Option (Bool) :=
  some (decide (0 ≤ s1))
def slices_IndexFunc_int_c117_l1 (s1 : (List Int)) (v1 : Int) : Option ((Int) ⊕ (Unit ⊕ Int)) :=
  bif (decide (v1 < ((s1.length : Nat) : Int))) then
    Option.bind (getI s1 v1) fun x1 =>
    Option.bind (dispatch_serves_1 x1) fun r1 =>
    bif r1 then
      some (.inr (.inr v1))
    else
      some (.inl (w64 (v1 + 1)))
  else
    some (.inr (.inl ()))
def slices_IndexFunc_int_c117 (s1 : (List Int)) : Option (Int) :=
  Option.bind (
    iter (slices_IndexFunc_int_c117_l1 s1) (((s1.length : Nat) : Int).toNat + 1) 0) (fun o_ => osum o_ (fun _ =>
    some (-1)) (fun rv15783 => some rv15783))
def slices_ContainsFunc_int_c117 (s1 : (List Int)) : Option (Bool) :=
  Option.bind (slices_IndexFunc_int_c117 s1) fun r1 =>
  some (decide (0 ≤ r1))
def dispatch_serves (t1 : T_api_Tour) : Option (Bool) :=
  Option.bind (slices_ContainsFunc_int_c117 t1.Stops) fun r1 =>
  some r1
def dispatch_move_l1 (F : Nat) (p1 : T_api_Problem) (x1 : T_api_Plan) (d1 : Int) (v1 : Int) (f1 : Int) (f2 : (List Int)) (j_ : (List T_api_Tour) × Int) : Option (((List T_api_Tour) × Int) ⊕ ((List T_api_Tour))) :=
  oun j_ fun f3 v4 =>
  bif (decide (v4 < ((p1.Vehicles.length : Nat) : Int))) then
    Option.bind (
      Option.bind (
        bif (!(decide (v4 = v1))) then
          Option.bind (dispatch_of x1 v4) fun r5 =>
          Option.bind (dispatch_without F r5.Stops d1) fun r6 =>
          some (v4, r6)
        else
          some (f1, f2)) (fun j_ => oun j_ fun f4 f5 =>
        Option.bind (dispatch_serves (T_api_Tour.mk f4 f5)) fun r7 =>
        bif r7 then
          Option.bind (appO f3 [(T_api_Tour.mk f4 f5)]) fun l1 =>
          some l1
        else
          some f3)) (fun f6 =>
      some (.inl (f6, w64 (v4 + 1))))
  else
    some (.inr f3)
def dispatch_move (F : Nat) (p1 : T_api_Problem) (x1 : T_api_Plan) (d1 : Int) (v1 : Int) : Option (T_api_Plan × Bool) :=
  Option.bind (
    Option.bind (dispatch_of x1 v1) fun r1 =>
    Option.bind (dispatch_without F r1.Stops d1) fun r2 =>
    Option.bind (insert_Best F p1 (T_api_Tour.mk v1 r2) d1) fun j_ => oun j_ fun r3 r4 =>
    some (r3.Vehicle, r3.Stops, r4)) (fun j_ => oun j_ fun f1 j_ => oun j_ fun f2 e1 =>
    bif (!(decide (e1 = 0))) then
      some ((T_api_Plan.mk [] []), false)
    else
      Option.bind (
        iter (dispatch_move_l1 F p1 x1 d1 v1 f1 f2) (((p1.Vehicles.length : Nat) : Int).toNat + 1) ([], 0)) (fun f7 =>
        Option.bind (dispatch_without F x1.Left d1) fun r8 =>
        Option.bind (sortO r8) fun l2 =>
        some ((T_api_Plan.mk f7 l2), true)))
def cmp_isNaN_int (x1 : Int) : Option (Bool) :=
  some (!(decide (x1 = x1)))
def cmp_Compare_int (x1 : Int) (y1 : Int) : Option (Int) :=
  Option.bind (cmp_isNaN_int x1) fun r1 =>
  Option.bind (cmp_isNaN_int y1) fun r2 =>
  bif r1 then
    bif r2 then
      some 0
    else
      some (-1)
  else
    bif r2 then
      some 1
    else
      bif (decide (x1 < y1)) then
        some (-1)
      else
        bif (decide (y1 < x1)) then
          some 1
        else
          some 0
def cmp_Or_int_l1 (vals1 : (List Int)) (v1 : Int) : Option ((Int) ⊕ (Unit ⊕ Int)) :=
  bif (decide (v1 < ((vals1.length : Nat) : Int))) then
    Option.bind (getI vals1 v1) fun x1 =>
    bif (!(decide (x1 = 0))) then
      some (.inr (.inr x1))
    else
      some (.inl (w64 (v1 + 1)))
  else
    some (.inr (.inl ()))
def cmp_Or_int (vals1 : (List Int)) : Option (Int) :=
  Option.bind (
    iter (cmp_Or_int_l1 vals1) (((vals1.length : Nat) : Int).toNat + 1) 0) (fun o_ => osum o_ (fun _ =>
    some 0) (fun rv16277 => some rv16277))
def dispatch_compare (a1 : T_dispatch_rated) (b1 : T_dispatch_rated) : Option (Int) :=
  Option.bind (cmp_Compare_int ((a1.plan.Left.length : Nat) : Int) ((b1.plan.Left.length : Nat) : Int)) fun r1 =>
  Option.bind (cmp_Compare_int a1.cost b1.cost) fun r2 =>
  Option.bind (cmp_Or_int [r1, r2]) fun r3 =>
  some r3
def dispatch_Moves_y (F : Nat) (b1 : T_api_Problem) (b2 : T_api_Plan) (b3 : Int) (b4 : (List T_dispatch_rated)) (y1 : T_api_Plan) : Option ((List T_dispatch_rated)) :=
  Option.bind (tour_Total F b1 y1) fun j_ => oun j_ fun r1 r2 =>
  Option.bind (
    bif (decide (r2 = 0)) then
      Option.bind (dispatch_compare (T_dispatch_rated.mk y1 r1) (T_dispatch_rated.mk b2 b3)) fun r3 =>
      some (decide (r3 < 0))
    else
      some false) (fun v2 =>
    bif v2 then
      Option.bind (appO b4 [(T_dispatch_rated.mk y1 r1)]) fun l2 =>
      some l2
    else
      some b4)
def dispatch_moves_1_y16_l1 (F : Nat) (b1 : T_api_Problem) (b2 : T_api_Plan) (b3 : Int) (b5 : T_api_Problem) (b6 : T_api_Plan) (v1 : Int) (j_ : Int × (List T_dispatch_rated)) : Option ((Int × (List T_dispatch_rated)) ⊕ ((List T_dispatch_rated))) :=
  oun j_ fun v2 q3 =>
  bif (decide (v2 < ((b5.Vehicles.length : Nat) : Int))) then
    Option.bind (dispatch_move F b5 b6 v1 v2) fun j_ => oun j_ fun r1 r2 =>
    Option.bind (
      bif r2 then
        Option.bind (dispatch_Moves_y F b1 b2 b3 q3 r1) fun r3 =>
        some r3
      else
        some q3) (fun q4 =>
      some (.inl (w64 (v2 + 1), q4)))
  else
    some (.inr q3)
def dispatch_moves_1_y16_l2 (F : Nat) (b1 : T_api_Problem) (b2 : T_api_Plan) (b3 : Int) (b5 : T_api_Problem) (b6 : T_api_Plan) (j_ : Int × (List T_dispatch_rated)) : Option ((Int × (List T_dispatch_rated)) ⊕ ((List T_dispatch_rated))) :=
  oun j_ fun v1 q2 =>
  bif (decide (v1 < ((b5.Demands.length : Nat) : Int))) then
    Option.bind (
      Option.bind (
        iter (dispatch_moves_1_y16_l1 F b1 b2 b3 b5 b6 v1) (((b5.Vehicles.length : Nat) : Int).toNat + 1) (0, q2)) (fun q5 =>
        some q5)) (fun q6 =>
      some (.inl (w64 (v1 + 1), q6)))
  else
    some (.inr q2)
def dispatch_moves_1_y16 (F : Nat) (b1 : T_api_Problem) (b2 : T_api_Plan) (b3 : Int) (b4 : (List T_dispatch_rated)) (b5 : T_api_Problem) (b6 : T_api_Plan) : Option ((List T_dispatch_rated)) :=
  Option.bind (
    iter (dispatch_moves_1_y16_l2 F b1 b2 b3 b5 b6) (((b5.Demands.length : Nat) : Int).toNat + 1) (0, b4)) (fun q7 =>
    some q7)
def slices_insertionSortCmpFunc_rated_c40_l1 (a1 : Int) (j_ : (List T_dispatch_rated) × Int) : Option (((List T_dispatch_rated) × Int) ⊕ ((List T_dispatch_rated))) :=
  oun j_ fun data3 j1 =>
  Option.bind (
    bif (decide (a1 < j1)) then
      Option.bind (getI data3 j1) fun x1 =>
      Option.bind (getI data3 (w64 (j1 - 1))) fun x2 =>
      Option.bind (dispatch_compare x1 x2) fun r1 =>
      some (decide (r1 < 0))
    else
      some false) (fun v1 =>
    bif v1 then
      Option.bind (
        Option.bind (getI data3 (w64 (j1 - 1))) fun x3 =>
        Option.bind (getI data3 j1) fun x4 =>
        Option.bind (getI data3 j1) fun x5 =>
        Option.bind (getI (setI data3 j1 x3) (w64 (j1 - 1))) fun x6 =>
        some (setI (setI data3 j1 x3) (w64 (j1 - 1)) x4)) (fun data4 =>
        some (.inl (data4, w64 (j1 - 1))))
    else
      some (.inr data3))
def slices_insertionSortCmpFunc_rated_c40_l2 (F : Nat) (a1 : Int) (b1 : Int) (j_ : (List T_dispatch_rated) × Int) : Option (((List T_dispatch_rated) × Int) ⊕ ((List T_dispatch_rated))) :=
  oun j_ fun data2 i1 =>
  bif (decide (i1 < b1)) then
    Option.bind (
      Option.bind (
        iter (slices_insertionSortCmpFunc_rated_c40_l1 a1) F (data2, i1)) (fun data5 =>
        some data5)) (fun data6 =>
      some (.inl (data6, w64 (i1 + 1))))
  else
    some (.inr data2)
def slices_insertionSortCmpFunc_rated_c40 (F : Nat) (data1 : (List T_dispatch_rated)) (a1 : Int) (b1 : Int) : Option ((List T_dispatch_rated)) :=
  Option.bind (
    iter (slices_insertionSortCmpFunc_rated_c40_l2 F a1 b1) F (data1, w64 (a1 + 1))) (fun data7 =>
    some data7)
def slices_swapRangeCmpFunc_rated_c40_l1 (a1 : Int) (b1 : Int) (n2 : Int) (j_ : (List T_dispatch_rated) × Int) : Option (((List T_dispatch_rated) × Int) ⊕ ((List T_dispatch_rated))) :=
  oun j_ fun data2 i1 =>
  bif (decide (i1 < n2)) then
    Option.bind (
      Option.bind (getI data2 (w64 (b1 + i1))) fun x1 =>
      Option.bind (getI data2 (w64 (a1 + i1))) fun x2 =>
      Option.bind (getI data2 (w64 (a1 + i1))) fun x3 =>
      Option.bind (getI (setI data2 (w64 (a1 + i1)) x1) (w64 (b1 + i1))) fun x4 =>
      some (setI (setI data2 (w64 (a1 + i1)) x1) (w64 (b1 + i1)) x2)) (fun data3 =>
      some (.inl (data3, w64 (i1 + 1))))
  else
    some (.inr data2)
def slices_swapRangeCmpFunc_rated_c40 (data1 : (List T_dispatch_rated)) (a1 : Int) (b1 : Int) (n2 : Int) : Option ((List T_dispatch_rated)) :=
  Option.bind (
    iter (slices_swapRangeCmpFunc_rated_c40_l1 a1 b1 n2) (n2.toNat + 1) (data1, 0)) (fun data4 =>
    some data4)
def slices_rotateCmpFunc_rated_c40_l1 (m1 : Int) (j_ : (List T_dispatch_rated) × Int × Int) : Option (((List T_dispatch_rated) × Int × Int) ⊕ (((List T_dispatch_rated) × Int))) :=
  oun j_ fun data2 j_ => oun j_ fun i1 j1 =>
  bif (!(decide (i1 = j1))) then
    bif (decide (j1 < i1)) then
      Option.bind (slices_swapRangeCmpFunc_rated_c40 data2 (w64 (m1 - i1)) m1 j1) fun r1 =>
      some (.inl (r1, w64 (i1 - j1), j1))
    else
      Option.bind (slices_swapRangeCmpFunc_rated_c40 data2 (w64 (m1 - i1)) (w64 ((w64 (m1 + j1)) - i1)) i1) fun r2 =>
      some (.inl (r2, i1, w64 (j1 - i1)))
  else
    some (.inr (data2, i1))
def slices_rotateCmpFunc_rated_c40 (F : Nat) (data1 : (List T_dispatch_rated)) (a1 : Int) (m1 : Int) (b1 : Int) : Option ((List T_dispatch_rated)) :=
  Option.bind (
    iter (slices_rotateCmpFunc_rated_c40_l1 m1) F (data1, w64 (m1 - a1), w64 (b1 - m1))) (fun j_ => oun j_ fun data3 i2 =>
    Option.bind (slices_swapRangeCmpFunc_rated_c40 data3 (w64 (m1 - i2)) m1 i2) fun r3 =>
    some r3)
def slices_symMergeCmpFunc_rated_c40_l1 (data1 : (List T_dispatch_rated)) (a1 : Int) (j_ : Int × Int) : Option ((Int × Int) ⊕ (Int)) :=
  oun j_ fun i1 j1 =>
  bif (decide (i1 < j1)) then
    Option.bind (guardO (0 ≤ 1 ∧ 1 ≤ 64)) fun _ =>
    Option.bind (getI data1 (w64 ((IntKind.u64.wrap (w64 (i1 + j1))) / 2 ^ (1 : Int).toNat))) fun x1 =>
    Option.bind (getI data1 a1) fun x2 =>
    Option.bind (dispatch_compare x1 x2) fun r1 =>
    bif (decide (r1 < 0)) then
      some (.inl (w64 ((w64 ((IntKind.u64.wrap (w64 (i1 + j1))) / 2 ^ (1 : Int).toNat)) + 1), j1))
    else
      some (.inl (i1, w64 ((IntKind.u64.wrap (w64 (i1 + j1))) / 2 ^ (1 : Int).toNat)))
  else
    some (.inr i1)
def slices_symMergeCmpFunc_rated_c40_l2 (i2 : Int) (j_ : (List T_dispatch_rated) × Int) : Option (((List T_dispatch_rated) × Int) ⊕ ((List T_dispatch_rated))) :=
  oun j_ fun data2 k1 =>
  bif (decide (k1 < (w64 (i2 - 1)))) then
    Option.bind (
      Option.bind (getI data2 (w64 (k1 + 1))) fun x3 =>
      Option.bind (getI data2 k1) fun x4 =>
      Option.bind (getI data2 k1) fun x5 =>
      Option.bind (getI (setI data2 k1 x3) (w64 (k1 + 1))) fun x6 =>
      some (setI (setI data2 k1 x3) (w64 (k1 + 1)) x4)) (fun data3 =>
      some (.inl (data3, w64 (k1 + 1))))
  else
    some (.inr data2)
def slices_symMergeCmpFunc_rated_c40_l3 (data1 : (List T_dispatch_rated)) (m1 : Int) (j_ : Int × Int) : Option ((Int × Int) ⊕ (Int)) :=
  oun j_ fun i3 j2 =>
  bif (decide (i3 < j2)) then
    Option.bind (guardO (0 ≤ 1 ∧ 1 ≤ 64)) fun _ =>
    Option.bind (getI data1 m1) fun x7 =>
    Option.bind (getI data1 (w64 ((IntKind.u64.wrap (w64 (i3 + j2))) / 2 ^ (1 : Int).toNat))) fun x8 =>
    Option.bind (dispatch_compare x7 x8) fun r2 =>
    bif (!(decide (r2 < 0))) then
      some (.inl (w64 ((w64 ((IntKind.u64.wrap (w64 (i3 + j2))) / 2 ^ (1 : Int).toNat)) + 1), j2))
    else
      some (.inl (i3, w64 ((IntKind.u64.wrap (w64 (i3 + j2))) / 2 ^ (1 : Int).toNat)))
  else
    some (.inr i3)
def slices_symMergeCmpFunc_rated_c40_l4 (i4 : Int) (j_ : (List T_dispatch_rated) × Int) : Option (((List T_dispatch_rated) × Int) ⊕ ((List T_dispatch_rated))) :=
  oun j_ fun data5 k2 =>
  bif (decide (i4 < k2)) then
    Option.bind (
      Option.bind (getI data5 (w64 (k2 - 1))) fun x9 =>
      Option.bind (getI data5 k2) fun x10 =>
      Option.bind (getI data5 k2) fun x11 =>
      Option.bind (getI (setI data5 k2 x9) (w64 (k2 - 1))) fun x12 =>
      some (setI (setI data5 k2 x9) (w64 (k2 - 1)) x10)) (fun data6 =>
      some (.inl (data6, w64 (k2 - 1))))
  else
    some (.inr data5)
def slices_symMergeCmpFunc_rated_c40_l5 (data1 : (List T_dispatch_rated)) (j_ : Int × Int × Int) : Option ((Int × Int × Int) ⊕ (Int)) :=
  oun j_ fun start2 j_ => oun j_ fun r4 p1 =>
  bif (decide (start2 < r4)) then
    Option.bind (guardO (0 ≤ 1 ∧ 1 ≤ 64)) fun _ =>
    Option.bind (getI data1 (w64 (p1 - (w64 ((IntKind.u64.wrap (w64 (start2 + r4))) / 2 ^ (1 : Int).toNat))))) fun x13 =>
    Option.bind (getI data1 (w64 ((IntKind.u64.wrap (w64 (start2 + r4))) / 2 ^ (1 : Int).toNat))) fun x14 =>
    Option.bind (dispatch_compare x13 x14) fun r5 =>
    bif (!(decide (r5 < 0))) then
      some (.inl (w64 ((w64 ((IntKind.u64.wrap (w64 (start2 + r4))) / 2 ^ (1 : Int).toNat)) + 1), r4, p1))
    else
      some (.inl (start2, w64 ((IntKind.u64.wrap (w64 (start2 + r4))) / 2 ^ (1 : Int).toNat), p1))
  else
    some (.inr start2)
def slices_symMergeCmpFunc_rated_c40_b (rec_ : (List T_dispatch_rated) → Int → Int → Int → Option ((List T_dispatch_rated))) (F : Nat) (data1 : (List T_dispatch_rated)) (a1 : Int) (m1 : Int) (b1 : Int) : Option ((List T_dispatch_rated)) :=
  bif (decide ((w64 (m1 - a1)) = 1)) then
    Option.bind (
      iter (slices_symMergeCmpFunc_rated_c40_l1 data1 a1) F (m1, b1)) (fun i2 =>
      Option.bind (
        iter (slices_symMergeCmpFunc_rated_c40_l2 i2) F (data1, a1)) (fun data4 =>
        some data4))
  else
    bif (decide ((w64 (b1 - m1)) = 1)) then
      Option.bind (
        iter (slices_symMergeCmpFunc_rated_c40_l3 data1 m1) F (a1, m1)) (fun i4 =>
        Option.bind (
          iter (slices_symMergeCmpFunc_rated_c40_l4 i4) F (data1, m1)) (fun data7 =>
          some data7))
    else
      Option.bind (guardO (0 ≤ 1 ∧ 1 ≤ 64)) fun _ =>
      Option.bind (
        bif (decide ((w64 ((IntKind.u64.wrap (w64 (a1 + b1))) / 2 ^ (1 : Int).toNat)) < m1)) then
          some (w64 ((IntKind.u64.wrap (w64 (a1 + b1))) / 2 ^ (1 : Int).toNat), w64 ((w64 ((IntKind.u64.wrap (w64 (a1 + b1))) / 2 ^ (1 : Int).toNat)) + m1), w64 ((w64 ((w64 ((IntKind.u64.wrap (w64 (a1 + b1))) / 2 ^ (1 : Int).toNat)) + m1)) - b1), w64 ((IntKind.u64.wrap (w64 (a1 + b1))) / 2 ^ (1 : Int).toNat))
        else
          some (w64 ((IntKind.u64.wrap (w64 (a1 + b1))) / 2 ^ (1 : Int).toNat), w64 ((w64 ((IntKind.u64.wrap (w64 (a1 + b1))) / 2 ^ (1 : Int).toNat)) + m1), a1, m1)) (fun j_ => oun j_ fun mid1 j_ => oun j_ fun n2 j_ => oun j_ fun start1 r3 =>
        Option.bind (
          iter (slices_symMergeCmpFunc_rated_c40_l5 data1) F (start1, r3, w64 (n2 - 1))) (fun start3 =>
          Option.bind (
            bif (decide (start3 < m1)) then
              some (w64 (n2 - start3), (decide (m1 < (w64 (n2 - start3)))))
            else
              some (w64 (n2 - start3), false)) (fun j_ => oun j_ fun f_end1 v1 =>
            Option.bind (
              bif v1 then
                Option.bind (slices_rotateCmpFunc_rated_c40 F data1 start3 m1 f_end1) fun r6 =>
                some r6
              else
                some data1) (fun data8 =>
              Option.bind (
                bif (decide (a1 < start3)) then
                  some (decide (start3 < mid1))
                else
                  some false) (fun v2 =>
                Option.bind (
                  bif v2 then
                    Option.bind (rec_ data8 a1 start3 mid1) fun r7 =>
                    some r7
                  else
                    some data8) (fun data9 =>
                  Option.bind (
                    bif (decide (mid1 < f_end1)) then
                      some (decide (f_end1 < b1))
                    else
                      some false) (fun v3 =>
                    Option.bind (
                      bif v3 then
                        Option.bind (rec_ data9 mid1 f_end1 b1) fun r8 =>
                        some r8
                      else
                        some data9) (fun data10 =>
                      some data10))))))))
def slices_symMergeCmpFunc_rated_c40 : Nat → (List T_dispatch_rated) → Int → Int → Int → Option ((List T_dispatch_rated))
  | 0, _, _, _, _ => none
  | F + 1, data1, a1, m1, b1 => slices_symMergeCmpFunc_rated_c40_b (slices_symMergeCmpFunc_rated_c40 F) F data1 a1 m1 b1
def slices_stableCmpFunc_rated_c40_l1 (F : Nat) (n2 : Int) (j_ : (List T_dispatch_rated) × Int × Int) : Option (((List T_dispatch_rated) × Int × Int) ⊕ (((List T_dispatch_rated) × Int))) :=
  oun j_ fun data2 j_ => oun j_ fun a1 b1 =>
  bif (decide (b1 ≤ n2)) then
    Option.bind (slices_insertionSortCmpFunc_rated_c40 F data2 a1 b1) fun r1 =>
    some (.inl (r1, b1, w64 (b1 + 20)))
  else
    some (.inr (data2, a1))
def slices_stableCmpFunc_rated_c40_l2 (F : Nat) (n2 : Int) (blockSize1 : Int) (j_ : (List T_dispatch_rated) × Int × Int) : Option (((List T_dispatch_rated) × Int × Int) ⊕ (((List T_dispatch_rated) × Int))) :=
  oun j_ fun data5 j_ => oun j_ fun a3 b2 =>
  bif (decide (b2 ≤ n2)) then
    Option.bind (slices_symMergeCmpFunc_rated_c40 F data5 a3 (w64 (a3 + blockSize1)) b2) fun r3 =>
    some (.inl (r3, b2, w64 (b2 + (w64 (2 * blockSize1)))))
  else
    some (.inr (data5, a3))
def slices_stableCmpFunc_rated_c40_l3 (F : Nat) (n2 : Int) (j_ : (List T_dispatch_rated) × Int) : Option (((List T_dispatch_rated) × Int) ⊕ ((List T_dispatch_rated))) :=
  oun j_ fun data4 blockSize1 =>
  bif (decide (blockSize1 < n2)) then
    Option.bind (
      iter (slices_stableCmpFunc_rated_c40_l2 F n2 blockSize1) F (data4, 0, w64 (2 * blockSize1))) (fun j_ => oun j_ fun data6 a4 =>
      Option.bind (
        bif (decide ((w64 (a4 + blockSize1)) < n2)) then
          Option.bind (slices_symMergeCmpFunc_rated_c40 F data6 a4 (w64 (a4 + blockSize1)) n2) fun r4 =>
          some r4
        else
          some data6) (fun data7 =>
        some (.inl (data7, w64 (blockSize1 * 2)))))
  else
    some (.inr data4)
def slices_stableCmpFunc_rated_c40 (F : Nat) (data1 : (List T_dispatch_rated)) (n2 : Int) : Option ((List T_dispatch_rated)) :=
  Option.bind (
    iter (slices_stableCmpFunc_rated_c40_l1 F n2) F (data1, 0, 20)) (fun j_ => oun j_ fun data3 a2 =>
    Option.bind (slices_insertionSortCmpFunc_rated_c40 F data3 a2 n2) fun r2 =>
    Option.bind (
      iter (slices_stableCmpFunc_rated_c40_l3 F n2) F (r2, 20)) (fun data8 =>
      some data8))
def slices_SortStableFunc_rated_c40 (F : Nat) (x1 : (List T_dispatch_rated)) : Option ((List T_dispatch_rated)) :=
  Option.bind (slices_stableCmpFunc_rated_c40 F x1 ((x1.length : Nat) : Int)) fun r1 =>
  some r1
def dispatch_Moves_l1 (r4 : (List T_dispatch_rated)) (j_ : (List T_api_Plan) × Int) : Option (((List T_api_Plan) × Int) ⊕ ((List T_api_Plan))) :=
  oun j_ fun out1 v3 =>
  bif (decide (v3 < ((r4.length : Nat) : Int))) then
    Option.bind (getI r4 v3) fun x2 =>
    Option.bind (appO out1 [x2.plan]) fun l2 =>
    some (.inl (l2, w64 (v3 + 1)))
  else
    some (.inr out1)
def dispatch_Moves (F : Nat) (p1 : T_api_Problem) (x1 : T_api_Plan) : Option ((List T_api_Plan) × Int) :=
  Option.bind (tour_Total F p1 x1) fun j_ => oun j_ fun r1 r2 =>
  bif (!(decide (r2 = 0))) then
    some ([], r2)
  else
    Option.bind (dispatch_moves_1_y16 F p1 x1 r1 [] p1 x1) fun r3 =>
    Option.bind (slices_SortStableFunc_rated_c40 F r3) fun r4 =>
    Option.bind (
      iter (dispatch_Moves_l1 r4) (((r4.length : Nat) : Int).toNat + 1) ([], 0)) (fun out2 =>
      some (out2, 0))
def dispatch_Plan_l1 (F : Nat) (p1 : T_api_Problem) (j_ : (List T_api_Tour) × (List Int)) : Option (((List T_api_Tour) × (List Int)) ⊕ ((T_api_Plan × Int))) :=
  oun j_ fun f1 f2 =>
  Option.bind (dispatch_Moves F p1 (T_api_Plan.mk f1 f2)) fun j_ => oun j_ fun r3 r4 =>
  bif (!(decide (r4 = 0))) then
    some (.inr ((T_api_Plan.mk [] []), r4))
  else
    bif (decide (((r3.length : Nat) : Int) = 0)) then
      some (.inr ((T_api_Plan.mk f1 f2), 0))
    else
      Option.bind (getI r3 0) fun x1 =>
      some (.inl (x1.Tours, x1.Left))
def dispatch_Plan (F : Nat) (p1 : T_api_Problem) : Option (T_api_Plan × Int) :=
  Option.bind (insert_Build F p1) fun j_ => oun j_ fun r1 r2 =>
  bif (!(decide (r2 = 0))) then
    some ((T_api_Plan.mk [] []), r2)
  else
    Option.bind (
      iter (dispatch_Plan_l1 F p1) F (r1.Tours, r1.Left)) (fun rv33477 => some rv33477)
def tour_Feasible (F : Nat) (p1 : T_api_Problem) (x1 : T_api_Plan) : Option (Int) :=
  Option.bind (tour_plan F p1 x1) fun j_ => oun j_ fun r1 r2 =>
  some r2
def tour_Walk (F : Nat) (p1 : T_api_Problem) (t1 : T_api_Tour) : Option ((List T_api_Visit) × Int × Int) :=
  Option.bind (tour_Check F p1) fun r1 =>
  bif (!(decide (r1 = 0))) then
    some ([], r1, 0)
  else
    Option.bind (tour_follow F p1 t1) fun j_ => oun j_ fun r2 j_ => oun j_ fun r3 r4 =>
    bif (!(decide (r3 = 0))) then
      some ([], r3, r4)
    else
      Option.bind (r2) fun q1 =>
      some (q1.visits, 0, 0)
def insert_Options_l1 (r1 : (List T_insert_option)) (j_ : (List T_api_Tour) × Int) : Option (((List T_api_Tour) × Int) ⊕ ((List T_api_Tour))) :=
  oun j_ fun out1 v2 =>
  bif (decide (v2 < ((r1.length : Nat) : Int))) then
    Option.bind (getI r1 v2) fun x1 =>
    Option.bind (appO out1 [x1.tour]) fun l1 =>
    some (.inl (l1, w64 (v2 + 1)))
  else
    some (.inr out1)
def insert_Options (F : Nat) (p1 : T_api_Problem) (t1 : T_api_Tour) (d1 : Int) : Option ((List T_api_Tour) × Int) :=
  Option.bind (insert_options F p1 t1 d1) fun j_ => oun j_ fun r1 r2 =>
  Option.bind (
    iter (insert_Options_l1 r1) (((r1.length : Nat) : Int).toNat + 1) ([], 0)) (fun out2 =>
    some (out2, r2))
def dispatch_reason (F : Nat) (p1 : T_api_Problem) (x1 : T_api_Plan) (d1 : Int) (v1 : Int) : Option (Int) :=
  Option.bind (getI p1.Vehicles v1) fun x2 =>
  Option.bind (getI p1.Demands d1) fun x3 =>
  Option.bind (vehicle_Carries x2 x3.Kind) fun r1 =>
  bif (!r1) then
    some 21
  else
    Option.bind (getI p1.Demands d1) fun x4 =>
    Option.bind (getI p1.Vehicles v1) fun x5 =>
    bif (decide (x5.Grams < x4.Grams)) then
      some 20
    else
      Option.bind (tour_Walk F p1 (T_api_Tour.mk v1 [d1, (-1)])) fun j_ => oun j_ fun r2 j_ => oun j_ fun r3 r4 =>
      bif (!(decide (r3 = 0))) then
        some r3
      else
        Option.bind (dispatch_of x1 v1) fun r5 =>
        Option.bind (insert_Options F p1 r5 d1) fun j_ => oun j_ fun r6 r7 =>
        bif (!(decide (r7 = 0))) then
          some r7
        else
          bif (decide (((r6.length : Nat) : Int) = 0)) then
            some 40
          else
            some 0
def dispatch_Why_l1 (F : Nat) (p1 : T_api_Problem) (x1 : T_api_Plan) (d1 : Int) (j_ : (List T_api_Reason) × Int) : Option (((List T_api_Reason) × Int) ⊕ ((List T_api_Reason))) :=
  oun j_ fun out1 v3 =>
  bif (decide (v3 < ((p1.Vehicles.length : Nat) : Int))) then
    Option.bind (dispatch_reason F p1 x1 d1 v3) fun r3 =>
    Option.bind (appO out1 [(T_api_Reason.mk v3 r3)]) fun l1 =>
    some (.inl (l1, w64 (v3 + 1)))
  else
    some (.inr out1)
def dispatch_Why (F : Nat) (p1 : T_api_Problem) (x1 : T_api_Plan) (d1 : Int) : Option ((List T_api_Reason) × Int) :=
  Option.bind (tour_Feasible F p1 x1) fun r1 =>
  bif (!(decide (r1 = 0))) then
    some ([], r1)
  else
    Option.bind (
      bif (decide (d1 < 0)) then
        some true
      else
        some (decide (((p1.Demands.length : Nat) : Int) ≤ d1))) (fun v2 =>
      bif v2 then
        some ([], 7)
      else
        Option.bind (slices_Contains_int x1.Left d1) fun r2 =>
        bif (!r2) then
          some ([], 13)
        else
          Option.bind (
            iter (dispatch_Why_l1 F p1 x1 d1) (((p1.Vehicles.length : Nat) : Int).toNat + 1) ([], 0)) (fun out2 =>
            some (out2, 0)))
def recyclingref23_Ints_l1 (a1 : (List Int)) (b1 : (List Int)) (i1 : Int) : Option ((Int) ⊕ (Unit ⊕ Bool)) :=
  bif (decide (i1 < ((a1.length : Nat) : Int))) then
    Option.bind (getI a1 i1) fun x1 =>
    Option.bind (getI b1 i1) fun x2 =>
    bif (!(decide (x1 = x2))) then
      some (.inr (.inr false))
    else
      some (.inl (w64 (i1 + 1)))
  else
    some (.inr (.inl ()))
def recyclingref23_Ints (a1 : (List Int)) (b1 : (List Int)) : Option (Bool) :=
  bif (!(decide (((a1.length : Nat) : Int) = ((b1.length : Nat) : Int)))) then
    some false
  else
    Option.bind (
      iter (recyclingref23_Ints_l1 a1 b1) (((a1.length : Nat) : Int).toNat + 1) 0) (fun o_ => osum o_ (fun _ =>
      some true) (fun rv33978 => some rv33978))
def recyclingref23_Same_l1 (a1 : (List T_api_Tour)) (b1 : (List T_api_Tour)) (i1 : Int) : Option ((Int) ⊕ (Unit ⊕ Bool)) :=
  bif (decide (i1 < ((a1.length : Nat) : Int))) then
    Option.bind (
      Option.bind (getI a1 i1) fun x1 =>
      Option.bind (getI b1 i1) fun x2 =>
      bif (!(decide (x1.Vehicle = x2.Vehicle))) then
        some true
      else
        Option.bind (getI a1 i1) fun x3 =>
        Option.bind (getI b1 i1) fun x4 =>
        Option.bind (recyclingref23_Ints x3.Stops x4.Stops) fun r1 =>
        some (!r1)) (fun v1 =>
      bif v1 then
        some (.inr (.inr false))
      else
        some (.inl (w64 (i1 + 1))))
  else
    some (.inr (.inl ()))
def recyclingref23_Same (a1 : (List T_api_Tour)) (b1 : (List T_api_Tour)) : Option (Bool) :=
  bif (!(decide (((a1.length : Nat) : Int) = ((b1.length : Nat) : Int)))) then
    some false
  else
    Option.bind (
      iter (recyclingref23_Same_l1 a1 b1) (((a1.length : Nat) : Int).toNat + 1) 0) (fun o_ => osum o_ (fun _ =>
      some true) (fun rv33970 => some rv33970))
def recyclingref25_Same (a1 : T_api_Plan) (b1 : T_api_Plan) : Option (Bool) :=
  Option.bind (
    Option.bind (recyclingref23_Same a1.Tours b1.Tours) fun r1 =>
    bif r1 then
      Option.bind (recyclingref23_Ints a1.Left b1.Left) fun r2 =>
      some r2
    else
      some false) (fun v1 =>
    some v1)
def recyclingref25_SameReasons_l1 (a1 : (List T_api_Reason)) (b1 : (List T_api_Reason)) (v1 : Int) : Option ((Int) ⊕ (Unit ⊕ Bool)) :=
  bif (decide (v1 < ((a1.length : Nat) : Int))) then
    Option.bind (getI a1 v1) fun x1 =>
    Option.bind (getI b1 v1) fun x2 =>
    bif (!(decide (x1 = x2))) then
      some (.inr (.inr false))
    else
      some (.inl (w64 (v1 + 1)))
  else
    some (.inr (.inl ()))
def recyclingref25_SameReasons (a1 : (List T_api_Reason)) (b1 : (List T_api_Reason)) : Option (Bool) :=
  bif (!(decide (((a1.length : Nat) : Int) = ((b1.length : Nat) : Int)))) then
    some false
  else
    Option.bind (
      iter (recyclingref25_SameReasons_l1 a1 b1) (((a1.length : Nat) : Int).toNat + 1) 0) (fun o_ => osum o_ (fun _ =>
      some true) (fun rv34053 => some rv34053))
def recyclinglaw25_awake (F : Nat) : Option (Bool) :=
  Option.bind (dispatch_Plan F (T_api_Problem.mk (T_api_Road.mk 2 [(T_api_Edge.mk 0 1 500 60), (T_api_Edge.mk 1 0 500 60)]) [(T_api_Vehicle.mk ⟨#[118]⟩ 0 (T_api_Window.mk 1000 2000) 1000 1)] [(T_api_Demand.mk 0 1 0 300 (T_api_Window.mk 1100 1200) 30)] 0 20)) fun j_ => oun j_ fun r1 r2 =>
  Option.bind (dispatch_Moves F (T_api_Problem.mk (T_api_Road.mk 2 [(T_api_Edge.mk 0 1 500 60), (T_api_Edge.mk 1 0 500 60)]) [(T_api_Vehicle.mk ⟨#[118]⟩ 0 (T_api_Window.mk 1000 2000) 1000 1)] [(T_api_Demand.mk 0 1 0 300 (T_api_Window.mk 1100 1200) 30)] 0 20) (T_api_Plan.mk [] [0])) fun j_ => oun j_ fun r3 r4 =>
  Option.bind (dispatch_Why F (T_api_Problem.mk (T_api_Road.mk 2 [(T_api_Edge.mk 0 1 500 60), (T_api_Edge.mk 1 0 500 60)]) [(T_api_Vehicle.mk ⟨#[118]⟩ 0 (T_api_Window.mk 1000 2000) 1000 1)] [(T_api_Demand.mk 0 1 0 300 (T_api_Window.mk 1100 1200) 30)] 0 20) (T_api_Plan.mk [] [0]) 0) fun j_ => oun j_ fun r5 r6 =>
  Option.bind (getI [(T_api_Vehicle.mk ⟨#[118]⟩ 0 (T_api_Window.mk 1000 2000) 1000 1)] 0) fun x1 =>
  Option.bind (dispatch_Plan F (T_api_Problem.mk (T_api_Road.mk 2 [(T_api_Edge.mk 0 1 500 60), (T_api_Edge.mk 1 0 500 60)]) (setI [(T_api_Vehicle.mk ⟨#[118]⟩ 0 (T_api_Window.mk 1000 2000) 1000 1)] 0 (T_api_Vehicle.mk x1.ID x1.Depot x1.Shift 299 x1.Kinds)) [(T_api_Demand.mk 0 1 0 300 (T_api_Window.mk 1100 1200) 30)] 0 20)) fun j_ => oun j_ fun r7 r8 =>
  Option.bind (dispatch_Why F (T_api_Problem.mk (T_api_Road.mk 2 [(T_api_Edge.mk 0 1 500 60), (T_api_Edge.mk 1 0 500 60)]) (setI [(T_api_Vehicle.mk ⟨#[118]⟩ 0 (T_api_Window.mk 1000 2000) 1000 1)] 0 (T_api_Vehicle.mk x1.ID x1.Depot x1.Shift 299 x1.Kinds)) [(T_api_Demand.mk 0 1 0 300 (T_api_Window.mk 1100 1200) 30)] 0 20) r7 0) fun j_ => oun j_ fun r9 r10 =>
  Option.bind (
    Option.bind (recyclingref25_Same r1 (T_api_Plan.mk [(T_api_Tour.mk 0 [0, (-1)])] [])) fun r11 =>
    bif r11 then
      bif (decide (r2 = 0)) then
        bif (decide (((r3.length : Nat) : Int) = 1)) then
          Option.bind (getI r3 0) fun x2 =>
          Option.bind (recyclingref25_Same x2 (T_api_Plan.mk [(T_api_Tour.mk 0 [0, (-1)])] [])) fun r12 =>
          bif r12 then
            bif (decide (r4 = 0)) then
              Option.bind (recyclingref25_SameReasons r5 [(T_api_Reason.mk 0 0)]) fun r13 =>
              bif r13 then
                bif (decide (r6 = 0)) then
                  Option.bind (recyclingref25_Same r7 (T_api_Plan.mk [] [0])) fun r14 =>
                  bif r14 then
                    bif (decide (r8 = 0)) then
                      Option.bind (recyclingref25_SameReasons r9 [(T_api_Reason.mk 0 20)]) fun r15 =>
                      bif r15 then
                        some (decide (r10 = 0))
                      else
                        some false
                    else
                      some false
                  else
                    some false
                else
                  some false
              else
                some false
            else
              some false
          else
            some false
        else
          some false
      else
        some false
    else
      some false) (fun v23 =>
    some v23)
def recyclingref19_Check_l1 (r1 : T_api_Road) (v2 : Int) : Option ((Int) ⊕ (Unit ⊕ Int)) :=
  bif (decide (v2 < ((r1.Edges.length : Nat) : Int))) then
    Option.bind (getI r1.Edges v2) fun x1 =>
    Option.bind (
      bif (decide (x1.From < 0)) then
        some true
      else
        bif (decide (r1.Nodes ≤ x1.From)) then
          some true
        else
          bif (decide (x1.To < 0)) then
            some true
          else
            some (decide (r1.Nodes ≤ x1.To))) (fun v3 =>
      bif v3 then
        some (.inr (.inr 7))
      else
        Option.bind (
          bif (decide (x1.From = x1.To)) then
            some true
          else
            bif (decide (x1.Meters < 1)) then
              some true
            else
              bif (decide (100000 < x1.Meters)) then
                some true
              else
                bif (decide (x1.Secs < 1)) then
                  some true
                else
                  some (decide (100000 < x1.Secs))) (fun v4 =>
          bif v4 then
            some (.inr (.inr 1))
          else
            some (.inl (w64 (v2 + 1)))))
  else
    some (.inr (.inl ()))
def recyclingref19_Check (r1 : T_api_Road) : Option (Int) :=
  Option.bind (
    bif (decide (r1.Nodes < 1)) then
      some true
    else
      some (decide (64 < r1.Nodes))) (fun v1 =>
    bif v1 then
      some 1
    else
      bif (decide (512 < ((r1.Edges.length : Nat) : Int))) then
        some 8
      else
        Option.bind (
          iter (recyclingref19_Check_l1 r1) (((r1.Edges.length : Nat) : Int).toNat + 1) 0) (fun o_ => osum o_ (fun _ =>
          some 0) (fun rv34571 => some rv34571)))
def recyclingref04_letter (c1 : Int) : Option (Bool) :=
  Option.bind (
    bif (decide (65 ≤ c1)) then
      bif (decide (c1 ≤ 90)) then
        some true
      else
        bif (decide (97 ≤ c1)) then
          some (decide (c1 ≤ 122))
        else
          some false
    else
      bif (decide (97 ≤ c1)) then
        some (decide (c1 ≤ 122))
      else
        some false) (fun v1 =>
    some v1)
def recyclingref04_Valid_l1 (s1 : ByteArray) (i1 : Int) : Option ((Int) ⊕ (Unit ⊕ Bool)) :=
  bif (decide (i1 < ((s1.size : Nat) : Int))) then
    Option.bind (getB s1 i1) fun x2 =>
    Option.bind (
      Option.bind (recyclingref04_letter x2) fun r2 =>
      bif (!r2) then
        bif (decide (x2 < 48)) then
          bif (!(decide (x2 = 45))) then
            bif (!(decide (x2 = 95))) then
              some (!(decide (x2 = 46)))
            else
              some false
          else
            some false
        else
          bif (decide (57 < x2)) then
            bif (!(decide (x2 = 45))) then
              bif (!(decide (x2 = 95))) then
                some (!(decide (x2 = 46)))
              else
                some false
            else
              some false
          else
            some false
      else
        some false) (fun v2 =>
      bif v2 then
        some (.inr (.inr false))
      else
        some (.inl (w64 (i1 + 1))))
  else
    some (.inr (.inl ()))
def recyclingref04_Valid (s1 : ByteArray) : Option (Bool) :=
  Option.bind (
    bif (decide (((s1.size : Nat) : Int) < 1)) then
      some true
    else
      bif (decide (32 < ((s1.size : Nat) : Int))) then
        some true
      else
        Option.bind (getB s1 0) fun x1 =>
        Option.bind (recyclingref04_letter x1) fun r1 =>
        some (!r1)) (fun v1 =>
    bif v1 then
      some false
    else
      Option.bind (
        iter (recyclingref04_Valid_l1 s1) (((s1.size : Nat) : Int).toNat + 1) 0) (fun o_ => osum o_ (fun _ =>
        some true) (fun rv34607 => some rv34607)))
def recyclingref20_one (v1 : T_api_Vehicle) (nodes1 : Int) (materials1 : Int) : Option (Int) :=
  Option.bind (recyclingref04_Valid v1.ID) fun r1 =>
  bif (!r1) then
    some 5
  else
    Option.bind (
      bif (decide (v1.Depot < 0)) then
        some true
      else
        some (decide (nodes1 ≤ v1.Depot))) (fun v2 =>
      bif v2 then
        some 7
      else
        Option.bind (
          bif (decide (v1.Shift.From < 0)) then
            some true
          else
            bif (decide (v1.Shift.To ≤ v1.Shift.From)) then
              some true
            else
              some (decide (86400 < v1.Shift.To))) (fun v3 =>
          bif v3 then
            some 19
          else
            Option.bind (
              bif (decide (v1.Grams < 1)) then
                some true
              else
                some (decide (1073741824 < v1.Grams))) (fun v4 =>
              bif v4 then
                some 1
              else
                Option.bind (
                  bif (decide (v1.Kinds < 1)) then
                    some true
                  else
                    Option.bind (guardO (0 ≤ materials1 ∧ materials1 ≤ 64)) fun _ =>
                    some (decide ((w64 (1 * 2 ^ materials1.toNat)) ≤ v1.Kinds))) (fun v5 =>
                  bif v5 then
                    some 21
                  else
                    some 0))))
def recyclingref20_Check_l1 (l1 : (List T_api_Vehicle)) (nodes1 : Int) (materials1 : Int) (i1 : Int) : Option ((Int) ⊕ (Unit ⊕ Int)) :=
  bif (decide (i1 < ((l1.length : Nat) : Int))) then
    Option.bind (getI l1 i1) fun x1 =>
    Option.bind (recyclingref20_one x1 nodes1 materials1) fun r1 =>
    bif (!(decide (r1 = 0))) then
      some (.inr (.inr r1))
    else
      some (.inl (w64 (i1 + 1)))
  else
    some (.inr (.inl ()))
def recyclingref20_Check_l2 (l1 : (List T_api_Vehicle)) (i2 : Int) (k1 : Int) : Option ((Int) ⊕ (Unit ⊕ Int)) :=
  bif (decide (k1 < i2)) then
    Option.bind (getI l1 i2) fun x2 =>
    Option.bind (getI l1 k1) fun x3 =>
    bif (decide (x2.ID = x3.ID)) then
      some (.inr (.inr 6))
    else
      some (.inl (w64 (k1 + 1)))
  else
    some (.inr (.inl ()))
def recyclingref20_Check_l3 (l1 : (List T_api_Vehicle)) (i2 : Int) : Option ((Int) ⊕ (Unit ⊕ Int)) :=
  bif (decide (i2 < ((l1.length : Nat) : Int))) then
    Option.bind (
      Option.bind (
        iter (recyclingref20_Check_l2 l1 i2) (i2.toNat + 1) 0) (fun o_ => osum o_ (fun _ =>
        some (.inl ())) (fun rv34631 => some (.inr rv34631)))) (fun o_ => osum o_ (fun _ =>
      some (.inl (w64 (i2 + 1)))) (fun rv34630 => some (.inr (.inr rv34630))))
  else
    some (.inr (.inl ()))
def recyclingref20_Check (l1 : (List T_api_Vehicle)) (nodes1 : Int) (materials1 : Int) : Option (Int) :=
  Option.bind (
    bif (decide (nodes1 < 1)) then
      some true
    else
      bif (decide (64 < nodes1)) then
        some true
      else
        bif (decide (materials1 < 1)) then
          some true
        else
          some (decide (16 < materials1))) (fun v1 =>
    bif v1 then
      some 1
    else
      bif (decide (((l1.length : Nat) : Int) = 0)) then
        some 10
      else
        bif (decide (16 < ((l1.length : Nat) : Int))) then
          some 8
        else
          Option.bind (
            iter (recyclingref20_Check_l1 l1 nodes1 materials1) (((l1.length : Nat) : Int).toNat + 1) 0) (fun o_ => osum o_ (fun _ =>
            Option.bind (
              iter (recyclingref20_Check_l3 l1) (((l1.length : Nat) : Int).toNat + 1) 0) (fun o_ => osum o_ (fun _ =>
              some 0) (fun rv34623 => some rv34623))) (fun rv34602 => some rv34602)))
def recyclingref21_Check_l1 (l1 : (List T_api_Demand)) (nodes1 : Int) (materials1 : Int) (i1 : Int) : Option ((Int) ⊕ (Unit ⊕ Int)) :=
  bif (decide (i1 < ((l1.length : Nat) : Int))) then
    Option.bind (getI l1 i1) fun x1 =>
    Option.bind (
      bif (decide (x1.Container < 0)) then
        some true
      else
        bif (decide (256 ≤ x1.Container)) then
          some true
        else
          bif (decide (x1.Node < 0)) then
            some true
          else
            bif (decide (nodes1 ≤ x1.Node)) then
              some true
            else
              bif (decide (x1.Kind < 0)) then
                some true
              else
                some (decide (materials1 ≤ x1.Kind))) (fun v1 =>
      bif v1 then
        some (.inr (.inr 7))
      else
        Option.bind (
          bif (decide (x1.Grams < 0)) then
            some true
          else
            bif (decide (1073741824 < x1.Grams)) then
              some true
            else
              bif (decide (x1.When.From < 0)) then
                some true
              else
                bif (decide (x1.When.To < x1.When.From)) then
                  some true
                else
                  bif (decide (86400 < x1.When.To)) then
                    some true
                  else
                    bif (decide (x1.Service < 0)) then
                      some true
                    else
                      some (decide (3600 < x1.Service))) (fun v2 =>
          bif v2 then
            some (.inr (.inr 1))
          else
            some (.inl (w64 (i1 + 1)))))
  else
    some (.inr (.inl ()))
def recyclingref21_Check_l2 (l1 : (List T_api_Demand)) (i2 : Int) (k1 : Int) : Option ((Int) ⊕ (Unit ⊕ Int)) :=
  bif (decide (k1 < i2)) then
    Option.bind (getI l1 i2) fun x2 =>
    Option.bind (getI l1 k1) fun x3 =>
    bif (decide (x2.Container = x3.Container)) then
      some (.inr (.inr 6))
    else
      some (.inl (w64 (k1 + 1)))
  else
    some (.inr (.inl ()))
def recyclingref21_Check_l3 (l1 : (List T_api_Demand)) (i2 : Int) : Option ((Int) ⊕ (Unit ⊕ Int)) :=
  bif (decide (i2 < ((l1.length : Nat) : Int))) then
    Option.bind (
      Option.bind (
        iter (recyclingref21_Check_l2 l1 i2) (i2.toNat + 1) 0) (fun o_ => osum o_ (fun _ =>
        some (.inl ())) (fun rv34658 => some (.inr rv34658)))) (fun o_ => osum o_ (fun _ =>
      some (.inl (w64 (i2 + 1)))) (fun rv34657 => some (.inr (.inr rv34657))))
  else
    some (.inr (.inl ()))
def recyclingref21_Check (l1 : (List T_api_Demand)) (nodes1 : Int) (materials1 : Int) : Option (Int) :=
  bif (decide (32 < ((l1.length : Nat) : Int))) then
    some 8
  else
    Option.bind (
      iter (recyclingref21_Check_l1 l1 nodes1 materials1) (((l1.length : Nat) : Int).toNat + 1) 0) (fun o_ => osum o_ (fun _ =>
      Option.bind (
        iter (recyclingref21_Check_l3 l1) (((l1.length : Nat) : Int).toNat + 1) 0) (fun o_ => osum o_ (fun _ =>
        some 0) (fun rv34650 => some rv34650))) (fun rv34635 => some rv34635))
def recyclingref22_Check (p1 : T_api_Problem) : Option (Int) :=
  Option.bind (recyclingref19_Check p1.Road) fun r1 =>
  bif (!(decide (r1 = 0))) then
    some r1
  else
    Option.bind (recyclingref20_Check p1.Vehicles p1.Road.Nodes 16) fun r2 =>
    bif (!(decide (r2 = 0))) then
      some r2
    else
      Option.bind (recyclingref21_Check p1.Demands p1.Road.Nodes 16) fun r3 =>
      bif (!(decide (r3 = 0))) then
        some r3
      else
        Option.bind (
          bif (decide (p1.Unload < 0)) then
            some true
          else
            some (decide (p1.Road.Nodes ≤ p1.Unload))) (fun v1 =>
          bif v1 then
            some 7
          else
            Option.bind (
              bif (decide (p1.UnloadSecs < 0)) then
                some true
              else
                some (decide (7200 < p1.UnloadSecs))) (fun v2 =>
              bif v2 then
                some 1
              else
                some 0))
def recyclingref23_candidate (stops1 : (List Int)) (d1 : Int) (k1 : Int) (unload1 : Bool) : Option ((List Int)) :=
  Option.bind (subO stops1 0 k1) fun l1 =>
  Option.bind (appO [] l1) fun l2 =>
  Option.bind (appO l2 [d1]) fun l3 =>
  Option.bind (
    bif unload1 then
      Option.bind (appO l3 [(-1)]) fun l4 =>
      some l4
    else
      some l3) (fun l5 =>
    Option.bind (subO stops1 k1 ((stops1.length : Nat) : Int)) fun l6 =>
    Option.bind (appO l5 l6) fun l7 =>
    Option.bind (getI l7 (w64 (((l7.length : Nat) : Int) - 1))) fun x1 =>
    Option.bind (
      bif (!(decide (x1 = (-1)))) then
        Option.bind (appO l7 [(-1)]) fun l8 =>
        some l8
      else
        some l7) (fun l9 =>
      some l9))
def recyclingref20_Carries (v1 : T_api_Vehicle) (kind1 : Int) : Option (Bool) :=
  Option.bind (
    bif (decide (kind1 < 0)) then
      some true
    else
      some (decide (16 ≤ kind1))) (fun v2 =>
    bif v2 then
      some false
    else
      Option.bind (guardO (0 ≤ kind1 ∧ kind1 ≤ 64)) fun _ =>
      some (decide ((Int.tmod ((IntKind.u64.wrap (v1.Kinds)) / 2 ^ kind1.toNat) 2) = 1)))
def recyclingref22_right_l1 (stops1 : (List Int)) (i1 : Int) (x1 : Int) (k1 : Int) : Option ((Int) ⊕ (Unit ⊕ Int)) :=
  bif (decide (k1 < i1)) then
    Option.bind (getI stops1 k1) fun x2 =>
    bif (decide (x2 = x1)) then
      some (.inr (.inr 6))
    else
      some (.inl (w64 (k1 + 1)))
  else
    some (.inr (.inl ()))
def recyclingref22_right (p1 : T_api_Problem) (v1 : T_api_Vehicle) (stops1 : (List Int)) (i1 : Int) : Option (Int) :=
  Option.bind (getI stops1 i1) fun x1 =>
  bif (decide (x1 = (-1))) then
    some 0
  else
    Option.bind (
      bif (decide (x1 < 0)) then
        some true
      else
        some (decide (((p1.Demands.length : Nat) : Int) ≤ x1))) (fun v2 =>
      bif v2 then
        some 7
      else
        Option.bind (
          iter (recyclingref22_right_l1 stops1 i1 x1) (i1.toNat + 1) 0) (fun o_ => osum o_ (fun _ =>
          Option.bind (getI p1.Demands x1) fun x3 =>
          Option.bind (recyclingref20_Carries v1 x3.Kind) fun r1 =>
          bif (!r1) then
            some 21
          else
            some 0) (fun rv34933 => some rv34933)))
def recyclingref19_node (r1 : T_api_Road) (n1 : Int) : Option (Bool) :=
  Option.bind (
    bif (decide (0 ≤ n1)) then
      some (decide (n1 < r1.Nodes))
    else
      some false) (fun v1 =>
    some v1)
def recyclingref19_Along (a1 : T_api_Leg) (b1 : T_api_Leg) : Option (T_api_Leg) :=
  some (T_api_Leg.mk (w64 (a1.Secs + b1.Secs)) (w64 (a1.Meters + b1.Meters)))
def recyclingref19_Better (a1 : T_api_Leg) (b1 : T_api_Leg) : Option (Bool) :=
  Option.bind (
    bif (decide (a1.Secs < 0)) then
      some true
    else
      some (decide (b1.Secs < 0))) (fun v1 =>
    bif v1 then
      some (decide (0 ≤ a1.Secs))
    else
      Option.bind (
        bif (decide (a1.Secs < b1.Secs)) then
          some true
        else
          bif (decide (a1.Secs = b1.Secs)) then
            some (decide (a1.Meters < b1.Meters))
          else
            some false) (fun v2 =>
        some v2))
def recyclingref19_Legs_l1 (l1 : (List T_api_Leg)) (j_ : (List T_api_Leg) × Int) : Option (((List T_api_Leg) × Int) ⊕ ((List T_api_Leg))) :=
  oun j_ fun out1 v1 =>
  bif (decide (v1 < ((l1.length : Nat) : Int))) then
    Option.bind (getI out1 v1) fun x1 =>
    some (.inl ((setI out1 v1 (T_api_Leg.mk (-1) x1.Meters)), w64 (v1 + 1)))
  else
    some (.inr out1)
def recyclingref19_Legs_l2 (r1 : T_api_Road) (j_ : (List T_api_Leg) × Int) : Option (((List T_api_Leg) × Int) ⊕ ((List T_api_Leg))) :=
  oun j_ fun out4 v2 =>
  bif (decide (v2 < ((r1.Edges.length : Nat) : Int))) then
    Option.bind (
      Option.bind (getI r1.Edges v2) fun x3 =>
      Option.bind (getI out4 x3.From) fun x4 =>
      bif (decide (0 ≤ x4.Secs)) then
        Option.bind (
          Option.bind (getI out4 x3.From) fun x5 =>
          Option.bind (recyclingref19_Along x5 (T_api_Leg.mk x3.Secs x3.Meters)) fun r4 =>
          some (r4.Secs, r4.Meters)) (fun j_ => oun j_ fun f1 f2 =>
          Option.bind (getI out4 x3.To) fun x6 =>
          Option.bind (recyclingref19_Better (T_api_Leg.mk f1 f2) x6) fun r5 =>
          bif r5 then
            Option.bind (getI out4 x3.To) fun x7 =>
            some (setI out4 x3.To (T_api_Leg.mk f1 f2))
          else
            some out4)
      else
        some out4) (fun out5 =>
      some (.inl (out5, w64 (v2 + 1))))
  else
    some (.inr out4)
def recyclingref19_Legs_l3 (r1 : T_api_Road) (j_ : (List T_api_Leg) × Int) : Option (((List T_api_Leg) × Int) ⊕ ((List T_api_Leg))) :=
  oun j_ fun out3 n1 =>
  bif (decide (n1 < r1.Nodes)) then
    Option.bind (
      Option.bind (
        iter (recyclingref19_Legs_l2 r1) (((r1.Edges.length : Nat) : Int).toNat + 1) (out3, 0)) (fun out6 =>
        some out6)) (fun out7 =>
      some (.inl (out7, w64 (n1 + 1))))
  else
    some (.inr out3)
def recyclingref19_Legs (r1 : T_api_Road) (f_from1 : Int) : Option ((List T_api_Leg) × Int) :=
  Option.bind (recyclingref19_Check r1) fun r2 =>
  bif (!(decide (r2 = 0))) then
    some ([], r2)
  else
    Option.bind (recyclingref19_node r1 f_from1) fun r3 =>
    bif (!r3) then
      some ([], 7)
    else
      Option.bind (makeO (T_api_Leg.mk 0 0) r1.Nodes) fun l1 =>
      Option.bind (
        iter (recyclingref19_Legs_l1 l1) (((l1.length : Nat) : Int).toNat + 1) (l1, 0)) (fun out2 =>
        Option.bind (getI out2 f_from1) fun x2 =>
        Option.bind (
          iter (recyclingref19_Legs_l3 r1) (r1.Nodes.toNat + 1) ((setI out2 f_from1 (T_api_Leg.mk 0 x2.Meters)), 0)) (fun out8 =>
          some (out8, 0)))
def recyclingref22_Leg (p1 : T_api_Problem) (f_from1 : Int) (f_to1 : Int) : Option (T_api_Leg) :=
  Option.bind (recyclingref19_Legs p1.Road f_from1) fun j_ => oun j_ fun r1 r2 =>
  Option.bind (
    bif (!(decide (r2 = 0))) then
      some true
    else
      bif (decide (f_to1 < 0)) then
        some true
      else
        some (decide (((r1.length : Nat) : Int) ≤ f_to1))) (fun v1 =>
    bif v1 then
      some (T_api_Leg.mk (-1) 0)
    else
      Option.bind (getI r1 f_to1) fun x1 =>
      some x1)
def recyclingref22_visit (p1 : T_api_Problem) (v1 : T_api_Vehicle) (x1 : T_api_Visit) (s1 : Int) : Option (T_api_Visit × Int) :=
  Option.bind (
    bif (decide (0 ≤ s1)) then
      Option.bind (getI p1.Demands s1) fun x2 =>
      some x2.Node
    else
      some p1.Unload) (fun f1 =>
    Option.bind (recyclingref22_Leg p1 x1.Node f1) fun r1 =>
    bif (decide (r1.Secs < 0)) then
      some ((T_api_Visit.mk 0 0 0 0 0 0), 22)
    else
      bif (decide (s1 < 0)) then
        some ((T_api_Visit.mk s1 f1 (w64 (x1.Leave + r1.Secs)) (w64 (x1.Leave + r1.Secs)) (w64 ((w64 (x1.Leave + r1.Secs)) + p1.UnloadSecs)) 0), 0)
      else
        Option.bind (getI p1.Demands s1) fun x3 =>
        bif (decide (x3.When.To ≤ (max (w64 (x1.Leave + r1.Secs)) x3.When.From))) then
          some ((T_api_Visit.mk 0 0 0 0 0 0), 19)
        else
          bif (decide (v1.Grams < (w64 (x1.Load + x3.Grams)))) then
            some ((T_api_Visit.mk 0 0 0 0 0 0), 20)
          else
            some ((T_api_Visit.mk s1 f1 (w64 (x1.Leave + r1.Secs)) (max (w64 (x1.Leave + r1.Secs)) x3.When.From) (w64 ((max (w64 (x1.Leave + r1.Secs)) x3.When.From) + x3.Service)) (w64 (x1.Load + x3.Grams))), 0))
def recyclingref22_home (p1 : T_api_Problem) (v1 : T_api_Vehicle) (x1 : T_api_Visit) : Option (T_api_Visit × Int) :=
  Option.bind (recyclingref22_Leg p1 x1.Node v1.Depot) fun r1 =>
  bif (decide (r1.Secs < 0)) then
    some ((T_api_Visit.mk 0 0 0 0 0 0), 22)
  else
    bif (decide (0 < x1.Load)) then
      some ((T_api_Visit.mk 0 0 0 0 0 0), 20)
    else
      bif (decide (v1.Shift.To ≤ (w64 (x1.Leave + r1.Secs)))) then
        some ((T_api_Visit.mk 0 0 0 0 0 0), 19)
      else
        some ((T_api_Visit.mk (-2) v1.Depot (w64 (x1.Leave + r1.Secs)) (w64 (x1.Leave + r1.Secs)) (w64 (x1.Leave + r1.Secs)) 0), 0)
def recyclingref22_Walk_l1 (p1 : T_api_Problem) (t1 : T_api_Tour) (x1 : T_api_Vehicle) (j_ : Int × Int × Int × Int × Int × Int × (List T_api_Visit) × Int) : Option ((Int × Int × Int × Int × Int × Int × (List T_api_Visit) × Int) ⊕ ((Int × Int × Int × Int × Int × Int × (List T_api_Visit)) ⊕ ((List T_api_Visit) × Int × Int))) :=
  oun j_ fun f1 j_ => oun j_ fun f2 j_ => oun j_ fun f3 j_ => oun j_ fun f4 j_ => oun j_ fun f5 j_ => oun j_ fun f6 j_ => oun j_ fun out1 v2 =>
  bif (decide (v2 < ((t1.Stops.length : Nat) : Int))) then
    Option.bind (getI t1.Stops v2) fun x2 =>
    Option.bind (recyclingref22_right p1 x1 t1.Stops v2) fun r2 =>
    Option.bind (
      bif (decide (r2 = 0)) then
        Option.bind (recyclingref22_visit p1 x1 (T_api_Visit.mk f1 f2 f3 f4 f5 f6) x2) fun j_ => oun j_ fun r3 r4 =>
        some (r3.Stop, r3.Node, r3.Arrive, r3.Start, r3.Leave, r3.Load, r4)
      else
        some (f1, f2, f3, f4, f5, f6, r2)) (fun j_ => oun j_ fun f7 j_ => oun j_ fun f8 j_ => oun j_ fun f9 j_ => oun j_ fun f10 j_ => oun j_ fun f11 j_ => oun j_ fun f12 e1 =>
      bif (!(decide (e1 = 0))) then
        some (.inr (.inr ([], e1, v2)))
      else
        Option.bind (appO out1 [(T_api_Visit.mk f7 f8 f9 f10 f11 f12)]) fun l1 =>
        some (.inl (f7, f8, f9, f10, f11, f12, l1, w64 (v2 + 1))))
  else
    some (.inr (.inl (f1, f2, f3, f4, f5, f6, out1)))
def recyclingref22_Walk (p1 : T_api_Problem) (t1 : T_api_Tour) : Option ((List T_api_Visit) × Int × Int) :=
  Option.bind (recyclingref22_Check p1) fun r1 =>
  bif (!(decide (r1 = 0))) then
    some ([], r1, 0)
  else
    Option.bind (
      bif (decide (t1.Vehicle < 0)) then
        some true
      else
        some (decide (((p1.Vehicles.length : Nat) : Int) ≤ t1.Vehicle))) (fun v1 =>
      bif v1 then
        some ([], 7, 0)
      else
        bif (decide (40 < ((t1.Stops.length : Nat) : Int))) then
          some ([], 8, 0)
        else
          Option.bind (getI p1.Vehicles t1.Vehicle) fun x1 =>
          Option.bind (
            iter (recyclingref22_Walk_l1 p1 t1 x1) (((t1.Stops.length : Nat) : Int).toNat + 1) (0, x1.Depot, 0, 0, x1.Shift.From, 0, [], 0)) (fun o_ => osum o_ (fun j_ => oun j_ fun f13 j_ => oun j_ fun f14 j_ => oun j_ fun f15 j_ => oun j_ fun f16 j_ => oun j_ fun f17 j_ => oun j_ fun f18 out2 =>
            Option.bind (recyclingref22_home p1 x1 (T_api_Visit.mk f13 f14 f15 f16 f17 f18)) fun j_ => oun j_ fun r5 r6 =>
            bif (!(decide (r6 = 0))) then
              some ([], r6, ((t1.Stops.length : Nat) : Int))
            else
              Option.bind (appO out2 [r5]) fun l2 =>
              some (l2, 0, 0)) (fun rv34908 => some rv34908)))
def recyclingref22_Cost_l1 (p1 : T_api_Problem) (r1 : (List T_api_Visit)) (j_ : Int × Int × Int) : Option ((Int × Int × Int) ⊕ (Int)) :=
  oun j_ fun sum1 j_ => oun j_ fun f_at1 v1 =>
  bif (decide (v1 < ((r1.length : Nat) : Int))) then
    Option.bind (getI r1 v1) fun x2 =>
    Option.bind (recyclingref22_Leg p1 f_at1 x2.Node) fun r4 =>
    some (.inl (w64 (sum1 + r4.Meters), x2.Node, w64 (v1 + 1)))
  else
    some (.inr sum1)
def recyclingref22_Cost (p1 : T_api_Problem) (t1 : T_api_Tour) : Option (Int × Int) :=
  Option.bind (recyclingref22_Walk p1 t1) fun j_ => oun j_ fun r1 j_ => oun j_ fun r2 r3 =>
  bif (!(decide (r2 = 0))) then
    some (0, r2)
  else
    Option.bind (getI p1.Vehicles t1.Vehicle) fun x1 =>
    Option.bind (
      iter (recyclingref22_Cost_l1 p1 r1) (((r1.length : Nat) : Int).toNat + 1) (0, x1.Depot, 0)) (fun sum2 =>
      some (sum2, 0))
def recyclingref23_Options_l1 (t1 : T_api_Tour) (d1 : Int) (i1 : Int) : Option ((Int) ⊕ (Unit ⊕ ((List T_api_Tour) × Int))) :=
  bif (decide (i1 < ((t1.Stops.length : Nat) : Int))) then
    Option.bind (getI t1.Stops i1) fun x1 =>
    bif (decide (x1 = d1)) then
      some (.inr (.inr ([], 6)))
    else
      some (.inl (w64 (i1 + 1)))
  else
    some (.inr (.inl ()))
def recyclingref23_Options_l2 (costs1 : (List Int)) (r3 : Int) (f_at1 : Int) : Option ((Int) ⊕ (Int)) :=
  Option.bind (
    bif (decide (0 < f_at1)) then
      Option.bind (getI costs1 (w64 (f_at1 - 1))) fun x2 =>
      some (decide (r3 < x2))
    else
      some false) (fun v3 =>
    bif v3 then
      some (.inl (w64 (f_at1 - 1)))
    else
      some (.inr f_at1))
def recyclingref23_Options_l3 (F : Nat) (p1 : T_api_Problem) (t1 : T_api_Tour) (d1 : Int) (j_ : (List T_api_Tour) × (List Int) × Int) : Option (((List T_api_Tour) × (List Int) × Int) ⊕ ((List T_api_Tour))) :=
  oun j_ fun out1 j_ => oun j_ fun costs1 i2 =>
  bif (decide (i2 ≤ (w64 (2 * ((t1.Stops.length : Nat) : Int))))) then
    Option.bind (
      Option.bind (
        Option.bind (recyclingref23_candidate t1.Stops d1 (w64 (Int.tdiv i2 2)) (decide ((Int.tmod i2 2) = 1))) fun r2 =>
        some r2) (fun f1 =>
        Option.bind (recyclingref22_Cost p1 (T_api_Tour.mk t1.Vehicle f1)) fun j_ => oun j_ fun r3 r4 =>
        bif (!(decide (r4 = 0))) then
          some (out1, costs1)
        else
          Option.bind (
            iter (recyclingref23_Options_l2 costs1 r3) F ((out1.length : Nat) : Int)) (fun f_at2 =>
            Option.bind (subO out1 0 f_at2) fun l1 =>
            Option.bind (appO [] l1) fun l2 =>
            Option.bind (appO l2 [(T_api_Tour.mk t1.Vehicle f1)]) fun l3 =>
            Option.bind (subO out1 f_at2 ((out1.length : Nat) : Int)) fun l4 =>
            Option.bind (appO l3 l4) fun l5 =>
            Option.bind (subO costs1 0 f_at2) fun l6 =>
            Option.bind (appO [] l6) fun l7 =>
            Option.bind (appO l7 [r3]) fun l8 =>
            Option.bind (subO costs1 f_at2 ((costs1.length : Nat) : Int)) fun l9 =>
            Option.bind (appO l8 l9) fun l10 =>
            some (l5, l10)))) (fun j_ => oun j_ fun out2 costs2 =>
      some (.inl (out2, costs2, w64 (i2 + 1))))
  else
    some (.inr out1)
def recyclingref23_Options (F : Nat) (p1 : T_api_Problem) (t1 : T_api_Tour) (d1 : Int) : Option ((List T_api_Tour) × Int) :=
  Option.bind (recyclingref22_Check p1) fun r1 =>
  bif (!(decide (r1 = 0))) then
    some ([], r1)
  else
    Option.bind (
      bif (decide (t1.Vehicle < 0)) then
        some true
      else
        bif (decide (((p1.Vehicles.length : Nat) : Int) ≤ t1.Vehicle)) then
          some true
        else
          bif (decide (d1 < 0)) then
            some true
          else
            some (decide (((p1.Demands.length : Nat) : Int) ≤ d1))) (fun v1 =>
      bif v1 then
        some ([], 7)
      else
        Option.bind (
          iter (recyclingref23_Options_l1 t1 d1) (((t1.Stops.length : Nat) : Int).toNat + 1) 0) (fun o_ => osum o_ (fun _ =>
          Option.bind (
            iter (recyclingref23_Options_l3 F p1 t1 d1) F ([], [], 0)) (fun out3 =>
            some (out3, 0))) (fun rv35576 => some rv35576)))
def recyclingref23_Best (F : Nat) (p1 : T_api_Problem) (t1 : T_api_Tour) (d1 : Int) : Option (T_api_Tour × Int) :=
  Option.bind (recyclingref23_Options F p1 t1 d1) fun j_ => oun j_ fun r1 r2 =>
  bif (!(decide (r2 = 0))) then
    some ((T_api_Tour.mk 0 []), r2)
  else
    bif (decide (((r1.length : Nat) : Int) = 0)) then
      some ((T_api_Tour.mk 0 []), 40)
    else
      Option.bind (getI r1 0) fun x1 =>
      some (x1, 0)
def recyclingref23_Build_l1 (p1 : T_api_Problem) (j_ : (List T_api_Tour) × Int) : Option (((List T_api_Tour) × Int) ⊕ ((List T_api_Tour))) :=
  oun j_ fun tours1 v1 =>
  bif (decide (v1 < ((p1.Vehicles.length : Nat) : Int))) then
    Option.bind (appO tours1 [(T_api_Tour.mk v1 [])]) fun l1 =>
    some (.inl (l1, w64 (v1 + 1)))
  else
    some (.inr tours1)
def recyclingref23_Build_l2 (F : Nat) (p1 : T_api_Problem) (tours3 : (List T_api_Tour)) (d1 : Int) (j_ : Int × Int × Int × (List Int) × Int) : Option ((Int × Int × Int × (List Int) × Int) ⊕ ((Int × Int × (List Int)))) :=
  oun j_ fun f_at1 j_ => oun j_ fun least1 j_ => oun j_ fun f2 j_ => oun j_ fun f3 v2 =>
  bif (decide (v2 < ((tours3.length : Nat) : Int))) then
    Option.bind (
      Option.bind (
        Option.bind (getI tours3 v2) fun x1 =>
        Option.bind (recyclingref23_Best F p1 x1 d1) fun j_ => oun j_ fun r2 r3 =>
        some (r2.Vehicle, r2.Stops, r3)) (fun j_ => oun j_ fun f4 j_ => oun j_ fun f5 e1 =>
        bif (!(decide (e1 = 0))) then
          some (f_at1, least1, f2, f3)
        else
          Option.bind (recyclingref22_Cost p1 (T_api_Tour.mk f4 f5)) fun j_ => oun j_ fun r4 r5 =>
          Option.bind (getI tours3 v2) fun x2 =>
          Option.bind (recyclingref22_Cost p1 x2) fun j_ => oun j_ fun r6 r7 =>
          Option.bind (
            bif (decide (f_at1 < 0)) then
              some true
            else
              some (decide ((w64 (r4 - r6)) < least1))) (fun v4 =>
            bif v4 then
              some (v2, w64 (r4 - r6), f4, f5)
            else
              some (f_at1, least1, f2, f3)))) (fun j_ => oun j_ fun f_at2 j_ => oun j_ fun least2 j_ => oun j_ fun f6 f7 =>
      some (.inl (f_at2, least2, f6, f7, w64 (v2 + 1))))
  else
    some (.inr (f_at1, f2, f3))
def recyclingref23_Build_l3 (F : Nat) (p1 : T_api_Problem) (j_ : (List T_api_Tour) × (List Int) × Int) : Option (((List T_api_Tour) × (List Int) × Int) ⊕ (((List T_api_Tour) × (List Int)))) :=
  oun j_ fun tours3 j_ => oun j_ fun f1 d1 =>
  bif (decide (d1 < ((p1.Demands.length : Nat) : Int))) then
    Option.bind (
      Option.bind (
        iter (recyclingref23_Build_l2 F p1 tours3 d1) (((tours3.length : Nat) : Int).toNat + 1) ((-1), 0, 0, [], 0)) (fun j_ => oun j_ fun f_at3 j_ => oun j_ fun f8 f9 =>
        bif (decide (f_at3 < 0)) then
          Option.bind (appO f1 [d1]) fun l2 =>
          some (tours3, l2)
        else
          Option.bind (getI tours3 f_at3) fun x3 =>
          some ((setI tours3 f_at3 (T_api_Tour.mk f8 f9)), f1))) (fun j_ => oun j_ fun tours4 f10 =>
      some (.inl (tours4, f10, w64 (d1 + 1))))
  else
    some (.inr (tours3, f1))
def recyclingref23_Build_l4 (tours5 : (List T_api_Tour)) (j_ : (List T_api_Tour) × Int) : Option (((List T_api_Tour) × Int) ⊕ ((List T_api_Tour))) :=
  oun j_ fun f12 v5 =>
  bif (decide (v5 < ((tours5.length : Nat) : Int))) then
    Option.bind (
      Option.bind (getI tours5 v5) fun x4 =>
      bif (decide (0 < ((x4.Stops.length : Nat) : Int))) then
        Option.bind (getI tours5 v5) fun x5 =>
        Option.bind (appO f12 [x5]) fun l3 =>
        some l3
      else
        some f12) (fun f13 =>
      some (.inl (f13, w64 (v5 + 1))))
  else
    some (.inr f12)
def recyclingref23_Build (F : Nat) (p1 : T_api_Problem) : Option (T_api_Plan × Int) :=
  Option.bind (recyclingref22_Check p1) fun r1 =>
  bif (!(decide (r1 = 0))) then
    some ((T_api_Plan.mk [] []), r1)
  else
    Option.bind (
      iter (recyclingref23_Build_l1 p1) (((p1.Vehicles.length : Nat) : Int).toNat + 1) ([], 0)) (fun tours2 =>
      Option.bind (
        iter (recyclingref23_Build_l3 F p1) (((p1.Demands.length : Nat) : Int).toNat + 1) (tours2, [], 0)) (fun j_ => oun j_ fun tours5 f11 =>
        Option.bind (
          iter (recyclingref23_Build_l4 tours5) (((tours5.length : Nat) : Int).toNat + 1) ([], 0)) (fun f14 =>
          some ((T_api_Plan.mk f14 f11), 0))))
def recyclingref22_counts_l1 (x2 : T_api_Tour) (j_ : (List Int) × Int) : Option (((List Int) × Int) ⊕ ((List Int))) :=
  oun j_ fun out2 v2 =>
  bif (decide (v2 < ((x2.Stops.length : Nat) : Int))) then
    Option.bind (
      Option.bind (getI x2.Stops v2) fun x3 =>
      bif (decide (0 ≤ x3)) then
        Option.bind (getI out2 x3) fun x4 =>
        Option.bind (getI out2 x3) fun x5 =>
        some (setI out2 x3 (w64 (x4 + 1)))
      else
        some out2) (fun out3 =>
      some (.inl (out3, w64 (v2 + 1))))
  else
    some (.inr out2)
def recyclingref22_counts_l2 (x1 : T_api_Plan) (j_ : (List Int) × Int) : Option (((List Int) × Int) ⊕ ((List Int))) :=
  oun j_ fun out1 v1 =>
  bif (decide (v1 < ((x1.Tours.length : Nat) : Int))) then
    Option.bind (
      Option.bind (getI x1.Tours v1) fun x2 =>
      Option.bind (
        iter (recyclingref22_counts_l1 x2) (((x2.Stops.length : Nat) : Int).toNat + 1) (out1, 0)) (fun out4 =>
        some out4)) (fun out5 =>
      some (.inl (out5, w64 (v1 + 1))))
  else
    some (.inr out1)
def recyclingref22_counts_l3 (x1 : T_api_Plan) (j_ : (List Int) × Int) : Option (((List Int) × Int) ⊕ ((List Int) ⊕ ((List Int) × Int))) :=
  oun j_ fun out7 v3 =>
  bif (decide (v3 < ((x1.Left.length : Nat) : Int))) then
    Option.bind (getI x1.Left v3) fun x6 =>
    Option.bind (
      bif (decide (x6 < 0)) then
        some true
      else
        some (decide (((out7.length : Nat) : Int) ≤ x6))) (fun v4 =>
      bif v4 then
        some (.inr (.inr ([], 7)))
      else
        Option.bind (getI out7 x6) fun x7 =>
        Option.bind (getI out7 x6) fun x8 =>
        some (.inl ((setI out7 x6 (w64 (x7 + 1))), w64 (v3 + 1))))
  else
    some (.inr (.inl out7))
def recyclingref22_counts (p1 : T_api_Problem) (x1 : T_api_Plan) : Option ((List Int) × Int) :=
  Option.bind (makeO (0 : Int) ((p1.Demands.length : Nat) : Int)) fun l1 =>
  Option.bind (
    iter (recyclingref22_counts_l2 x1) (((x1.Tours.length : Nat) : Int).toNat + 1) (l1, 0)) (fun out6 =>
    Option.bind (
      iter (recyclingref22_counts_l3 x1) (((x1.Left.length : Nat) : Int).toNat + 1) (out6, 0)) (fun o_ => osum o_ (fun out8 =>
      some (out8, 0)) (fun rv37421 => some rv37421)))
def recyclingref22_Feasible_l1 (x1 : T_api_Plan) (v1 : Int) (x2 : T_api_Tour) (k1 : Int) : Option ((Int) ⊕ (Unit ⊕ Int)) :=
  bif (decide (k1 < v1)) then
    Option.bind (getI x1.Tours k1) fun x3 =>
    bif (decide (x3.Vehicle = x2.Vehicle)) then
      some (.inr (.inr 6))
    else
      some (.inl (w64 (k1 + 1)))
  else
    some (.inr (.inl ()))
def recyclingref22_Feasible_l2 (p1 : T_api_Problem) (x1 : T_api_Plan) (v1 : Int) : Option ((Int) ⊕ (Unit ⊕ Int)) :=
  bif (decide (v1 < ((x1.Tours.length : Nat) : Int))) then
    Option.bind (
      Option.bind (getI x1.Tours v1) fun x2 =>
      Option.bind (
        iter (recyclingref22_Feasible_l1 x1 v1 x2) (v1.toNat + 1) 0) (fun o_ => osum o_ (fun _ =>
        Option.bind (recyclingref22_Walk p1 x2) fun j_ => oun j_ fun r2 j_ => oun j_ fun r3 r4 =>
        bif (!(decide (r3 = 0))) then
          some (.inr r3)
        else
          some (.inl ())) (fun rv37278 => some (.inr rv37278)))) (fun o_ => osum o_ (fun _ =>
      some (.inl (w64 (v1 + 1)))) (fun rv37273 => some (.inr (.inr rv37273))))
  else
    some (.inr (.inl ()))
def recyclingref22_Feasible_l3 (r5 : (List Int)) (j_ : Bool × Int) : Option ((Bool × Int) ⊕ (Bool ⊕ Int)) :=
  oun j_ fun missing1 v2 =>
  bif (decide (v2 < ((r5.length : Nat) : Int))) then
    Option.bind (
      Option.bind (getI r5 v2) fun x4 =>
      bif (decide (1 < x4)) then
        some (.inr 6)
      else
        bif missing1 then
          some (.inl true)
        else
          some (.inl (decide (x4 = 0)))) (fun o_ => osum o_ (fun missing2 =>
      some (.inl (missing2, w64 (v2 + 1)))) (fun rv37445 => some (.inr (.inr rv37445))))
  else
    some (.inr (.inl missing1))
def recyclingref22_Feasible (p1 : T_api_Problem) (x1 : T_api_Plan) : Option (Int) :=
  Option.bind (recyclingref22_Check p1) fun r1 =>
  bif (!(decide (r1 = 0))) then
    some r1
  else
    Option.bind (
      iter (recyclingref22_Feasible_l2 p1 x1) (((x1.Tours.length : Nat) : Int).toNat + 1) 0) (fun o_ => osum o_ (fun _ =>
      Option.bind (recyclingref22_counts p1 x1) fun j_ => oun j_ fun r5 r6 =>
      bif (!(decide (r6 = 0))) then
        some r6
      else
        Option.bind (
          iter (recyclingref22_Feasible_l3 r5) (((r5.length : Nat) : Int).toNat + 1) (false, 0)) (fun o_ => osum o_ (fun missing3 =>
          bif missing3 then
            some 38
          else
            some 0) (fun rv37437 => some rv37437))) (fun rv37209 => some rv37209))
def recyclingref22_Total_l1 (p1 : T_api_Problem) (x1 : T_api_Plan) (j_ : Int × Int) : Option ((Int × Int) ⊕ (Int)) :=
  oun j_ fun sum1 v1 =>
  bif (decide (v1 < ((x1.Tours.length : Nat) : Int))) then
    Option.bind (getI x1.Tours v1) fun x2 =>
    Option.bind (recyclingref22_Cost p1 x2) fun j_ => oun j_ fun r2 r3 =>
    some (.inl (w64 (sum1 + r2), w64 (v1 + 1)))
  else
    some (.inr sum1)
def recyclingref22_Total (p1 : T_api_Problem) (x1 : T_api_Plan) : Option (Int × Int) :=
  Option.bind (recyclingref22_Feasible p1 x1) fun r1 =>
  bif (!(decide (r1 = 0))) then
    some (0, r1)
  else
    Option.bind (
      iter (recyclingref22_Total_l1 p1 x1) (((x1.Tours.length : Nat) : Int).toNat + 1) (0, 0)) (fun sum2 =>
      some (sum2, 0))
def recyclingref25_Of_l1 (x1 : T_api_Plan) (v1 : Int) (v2 : Int) : Option ((Int) ⊕ (Unit ⊕ T_api_Tour)) :=
  bif (decide (v2 < ((x1.Tours.length : Nat) : Int))) then
    Option.bind (getI x1.Tours v2) fun x2 =>
    bif (decide (x2.Vehicle = v1)) then
      some (.inr (.inr x2))
    else
      some (.inl (w64 (v2 + 1)))
  else
    some (.inr (.inl ()))
def recyclingref25_Of (x1 : T_api_Plan) (v1 : Int) : Option (T_api_Tour) :=
  Option.bind (
    iter (recyclingref25_Of_l1 x1 v1) (((x1.Tours.length : Nat) : Int).toNat + 1) 0) (fun o_ => osum o_ (fun _ =>
    some (T_api_Tour.mk v1 [])) (fun rv37532 => some rv37532))
def recyclingref25_without_l1 (stops1 : (List Int)) (d1 : Int) (j_ : (List Int) × Int) : Option (((List Int) × Int) ⊕ ((List Int))) :=
  oun j_ fun out1 v1 =>
  bif (decide (v1 < ((stops1.length : Nat) : Int))) then
    Option.bind (
      Option.bind (getI stops1 v1) fun x1 =>
      bif (!(decide (x1 = d1))) then
        Option.bind (appO out1 [x1]) fun l1 =>
        some l1
      else
        some out1) (fun out2 =>
      some (.inl (out2, w64 (v1 + 1))))
  else
    some (.inr out1)
def recyclingref25_without (stops1 : (List Int)) (d1 : Int) : Option ((List Int)) :=
  Option.bind (
    iter (recyclingref25_without_l1 stops1 d1) (((stops1.length : Nat) : Int).toNat + 1) ([], 0)) (fun out3 =>
    some out3)
def recyclingref25_serves_l1 (t1 : T_api_Tour) (v1 : Int) : Option ((Int) ⊕ (Unit ⊕ Bool)) :=
  bif (decide (v1 < ((t1.Stops.length : Nat) : Int))) then
    Option.bind (getI t1.Stops v1) fun x1 =>
    bif (decide (0 ≤ x1)) then
      some (.inr (.inr true))
    else
      some (.inl (w64 (v1 + 1)))
  else
    some (.inr (.inl ()))
def recyclingref25_serves (t1 : T_api_Tour) : Option (Bool) :=
  Option.bind (
    iter (recyclingref25_serves_l1 t1) (((t1.Stops.length : Nat) : Int).toNat + 1) 0) (fun o_ => osum o_ (fun _ =>
    some false) (fun rv37628 => some rv37628))
def recyclingref25_has_l1 (l1 : (List Int)) (n1 : Int) (v1 : Int) : Option ((Int) ⊕ (Unit ⊕ Bool)) :=
  bif (decide (v1 < ((l1.length : Nat) : Int))) then
    Option.bind (getI l1 v1) fun x1 =>
    bif (decide (x1 = n1)) then
      some (.inr (.inr true))
    else
      some (.inl (w64 (v1 + 1)))
  else
    some (.inr (.inl ()))
def recyclingref25_has (l1 : (List Int)) (n1 : Int) : Option (Bool) :=
  Option.bind (
    iter (recyclingref25_has_l1 l1 n1) (((l1.length : Nat) : Int).toNat + 1) 0) (fun o_ => osum o_ (fun _ =>
    some false) (fun rv37749 => some rv37749))
def recyclingref25_move_l1 (F : Nat) (p1 : T_api_Problem) (x1 : T_api_Plan) (d1 : Int) (v1 : Int) (j_ : (List T_api_Tour) × Int) : Option (((List T_api_Tour) × Int) ⊕ ((List T_api_Tour) ⊕ (T_api_Plan × Bool))) :=
  oun j_ fun f1 v2 =>
  bif (decide (v2 < ((p1.Vehicles.length : Nat) : Int))) then
    Option.bind (
      Option.bind (recyclingref25_Of x1 v2) fun r1 =>
      Option.bind (recyclingref25_without r1.Stops d1) fun r2 =>
      Option.bind (
        bif (decide (v2 = v1)) then
          Option.bind (recyclingref23_Best F p1 (T_api_Tour.mk v2 r2) d1) fun j_ => oun j_ fun r3 r4 =>
          bif (!(decide (r4 = 0))) then
            some (.inr ((T_api_Plan.mk [] []), false))
          else
            some (.inl (r3.Vehicle, r3.Stops))
        else
          some (.inl (v2, r2))) (fun o_ => osum o_ (fun j_ => oun j_ fun f2 f3 =>
        Option.bind (recyclingref25_serves (T_api_Tour.mk f2 f3)) fun r5 =>
        bif r5 then
          Option.bind (appO f1 [(T_api_Tour.mk f2 f3)]) fun l1 =>
          some (.inl l1)
        else
          some (.inl f1)) (fun rv37953 => some (.inr rv37953)))) (fun o_ => osum o_ (fun f4 =>
      some (.inl (f4, w64 (v2 + 1)))) (fun rv37923 => some (.inr (.inr rv37923))))
  else
    some (.inr (.inl f1))
def recyclingref25_move_l2 (p1 : T_api_Problem) (x1 : T_api_Plan) (d1 : Int) (j_ : (List Int) × Int) : Option (((List Int) × Int) ⊕ ((List Int))) :=
  oun j_ fun f6 v5 =>
  bif (decide (v5 < ((p1.Demands.length : Nat) : Int))) then
    Option.bind (
      Option.bind (
        bif (!(decide (v5 = d1))) then
          Option.bind (recyclingref25_has x1.Left v5) fun r6 =>
          some r6
        else
          some false) (fun v6 =>
        bif v6 then
          Option.bind (appO f6 [v5]) fun l2 =>
          some l2
        else
          some f6)) (fun f7 =>
      some (.inl (f7, w64 (v5 + 1))))
  else
    some (.inr f6)
def recyclingref25_move (F : Nat) (p1 : T_api_Problem) (x1 : T_api_Plan) (d1 : Int) (v1 : Int) : Option (T_api_Plan × Bool) :=
  Option.bind (
    iter (recyclingref25_move_l1 F p1 x1 d1 v1) (((p1.Vehicles.length : Nat) : Int).toNat + 1) ([], 0)) (fun o_ => osum o_ (fun f5 =>
    Option.bind (
      iter (recyclingref25_move_l2 p1 x1 d1) (((p1.Demands.length : Nat) : Int).toNat + 1) ([], 0)) (fun f8 =>
      some ((T_api_Plan.mk f5 f8), true))) (fun rv37830 => some rv37830))
def recyclingref25_Better (left1 : Int) (cost1 : Int) (otherLeft1 : Int) (otherCost1 : Int) : Option (Bool) :=
  Option.bind (
    bif (decide (left1 < otherLeft1)) then
      some true
    else
      bif (decide (left1 = otherLeft1)) then
        some (decide (cost1 < otherCost1))
      else
        some false) (fun v1 =>
    some v1)
def recyclingref25_Moves_l1 (out2 : (List T_api_Plan)) (costs2 : (List Int)) (r4 : T_api_Plan) (r6 : Int) (f_at1 : Int) : Option ((Int) ⊕ (Int)) :=
  Option.bind (
    bif (decide (0 < f_at1)) then
      Option.bind (getI out2 (w64 (f_at1 - 1))) fun x2 =>
      Option.bind (getI costs2 (w64 (f_at1 - 1))) fun x3 =>
      Option.bind (recyclingref25_Better ((r4.Left.length : Nat) : Int) r6 ((x2.Left.length : Nat) : Int) x3) fun r9 =>
      some r9
    else
      some false) (fun v5 =>
    bif v5 then
      some (.inl (w64 (f_at1 - 1)))
    else
      some (.inr f_at1))
def recyclingref25_Moves_l2 (F : Nat) (p1 : T_api_Problem) (x1 : T_api_Plan) (r2 : Int) (v1 : Int) (j_ : (List T_api_Plan) × (List Int) × Int) : Option (((List T_api_Plan) × (List Int) × Int) ⊕ (((List T_api_Plan) × (List Int)))) :=
  oun j_ fun out2 j_ => oun j_ fun costs2 v2 =>
  bif (decide (v2 < ((p1.Vehicles.length : Nat) : Int))) then
    Option.bind (
      Option.bind (recyclingref25_move F p1 x1 v1 v2) fun j_ => oun j_ fun r4 r5 =>
      Option.bind (recyclingref22_Total p1 r4) fun j_ => oun j_ fun r6 r7 =>
      Option.bind (
        bif (!r5) then
          some true
        else
          bif (!(decide (r7 = 0))) then
            some true
          else
            Option.bind (recyclingref25_Better ((r4.Left.length : Nat) : Int) r6 ((x1.Left.length : Nat) : Int) r2) fun r8 =>
            some (!r8)) (fun v4 =>
        bif v4 then
          some (out2, costs2)
        else
          Option.bind (
            iter (recyclingref25_Moves_l1 out2 costs2 r4 r6) F ((out2.length : Nat) : Int)) (fun f_at2 =>
            Option.bind (subO out2 0 f_at2) fun l1 =>
            Option.bind (appO [] l1) fun l2 =>
            Option.bind (appO l2 [r4]) fun l3 =>
            Option.bind (subO out2 f_at2 ((out2.length : Nat) : Int)) fun l4 =>
            Option.bind (appO l3 l4) fun l5 =>
            Option.bind (subO costs2 0 f_at2) fun l6 =>
            Option.bind (appO [] l6) fun l7 =>
            Option.bind (appO l7 [r6]) fun l8 =>
            Option.bind (subO costs2 f_at2 ((costs2.length : Nat) : Int)) fun l9 =>
            Option.bind (appO l8 l9) fun l10 =>
            some (l5, l10)))) (fun j_ => oun j_ fun out3 costs3 =>
      some (.inl (out3, costs3, w64 (v2 + 1))))
  else
    some (.inr (out2, costs2))
def recyclingref25_Moves_l3 (F : Nat) (p1 : T_api_Problem) (x1 : T_api_Plan) (r2 : Int) (j_ : (List T_api_Plan) × (List Int) × Int) : Option (((List T_api_Plan) × (List Int) × Int) ⊕ ((List T_api_Plan))) :=
  oun j_ fun out1 j_ => oun j_ fun costs1 v1 =>
  bif (decide (v1 < ((p1.Demands.length : Nat) : Int))) then
    Option.bind (
      Option.bind (
        iter (recyclingref25_Moves_l2 F p1 x1 r2 v1) (((p1.Vehicles.length : Nat) : Int).toNat + 1) (out1, costs1, 0)) (fun j_ => oun j_ fun out4 costs4 =>
        some (out4, costs4))) (fun j_ => oun j_ fun out5 costs5 =>
      some (.inl (out5, costs5, w64 (v1 + 1))))
  else
    some (.inr out1)
def recyclingref25_Moves (F : Nat) (p1 : T_api_Problem) (x1 : T_api_Plan) : Option ((List T_api_Plan) × Int) :=
  Option.bind (recyclingref22_Feasible p1 x1) fun r1 =>
  bif (!(decide (r1 = 0))) then
    some ([], r1)
  else
    Option.bind (recyclingref22_Total p1 x1) fun j_ => oun j_ fun r2 r3 =>
    Option.bind (
      iter (recyclingref25_Moves_l3 F p1 x1 r2) (((p1.Demands.length : Nat) : Int).toNat + 1) ([], [], 0)) (fun out6 =>
      some (out6, 0))
def recyclingref25_why (F : Nat) (p1 : T_api_Problem) (x1 : T_api_Plan) (d1 : Int) (v1 : Int) : Option (Int) :=
  Option.bind (getI p1.Vehicles v1) fun x2 =>
  Option.bind (getI p1.Demands d1) fun x3 =>
  Option.bind (recyclingref20_Carries x2 x3.Kind) fun r1 =>
  bif (!r1) then
    some 21
  else
    Option.bind (getI p1.Demands d1) fun x4 =>
    Option.bind (getI p1.Vehicles v1) fun x5 =>
    bif (decide (x5.Grams < x4.Grams)) then
      some 20
    else
      Option.bind (recyclingref22_Walk p1 (T_api_Tour.mk v1 [d1, (-1)])) fun j_ => oun j_ fun r2 j_ => oun j_ fun r3 r4 =>
      bif (!(decide (r3 = 0))) then
        some r3
      else
        Option.bind (recyclingref25_Of x1 v1) fun r5 =>
        Option.bind (recyclingref23_Options F p1 r5 d1) fun j_ => oun j_ fun r6 r7 =>
        bif (decide (((r6.length : Nat) : Int) = 0)) then
          some 40
        else
          some 0
def recyclingref25_Why_l1 (F : Nat) (p1 : T_api_Problem) (x1 : T_api_Plan) (d1 : Int) (j_ : (List T_api_Reason) × Int) : Option (((List T_api_Reason) × Int) ⊕ ((List T_api_Reason))) :=
  oun j_ fun out1 v2 =>
  bif (decide (v2 < ((p1.Vehicles.length : Nat) : Int))) then
    Option.bind (recyclingref25_why F p1 x1 d1 v2) fun r3 =>
    Option.bind (appO out1 [(T_api_Reason.mk v2 r3)]) fun l1 =>
    some (.inl (l1, w64 (v2 + 1)))
  else
    some (.inr out1)
def recyclingref25_Why (F : Nat) (p1 : T_api_Problem) (x1 : T_api_Plan) (d1 : Int) : Option ((List T_api_Reason) × Int) :=
  Option.bind (recyclingref22_Feasible p1 x1) fun r1 =>
  bif (!(decide (r1 = 0))) then
    some ([], r1)
  else
    Option.bind (
      bif (decide (d1 < 0)) then
        some true
      else
        some (decide (((p1.Demands.length : Nat) : Int) ≤ d1))) (fun v1 =>
      bif v1 then
        some ([], 7)
      else
        Option.bind (recyclingref25_has x1.Left d1) fun r2 =>
        bif (!r2) then
          some ([], 13)
        else
          Option.bind (
            iter (recyclingref25_Why_l1 F p1 x1 d1) (((p1.Vehicles.length : Nat) : Int).toNat + 1) ([], 0)) (fun out2 =>
            some (out2, 0)))
def recyclinglaw25_DispatchReasons_l1 (F : Nat) (p1 : T_api_Problem) (x1 : T_api_Plan) (d1 : Int) (r3 : (List T_api_Reason)) (v7 : Int) : Option ((Int) ⊕ (Unit ⊕ Bool)) :=
  bif (decide (v7 < ((r3.length : Nat) : Int))) then
    Option.bind (getI r3 v7) fun x2 =>
    Option.bind (getI p1.Vehicles v7) fun x3 =>
    Option.bind (getI p1.Demands d1) fun x4 =>
    Option.bind (vehicle_Carries x3 x4.Kind) fun r7 =>
    Option.bind (getI p1.Demands d1) fun x5 =>
    Option.bind (getI p1.Vehicles v7) fun x6 =>
    Option.bind (tour_Walk F p1 (T_api_Tour.mk v7 [d1, (-1)])) fun j_ => oun j_ fun r8 j_ => oun j_ fun r9 r10 =>
    Option.bind (recyclingref25_Of x1 v7) fun r11 =>
    Option.bind (insert_Options F p1 r11 d1) fun j_ => oun j_ fun r12 r13 =>
    Option.bind (
      bif (!r7) then
        some 21
      else
        bif (decide (x6.Grams < x5.Grams)) then
          some 20
        else
          bif (!(decide (r9 = 0))) then
            some r9
          else
            bif (decide (((r12.length : Nat) : Int) = 0)) then
              some 40
            else
              some 0) (fun want1 =>
      Option.bind (
        bif (!(decide (x2.Vehicle = v7))) then
          some true
        else
          bif (!(decide (x2.Err = want1))) then
            some true
          else
            bif (!(decide (r13 = 0))) then
              some true
            else
              bif (decide (want1 = r9)) then
                bif (!(decide (r9 = 0))) then
                  bif (!(decide (r9 = 21))) then
                    bif (!(decide (r9 = 20))) then
                      bif (!(decide (r9 = 22))) then
                        some (!(decide (r9 = 19)))
                      else
                        some false
                    else
                      some false
                  else
                    some false
                else
                  some false
              else
                some false) (fun v11 =>
        bif v11 then
          some (.inr (.inr false))
        else
          some (.inl (w64 (v7 + 1)))))
  else
    some (.inr (.inl ()))
def recyclinglaw25_DispatchReasons (F : Nat) (p1 : T_api_Problem) (x1 : T_api_Plan) (d1 : Int) : Option (Bool) :=
  Option.bind (recyclingref25_Large p1 x1) fun r1 =>
  bif r1 then
    Option.bind (recyclinglaw25_awake F) fun r2 =>
    some r2
  else
    Option.bind (dispatch_Why F p1 x1 d1) fun j_ => oun j_ fun r3 r4 =>
    bif (!(decide (r4 = 0))) then
      Option.bind (
        bif (decide (((r3.length : Nat) : Int) = 0)) then
          Option.bind (recyclinglaw25_awake F) fun r5 =>
          some r5
        else
          some false) (fun v4 =>
        some v4)
    else
      Option.bind (
        Option.bind (tour_Feasible F p1 x1) fun r6 =>
        bif (!(decide (r6 = 0))) then
          some true
        else
          bif (decide (d1 < 0)) then
            some true
          else
            bif (decide (((p1.Demands.length : Nat) : Int) ≤ d1)) then
              some true
            else
              some (!(decide (((r3.length : Nat) : Int) = ((p1.Vehicles.length : Nat) : Int))))) (fun v6 =>
        bif v6 then
          some false
        else
          Option.bind (
            iter (recyclinglaw25_DispatchReasons_l1 F p1 x1 d1 r3) (((r3.length : Nat) : Int).toNat + 1) 0) (fun o_ => osum o_ (fun _ =>
            Option.bind (recyclinglaw25_awake F) fun r14 =>
            some r14) (fun rv40353 => some rv40353)))
def slices_Equal_Reason_l1 (s11 : (List T_api_Reason)) (s21 : (List T_api_Reason)) (v1 : Int) : Option ((Int) ⊕ (Unit ⊕ Bool)) :=
  bif (decide (v1 < ((s11.length : Nat) : Int))) then
    Option.bind (getI s11 v1) fun x1 =>
    Option.bind (getI s21 v1) fun x2 =>
    bif (!(decide (x1 = x2))) then
      some (.inr (.inr false))
    else
      some (.inl (w64 (v1 + 1)))
  else
    some (.inr (.inl ()))
def slices_Equal_Reason (s11 : (List T_api_Reason)) (s21 : (List T_api_Reason)) : Option (Bool) :=
  bif (!(decide (((s11.length : Nat) : Int) = ((s21.length : Nat) : Int)))) then
    some false
  else
    Option.bind (
      iter (slices_Equal_Reason_l1 s11 s21) (((s11.length : Nat) : Int).toNat + 1) 0) (fun o_ => osum o_ (fun _ =>
      some true) (fun rv40626 => some rv40626))
end Go.Proofs.YthpgjbbjpfiniaaGreat
