/- Printed by gen.py of this repo: specifications of Go functions as Lean functions. -/
import Derived.Test.YtchakbpjokemnaaGa
import Derived.Test.YtchakbpjokemnaaGr
import Derived.Test.YtchakbpjokemnaaGs
import Derived.Test.YtchakbpjokemnaaGv
import Derived.Test.YtchakbpjokemnaaGx
namespace Go.Proofs.Ytchakbpjokemnaa
open Go.RowKit
set_option linter.unusedSimpArgs false
set_option linter.unusedVariables false

structure T_api_Scale where
  Step : Int
  Max : Int
  Base : Int
  Slope : Int
  Drift : Int
  Checked : Int
deriving DecidableEq

def enc_api_Scale (x : T_api_Scale) : List Value := [.int .i64 x.Step, .int .i64 x.Max, .int .i64 x.Base, .int .i64 x.Slope, .int .i64 x.Drift, .int .i64 x.Checked]
def r_api_Scale : Rp T_api_Scale := rFlat 6 enc_api_Scale (fun _ => rfl) (by intro x u hu; simp only [enc_api_Scale, List.mem_cons, List.not_mem_nil, or_false] at hu; rcases hu with rfl | rfl | rfl | rfl | rfl | rfl <;> rfl)

structure T_api_Ticket where
  ID : Int
  Scale : Int
  At : Int
  Gross : Int
  Tare : Int
  Replaces : Int
deriving DecidableEq

def enc_api_Ticket (x : T_api_Ticket) : List Value := [.int .i64 x.ID, .int .i64 x.Scale, .int .i64 x.At, .int .i64 x.Gross, .int .i64 x.Tare, .int .i64 x.Replaces]
def r_api_Ticket : Rp T_api_Ticket := rFlat 6 enc_api_Ticket (fun _ => rfl) (by intro x u hu; simp only [enc_api_Ticket, List.mem_cons, List.not_mem_nil, or_false] at hu; rcases hu with rfl | rfl | rfl | rfl | rfl | rfl <;> rfl)

structure T_api_Span where
  Lo : Int
  Hi : Int
deriving DecidableEq

def enc_api_Span (x : T_api_Span) : List Value := [.int .i64 x.Lo, .int .i64 x.Hi]
def r_api_Span : Rp T_api_Span := rFlat 2 enc_api_Span (fun _ => rfl) (by intro x u hu; simp only [enc_api_Span, List.mem_cons, List.not_mem_nil, or_false] at hu; rcases hu with rfl | rfl <;> rfl)

structure T_api_Window where
  From : Int
  To : Int
deriving DecidableEq

def enc_api_Window (x : T_api_Window) : List Value := [.int .i64 x.From, .int .i64 x.To]
def r_api_Window : Rp T_api_Window := rFlat 2 enc_api_Window (fun _ => rfl) (by intro x u hu; simp only [enc_api_Window, List.mem_cons, List.not_mem_nil, or_false] at hu; rcases hu with rfl | rfl <;> rfl)

structure T_arr3_3 where
  e0 : Int
  e1 : Int
  e2 : Int
deriving DecidableEq

def enc_arr3_3 (x : T_arr3_3) : List Value := [.int .i64 x.e0, .int .i64 x.e1, .int .i64 x.e2]
def r_arr3_3 : Rp T_arr3_3 := rFlat 3 enc_arr3_3 (fun _ => rfl) (by intro x u hu; simp only [enc_arr3_3, List.mem_cons, List.not_mem_nil, or_false] at hu; rcases hu with rfl | rfl | rfl <;> rfl)

structure T_arr2_3 where
  e0 : Int
  e1 : Int
deriving DecidableEq

def enc_arr2_3 (x : T_arr2_3) : List Value := [.int .i64 x.e0, .int .i64 x.e1]
def r_arr2_3 : Rp T_arr2_3 := rFlat 2 enc_arr2_3 (fun _ => rfl) (by intro x u hu; simp only [enc_arr2_3, List.mem_cons, List.not_mem_nil, or_false] at hu; rcases hu with rfl | rfl <;> rfl)

def wf_api_Scale (x : T_api_Scale) : Prop := (wfI .i64) x.Step ∧ (wfI .i64) x.Max ∧ (wfI .i64) x.Base ∧ (wfI .i64) x.Slope ∧ (wfI .i64) x.Drift ∧ (wfI .i64) x.Checked
def wf_api_Ticket (x : T_api_Ticket) : Prop := (wfI .i64) x.ID ∧ (wfI .i64) x.Scale ∧ (wfI .i64) x.At ∧ (wfI .i64) x.Gross ∧ (wfI .i64) x.Tare ∧ (wfI .i64) x.Replaces
def wf_api_Span (x : T_api_Span) : Prop := (wfI .i64) x.Lo ∧ (wfI .i64) x.Hi
def wf_api_Window (x : T_api_Window) : Prop := (wfI .i64) x.From ∧ (wfI .i64) x.To
def wf_arr3_3 (x : T_arr3_3) : Prop := (wfI .i64) x.e0 ∧ (wfI .i64) x.e1 ∧ (wfI .i64) x.e2
def wf_arr2_3 (x : T_arr2_3) : Prop := (wfI .i64) x.e0 ∧ (wfI .i64) x.e1

def recyclinglaw27_great (s1 : (List T_api_Scale)) (l1 : (List T_api_Ticket)) : Option (Bool) :=
  Option.bind (
    bif (decide (20 < ((s1.length : Nat) : Int))) then
      some true
    else
      some (decide (60 < ((l1.length : Nat) : Int)))) (fun v1 =>
    some v1)

def scale_between (lo1 : Int) (n1 : Int) (hi1 : Int) : Option (Bool) :=
  Option.bind (
    bif (decide (lo1 ≤ n1)) then
      some (decide (n1 ≤ hi1))
    else
      some false) (fun v1 =>
    some v1)

def scale_Check (s1 : T_api_Scale) : Option (Int) :=
  Option.bind (
    Option.bind (scale_between 1 s1.Step 10000) fun r1 =>
    bif (!r1) then
      some true
    else
      Option.bind (scale_between s1.Step s1.Max 1073741824) fun r2 =>
      bif (!r2) then
        some true
      else
        Option.bind (scale_between 0 s1.Base 100000) fun r3 =>
        bif (!r3) then
          some true
        else
          Option.bind (scale_between 0 s1.Slope 100) fun r4 =>
          bif (!r4) then
            some true
          else
            Option.bind (scale_between 0 s1.Drift 100000) fun r5 =>
            bif (!r5) then
              some true
            else
              Option.bind (scale_between 0 s1.Checked 3155759999) fun r6 =>
              some (!r6)) (fun v1 =>
    bif v1 then
      some 1
    else
      some 0)

def ticket_scales_l1 (s1 : (List T_api_Scale)) (v1 : Int) : Option ((Int) ⊕ (Unit ⊕ Int)) :=
  bif (decide (v1 < ((s1.length : Nat) : Int))) then
    Option.bind (getI s1 v1) fun x1 =>
    Option.bind (scale_Check x1) fun r1 =>
    bif (!(decide (r1 = 0))) then
      some (.inr (.inr r1))
    else
      some (.inl (w64 (v1 + 1)))
  else
    some (.inr (.inl ()))

def ticket_scales (s1 : (List T_api_Scale)) : Option (Int) :=
  bif (decide (16 < ((s1.length : Nat) : Int))) then
    some 8
  else
    Option.bind (
      iter (ticket_scales_l1 s1) (((s1.length : Nat) : Int).toNat + 1) 0) (fun o_ => osum o_ (fun _ =>
      some 0) (fun rv31 => some rv31))

def scale_shows (s1 : T_api_Scale) (n1 : Int) : Option (Bool) :=
  Option.bind (
    Option.bind (scale_between 0 n1 s1.Max) fun r1 =>
    bif r1 then
      Option.bind (guardO (s1.Step ≠ 0)) fun _ =>
      some (decide ((Int.tmod n1 s1.Step) = 0))
    else
      some false) (fun v1 =>
    some v1)

def scale_bound (s1 : T_api_Scale) (mass1 : Int) (t1 : Int) : Option (Int) :=
  some (w64 ((w64 (s1.Base + (w64 (Int.tdiv (w64 ((w64 (mass1 * s1.Slope)) + 999)) 1000)))) + (w64 (s1.Drift * (w64 (Int.tdiv (w64 ((w64 ((w64 (t1 - s1.Checked)) + 86400)) - 1)) 86400))))))

def scale_near (s1 : T_api_Scale) (mass1 : Int) (n1 : Int) (t1 : Int) : Option (Bool) :=
  Option.bind (scale_bound s1 mass1 t1) fun r1 =>
  some (decide ((w64 (2 * (max (w64 (mass1 - n1)) (w64 (n1 - mass1))))) ≤ (w64 ((w64 (2 * r1)) + s1.Step))))

def scale_True_1 (n1 : Int) (b1 : T_api_Scale) (b2 : Int) (b3 : Int) : Option (Bool) :=
  Option.bind (scale_near b1 n1 b2 b3) fun r1 =>
  some r1

def scale_first_c58_l1 (b1 : T_api_Scale) (b2 : Int) (b3 : Int) (j_ : Int × Int) : Option ((Int × Int) ⊕ (Int)) :=
  oun j_ fun lo2 hi2 => 
  bif (decide (lo2 ≤ hi2)) then
    Option.bind (scale_True_1 (w64 (lo2 + (w64 (Int.tdiv (w64 (hi2 - lo2)) 2)))) b1 b2 b3) fun r1 =>
    bif r1 then
      some (.inl (lo2, w64 ((w64 (lo2 + (w64 (Int.tdiv (w64 (hi2 - lo2)) 2)))) - 1)))
    else
      some (.inl (w64 ((w64 (lo2 + (w64 (Int.tdiv (w64 (hi2 - lo2)) 2)))) + 1), hi2))
  else
    some (.inr lo2)

def scale_first_c58 (F : Nat) (lo1 : Int) (hi1 : Int) (b1 : T_api_Scale) (b2 : Int) (b3 : Int) : Option (Int) :=
  Option.bind (
    iter (scale_first_c58_l1 b1 b2 b3) F (lo1, hi1)) (fun lo3 =>
    some lo3)

def scale_True_2 (n1 : Int) (b1 : T_api_Scale) (b2 : Int) (b3 : Int) : Option (Bool) :=
  Option.bind (scale_near b1 n1 b2 b3) fun r1 =>
  some (!r1)

def scale_first_c59_l1 (b1 : T_api_Scale) (b2 : Int) (b3 : Int) (j_ : Int × Int) : Option ((Int × Int) ⊕ (Int)) :=
  oun j_ fun lo2 hi2 => 
  bif (decide (lo2 ≤ hi2)) then
    Option.bind (scale_True_2 (w64 (lo2 + (w64 (Int.tdiv (w64 (hi2 - lo2)) 2)))) b1 b2 b3) fun r1 =>
    bif r1 then
      some (.inl (lo2, w64 ((w64 (lo2 + (w64 (Int.tdiv (w64 (hi2 - lo2)) 2)))) - 1)))
    else
      some (.inl (w64 ((w64 (lo2 + (w64 (Int.tdiv (w64 (hi2 - lo2)) 2)))) + 1), hi2))
  else
    some (.inr lo2)

def scale_first_c59 (F : Nat) (lo1 : Int) (hi1 : Int) (b1 : T_api_Scale) (b2 : Int) (b3 : Int) : Option (Int) :=
  Option.bind (
    iter (scale_first_c59_l1 b1 b2 b3) F (lo1, hi1)) (fun lo3 =>
    some lo3)

def scale_True (F : Nat) (s1 : T_api_Scale) (shown1 : Int) (t1 : Int) : Option (T_api_Span × Int) :=
  Option.bind (
    Option.bind (scale_Check s1) fun r1 =>
    bif (!(decide (r1 = 0))) then
      some true
    else
      Option.bind (scale_shows s1 shown1) fun r2 =>
      bif (!r2) then
        some true
      else
        Option.bind (scale_between 0 t1 3155759999) fun r3 =>
        some (!r3)) (fun v1 =>
    bif v1 then
      some ((T_api_Span.mk 0 0), 1)
    else
      bif (decide (t1 < s1.Checked)) then
        some ((T_api_Span.mk 0 0), 9)
      else
        Option.bind (scale_first_c58 F 0 shown1 s1 shown1 t1) fun r4 =>
        Option.bind (scale_first_c59 F shown1 1073741824 s1 shown1 t1) fun r5 =>
        some ((T_api_Span.mk r4 (w64 (r5 - 1))), 0))

def ticket_weighed (F : Nat) (s1 : (List T_api_Scale)) (x1 : T_api_Ticket) : Option (T_api_Span × T_api_Span × Int) :=
  Option.bind (
    bif (decide (x1.ID < 1)) then
      some true
    else
      some (decide (1000000 < x1.ID))) (fun v1 =>
    bif v1 then
      some ((T_api_Span.mk 0 0), (T_api_Span.mk 0 0), 1)
    else
      Option.bind (
        bif (decide (x1.Scale < 0)) then
          some true
        else
          some (decide (((s1.length : Nat) : Int) ≤ x1.Scale))) (fun v2 =>
        bif v2 then
          some ((T_api_Span.mk 0 0), (T_api_Span.mk 0 0), 7)
        else
          Option.bind (
            bif (decide (x1.At < 0)) then
              some true
            else
              some (decide (3155759999 < x1.At))) (fun v3 =>
            bif v3 then
              some ((T_api_Span.mk 0 0), (T_api_Span.mk 0 0), 1)
            else
              Option.bind (getI s1 x1.Scale) fun x2 =>
              Option.bind (scale_True F x2 x1.Gross x1.At) fun j_ => oun j_ fun r1 r2 => 
              Option.bind (
                bif (decide (r2 = 0)) then
                  Option.bind (getI s1 x1.Scale) fun x3 =>
                  Option.bind (scale_True F x3 x1.Tare x1.At) fun j_ => oun j_ fun r3 r4 => 
                  some (r3.Lo, r3.Hi, r4)
                else
                  some (0, 0, r2)) (fun j_ => oun j_ fun f1 j_ => oun j_ fun f2 e1 => 
                Option.bind (
                  bif (decide (e1 = 0)) then
                    some (decide (x1.Gross < x1.Tare))
                  else
                    some false) (fun v4 =>
                  Option.bind (
                    bif v4 then
                      some 9
                    else
                      some e1) (fun e2 =>
                    some (r1, (T_api_Span.mk f1 f2), e2)))))))

def ticket_Net (F : Nat) (s1 : (List T_api_Scale)) (x1 : T_api_Ticket) : Option (T_api_Span × Int) :=
  Option.bind (ticket_scales s1) fun r1 =>
  bif (!(decide (r1 = 0))) then
    some ((T_api_Span.mk 0 0), r1)
  else
    Option.bind (ticket_weighed F s1 x1) fun j_ => oun j_ fun r2 j_ => oun j_ fun r3 r4 => 
    bif (!(decide (r4 = 0))) then
      some ((T_api_Span.mk 0 0), r4)
    else
      some ((T_api_Span.mk (max 0 (w64 (r2.Lo - r3.Hi))) (max 0 (w64 (r2.Hi - r3.Lo)))), 0)

def ticket_places_l1 (l1 : (List T_api_Ticket)) (v1 : Int) : Option ((Int) ⊕ (Unit ⊕ ((Option (List (Int × Int))) × Int))) :=
  bif (decide (v1 < ((l1.length : Nat) : Int))) then
    Option.bind (getI l1 v1) fun x1 =>
    Option.bind (
      bif (decide (x1.ID < 1)) then
        some true
      else
        some (decide (1000000 < x1.ID))) (fun v2 =>
      bif v2 then
        some (.inr (.inr (none, 1)))
      else
        some (.inl (w64 (v1 + 1))))
  else
    some (.inr (.inl ()))

def ticket_places_l2 (l1 : (List T_api_Ticket)) (j_ : (List (Int × Int)) × Int) : Option (((List (Int × Int)) × Int) ⊕ ((List (Int × Int)) ⊕ ((Option (List (Int × Int))) × Int))) :=
  oun j_ fun m1 v3 => 
  bif (decide (v3 < ((l1.length : Nat) : Int))) then
    Option.bind (getI l1 v3) fun x2 =>
    bif ((mget x2.ID m1).isSome) then
      some (.inr (.inr (none, 6)))
    else
      some (.inl ((mput x2.ID v3 m1), w64 (v3 + 1)))
  else
    some (.inr (.inl m1))

def ticket_places_l3 (l1 : (List T_api_Ticket)) (m2 : (List (Int × Int))) (j_ : (List (Int × Bool)) × Bool × Int) : Option (((List (Int × Bool)) × Bool × Int) ⊕ (Bool ⊕ ((Option (List (Int × Int))) × Int))) :=
  oun j_ fun m3 j_ => oun j_ fun twice1 v4 => 
  bif (decide (v4 < ((l1.length : Nat) : Int))) then
    Option.bind (
      Option.bind (getI l1 v4) fun x3 =>
      bif (decide (x3.Replaces = 0)) then
        some (.inl (m3, twice1))
      else
        Option.bind (
          bif (!((mget x3.Replaces m2).isSome)) then
            some true
          else
            some (decide (v4 ≤ ((mget x3.Replaces m2).getD 0)))) (fun v5 =>
          bif v5 then
            some (.inr (none, 7))
          else
            Option.bind (
              bif twice1 then
                some true
              else
                some ((mget x3.Replaces m3).getD false)) (fun twice2 =>
              some (.inl ((mput x3.Replaces true m3), twice2))))) (fun o_ => osum o_ (fun j_ => oun j_ fun m4 twice3 => 
      some (.inl (m4, twice3, w64 (v4 + 1)))) (fun rv487 => some (.inr (.inr rv487))))
  else
    some (.inr (.inl twice1))

def ticket_places (l1 : (List T_api_Ticket)) : Option ((Option (List (Int × Int))) × Int) :=
  bif (decide (512 < ((l1.length : Nat) : Int))) then
    some (none, 8)
  else
    Option.bind (
      iter (ticket_places_l1 l1) (((l1.length : Nat) : Int).toNat + 1) 0) (fun o_ => osum o_ (fun _ =>
      Option.bind (
        iter (ticket_places_l2 l1) (((l1.length : Nat) : Int).toNat + 1) ([], 0)) (fun o_ => osum o_ (fun m2 =>
        Option.bind (
          iter (ticket_places_l3 l1 m2) (((l1.length : Nat) : Int).toNat + 1) ([], false, 0)) (fun o_ => osum o_ (fun twice4 =>
          bif twice4 then
            some (none, 6)
          else
            some ((some m2), 0)) (fun rv457 => some rv457))) (fun rv424 => some rv424))) (fun rv401 => some rv401))

def ticket_Active_l1 (l1 : (List T_api_Ticket)) (j_ : (List (Int × Int)) × Int) : Option (((List (Int × Int)) × Int) ⊕ ((List (Int × Int)))) :=
  oun j_ fun m2 v1 => 
  bif (decide (v1 < ((l1.length : Nat) : Int))) then
    Option.bind (getI l1 v1) fun x1 =>
    some (.inl ((mdel x1.Replaces m2), w64 (v1 + 1)))
  else
    some (.inr m2)

def ticket_Active (l1 : (List T_api_Ticket)) : Option ((List Int) × Int) :=
  Option.bind (ticket_places l1) fun j_ => oun j_ fun r1 r2 => 
  bif (!(decide (r2 = 0))) then
    some ([], r2)
  else
    Option.bind (r1) fun m1 =>
    Option.bind (
      iter (ticket_Active_l1 l1) (((l1.length : Nat) : Int).toNat + 1) (m1, 0)) (fun m3 =>
      Option.bind (valsO m3) fun l2 =>
      some (l2, 0))

def ticket_Chain_l1 (l1 : (List T_api_Ticket)) (m1 : (List (Int × Int))) (j_ : Int × Bool × (List Int)) : Option ((Int × Bool × (List Int)) ⊕ ((List Int))) :=
  oun j_ fun i1 j_ => oun j_ fun is1 out1 => 
  bif is1 then
    Option.bind (appO out1 [i1]) fun l2 =>
    Option.bind (getI l1 i1) fun x1 =>
    some (.inl ((mget x1.Replaces m1).getD 0, (mget x1.Replaces m1).isSome, l2))
  else
    some (.inr out1)

def ticket_Chain (F : Nat) (l1 : (List T_api_Ticket)) (id1 : Int) : Option ((List Int) × Int) :=
  Option.bind (ticket_places l1) fun j_ => oun j_ fun r1 r2 => 
  bif (!(decide (r2 = 0))) then
    some ([], r2)
  else
    Option.bind (r1) fun m1 =>
    bif (!((mget id1 m1).isSome)) then
      some ([], 7)
    else
      Option.bind (
        iter (ticket_Chain_l1 l1 m1) F ((mget id1 m1).getD 0, (mget id1 m1).isSome, [])) (fun out2 =>
        Option.bind (mapO List.reverse out2) fun l3 =>
        some (l3, 0))

def ticket_Check_l1 (F : Nat) (s1 : (List T_api_Scale)) (l1 : (List T_api_Ticket)) (v1 : Int) : Option ((Int) ⊕ (Unit ⊕ Int)) :=
  bif (decide (v1 < ((l1.length : Nat) : Int))) then
    Option.bind (getI l1 v1) fun x1 =>
    Option.bind (ticket_weighed F s1 x1) fun j_ => oun j_ fun r2 j_ => oun j_ fun r3 r4 => 
    bif (!(decide (r4 = 0))) then
      some (.inr (.inr r4))
    else
      some (.inl (w64 (v1 + 1)))
  else
    some (.inr (.inl ()))

def ticket_Check (F : Nat) (s1 : (List T_api_Scale)) (l1 : (List T_api_Ticket)) : Option (Int) :=
  Option.bind (ticket_scales s1) fun r1 =>
  bif (!(decide (r1 = 0))) then
    some r1
  else
    bif (decide (512 < ((l1.length : Nat) : Int))) then
      some 8
    else
      Option.bind (
        iter (ticket_Check_l1 F s1 l1) (((l1.length : Nat) : Int).toNat + 1) 0) (fun o_ => osum o_ (fun _ =>
        Option.bind (ticket_places l1) fun j_ => oun j_ fun r5 r6 => 
        some r6) (fun rv611 => some rv611))

def span_Valid (s1 : T_api_Span) : Option (Bool) :=
  Option.bind (
    bif (decide ((-70368744177664) ≤ s1.Lo)) then
      bif (decide (s1.Lo ≤ s1.Hi)) then
        some (decide (s1.Hi ≤ 70368744177664))
      else
        some false
    else
      some false) (fun v1 =>
    some v1)

def span_valid_l1 (l1 : (List T_api_Span)) (v1 : Int) : Option ((Int) ⊕ (Unit ⊕ Bool)) :=
  bif (decide (v1 < ((l1.length : Nat) : Int))) then
    Option.bind (getI l1 v1) fun x1 =>
    Option.bind (span_Valid x1) fun r1 =>
    bif (!r1) then
      some (.inr (.inr false))
    else
      some (.inl (w64 (v1 + 1)))
  else
    some (.inr (.inl ()))

def span_valid (l1 : (List T_api_Span)) : Option (Bool) :=
  Option.bind (
    iter (span_valid_l1 l1) (((l1.length : Nat) : Int).toNat + 1) 0) (fun o_ => osum o_ (fun _ =>
    some true) (fun rv753 => some rv753))

def span_sum (a1 : Int) (b1 : Int) : Option (Int) :=
  some (w64 (a1 + b1))

def span_ends_c54_c54_l1 (l1 : (List T_api_Span)) (j_ : Int × Int × Int) : Option ((Int × Int × Int) ⊕ ((Int × Int))) :=
  oun j_ fun f1 j_ => oun j_ fun f2 v1 => 
  bif (decide (v1 < ((l1.length : Nat) : Int))) then
    Option.bind (getI l1 v1) fun x1 =>
    Option.bind (
      Option.bind (span_sum f1 x1.Lo) fun r1 =>
      Option.bind (span_sum f2 x1.Hi) fun r2 =>
      some (r1, r2)) (fun j_ => oun j_ fun f3 f4 => 
      some (.inl (f3, f4, w64 (v1 + 1))))
  else
    some (.inr (f1, f2))

def span_ends_c54_c54 (first1 : T_api_Span) (l1 : (List T_api_Span)) : Option (T_api_Span) :=
  Option.bind (
    iter (span_ends_c54_c54_l1 l1) (((l1.length : Nat) : Int).toNat + 1) (first1.Lo, first1.Hi, 0)) (fun j_ => oun j_ fun f5 f6 => 
    some (T_api_Span.mk f5 f6))

def span_result (s1 : T_api_Span) : Option (T_api_Span × Int) :=
  Option.bind (span_Valid s1) fun r1 =>
  bif (!r1) then
    some ((T_api_Span.mk 0 0), 2)
  else
    some (s1, 0)

def span_Sum (l1 : (List T_api_Span)) : Option (T_api_Span × Int) :=
  bif (decide (65536 < ((l1.length : Nat) : Int))) then
    some ((T_api_Span.mk 0 0), 8)
  else
    Option.bind (span_valid l1) fun r1 =>
    bif (!r1) then
      some ((T_api_Span.mk 0 0), 1)
    else
      Option.bind (span_ends_c54_c54 (T_api_Span.mk 0 0) l1) fun r2 =>
      Option.bind (span_result r2) fun j_ => oun j_ fun r3 r4 => 
      some (r3, r4)

def ticket_Total_l1 (F : Nat) (s1 : (List T_api_Scale)) (l1 : (List T_api_Ticket)) (w1 : T_api_Window) (r2 : (List Int)) (j_ : (List T_api_Span) × Int) : Option (((List T_api_Span) × Int) ⊕ ((List T_api_Span) ⊕ (T_api_Span × Int))) :=
  oun j_ fun masses1 v2 => 
  bif (decide (v2 < ((r2.length : Nat) : Int))) then
    Option.bind (
      Option.bind (getI r2 v2) fun x1 =>
      Option.bind (
        Option.bind (getI l1 x1) fun x2 =>
        bif (decide (x2.At < w1.From)) then
          some true
        else
          Option.bind (getI l1 x1) fun x3 =>
          some (decide (w1.To ≤ x3.At))) (fun v3 =>
        bif v3 then
          some (.inl masses1)
        else
          Option.bind (getI l1 x1) fun x4 =>
          Option.bind (ticket_Net F s1 x4) fun j_ => oun j_ fun r4 r5 => 
          bif (!(decide (r5 = 0))) then
            some (.inr ((T_api_Span.mk 0 0), r5))
          else
            Option.bind (appO masses1 [r4]) fun l2 =>
            some (.inl l2))) (fun o_ => osum o_ (fun masses2 =>
      some (.inl (masses2, w64 (v2 + 1)))) (fun rv713 => some (.inr (.inr rv713))))
  else
    some (.inr (.inl masses1))

def ticket_Total (F : Nat) (s1 : (List T_api_Scale)) (l1 : (List T_api_Ticket)) (w1 : T_api_Window) : Option (T_api_Span × Int) :=
  Option.bind (ticket_Check F s1 l1) fun r1 =>
  bif (!(decide (r1 = 0))) then
    some ((T_api_Span.mk 0 0), r1)
  else
    Option.bind (
      bif (decide (w1.From < 0)) then
        some true
      else
        bif (decide (w1.To < w1.From)) then
          some true
        else
          some (decide (3155760000 < w1.To))) (fun v1 =>
      bif v1 then
        some ((T_api_Span.mk 0 0), 1)
      else
        Option.bind (ticket_Active l1) fun j_ => oun j_ fun r2 r3 => 
        bif (!(decide (r3 = 0))) then
          some ((T_api_Span.mk 0 0), r3)
        else
          Option.bind (
            iter (ticket_Total_l1 F s1 l1 w1 r2) (((r2.length : Nat) : Int).toNat + 1) ([], 0)) (fun o_ => osum o_ (fun masses3 =>
            Option.bind (span_Sum masses3) fun j_ => oun j_ fun r6 r7 => 
            some (r6, r7)) (fun rv666 => some rv666)))

def recyclingref27_Same_l1 (a1 : (List Int)) (b1 : (List Int)) (i1 : Int) : Option ((Int) ⊕ (Unit ⊕ Bool)) :=
  bif (decide (i1 < ((a1.length : Nat) : Int))) then
    Option.bind (getI a1 i1) fun x1 =>
    Option.bind (getI b1 i1) fun x2 =>
    bif (!(decide (x1 = x2))) then
      some (.inr (.inr false))
    else
      some (.inl (w64 (i1 + 1)))
  else
    some (.inr (.inl ()))

def recyclingref27_Same (a1 : (List Int)) (b1 : (List Int)) : Option (Bool) :=
  bif (!(decide (((a1.length : Nat) : Int) = ((b1.length : Nat) : Int)))) then
    some false
  else
    Option.bind (
      iter (recyclingref27_Same_l1 a1 b1) (((a1.length : Nat) : Int).toNat + 1) 0) (fun o_ => osum o_ (fun _ =>
      some true) (fun rv892 => some rv892))

def recyclinglaw27_awake (F : Nat) : Option (Bool) :=
  Option.bind (getI [(T_api_Ticket.mk 3 0 0 12000 2000 0), (T_api_Ticket.mk 5 0 0 500 500 3), (T_api_Ticket.mk 7 0 9 500 500 0), (T_api_Ticket.mk 8 0 0 12000 2000 5)] 0) fun x1 =>
  Option.bind (ticket_Net F [(T_api_Scale.mk 500 30000 200 0 0 0)] x1) fun j_ => oun j_ fun r1 r2 => 
  Option.bind (getI [(T_api_Ticket.mk 3 0 0 12000 2000 0), (T_api_Ticket.mk 5 0 0 500 500 3), (T_api_Ticket.mk 7 0 9 500 500 0), (T_api_Ticket.mk 8 0 0 12000 2000 5)] 1) fun x2 =>
  Option.bind (ticket_Net F [(T_api_Scale.mk 500 30000 200 0 0 0)] x2) fun j_ => oun j_ fun r3 r4 => 
  Option.bind (ticket_Active [(T_api_Ticket.mk 3 0 0 12000 2000 0), (T_api_Ticket.mk 5 0 0 500 500 3), (T_api_Ticket.mk 7 0 9 500 500 0), (T_api_Ticket.mk 8 0 0 12000 2000 5)]) fun j_ => oun j_ fun r5 r6 => 
  Option.bind (ticket_Chain F [(T_api_Ticket.mk 3 0 0 12000 2000 0), (T_api_Ticket.mk 5 0 0 500 500 3), (T_api_Ticket.mk 7 0 9 500 500 0), (T_api_Ticket.mk 8 0 0 12000 2000 5)] 8) fun j_ => oun j_ fun r7 r8 => 
  Option.bind (ticket_Total F [(T_api_Scale.mk 500 30000 200 0 0 0)] [(T_api_Ticket.mk 3 0 0 12000 2000 0), (T_api_Ticket.mk 5 0 0 500 500 3), (T_api_Ticket.mk 7 0 9 500 500 0), (T_api_Ticket.mk 8 0 0 12000 2000 5)] (T_api_Window.mk 0 9)) fun j_ => oun j_ fun r9 r10 => 
  Option.bind (
    bif (decide (r2 = 0)) then
      bif (decide (r1 = (T_api_Span.mk 9100 10900))) then
        bif (decide (r4 = 0)) then
          bif (decide (r3 = (T_api_Span.mk 0 900))) then
            bif (decide (r6 = 0)) then
              Option.bind (recyclingref27_Same r5 [2, 3]) fun r11 =>
              bif r11 then
                bif (decide (r8 = 0)) then
                  Option.bind (recyclingref27_Same r7 [0, 1, 3]) fun r12 =>
                  bif r12 then
                    bif (decide (r10 = 0)) then
                      bif (decide (r9 = r1)) then
                        Option.bind (ticket_Check F [(T_api_Scale.mk 500 30000 200 0 0 0)] [(T_api_Ticket.mk 3 0 0 12000 2000 0), (T_api_Ticket.mk 5 0 0 500 500 3), (T_api_Ticket.mk 7 0 9 500 500 0), (T_api_Ticket.mk 8 0 0 12000 2000 5)]) fun r13 =>
                        some (decide (r13 = 0))
                      else
                        some false
                    else
                      some false
                  else
                    some false
                else
                  some false
              else
                some false
            else
              some false
          else
            some false
        else
          some false
      else
        some false
    else
      some false) (fun v1 =>
    some v1)

def recyclingref26_Check (s1 : T_api_Scale) : Option (Int) :=
  Option.bind (
    bif (decide (s1.Step < 1)) then
      some true
    else
      bif (decide (10000 < s1.Step)) then
        some true
      else
        bif (decide (s1.Max < s1.Step)) then
          some true
        else
          bif (decide (1073741824 < s1.Max)) then
            some true
          else
            bif (decide (s1.Base < 0)) then
              some true
            else
              bif (decide (100000 < s1.Base)) then
                some true
              else
                bif (decide (s1.Slope < 0)) then
                  some true
                else
                  bif (decide (100 < s1.Slope)) then
                    some true
                  else
                    bif (decide (s1.Drift < 0)) then
                      some true
                    else
                      bif (decide (100000 < s1.Drift)) then
                        some true
                      else
                        bif (decide (s1.Checked < 0)) then
                          some true
                        else
                          some (decide (3155759999 < s1.Checked))) (fun v1 =>
    bif v1 then
      some 1
    else
      some 0)

def recyclingref27_scales_l1 (s1 : (List T_api_Scale)) (i1 : Int) : Option ((Int) ⊕ (Unit ⊕ Int)) :=
  bif (decide (i1 < ((s1.length : Nat) : Int))) then
    Option.bind (getI s1 i1) fun x1 =>
    Option.bind (recyclingref26_Check x1) fun r1 =>
    bif (!(decide (r1 = 0))) then
      some (.inr (.inr r1))
    else
      some (.inl (w64 (i1 + 1)))
  else
    some (.inr (.inl ()))

def recyclingref27_scales (s1 : (List T_api_Scale)) : Option (Int) :=
  bif (decide (16 < ((s1.length : Nat) : Int))) then
    some 8
  else
    Option.bind (
      iter (recyclingref27_scales_l1 s1) (((s1.length : Nat) : Int).toNat + 1) 0) (fun o_ => osum o_ (fun _ =>
      some 0) (fun rv921 => some rv921))

def recyclingref26_Showable (s1 : T_api_Scale) (shown1 : Int) : Option (Bool) :=
  Option.bind (
    bif (decide (0 ≤ shown1)) then
      bif (decide (shown1 ≤ s1.Max)) then
        Option.bind (guardO (s1.Step ≠ 0)) fun _ =>
        some (decide ((Int.tmod shown1 s1.Step) = 0))
      else
        some false
    else
      some false) (fun v1 =>
    some v1)

def recyclingref26_moment (s1 : T_api_Scale) (t1 : Int) : Option (Int) :=
  Option.bind (
    Option.bind (recyclingref26_Check s1) fun r1 =>
    bif (!(decide (r1 = 0))) then
      some true
    else
      bif (decide (t1 < 0)) then
        some true
      else
        some (decide (3155759999 < t1))) (fun v1 =>
    bif v1 then
      some 1
    else
      bif (decide (t1 < s1.Checked)) then
        some 9
      else
        some 0)

def recyclingref26_Begun (s1 : T_api_Scale) (t1 : Int) : Option (Int) :=
  some (w64 (Int.tdiv (w64 ((w64 ((w64 (t1 - s1.Checked)) + 86400)) - 1)) 86400))

def recyclingref26_Error (s1 : T_api_Scale) (mass1 : Int) (t1 : Int) : Option (Int × Int) :=
  Option.bind (
    Option.bind (recyclingref26_Check s1) fun r1 =>
    bif (!(decide (r1 = 0))) then
      some true
    else
      bif (decide (mass1 < 0)) then
        some true
      else
        some (decide (1073741824 < mass1))) (fun v1 =>
    bif v1 then
      some (0, 1)
    else
      Option.bind (recyclingref26_moment s1 t1) fun r2 =>
      bif (!(decide (r2 = 0))) then
        some (0, r2)
      else
        Option.bind (recyclingref26_Begun s1 t1) fun r3 =>
        some (w64 ((w64 (s1.Base + (w64 (Int.tdiv (w64 ((w64 (mass1 * s1.Slope)) + 999)) 1000)))) + (w64 (s1.Drift * r3))), 0))

def recyclingref26_Could (s1 : T_api_Scale) (mass1 : Int) (shown1 : Int) (t1 : Int) : Option (Bool) :=
  Option.bind (recyclingref26_Error s1 mass1 t1) fun j_ => oun j_ fun r1 r2 => 
  Option.bind (
    bif (!(decide (r2 = 0))) then
      some true
    else
      Option.bind (recyclingref26_Showable s1 shown1) fun r3 =>
      some (!r3)) (fun v1 =>
    bif v1 then
      some false
    else
      Option.bind (
        bif (decide ((w64 (mass1 - shown1)) < 0)) then
          some (w64 (0 - (w64 (mass1 - shown1))))
        else
          some (w64 (mass1 - shown1))) (fun d1 =>
        some (decide ((w64 (2 * d1)) ≤ (w64 ((w64 (2 * r1)) + s1.Step))))))

def recyclingref26_reach_l1 (s1 : T_api_Scale) (shown1 : Int) (t1 : Int) (way1 : Int) (most1 : Int) (j_ : Int × Int) : Option ((Int × Int) ⊕ (Int)) :=
  oun j_ fun lo1 bit1 => 
  bif (decide (0 ≤ bit1)) then
    Option.bind (
      Option.bind (guardO (0 ≤ bit1 ∧ bit1 ≤ 64)) fun _ =>
      Option.bind (
        bif (decide ((w64 (lo1 + (w64 (1 * 2 ^ bit1.toNat)))) ≤ most1)) then
          Option.bind (recyclingref26_Could s1 (w64 (shown1 + (w64 (way1 * (w64 (lo1 + (w64 (1 * 2 ^ bit1.toNat)))))))) shown1 t1) fun r1 =>
          some (w64 (lo1 + (w64 (1 * 2 ^ bit1.toNat))), r1)
        else
          some (w64 (lo1 + (w64 (1 * 2 ^ bit1.toNat))), false)) (fun j_ => oun j_ fun d1 v1 => 
        bif v1 then
          some d1
        else
          some lo1)) (fun lo2 =>
      some (.inl (lo2, w64 (bit1 - 1))))
  else
    some (.inr lo1)

def recyclingref26_reach (F : Nat) (s1 : T_api_Scale) (shown1 : Int) (t1 : Int) (way1 : Int) (most1 : Int) : Option (Int) :=
  Option.bind (
    iter (recyclingref26_reach_l1 s1 shown1 t1 way1 most1) F (0, 31)) (fun lo3 =>
    some lo3)

def recyclingref26_True (F : Nat) (s1 : T_api_Scale) (shown1 : Int) (t1 : Int) : Option (T_api_Span × Int) :=
  Option.bind (
    Option.bind (recyclingref26_Check s1) fun r1 =>
    bif (!(decide (r1 = 0))) then
      some true
    else
      Option.bind (recyclingref26_Showable s1 shown1) fun r2 =>
      some (!r2)) (fun v1 =>
    bif v1 then
      some ((T_api_Span.mk 0 0), 1)
    else
      Option.bind (recyclingref26_moment s1 t1) fun r3 =>
      bif (!(decide (r3 = 0))) then
        some ((T_api_Span.mk 0 0), r3)
      else
        Option.bind (recyclingref26_reach F s1 shown1 t1 (-1) shown1) fun r4 =>
        Option.bind (recyclingref26_reach F s1 shown1 t1 1 (w64 (1073741824 - shown1))) fun r5 =>
        some ((T_api_Span.mk (w64 (shown1 - r4)) (w64 (shown1 + r5))), 0))

def recyclingref27_fault (F : Nat) (s1 : (List T_api_Scale)) (x1 : T_api_Ticket) : Option (Int) :=
  Option.bind (
    bif (decide (x1.ID < 1)) then
      some true
    else
      some (decide (1000000 < x1.ID))) (fun v1 =>
    bif v1 then
      some 1
    else
      Option.bind (
        bif (decide (x1.Scale < 0)) then
          some true
        else
          some (decide (((s1.length : Nat) : Int) ≤ x1.Scale))) (fun v2 =>
        bif v2 then
          some 7
        else
          Option.bind (
            bif (decide (x1.At < 0)) then
              some true
            else
              some (decide (3155759999 < x1.At))) (fun v3 =>
            bif v3 then
              some 1
            else
              Option.bind (
                Option.bind (getI s1 x1.Scale) fun x2 =>
                Option.bind (recyclingref26_True F x2 x1.Gross x1.At) fun j_ => oun j_ fun r1 r2 => 
                some r2) (fun e1 =>
                bif (!(decide (e1 = 0))) then
                  some e1
                else
                  Option.bind (
                    Option.bind (getI s1 x1.Scale) fun x3 =>
                    Option.bind (recyclingref26_True F x3 x1.Tare x1.At) fun j_ => oun j_ fun r3 r4 => 
                    some r4) (fun e2 =>
                    bif (!(decide (e2 = 0))) then
                      some e2
                    else
                      bif (decide (x1.Gross < x1.Tare)) then
                        some 9
                      else
                        some 0)))))

def recyclingref27_place_l1 (l1 : (List T_api_Ticket)) (n1 : Int) (id1 : Int) (i1 : Int) : Option ((Int) ⊕ (Unit ⊕ Int)) :=
  bif (decide (i1 < n1)) then
    Option.bind (getI l1 i1) fun x1 =>
    bif (decide (x1.ID = id1)) then
      some (.inr (.inr i1))
    else
      some (.inl (w64 (i1 + 1)))
  else
    some (.inr (.inl ()))

def recyclingref27_place (l1 : (List T_api_Ticket)) (n1 : Int) (id1 : Int) : Option (Int) :=
  Option.bind (
    iter (recyclingref27_place_l1 l1 n1 id1) (n1.toNat + 1) 0) (fun o_ => osum o_ (fun _ =>
    some (-1)) (fun rv1185 => some rv1185))

def recyclingref27_List_l1 (l1 : (List T_api_Ticket)) (i1 : Int) : Option ((Int) ⊕ (Unit ⊕ Int)) :=
  bif (decide (i1 < ((l1.length : Nat) : Int))) then
    Option.bind (
      Option.bind (getI l1 i1) fun x1 =>
      bif (decide (x1.ID < 1)) then
        some true
      else
        Option.bind (getI l1 i1) fun x2 =>
        some (decide (1000000 < x2.ID))) (fun v1 =>
      bif v1 then
        some (.inr (.inr 1))
      else
        some (.inl (w64 (i1 + 1))))
  else
    some (.inr (.inl ()))

def recyclingref27_List_l2 (l1 : (List T_api_Ticket)) (i2 : Int) : Option ((Int) ⊕ (Unit ⊕ Int)) :=
  bif (decide (i2 < ((l1.length : Nat) : Int))) then
    Option.bind (getI l1 i2) fun x3 =>
    Option.bind (recyclingref27_place l1 i2 x3.ID) fun r1 =>
    bif (decide (0 ≤ r1)) then
      some (.inr (.inr 6))
    else
      some (.inl (w64 (i2 + 1)))
  else
    some (.inr (.inl ()))

def recyclingref27_List_l3 (l1 : (List T_api_Ticket)) (i3 : Int) : Option ((Int) ⊕ (Unit ⊕ Int)) :=
  bif (decide (i3 < ((l1.length : Nat) : Int))) then
    Option.bind (
      Option.bind (getI l1 i3) fun x4 =>
      bif (!(decide (x4.Replaces = 0))) then
        Option.bind (getI l1 i3) fun x5 =>
        Option.bind (recyclingref27_place l1 i3 x5.Replaces) fun r2 =>
        some (decide (r2 < 0))
      else
        some false) (fun v2 =>
      bif v2 then
        some (.inr (.inr 7))
      else
        some (.inl (w64 (i3 + 1))))
  else
    some (.inr (.inl ()))

def recyclingref27_List_l4 (l1 : (List T_api_Ticket)) (i4 : Int) (k1 : Int) : Option ((Int) ⊕ (Unit ⊕ Int)) :=
  bif (decide (k1 < i4)) then
    Option.bind (
      Option.bind (getI l1 i4) fun x6 =>
      bif (!(decide (x6.Replaces = 0))) then
        Option.bind (getI l1 i4) fun x7 =>
        Option.bind (getI l1 k1) fun x8 =>
        some (decide (x7.Replaces = x8.Replaces))
      else
        some false) (fun v3 =>
      bif v3 then
        some (.inr (.inr 6))
      else
        some (.inl (w64 (k1 + 1))))
  else
    some (.inr (.inl ()))

def recyclingref27_List_l5 (l1 : (List T_api_Ticket)) (i4 : Int) : Option ((Int) ⊕ (Unit ⊕ Int)) :=
  bif (decide (i4 < ((l1.length : Nat) : Int))) then
    Option.bind (
      Option.bind (
        iter (recyclingref27_List_l4 l1 i4) (i4.toNat + 1) 0) (fun o_ => osum o_ (fun _ =>
        some (.inl ())) (fun rv1253 => some (.inr rv1253)))) (fun o_ => osum o_ (fun _ =>
      some (.inl (w64 (i4 + 1)))) (fun rv1251 => some (.inr (.inr rv1251))))
  else
    some (.inr (.inl ()))

def recyclingref27_List (l1 : (List T_api_Ticket)) : Option (Int) :=
  bif (decide (512 < ((l1.length : Nat) : Int))) then
    some 8
  else
    Option.bind (
      iter (recyclingref27_List_l1 l1) (((l1.length : Nat) : Int).toNat + 1) 0) (fun o_ => osum o_ (fun _ =>
      Option.bind (
        iter (recyclingref27_List_l2 l1) (((l1.length : Nat) : Int).toNat + 1) 0) (fun o_ => osum o_ (fun _ =>
        Option.bind (
          iter (recyclingref27_List_l3 l1) (((l1.length : Nat) : Int).toNat + 1) 0) (fun o_ => osum o_ (fun _ =>
          Option.bind (
            iter (recyclingref27_List_l5 l1) (((l1.length : Nat) : Int).toNat + 1) 0) (fun o_ => osum o_ (fun _ =>
            some 0) (fun rv1225 => some rv1225))) (fun rv1208 => some rv1208))) (fun rv1175 => some rv1175))) (fun rv1158 => some rv1158))

def recyclingref27_Check_l1 (F : Nat) (s1 : (List T_api_Scale)) (l1 : (List T_api_Ticket)) (i1 : Int) : Option ((Int) ⊕ (Unit ⊕ Int)) :=
  bif (decide (i1 < ((l1.length : Nat) : Int))) then
    Option.bind (getI l1 i1) fun x1 =>
    Option.bind (recyclingref27_fault F s1 x1) fun r2 =>
    bif (!(decide (r2 = 0))) then
      some (.inr (.inr r2))
    else
      some (.inl (w64 (i1 + 1)))
  else
    some (.inr (.inl ()))

def recyclingref27_Check (F : Nat) (s1 : (List T_api_Scale)) (l1 : (List T_api_Ticket)) : Option (Int) :=
  Option.bind (recyclingref27_scales s1) fun r1 =>
  bif (!(decide (r1 = 0))) then
    some r1
  else
    bif (decide (512 < ((l1.length : Nat) : Int))) then
      some 8
    else
      Option.bind (
        iter (recyclingref27_Check_l1 F s1 l1) (((l1.length : Nat) : Int).toNat + 1) 0) (fun o_ => osum o_ (fun _ =>
        Option.bind (recyclingref27_List l1) fun r3 =>
        some r3) (fun rv951 => some rv951))

def recyclinglaw27_TicketChecks (F : Nat) (s1 : (List T_api_Scale)) (l1 : (List T_api_Ticket)) : Option (Bool) :=
  Option.bind (recyclinglaw27_great s1 l1) fun r1 =>
  bif r1 then
    Option.bind (recyclinglaw27_awake F) fun r2 =>
    some r2
  else
    Option.bind (
      Option.bind (ticket_Check F s1 l1) fun r3 =>
      Option.bind (recyclingref27_Check F s1 l1) fun r4 =>
      bif (decide (r3 = r4)) then
        Option.bind (recyclinglaw27_awake F) fun r5 =>
        some r5
      else
        some false) (fun v1 =>
      some v1)

def recyclingref27_Net (F : Nat) (s1 : (List T_api_Scale)) (x1 : T_api_Ticket) : Option (T_api_Span × Int) :=
  Option.bind (recyclingref27_scales s1) fun r1 =>
  bif (!(decide (r1 = 0))) then
    some ((T_api_Span.mk 0 0), r1)
  else
    Option.bind (recyclingref27_fault F s1 x1) fun r2 =>
    bif (!(decide (r2 = 0))) then
      some ((T_api_Span.mk 0 0), r2)
    else
      Option.bind (
        Option.bind (getI s1 x1.Scale) fun x2 =>
        Option.bind (recyclingref26_True F x2 x1.Gross x1.At) fun j_ => oun j_ fun r3 r4 => 
        some (r3.Lo, r3.Hi)) (fun j_ => oun j_ fun f1 f2 => 
        Option.bind (
          Option.bind (getI s1 x1.Scale) fun x3 =>
          Option.bind (recyclingref26_True F x3 x1.Tare x1.At) fun j_ => oun j_ fun r5 r6 => 
          some (r5.Lo, r5.Hi)) (fun j_ => oun j_ fun f3 f4 => 
          some ((T_api_Span.mk (max 0 (w64 (f1 - f4))) (max 0 (w64 (f2 - f3)))), 0)))

def recyclinglaw27_TicketNets (F : Nat) (s1 : (List T_api_Scale)) (x1 : T_api_Ticket) : Option (Bool) :=
  bif (decide (20 < ((s1.length : Nat) : Int))) then
    Option.bind (recyclinglaw27_awake F) fun r1 =>
    some r1
  else
    Option.bind (ticket_Net F s1 x1) fun j_ => oun j_ fun r2 r3 => 
    Option.bind (recyclingref27_Net F s1 x1) fun j_ => oun j_ fun r4 r5 => 
    Option.bind (
      bif (decide (r2 = r4)) then
        bif (decide (r3 = r5)) then
          Option.bind (recyclinglaw27_awake F) fun r6 =>
          some r6
        else
          some false
      else
        some false) (fun v1 =>
      some v1)

def recyclingref27_replaced_l1 (l1 : (List T_api_Ticket)) (i1 : Int) (k1 : Int) : Option ((Int) ⊕ (Unit ⊕ Bool)) :=
  bif (decide (k1 < ((l1.length : Nat) : Int))) then
    Option.bind (getI l1 k1) fun x1 =>
    Option.bind (getI l1 i1) fun x2 =>
    bif (decide (x1.Replaces = x2.ID)) then
      some (.inr (.inr true))
    else
      some (.inl (w64 (k1 + 1)))
  else
    some (.inr (.inl ()))

def recyclingref27_replaced (l1 : (List T_api_Ticket)) (i1 : Int) : Option (Bool) :=
  Option.bind (
    iter (recyclingref27_replaced_l1 l1 i1) (((l1.length : Nat) : Int).toNat + 1) 0) (fun o_ => osum o_ (fun _ =>
    some false) (fun rv1387 => some rv1387))

def recyclingref27_Active_l1 (l1 : (List T_api_Ticket)) (j_ : (List Int) × Int) : Option (((List Int) × Int) ⊕ ((List Int))) :=
  oun j_ fun out1 i1 => 
  bif (decide (i1 < ((l1.length : Nat) : Int))) then
    Option.bind (
      Option.bind (recyclingref27_replaced l1 i1) fun r2 =>
      bif (!r2) then
        Option.bind (appO out1 [i1]) fun l2 =>
        some l2
      else
        some out1) (fun out2 =>
      some (.inl (out2, w64 (i1 + 1))))
  else
    some (.inr out1)

def recyclingref27_Active (l1 : (List T_api_Ticket)) : Option ((List Int) × Int) :=
  Option.bind (recyclingref27_List l1) fun r1 =>
  bif (!(decide (r1 = 0))) then
    some ([], r1)
  else
    Option.bind (
      iter (recyclingref27_Active_l1 l1) (((l1.length : Nat) : Int).toNat + 1) ([], 0)) (fun out3 =>
      some (out3, 0))

def recyclingref27_Chain_l1 (l1 : (List T_api_Ticket)) (out1 : (List Int)) : Option (((List Int)) ⊕ ((List Int))) :=
  Option.bind (getI out1 0) fun x1 =>
  Option.bind (getI l1 x1) fun x2 =>
  bif (!(decide (x2.Replaces = 0))) then
    Option.bind (getI out1 0) fun x3 =>
    Option.bind (getI out1 0) fun x4 =>
    Option.bind (getI l1 x4) fun x5 =>
    Option.bind (recyclingref27_place l1 x3 x5.Replaces) fun r3 =>
    Option.bind (appO [r3] out1) fun l2 =>
    some (.inl l2)
  else
    some (.inr out1)

def recyclingref27_Chain (F : Nat) (l1 : (List T_api_Ticket)) (id1 : Int) : Option ((List Int) × Int) :=
  Option.bind (recyclingref27_List l1) fun r1 =>
  bif (!(decide (r1 = 0))) then
    some ([], r1)
  else
    Option.bind (recyclingref27_place l1 ((l1.length : Nat) : Int) id1) fun r2 =>
    bif (decide (r2 < 0)) then
      some ([], 7)
    else
      Option.bind (
        iter (recyclingref27_Chain_l1 l1) F [r2]) (fun out2 =>
        some (out2, 0))

def recyclinglaw27_TicketActives (F : Nat) (l1 : (List T_api_Ticket)) (id1 : Int) : Option (Bool) :=
  bif (decide (60 < ((l1.length : Nat) : Int))) then
    Option.bind (recyclinglaw27_awake F) fun r1 =>
    some r1
  else
    Option.bind (ticket_Active l1) fun j_ => oun j_ fun r2 r3 => 
    Option.bind (recyclingref27_Active l1) fun j_ => oun j_ fun r4 r5 => 
    Option.bind (ticket_Chain F l1 id1) fun j_ => oun j_ fun r6 r7 => 
    Option.bind (recyclingref27_Chain F l1 id1) fun j_ => oun j_ fun r8 r9 => 
    Option.bind (
      Option.bind (recyclingref27_Same r2 r4) fun r10 =>
      bif r10 then
        bif (decide (r3 = r5)) then
          Option.bind (recyclingref27_Same r6 r8) fun r11 =>
          bif r11 then
            bif (decide (r7 = r9)) then
              Option.bind (recyclinglaw27_awake F) fun r12 =>
              some r12
            else
              some false
          else
            some false
        else
          some false
      else
        some false) (fun v1 =>
      some v1)

def recyclingref27_Total_l1 (F : Nat) (s1 : (List T_api_Scale)) (l1 : (List T_api_Ticket)) (w1 : T_api_Window) (j_ : Int × Int × Int) : Option ((Int × Int × Int) ⊕ ((Int × Int))) :=
  oun j_ fun f1 j_ => oun j_ fun f2 i1 => 
  bif (decide (i1 < ((l1.length : Nat) : Int))) then
    Option.bind (
      Option.bind (
        Option.bind (recyclingref27_replaced l1 i1) fun r2 =>
        bif r2 then
          some true
        else
          Option.bind (getI l1 i1) fun x1 =>
          bif (decide (x1.At < w1.From)) then
            some true
          else
            Option.bind (getI l1 i1) fun x2 =>
            some (decide (w1.To ≤ x2.At))) (fun v2 =>
        bif v2 then
          some (f1, f2)
        else
          Option.bind (getI l1 i1) fun x3 =>
          Option.bind (recyclingref27_Net F s1 x3) fun j_ => oun j_ fun r3 r4 => 
          some (w64 (f1 + r3.Lo), w64 (f2 + r3.Hi)))) (fun j_ => oun j_ fun f3 f4 => 
      some (.inl (f3, f4, w64 (i1 + 1))))
  else
    some (.inr (f1, f2))

def recyclingref27_Total (F : Nat) (s1 : (List T_api_Scale)) (l1 : (List T_api_Ticket)) (w1 : T_api_Window) : Option (T_api_Span × Int) :=
  Option.bind (recyclingref27_Check F s1 l1) fun r1 =>
  bif (!(decide (r1 = 0))) then
    some ((T_api_Span.mk 0 0), r1)
  else
    Option.bind (
      bif (decide (w1.From < 0)) then
        some true
      else
        bif (decide (w1.To < w1.From)) then
          some true
        else
          some (decide (3155760000 < w1.To))) (fun v1 =>
      bif v1 then
        some ((T_api_Span.mk 0 0), 1)
      else
        Option.bind (
          iter (recyclingref27_Total_l1 F s1 l1 w1) (((l1.length : Nat) : Int).toNat + 1) (0, 0, 0)) (fun j_ => oun j_ fun f5 f6 => 
          some ((T_api_Span.mk f5 f6), 0)))

def recyclinglaw27_TicketTotals (F : Nat) (s1 : (List T_api_Scale)) (l1 : (List T_api_Ticket)) (w1 : T_api_Window) : Option (Bool) :=
  Option.bind (recyclinglaw27_great s1 l1) fun r1 =>
  bif r1 then
    Option.bind (recyclinglaw27_awake F) fun r2 =>
    some r2
  else
    Option.bind (ticket_Total F s1 l1 w1) fun j_ => oun j_ fun r3 r4 => 
    Option.bind (recyclingref27_Total F s1 l1 w1) fun j_ => oun j_ fun r5 r6 => 
    Option.bind (
      bif (decide (r3 = r5)) then
        bif (decide (r4 = r6)) then
          Option.bind (recyclinglaw27_awake F) fun r7 =>
          some r7
        else
          some false
      else
        some false) (fun v1 =>
      some v1)

def recyclinglaw27_TicketChains_l1 (l1 : (List T_api_Ticket)) (r5 : (List Int)) (j_ : (List Int) × Int) : Option (((List Int) × Int) ⊕ ((List Int) ⊕ Bool)) :=
  oun j_ fun seen2 k1 => 
  bif (decide (k1 < ((r5.length : Nat) : Int))) then
    Option.bind (
      Option.bind (getI r5 k1) fun x7 =>
      bif (decide (x7 < 0)) then
        some true
      else
        Option.bind (getI r5 k1) fun x8 =>
        bif (decide (((l1.length : Nat) : Int) ≤ x8)) then
          some true
        else
          bif (decide (k1 = 0)) then
            Option.bind (getI r5 k1) fun x9 =>
            Option.bind (getI l1 x9) fun x10 =>
            bif (!(decide (x10.Replaces = 0))) then
              some true
            else
              bif (decide (0 < k1)) then
                Option.bind (getI r5 k1) fun x11 =>
                Option.bind (getI l1 x11) fun x12 =>
                Option.bind (getI r5 (w64 (k1 - 1))) fun x13 =>
                Option.bind (getI l1 x13) fun x14 =>
                some (!(decide (x12.Replaces = x14.ID)))
              else
                some false
          else
            bif (decide (0 < k1)) then
              Option.bind (getI r5 k1) fun x15 =>
              Option.bind (getI l1 x15) fun x16 =>
              Option.bind (getI r5 (w64 (k1 - 1))) fun x17 =>
              Option.bind (getI l1 x17) fun x18 =>
              some (!(decide (x16.Replaces = x18.ID)))
            else
              some false) (fun v4 =>
      bif v4 then
        some (.inr (.inr false))
      else
        Option.bind (getI r5 k1) fun x19 =>
        Option.bind (getI r5 k1) fun x20 =>
        Option.bind (getI seen2 x20) fun x21 =>
        Option.bind (getI seen2 x19) fun x22 =>
        some (.inl ((setI seen2 x19 (w64 (x21 + 1))), w64 (k1 + 1))))
  else
    some (.inr (.inl seen2))

def recyclinglaw27_TicketChains_l2 (F : Nat) (l1 : (List T_api_Ticket)) (r2 : (List Int)) (j_ : (List Int) × Int) : Option (((List Int) × Int) ⊕ ((List Int) ⊕ Bool)) :=
  oun j_ fun seen1 i1 => 
  bif (decide (i1 < ((r2.length : Nat) : Int))) then
    Option.bind (
      Option.bind (
        Option.bind (getI r2 i1) fun x1 =>
        bif (decide (x1 < 0)) then
          some true
        else
          Option.bind (getI r2 i1) fun x2 =>
          some (decide (((l1.length : Nat) : Int) ≤ x2))) (fun v2 =>
        bif v2 then
          some (.inr false)
        else
          Option.bind (getI r2 i1) fun x3 =>
          Option.bind (getI l1 x3) fun x4 =>
          Option.bind (ticket_Chain F l1 x4.ID) fun j_ => oun j_ fun r5 r6 => 
          Option.bind (
            bif (!(decide (r6 = 0))) then
              some true
            else
              bif (decide (((r5.length : Nat) : Int) = 0)) then
                some true
              else
                Option.bind (getI r5 (w64 (((r5.length : Nat) : Int) - 1))) fun x5 =>
                Option.bind (getI r2 i1) fun x6 =>
                some (!(decide (x5 = x6)))) (fun v3 =>
            bif v3 then
              some (.inr false)
            else
              Option.bind (
                iter (recyclinglaw27_TicketChains_l1 l1 r5) (((r5.length : Nat) : Int).toNat + 1) (seen1, 0)) (fun o_ => osum o_ (fun seen3 =>
                some (.inl seen3)) (fun rv1679 => some (.inr rv1679)))))) (fun o_ => osum o_ (fun seen4 =>
      some (.inl (seen4, w64 (i1 + 1)))) (fun rv1667 => some (.inr (.inr rv1667))))
  else
    some (.inr (.inl seen1))

def recyclinglaw27_TicketChains_l3 (seen5 : (List Int)) (i2 : Int) : Option ((Int) ⊕ (Unit ⊕ Bool)) :=
  bif (decide (i2 < ((seen5.length : Nat) : Int))) then
    Option.bind (getI seen5 i2) fun x23 =>
    bif (!(decide (x23 = 1))) then
      some (.inr (.inr false))
    else
      some (.inl (w64 (i2 + 1)))
  else
    some (.inr (.inl ()))

def recyclinglaw27_TicketChains (F : Nat) (l1 : (List T_api_Ticket)) : Option (Bool) :=
  bif (decide (60 < ((l1.length : Nat) : Int))) then
    Option.bind (recyclinglaw27_awake F) fun r1 =>
    some r1
  else
    Option.bind (ticket_Active l1) fun j_ => oun j_ fun r2 r3 => 
    bif (!(decide (r3 = 0))) then
      Option.bind (
        bif (decide (((r2.length : Nat) : Int) = 0)) then
          Option.bind (recyclinglaw27_awake F) fun r4 =>
          some r4
        else
          some false) (fun v1 =>
        some v1)
    else
      Option.bind (makeO (0 : Int) ((l1.length : Nat) : Int)) fun l2 =>
      Option.bind (
        iter (recyclinglaw27_TicketChains_l2 F l1 r2) (((r2.length : Nat) : Int).toNat + 1) (l2, 0)) (fun o_ => osum o_ (fun seen5 =>
        Option.bind (
          iter (recyclinglaw27_TicketChains_l3 seen5) (((seen5.length : Nat) : Int).toNat + 1) 0) (fun o_ => osum o_ (fun _ =>
          Option.bind (recyclinglaw27_awake F) fun r7 =>
          some r7) (fun rv1726 => some rv1726))) (fun rv1601 => some rv1601))

def recyclinglaw27_unused_l1 (l1 : (List T_api_Ticket)) (j_ : Int × Int) : Option ((Int × Int) ⊕ (Int)) :=
  oun j_ fun id2 k1 => 
  bif (decide (k1 < ((l1.length : Nat) : Int))) then
    Option.bind (
      Option.bind (getI l1 k1) fun x1 =>
      bif (decide (x1.ID = id2)) then
        some (w64 (id2 - 1))
      else
        some id2) (fun id3 =>
      some (.inl (id3, w64 (k1 + 1))))
  else
    some (.inr id2)

def recyclinglaw27_unused_l2 (l1 : (List T_api_Ticket)) (j_ : Int × Int) : Option ((Int × Int) ⊕ (Int)) :=
  oun j_ fun id1 i1 => 
  bif (decide (i1 < ((l1.length : Nat) : Int))) then
    Option.bind (
      Option.bind (
        iter (recyclinglaw27_unused_l1 l1) (((l1.length : Nat) : Int).toNat + 1) (id1, 0)) (fun id4 =>
        some id4)) (fun id5 =>
      some (.inl (id5, w64 (i1 + 1))))
  else
    some (.inr id1)

def recyclinglaw27_unused (l1 : (List T_api_Ticket)) : Option (Int) :=
  Option.bind (
    iter (recyclinglaw27_unused_l2 l1) (((l1.length : Nat) : Int).toNat + 1) (1000000, 0)) (fun id6 =>
    some id6)

def recyclinglaw27_TicketReplaced (F : Nat) (s1 : (List T_api_Scale)) (l1 : (List T_api_Ticket)) (x1 : T_arr3_3) : Option (Bool) :=
  Option.bind (recyclinglaw27_great s1 l1) fun r1 =>
  bif r1 then
    Option.bind (recyclinglaw27_awake F) fun r2 =>
    some r2
  else
    Option.bind (ticket_Total F s1 l1 (T_api_Window.mk x1.e1 x1.e2)) fun j_ => oun j_ fun r3 r4 => 
    Option.bind (ticket_Active l1) fun j_ => oun j_ fun r5 r6 => 
    Option.bind (
      bif (!(decide (r4 = 0))) then
        some true
      else
        bif (!(decide (r6 = 0))) then
          some true
        else
          some (decide (((r5.length : Nat) : Int) = 0))) (fun v1 =>
      bif v1 then
        Option.bind (
          bif (!(decide (r4 = 0))) then
            Option.bind (recyclinglaw27_awake F) fun r8 =>
            some r8
          else
            bif (decide (((l1.length : Nat) : Int) = 0)) then
              Option.bind (recyclinglaw27_awake F) fun r7 =>
              some r7
            else
              some false) (fun v2 =>
          some v2)
      else
        Option.bind (guardO (((r5.length : Nat) : Int) ≠ 0)) fun _ =>
        Option.bind (
          bif (decide ((Int.tmod x1.e0 ((r5.length : Nat) : Int)) < 0)) then
            some (w64 (0 - (Int.tmod x1.e0 ((r5.length : Nat) : Int))))
          else
            some (Int.tmod x1.e0 ((r5.length : Nat) : Int))) (fun n1 =>
          Option.bind (getI r5 n1) fun x2 =>
          Option.bind (getI l1 x2) fun x3 =>
          Option.bind (recyclinglaw27_unused l1) fun r9 =>
          Option.bind (
            Option.bind (appO [] l1) fun l2 =>
            Option.bind (appO l2 [(T_api_Ticket.mk r9 x3.Scale x3.At x3.Gross x3.Tare x3.ID)]) fun l3 =>
            some l3) (fun more1 =>
            Option.bind (ticket_Total F s1 more1 (T_api_Window.mk x1.e1 x1.e2)) fun j_ => oun j_ fun r10 r11 => 
            Option.bind (ticket_Active more1) fun j_ => oun j_ fun r12 r13 => 
            Option.bind (
              bif (decide (r11 = 0)) then
                bif (decide (r10 = r3)) then
                  bif (decide (r13 = 0)) then
                    bif (decide (((r12.length : Nat) : Int) = ((r5.length : Nat) : Int))) then
                      Option.bind (getI r12 (w64 (((r12.length : Nat) : Int) - 1))) fun x4 =>
                      bif (decide (x4 = ((l1.length : Nat) : Int))) then
                        Option.bind (recyclinglaw27_awake F) fun r14 =>
                        some r14
                      else
                        some false
                    else
                      some false
                  else
                    some false
                else
                  some false
              else
                some false) (fun v3 =>
              some v3))))

def recyclinglaw27_TicketWindows (F : Nat) (s1 : (List T_api_Scale)) (l1 : (List T_api_Ticket)) (x1 : T_arr3_3) : Option (Bool) :=
  Option.bind (
    Option.bind (recyclinglaw27_great s1 l1) fun r1 =>
    bif r1 then
      some true
    else
      bif (decide (x1.e1 < x1.e0)) then
        some true
      else
        some (decide (x1.e2 < x1.e1))) (fun v1 =>
    bif v1 then
      Option.bind (recyclinglaw27_awake F) fun r2 =>
      some r2
    else
      Option.bind (ticket_Total F s1 l1 (T_api_Window.mk x1.e0 x1.e2)) fun j_ => oun j_ fun r3 r4 => 
      Option.bind (ticket_Total F s1 l1 (T_api_Window.mk x1.e0 x1.e1)) fun j_ => oun j_ fun r5 r6 => 
      Option.bind (ticket_Total F s1 l1 (T_api_Window.mk x1.e1 x1.e2)) fun j_ => oun j_ fun r7 r8 => 
      bif (!(decide (r4 = 0))) then
        Option.bind (
          bif (decide (r3 = (T_api_Span.mk 0 0))) then
            Option.bind (recyclinglaw27_awake F) fun r9 =>
            some r9
          else
            some false) (fun v2 =>
          some v2)
      else
        Option.bind (
          bif (decide (r6 = 0)) then
            bif (decide (r8 = 0)) then
              bif (decide (r3 = (T_api_Span.mk (w64 (r5.Lo + r7.Lo)) (w64 (r5.Hi + r7.Hi))))) then
                Option.bind (recyclinglaw27_awake F) fun r10 =>
                some r10
              else
                some false
            else
              some false
          else
            some false) (fun v3 =>
          some v3))

def scale_Error (s1 : T_api_Scale) (mass1 : Int) (t1 : Int) : Option (Int × Int) :=
  Option.bind (
    Option.bind (scale_Check s1) fun r1 =>
    bif (!(decide (r1 = 0))) then
      some true
    else
      Option.bind (scale_between 0 mass1 1073741824) fun r2 =>
      bif (!r2) then
        some true
      else
        Option.bind (scale_between 0 t1 3155759999) fun r3 =>
        some (!r3)) (fun v1 =>
    bif v1 then
      some (0, 1)
    else
      bif (decide (t1 < s1.Checked)) then
        some (0, 9)
      else
        Option.bind (scale_bound s1 mass1 t1) fun r4 =>
        some (r4, 0))

def scale_Could (s1 : T_api_Scale) (mass1 : Int) (shown1 : Int) (t1 : Int) : Option (Bool) :=
  Option.bind (scale_Error s1 mass1 t1) fun j_ => oun j_ fun r1 r2 => 
  Option.bind (
    bif (decide (r2 = 0)) then
      Option.bind (scale_shows s1 shown1) fun r3 =>
      bif r3 then
        Option.bind (scale_near s1 mass1 shown1 t1) fun r4 =>
        some r4
      else
        some false
    else
      some false) (fun v1 =>
    some v1)

def recyclinglaw27_TicketNet (F : Nat) (s1 : (List T_api_Scale)) (x1 : T_api_Ticket) (m1 : T_arr2_3) : Option (Bool) :=
  bif (decide (20 < ((s1.length : Nat) : Int))) then
    Option.bind (recyclinglaw27_awake F) fun r1 =>
    some r1
  else
    Option.bind (ticket_Net F s1 x1) fun j_ => oun j_ fun r2 r3 => 
    bif (!(decide (r3 = 0))) then
      Option.bind (
        bif (decide (r2 = (T_api_Span.mk 0 0))) then
          Option.bind (recyclinglaw27_awake F) fun r4 =>
          some r4
        else
          some false) (fun v1 =>
        some v1)
    else
      Option.bind (
        bif (decide (x1.Scale < 0)) then
          some true
        else
          bif (decide (((s1.length : Nat) : Int) ≤ x1.Scale)) then
            some true
          else
            bif (decide (r2.Lo < 0)) then
              some true
            else
              bif (decide (r2.Hi < r2.Lo)) then
                some true
              else
                some (decide (1073741824 < r2.Hi))) (fun v2 =>
        bif v2 then
          some false
        else
          Option.bind (
            Option.bind (getI s1 x1.Scale) fun x2 =>
            Option.bind (scale_Could x2 m1.e0 x1.Gross x1.At) fun r5 =>
            bif (!r5) then
              some true
            else
              Option.bind (getI s1 x1.Scale) fun x3 =>
              Option.bind (scale_Could x3 m1.e1 x1.Tare x1.At) fun r6 =>
              bif (!r6) then
                some true
              else
                some (decide (m1.e0 < m1.e1))) (fun v3 =>
            bif v3 then
              Option.bind (recyclinglaw27_awake F) fun r7 =>
              some r7
            else
              Option.bind (
                bif (decide (r2.Lo ≤ (w64 (m1.e0 - m1.e1)))) then
                  bif (decide ((w64 (m1.e0 - m1.e1)) ≤ r2.Hi)) then
                    Option.bind (recyclinglaw27_awake F) fun r8 =>
                    some r8
                  else
                    some false
                else
                  some false) (fun v4 =>
                some v4)))

end Go.Proofs.Ytchakbpjokemnaa
