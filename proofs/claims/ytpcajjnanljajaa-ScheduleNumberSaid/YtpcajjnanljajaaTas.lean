/- Printed by gen.py of this repo: specifications of Go functions as Lean functions. -/
import Derived.Test.YtpcajjnanljajaaGa
import Derived.Test.YtpcajjnanljajaaGs
namespace Go.Proofs.Ytpcajjnanljajaa
open Go.RowKit
set_option linter.unusedSimpArgs false
set_option linter.unusedVariables false

structure T_api_Move where
  From : Int
  To : Int
deriving DecidableEq

def enc_api_Move (x : T_api_Move) : List Value := [.int .i64 x.From, .int .i64 x.To]
def r_api_Move : Rp T_api_Move := rFlat 2 enc_api_Move (fun _ => rfl) (by intro x u hu; simp only [enc_api_Move, List.mem_cons, List.not_mem_nil, or_false] at hu; rcases hu with rfl | rfl <;> rfl)

structure T_api_Schedule where
  Container : Int
  Start : Int
  Every : Int
  Moves : (List T_api_Move)
deriving DecidableEq

def r_api_Schedule : Rp T_api_Schedule where
  sz := 4
  rep μ x cs := ∃ (A3 : Option Addr) (c3 : Nat), cs = [.int .i64 x.Container, .int .i64 x.Start, .int .i64 x.Every, .slice A3 x.Moves.length c3] ∧ (x.Moves.length ≤ c3 ∧ c3 ≤ maxLen) ∧ ArrR r_api_Move μ A3 x.Moves
  len := by rintro μ x cs ⟨A3, c3, rfl, _⟩; rfl
  mono := by rintro μ μ' x cs hm ⟨A3, c3, h, hl3, ha3⟩; exact ⟨A3, c3, h, hl3, ha3.mono hm⟩
  one := by rintro μ x cs ⟨A3, c3, rfl, _⟩ u hu; simp only [List.mem_cons, List.not_mem_nil, or_false] at hu; rcases hu with rfl | rfl | rfl | rfl <;> rfl

def wf_api_Move (x : T_api_Move) : Prop := (wfI .i64) x.From ∧ (wfI .i64) x.To
def wf_api_Schedule (x : T_api_Schedule) : Prop := (wfI .i64) x.Container ∧ (wfI .i64) x.Start ∧ (wfI .i64) x.Every ∧ (fun xs : List T_api_Move => ∀ x ∈ xs, wf_api_Move x) x.Moves

def schedule_day (d1 : Int) : Option (Bool) :=
  Option.bind (
    bif (decide (0 ≤ d1)) then
      some (decide (d1 ≤ 36524))
    else
      some false) (fun v1 =>
    some v1)

def schedule_pattern (s1 : T_api_Schedule) (d1 : Int) : Option (Bool) :=
  Option.bind (
    Option.bind (schedule_day d1) fun r1 =>
    bif r1 then
      bif (decide (s1.Start ≤ d1)) then
        Option.bind (guardO (s1.Every ≠ 0)) fun _ =>
        some (decide ((Int.tmod (w64 (d1 - s1.Start)) s1.Every) = 0))
      else
        some false
    else
      some false) (fun v1 =>
    some v1)

def schedule_Check_l1 (s1 : T_api_Schedule) (v2 : Int) : Option ((Int) ⊕ (Unit ⊕ Int)) :=
  bif (decide (v2 < ((s1.Moves.length : Nat) : Int))) then
    Option.bind (getI s1.Moves v2) fun x1 =>
    Option.bind (schedule_pattern s1 x1.From) fun r2 =>
    bif (!r2) then
      some (.inr (.inr 7))
    else
      Option.bind (schedule_day x1.To) fun r3 =>
      bif (!r3) then
        some (.inr (.inr 1))
      else
        Option.bind (schedule_pattern s1 x1.To) fun r4 =>
        bif r4 then
          some (.inr (.inr 12))
        else
          some (.inl (w64 (v2 + 1)))
  else
    some (.inr (.inl ()))

def schedule_Check_l2 (s1 : T_api_Schedule) (j_ : (List (Int × Bool)) × (List (Int × Bool)) × Int) : Option (((List (Int × Bool)) × (List (Int × Bool)) × Int) ⊕ (Unit ⊕ Int)) :=
  oun j_ fun m1 j_ => oun j_ fun m2 v3 => 
  bif (decide (v3 < ((s1.Moves.length : Nat) : Int))) then
    Option.bind (getI s1.Moves v3) fun x2 =>
    Option.bind (
      bif ((mget x2.From m1).getD false) then
        some true
      else
        some ((mget x2.To m2).getD false)) (fun v4 =>
      bif v4 then
        some (.inr (.inr 6))
      else
        some (.inl ((mput x2.From true m1), (mput x2.To true m2), w64 (v3 + 1))))
  else
    some (.inr (.inl ()))

def schedule_Check (s1 : T_api_Schedule) : Option (Int) :=
  Option.bind (
    bif (decide (s1.Container < 0)) then
      some true
    else
      bif (decide (256 ≤ s1.Container)) then
        some true
      else
        Option.bind (schedule_day s1.Start) fun r1 =>
        bif (!r1) then
          some true
        else
          bif (decide (s1.Every < 1)) then
            some true
          else
            some (decide (365 < s1.Every))) (fun v1 =>
    bif v1 then
      some 1
    else
      bif (decide (32 < ((s1.Moves.length : Nat) : Int))) then
        some 8
      else
        Option.bind (
          iter (schedule_Check_l1 s1) (((s1.Moves.length : Nat) : Int).toNat + 1) 0) (fun o_ => osum o_ (fun _ =>
          Option.bind (
            iter (schedule_Check_l2 s1) (((s1.Moves.length : Nat) : Int).toNat + 1) ([], [], 0)) (fun o_ => osum o_ (fun _ =>
            some 0) (fun rv72 => some rv72))) (fun rv23 => some rv23)))

def recyclingref17_valid (day1 : Int) : Option (Bool) :=
  Option.bind (
    bif (decide (0 ≤ day1)) then
      some (decide (day1 ≤ 36524))
    else
      some false) (fun v1 =>
    some v1)

def recyclingref17_Pattern (s1 : T_api_Schedule) (day1 : Int) : Option (Bool) :=
  Option.bind (
    Option.bind (recyclingref17_valid day1) fun r1 =>
    bif r1 then
      bif (decide (s1.Start ≤ day1)) then
        Option.bind (guardO (s1.Every ≠ 0)) fun _ =>
        some (decide ((Int.tmod (w64 (day1 - s1.Start)) s1.Every) = 0))
      else
        some false
    else
      some false) (fun v1 =>
    some v1)

def recyclingref17_Check_l1 (s1 : T_api_Schedule) (i1 : Int) : Option ((Int) ⊕ (Unit ⊕ Int)) :=
  bif (decide (i1 < ((s1.Moves.length : Nat) : Int))) then
    Option.bind (getI s1.Moves i1) fun x1 =>
    Option.bind (recyclingref17_Pattern s1 x1.From) fun r2 =>
    bif (!r2) then
      some (.inr (.inr 7))
    else
      Option.bind (getI s1.Moves i1) fun x2 =>
      Option.bind (recyclingref17_valid x2.To) fun r3 =>
      bif (!r3) then
        some (.inr (.inr 1))
      else
        Option.bind (getI s1.Moves i1) fun x3 =>
        Option.bind (recyclingref17_Pattern s1 x3.To) fun r4 =>
        bif r4 then
          some (.inr (.inr 12))
        else
          some (.inl (w64 (i1 + 1)))
  else
    some (.inr (.inl ()))

def recyclingref17_Check_l2 (s1 : T_api_Schedule) (i2 : Int) (k1 : Int) : Option ((Int) ⊕ (Unit ⊕ Int)) :=
  bif (decide (k1 < i2)) then
    Option.bind (
      Option.bind (getI s1.Moves i2) fun x4 =>
      Option.bind (getI s1.Moves k1) fun x5 =>
      bif (decide (x4.From = x5.From)) then
        some true
      else
        Option.bind (getI s1.Moves i2) fun x6 =>
        Option.bind (getI s1.Moves k1) fun x7 =>
        some (decide (x6.To = x7.To))) (fun v2 =>
      bif v2 then
        some (.inr (.inr 6))
      else
        some (.inl (w64 (k1 + 1))))
  else
    some (.inr (.inl ()))

def recyclingref17_Check_l3 (s1 : T_api_Schedule) (i2 : Int) : Option ((Int) ⊕ (Unit ⊕ Int)) :=
  bif (decide (i2 < ((s1.Moves.length : Nat) : Int))) then
    Option.bind (
      Option.bind (
        iter (recyclingref17_Check_l2 s1 i2) (i2.toNat + 1) 0) (fun o_ => osum o_ (fun _ =>
        some (.inl ())) (fun rv219 => some (.inr rv219)))) (fun o_ => osum o_ (fun _ =>
      some (.inl (w64 (i2 + 1)))) (fun rv217 => some (.inr (.inr rv217))))
  else
    some (.inr (.inl ()))

def recyclingref17_Check (s1 : T_api_Schedule) : Option (Int) :=
  Option.bind (
    bif (decide (s1.Container < 0)) then
      some true
    else
      bif (decide (256 ≤ s1.Container)) then
        some true
      else
        Option.bind (recyclingref17_valid s1.Start) fun r1 =>
        bif (!r1) then
          some true
        else
          bif (decide (s1.Every < 1)) then
            some true
          else
            some (decide (365 < s1.Every))) (fun v1 =>
    bif v1 then
      some 1
    else
      bif (decide (32 < ((s1.Moves.length : Nat) : Int))) then
        some 8
      else
        Option.bind (
          iter (recyclingref17_Check_l1 s1) (((s1.Moves.length : Nat) : Int).toNat + 1) 0) (fun o_ => osum o_ (fun _ =>
          Option.bind (
            iter (recyclingref17_Check_l3 s1) (((s1.Moves.length : Nat) : Int).toNat + 1) 0) (fun o_ => osum o_ (fun _ =>
            some 0) (fun rv171 => some rv171))) (fun rv131 => some rv131)))

def recyclinglaw17_sample : Option (T_api_Schedule) :=
  some (T_api_Schedule.mk 0 2 7 [(T_api_Move.mk 9 10)])

def schedule_held_l1 (s1 : T_api_Schedule) (j_ : (List (Int × Bool)) × Int) : Option (((List (Int × Bool)) × Int) ⊕ ((List (Int × Bool)))) :=
  oun j_ fun m1 v1 => 
  bif (decide (v1 < ((s1.Moves.length : Nat) : Int))) then
    Option.bind (getI s1.Moves v1) fun x1 =>
    some (.inl ((mput x1.To true (mput x1.From false m1)), w64 (v1 + 1)))
  else
    some (.inr m1)

def schedule_held (s1 : T_api_Schedule) : Option ((List (Int × Bool))) :=
  Option.bind (
    iter (schedule_held_l1 s1) (((s1.Moves.length : Nat) : Int).toNat + 1) ([], 0)) (fun m2 =>
    some m2)

def schedule_due (s1 : T_api_Schedule) (moved1 : (List (Int × Bool))) (d1 : Int) : Option (Bool) :=
  bif ((mget d1 moved1).isSome) then
    some ((mget d1 moved1).getD false)
  else
    Option.bind (schedule_pattern s1 d1) fun r1 =>
    some r1

def schedule_Days_l1 (s1 : T_api_Schedule) (f_to1 : Int) (r2 : (List (Int × Bool))) (j_ : (List Int) × Int) : Option (((List Int) × Int) ⊕ ((List Int))) :=
  oun j_ fun out1 d1 => 
  bif (decide (d1 < f_to1)) then
    Option.bind (
      Option.bind (schedule_due s1 r2 d1) fun r3 =>
      bif r3 then
        Option.bind (appO out1 [d1]) fun l1 =>
        some l1
      else
        some out1) (fun out2 =>
      some (.inl (out2, w64 (d1 + s1.Every))))
  else
    some (.inr out1)

def schedule_Days_l2 (s1 : T_api_Schedule) (f_from1 : Int) (f_to1 : Int) (j_ : (List Int) × Int) : Option (((List Int) × Int) ⊕ ((List Int))) :=
  oun j_ fun out4 v2 => 
  bif (decide (v2 < ((s1.Moves.length : Nat) : Int))) then
    Option.bind (
      Option.bind (getI s1.Moves v2) fun x1 =>
      Option.bind (
        bif (decide (f_from1 ≤ x1.To)) then
          some (decide (x1.To < f_to1))
        else
          some false) (fun v3 =>
        bif v3 then
          Option.bind (appO out4 [x1.To]) fun l2 =>
          some l2
        else
          some out4)) (fun out5 =>
      some (.inl (out5, w64 (v2 + 1))))
  else
    some (.inr out4)

def schedule_Days (F : Nat) (s1 : T_api_Schedule) (f_from1 : Int) (f_to1 : Int) : Option ((List Int) × Int) :=
  Option.bind (schedule_Check s1) fun r1 =>
  bif (!(decide (r1 = 0))) then
    some ([], r1)
  else
    Option.bind (
      bif (decide (f_from1 < 0)) then
        some true
      else
        bif (decide (f_to1 < f_from1)) then
          some true
        else
          some (decide (36525 < f_to1))) (fun v1 =>
      bif v1 then
        some ([], 1)
      else
        Option.bind (schedule_held s1) fun r2 =>
        Option.bind (
          bif (decide (s1.Start < f_from1)) then
            Option.bind (guardO (s1.Every ≠ 0)) fun _ =>
            some (w64 (s1.Start + (w64 ((w64 (Int.tdiv (w64 ((w64 ((w64 (f_from1 - s1.Start)) + s1.Every)) - 1)) s1.Every)) * s1.Every))))
          else
            some s1.Start) (fun first1 =>
          Option.bind (
            iter (schedule_Days_l1 s1 f_to1 r2) F ([], first1)) (fun out3 =>
            Option.bind (
              iter (schedule_Days_l2 s1 f_from1 f_to1) (((s1.Moves.length : Nat) : Int).toNat + 1) (out3, 0)) (fun out6 =>
              Option.bind (sortO out6) fun l3 =>
              some (l3, 0)))))

def schedule_Count (F : Nat) (s1 : T_api_Schedule) (f_from1 : Int) (f_to1 : Int) : Option (Int × Int) :=
  Option.bind (schedule_Days F s1 f_from1 f_to1) fun j_ => oun j_ fun r1 r2 => 
  some (((r1.length : Nat) : Int), r2)

def schedule_Next (F : Nat) (s1 : T_api_Schedule) (d1 : Int) : Option (Int × Int) :=
  Option.bind (schedule_Check s1) fun r1 =>
  bif (!(decide (r1 = 0))) then
    some (0, r1)
  else
    Option.bind (schedule_day d1) fun r2 =>
    bif (!r2) then
      some (0, 1)
    else
      Option.bind (schedule_Days F s1 d1 36525) fun j_ => oun j_ fun r3 r4 => 
      bif (decide (((r3.length : Nat) : Int) = 0)) then
        some (0, 7)
      else
        Option.bind (getI r3 0) fun x1 =>
        some (x1, 0)

def schedule_Due (s1 : T_api_Schedule) (d1 : Int) : Option (Bool) :=
  Option.bind (
    Option.bind (schedule_Check s1) fun r1 =>
    bif (decide (r1 = 0)) then
      Option.bind (schedule_held s1) fun r2 =>
      Option.bind (schedule_due s1 r2 d1) fun r3 =>
      some r3
    else
      some false) (fun v1 =>
    some v1)

def recyclingref17_Same_l1 (a1 : (List Int)) (b1 : (List Int)) (i1 : Int) : Option ((Int) ⊕ (Unit ⊕ Bool)) :=
  bif (decide (i1 < ((a1.length : Nat) : Int))) then
    Option.bind (getI a1 i1) fun x1 =>
    Option.bind (getI b1 i1) fun x2 =>
    bif (!(decide (x1 = x2))) then
      some (.inr (.inr false))
    else
      some (.inl (w64 (i1 + 1)))
  else
    some (.inr (.inl ()))

def recyclingref17_Same (a1 : (List Int)) (b1 : (List Int)) : Option (Bool) :=
  bif (!(decide (((a1.length : Nat) : Int) = ((b1.length : Nat) : Int)))) then
    some false
  else
    Option.bind (
      iter (recyclingref17_Same_l1 a1 b1) (((a1.length : Nat) : Int).toNat + 1) 0) (fun o_ => osum o_ (fun _ =>
      some true) (fun rv482 => some rv482))

def recyclinglaw17_awake (F : Nat) : Option (Bool) :=
  Option.bind (recyclinglaw17_sample) fun r1 =>
  Option.bind (schedule_Days F r1 3 24) fun j_ => oun j_ fun r2 r3 => 
  Option.bind (schedule_Count F r1 3 24) fun j_ => oun j_ fun r4 r5 => 
  Option.bind (schedule_Next F r1 11) fun j_ => oun j_ fun r6 r7 => 
  Option.bind (schedule_Next F (T_api_Schedule.mk 0 36520 7 []) 36521) fun j_ => oun j_ fun r8 r9 => 
  Option.bind (
    Option.bind (schedule_Check r1) fun r10 =>
    bif (decide (r10 = 0)) then
      Option.bind (schedule_Check (T_api_Schedule.mk 0 2 7 [(T_api_Move.mk 8 10)])) fun r11 =>
      bif (decide (r11 = 7)) then
        Option.bind (schedule_Due r1 2) fun r12 =>
        bif r12 then
          Option.bind (schedule_Due r1 9) fun r13 =>
          bif (!r13) then
            Option.bind (schedule_Due r1 10) fun r14 =>
            bif r14 then
              Option.bind (recyclingref17_Same r2 [10, 16, 23]) fun r15 =>
              bif r15 then
                bif (decide (r3 = 0)) then
                  bif (decide (r4 = 3)) then
                    bif (decide (r5 = 0)) then
                      bif (decide (r6 = 16)) then
                        bif (decide (r7 = 0)) then
                          some (decide (r9 = 7))
                        else
                          some false
                      else
                        some false
                    else
                      some false
                  else
                    some false
                else
                  some false
              else
                some false
            else
              some false
          else
            some false
        else
          some false
      else
        some false
    else
      some false) (fun v3 =>
    some v3)

def recyclinglaw17_ScheduleChecks (F : Nat) (s1 : T_api_Schedule) : Option (Bool) :=
  Option.bind (
    bif (decide (200 < ((s1.Moves.length : Nat) : Int))) then
      Option.bind (recyclinglaw17_awake F) fun r4 =>
      some r4
    else
      Option.bind (schedule_Check s1) fun r1 =>
      Option.bind (recyclingref17_Check s1) fun r2 =>
      bif (decide (r1 = r2)) then
        Option.bind (recyclinglaw17_awake F) fun r3 =>
        some r3
      else
        some false) (fun v3 =>
    some v3)

def recyclingref17_day_l1 (s1 : T_api_Schedule) (d1 : Int) (j_ : Bool × Int) : Option ((Bool × Int) ⊕ (Bool)) :=
  oun j_ fun is1 i1 => 
  bif (decide (i1 < ((s1.Moves.length : Nat) : Int))) then
    Option.bind (
      Option.bind (getI s1.Moves i1) fun x1 =>
      Option.bind (
        bif (decide (x1.From = d1)) then
          some false
        else
          some is1) (fun is2 =>
        Option.bind (getI s1.Moves i1) fun x2 =>
        bif (decide (x2.To = d1)) then
          some true
        else
          some is2)) (fun is3 =>
      some (.inl (is3, w64 (i1 + 1))))
  else
    some (.inr is1)

def recyclingref17_day (s1 : T_api_Schedule) (d1 : Int) : Option (Bool) :=
  Option.bind (recyclingref17_Pattern s1 d1) fun r1 =>
  Option.bind (
    iter (recyclingref17_day_l1 s1 d1) (((s1.Moves.length : Nat) : Int).toNat + 1) (r1, 0)) (fun is4 =>
    some is4)

def recyclingref17_Due (s1 : T_api_Schedule) (d1 : Int) : Option (Bool) :=
  Option.bind (
    Option.bind (recyclingref17_Check s1) fun r1 =>
    bif (decide (r1 = 0)) then
      Option.bind (recyclingref17_day s1 d1) fun r2 =>
      some r2
    else
      some false) (fun v1 =>
    some v1)

def recyclinglaw17_ScheduleDues (F : Nat) (s1 : T_api_Schedule) (day1 : Int) : Option (Bool) :=
  Option.bind (
    bif (decide (200 < ((s1.Moves.length : Nat) : Int))) then
      Option.bind (recyclinglaw17_awake F) fun r4 =>
      some r4
    else
      Option.bind (schedule_Due s1 day1) fun r1 =>
      Option.bind (recyclingref17_Due s1 day1) fun r2 =>
      bif (r1 == r2) then
        Option.bind (recyclinglaw17_awake F) fun r3 =>
        some r3
      else
        some false) (fun v3 =>
    some v3)

def recyclingref17_Days_l1 (s1 : T_api_Schedule) (f_to1 : Int) (j_ : (List Int) × Int) : Option (((List Int) × Int) ⊕ ((List Int))) :=
  oun j_ fun out1 d1 => 
  bif (decide (d1 < f_to1)) then
    Option.bind (
      Option.bind (recyclingref17_day s1 d1) fun r2 =>
      bif r2 then
        Option.bind (appO out1 [d1]) fun l1 =>
        some l1
      else
        some out1) (fun out2 =>
      some (.inl (out2, w64 (d1 + 1))))
  else
    some (.inr out1)

def recyclingref17_Days (F : Nat) (s1 : T_api_Schedule) (f_from1 : Int) (f_to1 : Int) : Option ((List Int) × Int) :=
  Option.bind (recyclingref17_Check s1) fun r1 =>
  bif (!(decide (r1 = 0))) then
    some ([], r1)
  else
    Option.bind (
      bif (decide (f_from1 < 0)) then
        some true
      else
        bif (decide (f_to1 < f_from1)) then
          some true
        else
          some (decide (36525 < f_to1))) (fun v1 =>
      bif v1 then
        some ([], 1)
      else
        Option.bind (
          iter (recyclingref17_Days_l1 s1 f_to1) F ([], f_from1)) (fun out3 =>
          some (out3, 0)))

def recyclinglaw17_ScheduleDays (F : Nat) (s1 : T_api_Schedule) (f_from1 : Int) (f_to1 : Int) : Option (Bool) :=
  bif (decide (200 < ((s1.Moves.length : Nat) : Int))) then
    Option.bind (recyclinglaw17_awake F) fun r1 =>
    some r1
  else
    Option.bind (schedule_Days F s1 f_from1 f_to1) fun j_ => oun j_ fun r2 r3 => 
    Option.bind (recyclingref17_Days F s1 f_from1 f_to1) fun j_ => oun j_ fun r4 r5 => 
    Option.bind (schedule_Count F s1 f_from1 f_to1) fun j_ => oun j_ fun r6 r7 => 
    Option.bind (
      Option.bind (recyclingref17_Same r2 r4) fun r8 =>
      bif r8 then
        bif (decide (r3 = r5)) then
          bif (decide (r6 = ((r4.length : Nat) : Int))) then
            bif (decide (r7 = r5)) then
              Option.bind (recyclinglaw17_awake F) fun r9 =>
              some r9
            else
              some false
          else
            some false
        else
          some false
      else
        some false) (fun v3 =>
      some v3)

def recyclingref17_Next_l1 (s1 : T_api_Schedule) (d2 : Int) : Option ((Int) ⊕ (Unit ⊕ (Int × Int))) :=
  bif (decide (d2 ≤ 36524)) then
    Option.bind (recyclingref17_day s1 d2) fun r3 =>
    bif r3 then
      some (.inr (.inr (d2, 0)))
    else
      some (.inl (w64 (d2 + 1)))
  else
    some (.inr (.inl ()))

def recyclingref17_Next (F : Nat) (s1 : T_api_Schedule) (d1 : Int) : Option (Int × Int) :=
  Option.bind (recyclingref17_Check s1) fun r1 =>
  bif (!(decide (r1 = 0))) then
    some (0, r1)
  else
    Option.bind (recyclingref17_valid d1) fun r2 =>
    bif (!r2) then
      some (0, 1)
    else
      Option.bind (
        iter (recyclingref17_Next_l1 s1) F d1) (fun o_ => osum o_ (fun _ =>
        some (0, 7)) (fun rv684 => some rv684))

def recyclinglaw17_ScheduleNexts (F : Nat) (s1 : T_api_Schedule) (day1 : Int) : Option (Bool) :=
  bif (decide (200 < ((s1.Moves.length : Nat) : Int))) then
    Option.bind (recyclinglaw17_awake F) fun r1 =>
    some r1
  else
    Option.bind (schedule_Next F s1 day1) fun j_ => oun j_ fun r2 r3 => 
    Option.bind (recyclingref17_Next F s1 day1) fun j_ => oun j_ fun r4 r5 => 
    Option.bind (
      bif (decide (r2 = r4)) then
        bif (decide (r3 = r5)) then
          Option.bind (recyclinglaw17_awake F) fun r6 =>
          some r6
        else
          some false
      else
        some false) (fun v3 =>
      some v3)

def recyclinglaw17_SchedulePattern_l1 (s1 : T_api_Schedule) (d1 : Int) (j_ : Bool × Int) : Option ((Bool × Int) ⊕ (Bool)) :=
  oun j_ fun want2 i1 => 
  bif (decide (i1 < ((s1.Moves.length : Nat) : Int))) then
    Option.bind (
      Option.bind (getI s1.Moves i1) fun x1 =>
      bif (decide (x1.From = d1)) then
        some false
      else
        some want2) (fun want3 =>
      some (.inl (want3, w64 (i1 + 1))))
  else
    some (.inr want2)

def recyclinglaw17_SchedulePattern_l2 (s1 : T_api_Schedule) (d1 : Int) (j_ : Bool × Int) : Option ((Bool × Int) ⊕ (Bool)) :=
  oun j_ fun want5 i2 => 
  bif (decide (i2 < ((s1.Moves.length : Nat) : Int))) then
    Option.bind (
      Option.bind (getI s1.Moves i2) fun x2 =>
      bif (decide (x2.To = d1)) then
        some true
      else
        some want5) (fun want6 =>
      some (.inl (want6, w64 (i2 + 1))))
  else
    some (.inr want5)

def recyclinglaw17_SchedulePattern_l3 (s1 : T_api_Schedule) (f_from1 : Int) (days1 : Int) (r3 : (List Int)) (j_ : Int × Int) : Option ((Int × Int) ⊕ (Int ⊕ Bool)) :=
  oun j_ fun f_at1 d1 => 
  bif (decide (d1 < (w64 (f_from1 + days1)))) then
    Option.bind (
      Option.bind (
        bif (decide (s1.Start ≤ d1)) then
          Option.bind (guardO (s1.Every ≠ 0)) fun _ =>
          some (decide ((Int.tmod (w64 (d1 - s1.Start)) s1.Every) = 0))
        else
          some false) (fun want1 =>
        Option.bind (
          iter (recyclinglaw17_SchedulePattern_l1 s1 d1) (((s1.Moves.length : Nat) : Int).toNat + 1) (want1, 0)) (fun want4 =>
          Option.bind (
            iter (recyclinglaw17_SchedulePattern_l2 s1 d1) (((s1.Moves.length : Nat) : Int).toNat + 1) (want4, 0)) (fun want7 =>
            Option.bind (schedule_Due s1 d1) fun r5 =>
            bif (!(r5 == want7)) then
              some (.inr false)
            else
              bif want7 then
                Option.bind (
                  bif (decide (((r3.length : Nat) : Int) ≤ f_at1)) then
                    some true
                  else
                    Option.bind (getI r3 f_at1) fun x3 =>
                    some (!(decide (x3 = d1)))) (fun v4 =>
                  bif v4 then
                    some (.inr false)
                  else
                    some (.inl (w64 (f_at1 + 1))))
              else
                some (.inl f_at1))))) (fun o_ => osum o_ (fun f_at2 =>
      some (.inl (f_at2, w64 (d1 + 1)))) (fun rv1007 => some (.inr (.inr rv1007))))
  else
    some (.inr (.inl f_at1))

def recyclinglaw17_SchedulePattern (F : Nat) (s1 : T_api_Schedule) (f_from1 : Int) (days1 : Int) : Option (Bool) :=
  Option.bind (
    bif (decide (200 < ((s1.Moves.length : Nat) : Int))) then
      some true
    else
      Option.bind (schedule_Check s1) fun r1 =>
      bif (!(decide (r1 = 0))) then
        some true
      else
        bif (decide (f_from1 < 0)) then
          some true
        else
          bif (decide (36524 < f_from1)) then
            some true
          else
            bif (decide (days1 < 0)) then
              some true
            else
              bif (decide (400 < days1)) then
                some true
              else
                some (decide ((w64 (36525 - f_from1)) < days1))) (fun v1 =>
    bif v1 then
      Option.bind (recyclinglaw17_awake F) fun r2 =>
      some r2
    else
      Option.bind (
        bif (decide (s1.Every < 1)) then
          some true
        else
          some (decide (32 < ((s1.Moves.length : Nat) : Int)))) (fun v3 =>
        bif v3 then
          some false
        else
          Option.bind (schedule_Days F s1 f_from1 (w64 (f_from1 + days1))) fun j_ => oun j_ fun r3 r4 => 
          bif (!(decide (r4 = 0))) then
            some false
          else
            Option.bind (
              iter (recyclinglaw17_SchedulePattern_l3 s1 f_from1 days1 r3) F (0, f_from1)) (fun o_ => osum o_ (fun f_at3 =>
              Option.bind (
                bif (decide (f_at3 = ((r3.length : Nat) : Int))) then
                  Option.bind (recyclinglaw17_awake F) fun r6 =>
                  some r6
                else
                  some false) (fun v6 =>
                some v6)) (fun rv921 => some rv921))))

def recyclinglaw17_ScheduleNumber (F : Nat) (s1 : T_api_Schedule) : Option (Bool) :=
  Option.bind (
    bif (decide (200 < ((s1.Moves.length : Nat) : Int))) then
      some true
    else
      Option.bind (schedule_Check s1) fun r1 =>
      some (!(decide (r1 = 0)))) (fun v1 =>
    bif v1 then
      Option.bind (recyclinglaw17_awake F) fun r2 =>
      some r2
    else
      Option.bind (
        bif (decide (s1.Every < 1)) then
          some true
        else
          bif (decide (s1.Start < 0)) then
            some true
          else
            some (decide (36524 < s1.Start))) (fun v3 =>
        bif v3 then
          some false
        else
          Option.bind (schedule_Count F s1 0 36525) fun j_ => oun j_ fun r3 r4 => 
          Option.bind (
            Option.bind (guardO (s1.Every ≠ 0)) fun _ =>
            bif (decide (r3 = (w64 ((w64 (Int.tdiv (w64 (36524 - s1.Start)) s1.Every)) + 1)))) then
              bif (decide (r4 = 0)) then
                Option.bind (recyclinglaw17_awake F) fun r5 =>
                some r5
              else
                some false
            else
              some false) (fun v5 =>
            some v5)))

def recyclinglaw17_ScheduleSplits (F : Nat) (s1 : T_api_Schedule) (f_from1 : Int) (middle1 : Int) : Option (Bool) :=
  Option.bind (
    bif (decide (200 < ((s1.Moves.length : Nat) : Int))) then
      some true
    else
      Option.bind (schedule_Check s1) fun r1 =>
      bif (!(decide (r1 = 0))) then
        some true
      else
        bif (decide (f_from1 < 0)) then
          some true
        else
          bif (decide (middle1 < f_from1)) then
            some true
          else
            some (decide (36524 < middle1))) (fun v1 =>
    bif v1 then
      Option.bind (recyclinglaw17_awake F) fun r2 =>
      some r2
    else
      Option.bind (schedule_Count F s1 f_from1 middle1) fun j_ => oun j_ fun r3 r4 => 
      Option.bind (schedule_Count F s1 middle1 36525) fun j_ => oun j_ fun r5 r6 => 
      Option.bind (schedule_Count F s1 f_from1 36525) fun j_ => oun j_ fun r7 r8 => 
      Option.bind (schedule_Days F s1 f_from1 36525) fun j_ => oun j_ fun r9 r10 => 
      Option.bind (
        bif (!(decide (r4 = 0))) then
          some true
        else
          bif (!(decide (r6 = 0))) then
            some true
          else
            bif (!(decide (r8 = 0))) then
              some true
            else
              bif (!(decide (r10 = 0))) then
                some true
              else
                bif (!(decide ((w64 (r3 + r5)) = r7))) then
                  some true
                else
                  some (!(decide (((r9.length : Nat) : Int) = r7)))) (fun v3 =>
        bif v3 then
          some false
        else
          Option.bind (schedule_Next F s1 f_from1) fun j_ => oun j_ fun r11 r12 => 
          bif (decide (((r9.length : Nat) : Int) = 0)) then
            Option.bind (
              bif (decide (r11 = 0)) then
                bif (decide (r12 = 7)) then
                  Option.bind (recyclinglaw17_awake F) fun r13 =>
                  some r13
                else
                  some false
              else
                some false) (fun v5 =>
              some v5)
          else
            Option.bind (
              Option.bind (getI r9 0) fun x1 =>
              bif (decide (r11 = x1)) then
                bif (decide (r12 = 0)) then
                  Option.bind (recyclinglaw17_awake F) fun r14 =>
                  some r14
                else
                  some false
              else
                some false) (fun v7 =>
              some v7)))

end Go.Proofs.Ytpcajjnanljajaa
