/- Printed by gen.py of this repo: specifications of Go functions as Lean functions. -/
import Derived.Test.YticcfpmehjcjcaaGa
namespace Go.Proofs.Yticcfpmehjcjcaa
open Go.RowKit
set_option linter.unusedSimpArgs false
set_option linter.unusedVariables false

structure T_recyclinglaw56_Act where
  Kind : Int
  Bill : Int
  Amount : Int
  At : Int
deriving DecidableEq

def enc_recyclinglaw56_Act (x : T_recyclinglaw56_Act) : List Value := [.int .i64 x.Kind, .int .i64 x.Bill, .int .i64 x.Amount, .int .i64 x.At]
def r_recyclinglaw56_Act : Rp T_recyclinglaw56_Act := rFlat 4 enc_recyclinglaw56_Act (fun _ => rfl) (by intro x u hu; simp only [enc_recyclinglaw56_Act, List.mem_cons, List.not_mem_nil, or_false] at hu; rcases hu with rfl | rfl | rfl | rfl <;> rfl)

structure T_api_Open where
  Bill : Int
  Due : Int
  Rest : Int
deriving DecidableEq

def enc_api_Open (x : T_api_Open) : List Value := [.int .i64 x.Bill, .int .i64 x.Due, .int .i64 x.Rest]
def r_api_Open : Rp T_api_Open := rFlat 3 enc_api_Open (fun _ => rfl) (by intro x u hu; simp only [enc_api_Open, List.mem_cons, List.not_mem_nil, or_false] at hu; rcases hu with rfl | rfl | rfl <;> rfl)

structure T_payment_Register where
  f_open : (List T_api_Open)
  known : (List (Int × Bool))
  credit : Int
  last : Int
deriving DecidableEq

def Obj_payment_Register (μ : Gh) (v : Value) (x : T_payment_Register) (so : Seg) : Prop := ∃ (g : Nat) (A0 : Option Addr) (c0 : Nat) (ch0 : Seg) (m1 : Nat) (es1 : Array MapEntry) (cn1 : Nat), v = .pointer (some ⟨g, 0, none⟩) ∧ so = ((g, Obj.cells #[.slice A0 x.f_open.length c0, .map (some m1), .int .i64 x.credit, .int .i64 x.last] 56 (0, 0)) :: (ch0 ++ ((m1, Obj.map es1 cn1) :: []))) ∧ Own r_api_Open 49 μ (.slice A0 x.f_open.length c0) x.f_open ch0 ∧ MapB Value.bool es1 cn1 x.known
theorem Obj_payment_Register.mono {μ μ' : Gh} {v : Value} {x : T_payment_Register} {so : Seg} (h : Obj_payment_Register μ v x so) (hm : μ.le μ') : Obj_payment_Register μ' v x so := by
  obtain ⟨g, A0, c0, ch0, m1, es1, cn1, hv, hs, h0, h1⟩ := h
  exact ⟨g, A0, c0, ch0, m1, es1, cn1, hv, hs, h0.mono hm, h1⟩

structure T_recyclingref56_Register where
  Bills : (List T_api_Open)
  Credit : Int
  Last : Int
deriving DecidableEq

def Obj_recyclingref56_Register (μ : Gh) (v : Value) (x : T_recyclingref56_Register) (so : Seg) : Prop := ∃ (g : Nat) (A0 : Option Addr) (c0 : Nat) (ch0 : Seg), v = .pointer (some ⟨g, 0, none⟩) ∧ so = ((g, Obj.cells #[.slice A0 x.Bills.length c0, .int .i64 x.Credit, .int .i64 x.Last] 58 (0, 0)) :: (ch0 ++ [])) ∧ Own r_api_Open 49 μ (.slice A0 x.Bills.length c0) x.Bills ch0
theorem Obj_recyclingref56_Register.mono {μ μ' : Gh} {v : Value} {x : T_recyclingref56_Register} {so : Seg} (h : Obj_recyclingref56_Register μ v x so) (hm : μ.le μ') : Obj_recyclingref56_Register μ' v x so := by
  obtain ⟨g, A0, c0, ch0, hv, hs, h0⟩ := h
  exact ⟨g, A0, c0, ch0, hv, hs, h0.mono hm⟩

def r_recyclingref56_Register : Rp T_recyclingref56_Register where
  sz := 3
  rep μ x cs := ∃ (A0 : Option Addr) (c0 : Nat), cs = [.slice A0 x.Bills.length c0, .int .i64 x.Credit, .int .i64 x.Last] ∧ (x.Bills.length ≤ c0 ∧ c0 ≤ maxLen) ∧ ArrR r_api_Open μ A0 x.Bills
  len := by rintro μ x cs ⟨A0, c0, rfl, _⟩; rfl
  mono := by rintro μ μ' x cs hm ⟨A0, c0, h, hl0, ha0⟩; exact ⟨A0, c0, h, hl0, ha0.mono hm⟩
  one := by rintro μ x cs ⟨A0, c0, rfl, _⟩ u hu; simp only [List.mem_cons, List.not_mem_nil, or_false] at hu; rcases hu with rfl | rfl | rfl <;> rfl

def wf_recyclinglaw56_Act (x : T_recyclinglaw56_Act) : Prop := (wfI .i64) x.Kind ∧ (wfI .i64) x.Bill ∧ (wfI .i64) x.Amount ∧ (wfI .i64) x.At
def wf_api_Open (x : T_api_Open) : Prop := (wfI .i64) x.Bill ∧ (wfI .i64) x.Due ∧ (wfI .i64) x.Rest
def wf_recyclingref56_Register (x : T_recyclingref56_Register) : Prop := (fun xs : List T_api_Open => ∀ x ∈ xs, wf_api_Open x) x.Bills ∧ (wfI .i64) x.Credit ∧ (wfI .i64) x.Last

def befO (a b : T_api_Open) : Bool := decide (a.Due < b.Due ∨ a.Due = b.Due ∧ a.Bill < b.Bill)
/-- Where x goes in front of the first k. -/
def placeO (x : T_api_Open) (l : List T_api_Open) : Nat → Nat
  | 0 => 0
  | k + 1 => match l[k]? with
    | some y => if befO x y then placeO x l k else k + 1
    | none => 0
def insO (l : List T_api_Open) (x : T_api_Open) : Option (List T_api_Open) := if l.length ≤ 1000 then some (l.take (placeO x l l.length) ++ x :: l.drop (placeO x l l.length)) else none

def payment_New : Option (T_payment_Register) :=
  some (T_payment_Register.mk [] [] 0 0)

def payment_Register_Charge (r1 : T_payment_Register) (bill1 : Int) (amount1 : Int) (due1 : Int) : Option (Int × T_payment_Register) :=
  Option.bind (
    bif (decide (bill1 < 1)) then
      some true
    else
      bif (decide (1000000 < bill1)) then
        some true
      else
        bif (decide (amount1 < 1)) then
          some true
        else
          bif (decide (1000000000000 < amount1)) then
            some true
          else
            bif (decide (due1 < 0)) then
              some true
            else
              some (decide (3155759999 < due1))) (fun v1 =>
    bif v1 then
      some (1, r1)
    else
      bif ((mget bill1 r1.known).getD false) then
        some (6, r1)
      else
        bif (decide (512 ≤ ((r1.known.length : Nat) : Int))) then
          some (8, r1)
        else
          Option.bind (insO r1.f_open (T_api_Open.mk bill1 due1 amount1)) fun l1 =>
          some (0, (T_payment_Register.mk l1 (mput bill1 true r1.known) r1.credit r1.last)))

def payment_Register_Pay_l1 (r1 : T_payment_Register) (j_ : Int × (List T_api_Open) × (List T_api_Open) × Int) : Option ((Int × (List T_api_Open) × (List T_api_Open) × Int) ⊕ ((Int × (List T_api_Open) × (List T_api_Open)))) :=
  oun j_ fun f1 j_ => oun j_ fun used1 j_ => oun j_ fun rest1 v2 => 
  bif (decide (v2 < ((r1.f_open.length : Nat) : Int))) then
    Option.bind (
      Option.bind (getI r1.f_open v2) fun x1 =>
      Option.bind (
        bif (decide (0 < (min x1.Rest f1))) then
          Option.bind (appO used1 [(T_api_Open.mk x1.Bill x1.Due (min x1.Rest f1))]) fun l1 =>
          some (w64 (f1 - (min x1.Rest f1)), l1)
        else
          some (w64 (f1 - (min x1.Rest f1)), used1)) (fun j_ => oun j_ fun f2 used2 => 
        bif (decide (0 < (w64 (x1.Rest - (min x1.Rest f1))))) then
          Option.bind (appO rest1 [(T_api_Open.mk x1.Bill x1.Due (w64 (x1.Rest - (min x1.Rest f1))))]) fun l2 =>
          some (f2, used2, l2)
        else
          some (f2, used2, rest1))) (fun j_ => oun j_ fun f3 j_ => oun j_ fun used3 rest2 => 
      some (.inl (f3, used3, rest2, w64 (v2 + 1))))
  else
    some (.inr (f1, used1, rest1))

def payment_Register_Pay (r1 : T_payment_Register) (amount1 : Int) (f_at1 : Int) : Option ((List T_api_Open) × Int × T_payment_Register) :=
  Option.bind (
    bif (decide (amount1 < 0)) then
      some true
    else
      bif (decide (1000000000000 < amount1)) then
        some true
      else
        bif (decide (f_at1 < 0)) then
          some true
        else
          some (decide (3155759999 < f_at1))) (fun v1 =>
    bif v1 then
      some ([], 1, r1)
    else
      bif (decide (f_at1 < r1.last)) then
        some ([], 9, r1)
      else
        bif (decide (1000000000000 < (w64 (amount1 + r1.credit)))) then
          some ([], 2, r1)
        else
          Option.bind (
            iter (payment_Register_Pay_l1 r1) (((r1.f_open.length : Nat) : Int).toNat + 1) (w64 (r1.credit + amount1), [], [], 0)) (fun j_ => oun j_ fun f4 j_ => oun j_ fun used4 rest3 => 
            some (used4, 0, (T_payment_Register.mk rest3 r1.known f4 f_at1))))

def payment_Register_Late_l1 (r1 : T_payment_Register) (f_at1 : Int) (days1 : Int) (j_ : (List Int) × Int) : Option (((List Int) × Int) ⊕ ((List Int))) :=
  oun j_ fun out1 v2 => 
  bif (decide (v2 < ((r1.f_open.length : Nat) : Int))) then
    Option.bind (
      Option.bind (getI r1.f_open v2) fun x1 =>
      bif (decide ((w64 (days1 * 86400)) ≤ (w64 (f_at1 - x1.Due)))) then
        Option.bind (appO out1 [x1.Bill]) fun l1 =>
        some l1
      else
        some out1) (fun out2 =>
      some (.inl (out2, w64 (v2 + 1))))
  else
    some (.inr out1)

def payment_Register_Late (r1 : T_payment_Register) (f_at1 : Int) (days1 : Int) : Option ((List Int) × Int × T_payment_Register) :=
  Option.bind (
    bif (decide (f_at1 < 0)) then
      some true
    else
      bif (decide (3155759999 < f_at1)) then
        some true
      else
        bif (decide (days1 < 0)) then
          some true
        else
          some (decide (36524 < days1))) (fun v1 =>
    bif v1 then
      some ([], 1, r1)
    else
      Option.bind (
        iter (payment_Register_Late_l1 r1 f_at1 days1) (((r1.f_open.length : Nat) : Int).toNat + 1) ([], 0)) (fun out3 =>
        some (out3, 0, r1)))

def recyclingref56_Same_l1 (a1 : (List T_api_Open)) (b1 : (List T_api_Open)) (v1 : Int) : Option ((Int) ⊕ (Unit ⊕ Bool)) :=
  bif (decide (v1 < ((a1.length : Nat) : Int))) then
    Option.bind (getI a1 v1) fun x1 =>
    Option.bind (getI b1 v1) fun x2 =>
    bif (!(decide (x1 = x2))) then
      some (.inr (.inr false))
    else
      some (.inl (w64 (v1 + 1)))
  else
    some (.inr (.inl ()))

def recyclingref56_Same (a1 : (List T_api_Open)) (b1 : (List T_api_Open)) : Option (Bool) :=
  bif (!(decide (((a1.length : Nat) : Int) = ((b1.length : Nat) : Int)))) then
    some false
  else
    Option.bind (
      iter (recyclingref56_Same_l1 a1 b1) (((a1.length : Nat) : Int).toNat + 1) 0) (fun o_ => osum o_ (fun _ =>
      some true) (fun rv471 => some rv471))

def payment_Register_Open (r1 : T_payment_Register) : Option ((List T_api_Open) × T_payment_Register) :=
  Option.bind (cloneO r1.f_open) fun l1 =>
  some (l1, r1)

def payment_Register_Balance_l1 (r1 : T_payment_Register) (j_ : Int × Int) : Option ((Int × Int) ⊕ (Int)) :=
  oun j_ fun sum1 v1 => 
  bif (decide (v1 < ((r1.f_open.length : Nat) : Int))) then
    Option.bind (getI r1.f_open v1) fun x1 =>
    some (.inl (w64 (sum1 - x1.Rest), w64 (v1 + 1)))
  else
    some (.inr sum1)

def payment_Register_Balance (r1 : T_payment_Register) : Option (Int × T_payment_Register) :=
  Option.bind (
    iter (payment_Register_Balance_l1 r1) (((r1.f_open.length : Nat) : Int).toNat + 1) (r1.credit, 0)) (fun sum2 =>
    some (sum2, r1))

def recyclingref56_Ints_l1 (a1 : (List Int)) (b1 : (List Int)) (v1 : Int) : Option ((Int) ⊕ (Unit ⊕ Bool)) :=
  bif (decide (v1 < ((a1.length : Nat) : Int))) then
    Option.bind (getI a1 v1) fun x1 =>
    Option.bind (getI b1 v1) fun x2 =>
    bif (!(decide (x1 = x2))) then
      some (.inr (.inr false))
    else
      some (.inl (w64 (v1 + 1)))
  else
    some (.inr (.inl ()))

def recyclingref56_Ints (a1 : (List Int)) (b1 : (List Int)) : Option (Bool) :=
  bif (!(decide (((a1.length : Nat) : Int) = ((b1.length : Nat) : Int)))) then
    some false
  else
    Option.bind (
      iter (recyclingref56_Ints_l1 a1 b1) (((a1.length : Nat) : Int).toNat + 1) 0) (fun o_ => osum o_ (fun _ =>
      some true) (fun rv598 => some rv598))

def recyclinglaw56_awake : Option (Bool) :=
  Option.bind (payment_New) fun r1 =>
  Option.bind (payment_Register_Charge r1 7 100 50) fun j_ => oun j_ fun r2 r3 => 
  Option.bind (payment_Register_Charge r3 3 80 50) fun j_ => oun j_ fun r4 r5 => 
  Option.bind (payment_Register_Pay r5 120 60) fun j_ => oun j_ fun r6 j_ => oun j_ fun r7 r8 => 
  Option.bind (payment_Register_Charge r8 3 1 1) fun j_ => oun j_ fun r9 r10 => 
  Option.bind (payment_Register_Late r10 172850 2) fun j_ => oun j_ fun r11 j_ => oun j_ fun r12 r13 => 
  Option.bind (
    bif (decide (r2 = 0)) then
      bif (decide (r4 = 0)) then
        bif (decide (r7 = 0)) then
          Option.bind (recyclingref56_Same r6 [(T_api_Open.mk 3 50 80), (T_api_Open.mk 7 50 40)]) fun r14 =>
          bif r14 then
            bif (decide (r9 = 6)) then
              Option.bind (payment_Register_Open r13) fun j_ => oun j_ fun r15 r16 => 
              Option.bind (recyclingref56_Same r15 [(T_api_Open.mk 7 50 60)]) fun r17 =>
              bif r17 then
                Option.bind (payment_Register_Balance r16) fun j_ => oun j_ fun r18 r19 => 
                bif (decide (r18 = (-60))) then
                  Option.bind (recyclingref56_Ints r11 [7]) fun r20 =>
                  bif r20 then
                    some (decide (r12 = 0))
                  else
                    some false
                else
                  some false
              else
                some false
            else
              some false
          else
            some false
        else
          some false
      else
        some false
    else
      some false) (fun v1 =>
    some v1)

def recyclinglaw56_run_l1 (l1 : (List T_recyclinglaw56_Act)) (j_ : T_payment_Register × Int × Int × Int) : Option ((T_payment_Register × Int × Int × Int) ⊕ ((Int × Int × T_payment_Register))) :=
  oun j_ fun q1 j_ => oun j_ fun charged1 j_ => oun j_ fun paid1 v1 => 
  bif (decide (v1 < ((l1.length : Nat) : Int))) then
    Option.bind (
      Option.bind (getI l1 v1) fun x1 =>
      bif (decide (x1.Kind = 0)) then
        Option.bind (payment_Register_Charge q1 x1.Bill x1.Amount x1.At) fun j_ => oun j_ fun r2 r3 => 
        bif (decide (r2 = 0)) then
          some (r3, w64 (charged1 + x1.Amount), paid1)
        else
          some (r3, charged1, paid1)
      else
        Option.bind (payment_Register_Pay q1 x1.Amount x1.At) fun j_ => oun j_ fun r4 j_ => oun j_ fun r5 r6 => 
        bif (decide (r5 = 0)) then
          some (r6, charged1, w64 (paid1 + x1.Amount))
        else
          some (r6, charged1, paid1)) (fun j_ => oun j_ fun q2 j_ => oun j_ fun charged2 paid2 => 
      some (.inl (q2, charged2, paid2, w64 (v1 + 1))))
  else
    some (.inr (charged1, paid1, q1))

def recyclinglaw56_run (r1 : T_payment_Register) (l1 : (List T_recyclinglaw56_Act)) : Option (Int × Int × T_payment_Register) :=
  Option.bind (
    iter (recyclinglaw56_run_l1 l1) (((l1.length : Nat) : Int).toNat + 1) (r1, 0, 0, 0)) (fun j_ => oun j_ fun charged3 j_ => oun j_ fun paid3 q3 => 
    some (charged3, paid3, q3))

def recyclinglaw56_open_l1 (l1 : (List T_api_Open)) (j_ : Int × Int) : Option ((Int × Int) ⊕ (Int ⊕ (Int × Bool))) :=
  oun j_ fun sum1 v1 => 
  bif (decide (v1 < ((l1.length : Nat) : Int))) then
    Option.bind (getI l1 v1) fun x1 =>
    Option.bind (
      bif (decide (x1.Rest < 1)) then
        some true
      else
        bif (decide (1000000000000 < x1.Rest)) then
          some true
        else
          bif (decide (0 < v1)) then
            Option.bind (getI l1 (w64 (v1 - 1))) fun x2 =>
            bif (decide (x1.Due < x2.Due)) then
              some true
            else
              Option.bind (getI l1 (w64 (v1 - 1))) fun x3 =>
              bif (decide (x3.Due = x1.Due)) then
                Option.bind (getI l1 (w64 (v1 - 1))) fun x4 =>
                some (decide (x1.Bill ≤ x4.Bill))
              else
                some false
          else
            some false) (fun v2 =>
      bif v2 then
        some (.inr (.inr (0, false)))
      else
        some (.inl (w64 (sum1 + x1.Rest), w64 (v1 + 1))))
  else
    some (.inr (.inl sum1))

def recyclinglaw56_open (l1 : (List T_api_Open)) : Option (Int × Bool) :=
  Option.bind (
    iter (recyclinglaw56_open_l1 l1) (((l1.length : Nat) : Int).toNat + 1) (0, 0)) (fun o_ => osum o_ (fun sum2 =>
    some (sum2, (decide (((l1.length : Nat) : Int) ≤ 512)))) (fun rv769 => some rv769))

def recyclinglaw56_PaymentBalance (l1 : (List T_recyclinglaw56_Act)) (last1 : Int) : Option (Bool) :=
  Option.bind (payment_New) fun r1 =>
  Option.bind (
    bif (decide (100 < ((l1.length : Nat) : Int))) then
      some true
    else
      some false) (fun v1 =>
    bif v1 then
      Option.bind (recyclinglaw56_awake) fun r2 =>
      some r2
    else
      Option.bind (recyclinglaw56_run r1 l1) fun j_ => oun j_ fun r3 j_ => oun j_ fun r4 r5 => 
      Option.bind (payment_Register_Open r5) fun j_ => oun j_ fun r6 r7 => 
      Option.bind (recyclinglaw56_open r6) fun j_ => oun j_ fun r8 r9 => 
      Option.bind (payment_Register_Balance r7) fun j_ => oun j_ fun r10 r11 => 
      Option.bind (
        bif (!r9) then
          some true
        else
          bif (!(decide (r10 = (w64 (r4 - r3))))) then
            some true
          else
            some (decide (r10 < (w64 (0 - r8))))) (fun v2 =>
        bif v2 then
          some false
        else
          Option.bind (payment_Register_Pay r11 0 last1) fun j_ => oun j_ fun r12 j_ => oun j_ fun r13 r14 => 
          bif (!(decide (r13 = 0))) then
            Option.bind (recyclinglaw56_awake) fun r15 =>
            some r15
          else
            Option.bind (payment_Register_Open r14) fun j_ => oun j_ fun r16 r17 => 
            Option.bind (recyclinglaw56_open r16) fun j_ => oun j_ fun r18 r19 => 
            Option.bind (
              bif r19 then
                Option.bind (payment_Register_Balance r17) fun j_ => oun j_ fun r20 r21 => 
                bif (decide (r20 = r10)) then
                  bif (decide (r18 = (max (w64 (0 - r10)) 0))) then
                    Option.bind (recyclinglaw56_awake) fun r22 =>
                    some r22
                  else
                    some false
                else
                  some false
              else
                some false) (fun v3 =>
              some v3)))

def recyclinglaw56_PaymentUses_l1 (r6 : (List T_api_Open)) (r12 : (List T_api_Open)) (v4 : Int) : Option ((Int) ⊕ (Unit ⊕ Bool)) :=
  bif (decide (v4 < ((r12.length : Nat) : Int))) then
    Option.bind (
      Option.bind (getI r12 v4) fun x1 =>
      Option.bind (getI r6 v4) fun x2 =>
      bif (!(decide (x1.Bill = x2.Bill))) then
        some true
      else
        Option.bind (getI r12 v4) fun x3 =>
        Option.bind (getI r6 v4) fun x4 =>
        bif (!(decide (x3.Due = x4.Due))) then
          some true
        else
          Option.bind (getI r12 v4) fun x5 =>
          Option.bind (getI r6 v4) fun x6 =>
          bif (decide (x6.Rest < x5.Rest)) then
            some true
          else
            bif (decide (v4 < (w64 (((r12.length : Nat) : Int) - 1)))) then
              Option.bind (getI r12 v4) fun x7 =>
              Option.bind (getI r6 v4) fun x8 =>
              some (!(decide (x7.Rest = x8.Rest)))
            else
              some false) (fun v5 =>
      bif v5 then
        some (.inr (.inr false))
      else
        some (.inl (w64 (v4 + 1))))
  else
    some (.inr (.inl ()))

def recyclinglaw56_PaymentUses (l1 : (List T_recyclinglaw56_Act)) (amount1 : Int) (f_at1 : Int) : Option (Bool) :=
  Option.bind (payment_New) fun r1 =>
  Option.bind (
    bif (decide (100 < ((l1.length : Nat) : Int))) then
      some true
    else
      some false) (fun v1 =>
    bif v1 then
      Option.bind (recyclinglaw56_awake) fun r2 =>
      some r2
    else
      Option.bind (recyclinglaw56_run r1 l1) fun j_ => oun j_ fun r3 j_ => oun j_ fun r4 r5 => 
      Option.bind (payment_Register_Open r5) fun j_ => oun j_ fun r6 r7 => 
      Option.bind (recyclinglaw56_open r6) fun j_ => oun j_ fun r8 r9 => 
      Option.bind (payment_Register_Balance r7) fun j_ => oun j_ fun r10 r11 => 
      Option.bind (payment_Register_Pay r11 amount1 f_at1) fun j_ => oun j_ fun r12 j_ => oun j_ fun r13 r14 => 
      Option.bind (payment_Register_Open r14) fun j_ => oun j_ fun r15 r16 => 
      bif (!(decide (r13 = 0))) then
        Option.bind (
          bif (decide (((r12.length : Nat) : Int) = 0)) then
            Option.bind (recyclingref56_Same r6 r15) fun r17 =>
            bif r17 then
              Option.bind (payment_Register_Balance r16) fun j_ => oun j_ fun r18 r19 => 
              bif (decide (r18 = r10)) then
                Option.bind (recyclinglaw56_awake) fun r20 =>
                some r20
              else
                some false
            else
              some false
          else
            some false) (fun v2 =>
          some v2)
      else
        Option.bind (recyclinglaw56_open r12) fun j_ => oun j_ fun r21 r22 => 
        Option.bind (
          bif (!r9) then
            some true
          else
            bif (!r22) then
              some true
            else
              bif (decide (amount1 < 0)) then
                some true
              else
                bif (decide (((r6.length : Nat) : Int) < ((r12.length : Nat) : Int))) then
                  some true
                else
                  some (!(decide (r21 = (min r8 (w64 ((w64 (r10 + r8)) + amount1))))))) (fun v3 =>
          bif v3 then
            some false
          else
            Option.bind (
              iter (recyclinglaw56_PaymentUses_l1 r6 r12) (((r12.length : Nat) : Int).toNat + 1) 0) (fun o_ => osum o_ (fun _ =>
              Option.bind (recyclinglaw56_awake) fun r23 =>
              some r23) (fun rv872 => some rv872))))

def recyclinglaw56_PaymentTwo (l1 : (List T_recyclinglaw56_Act)) (a1 : Int) (b1 : Int) (f_at1 : Int) : Option (Bool) :=
  Option.bind (payment_New) fun r1 =>
  Option.bind (payment_New) fun r2 =>
  Option.bind (
    bif (decide (100 < ((l1.length : Nat) : Int))) then
      some true
    else
      some false) (fun v1 =>
    bif v1 then
      Option.bind (recyclinglaw56_awake) fun r3 =>
      some r3
    else
      Option.bind (recyclinglaw56_run r1 l1) fun j_ => oun j_ fun r4 j_ => oun j_ fun r5 r6 => 
      Option.bind (recyclinglaw56_run r2 l1) fun j_ => oun j_ fun r7 j_ => oun j_ fun r8 r9 => 
      Option.bind (payment_Register_Pay r6 (w64 (a1)) f_at1) fun j_ => oun j_ fun r10 j_ => oun j_ fun r11 r12 => 
      Option.bind (payment_Register_Pay r12 (w64 (b1)) f_at1) fun j_ => oun j_ fun r13 j_ => oun j_ fun r14 r15 => 
      Option.bind (payment_Register_Pay r9 (w64 ((w64 (a1)) + (w64 (b1)))) f_at1) fun j_ => oun j_ fun r16 j_ => oun j_ fun r17 r18 => 
      Option.bind (
        bif (!(decide (r11 = 0))) then
          some true
        else
          bif (!(decide (r14 = 0))) then
            some true
          else
            some (!(decide (r17 = 0)))) (fun v2 =>
        bif v2 then
          Option.bind (recyclinglaw56_awake) fun r19 =>
          some r19
        else
          Option.bind (
            Option.bind (payment_Register_Open r15) fun j_ => oun j_ fun r20 r21 => 
            Option.bind (payment_Register_Open r18) fun j_ => oun j_ fun r22 r23 => 
            Option.bind (recyclingref56_Same r20 r22) fun r24 =>
            bif r24 then
              Option.bind (payment_Register_Balance r21) fun j_ => oun j_ fun r25 r26 => 
              Option.bind (payment_Register_Balance r23) fun j_ => oun j_ fun r27 r28 => 
              bif (decide (r25 = r27)) then
                Option.bind (recyclinglaw56_awake) fun r29 =>
                some r29
              else
                some false
            else
              some false) (fun v3 =>
            some v3)))

def recyclingref56_New : Option (T_recyclingref56_Register) :=
  some (T_recyclingref56_Register.mk [] 0 0)

def recyclingref56_moment (t1 : Int) : Option (Bool) :=
  Option.bind (
    bif (decide (0 ≤ t1)) then
      some (decide (t1 ≤ 3155759999))
    else
      some false) (fun v1 =>
    some v1)

def recyclingref56_before (a1 : T_api_Open) (b1 : T_api_Open) : Option (Bool) :=
  Option.bind (
    bif (decide (a1.Due < b1.Due)) then
      some true
    else
      bif (decide (a1.Due = b1.Due)) then
        some (decide (a1.Bill < b1.Bill))
      else
        some false) (fun v1 =>
    some v1)

def recyclingref56_Register_Charge_l1 (r1 : T_recyclingref56_Register) (bill1 : Int) (v2 : Int) : Option ((Int) ⊕ (Unit ⊕ (Int × T_recyclingref56_Register))) :=
  bif (decide (v2 < ((r1.Bills.length : Nat) : Int))) then
    Option.bind (getI r1.Bills v2) fun x1 =>
    bif (decide (x1.Bill = bill1)) then
      some (.inr (.inr (6, r1)))
    else
      some (.inl (w64 (v2 + 1)))
  else
    some (.inr (.inl ()))

def recyclingref56_Register_Charge_l2 (r1 : T_recyclingref56_Register) (bill1 : Int) (amount1 : Int) (due1 : Int) (j_ : (List T_api_Open) × Bool × Int) : Option (((List T_api_Open) × Bool × Int) ⊕ (((List T_api_Open) × Bool))) :=
  oun j_ fun out1 j_ => oun j_ fun done1 v3 => 
  bif (decide (v3 < ((r1.Bills.length : Nat) : Int))) then
    Option.bind (getI r1.Bills v3) fun x2 =>
    Option.bind (
      bif (!done1) then
        Option.bind (recyclingref56_before (T_api_Open.mk bill1 due1 amount1) x2) fun r3 =>
        some r3
      else
        some false) (fun v4 =>
      Option.bind (
        bif v4 then
          Option.bind (appO out1 [(T_api_Open.mk bill1 due1 amount1)]) fun l1 =>
          some (l1, true)
        else
          some (out1, done1)) (fun j_ => oun j_ fun out2 done2 => 
        Option.bind (appO out2 [x2]) fun l2 =>
        some (.inl (l2, done2, w64 (v3 + 1)))))
  else
    some (.inr (out1, done1))

def recyclingref56_Register_Charge (r1 : T_recyclingref56_Register) (bill1 : Int) (amount1 : Int) (due1 : Int) : Option (Int × T_recyclingref56_Register) :=
  Option.bind (
    bif (decide (bill1 < 1)) then
      some true
    else
      bif (decide (1000000 < bill1)) then
        some true
      else
        bif (decide (amount1 < 1)) then
          some true
        else
          bif (decide (1000000000000 < amount1)) then
            some true
          else
            Option.bind (recyclingref56_moment due1) fun r2 =>
            some (!r2)) (fun v1 =>
    bif v1 then
      some (1, r1)
    else
      Option.bind (
        iter (recyclingref56_Register_Charge_l1 r1 bill1) (((r1.Bills.length : Nat) : Int).toNat + 1) 0) (fun o_ => osum o_ (fun _ =>
        bif (decide (512 ≤ ((r1.Bills.length : Nat) : Int))) then
          some (8, r1)
        else
          Option.bind (
            iter (recyclingref56_Register_Charge_l2 r1 bill1 amount1 due1) (((r1.Bills.length : Nat) : Int).toNat + 1) ([], false, 0)) (fun j_ => oun j_ fun out3 done3 => 
            Option.bind (
              bif (!done3) then
                Option.bind (appO out3 [(T_api_Open.mk bill1 due1 amount1)]) fun l3 =>
                some l3
              else
                some out3) (fun out4 =>
              some (0, (T_recyclingref56_Register.mk out4 r1.Credit r1.Last))))) (fun rv1162 => some rv1162)))

def recyclingref56_Register_Pay_l1 (r1 : T_recyclingref56_Register) (j_ : (List T_api_Open) × Int × (List T_api_Open) × Int) : Option (((List T_api_Open) × Int × (List T_api_Open) × Int) ⊕ (((List T_api_Open) × Int × (List T_api_Open)))) :=
  oun j_ fun f1 j_ => oun j_ fun left1 j_ => oun j_ fun used1 v2 => 
  bif (decide (v2 < ((r1.Bills.length : Nat) : Int))) then
    Option.bind (
      Option.bind (getI f1 v2) fun x1 =>
      bif (decide (0 < (min x1.Rest left1))) then
        Option.bind (appO used1 [(T_api_Open.mk x1.Bill x1.Due (min x1.Rest left1))]) fun l1 =>
        Option.bind (getI f1 v2) fun x2 =>
        some ((setI f1 v2 (T_api_Open.mk x2.Bill x2.Due (w64 (x1.Rest - (min x1.Rest left1))))), w64 (left1 - (min x1.Rest left1)), l1)
      else
        some (f1, left1, used1)) (fun j_ => oun j_ fun f2 j_ => oun j_ fun left2 used2 => 
      some (.inl (f2, left2, used2, w64 (v2 + 1))))
  else
    some (.inr (f1, left1, used1))

def recyclingref56_Register_Pay (r1 : T_recyclingref56_Register) (amount1 : Int) (f_at1 : Int) : Option ((List T_api_Open) × Int × T_recyclingref56_Register) :=
  Option.bind (
    bif (decide (amount1 < 0)) then
      some true
    else
      bif (decide (1000000000000 < amount1)) then
        some true
      else
        Option.bind (recyclingref56_moment f_at1) fun r2 =>
        some (!r2)) (fun v1 =>
    bif v1 then
      some ([], 1, r1)
    else
      bif (decide (f_at1 < r1.Last)) then
        some ([], 9, r1)
      else
        bif (decide (1000000000000 < (w64 (amount1 + r1.Credit)))) then
          some ([], 2, r1)
        else
          Option.bind (
            iter (recyclingref56_Register_Pay_l1 r1) (((r1.Bills.length : Nat) : Int).toNat + 1) (r1.Bills, w64 (amount1 + r1.Credit), [], 0)) (fun j_ => oun j_ fun f3 j_ => oun j_ fun left3 used3 => 
            some (used3, 0, (T_recyclingref56_Register.mk f3 left3 f_at1))))

def recyclingref56_Register_Late_l1 (r1 : T_recyclingref56_Register) (f_at1 : Int) (days1 : Int) (j_ : (List Int) × Int) : Option (((List Int) × Int) ⊕ ((List Int))) :=
  oun j_ fun out1 v2 => 
  bif (decide (v2 < ((r1.Bills.length : Nat) : Int))) then
    Option.bind (
      Option.bind (getI r1.Bills v2) fun x1 =>
      Option.bind (
        bif (decide (0 < x1.Rest)) then
          some (decide ((w64 (days1 * 86400)) ≤ (w64 (f_at1 - x1.Due))))
        else
          some false) (fun v3 =>
        bif v3 then
          Option.bind (appO out1 [x1.Bill]) fun l1 =>
          some l1
        else
          some out1)) (fun out2 =>
      some (.inl (out2, w64 (v2 + 1))))
  else
    some (.inr out1)

def recyclingref56_Register_Late (r1 : T_recyclingref56_Register) (f_at1 : Int) (days1 : Int) : Option ((List Int) × Int × T_recyclingref56_Register) :=
  Option.bind (
    Option.bind (recyclingref56_moment f_at1) fun r2 =>
    bif (!r2) then
      some true
    else
      bif (decide (days1 < 0)) then
        some true
      else
        some (decide (36524 < days1))) (fun v1 =>
    bif v1 then
      some ([], 1, r1)
    else
      Option.bind (
        iter (recyclingref56_Register_Late_l1 r1 f_at1 days1) (((r1.Bills.length : Nat) : Int).toNat + 1) ([], 0)) (fun out3 =>
        some (out3, 0, r1)))

def recyclingref56_Register_Open_l1 (r1 : T_recyclingref56_Register) (j_ : (List T_api_Open) × Int) : Option (((List T_api_Open) × Int) ⊕ ((List T_api_Open))) :=
  oun j_ fun out1 v1 => 
  bif (decide (v1 < ((r1.Bills.length : Nat) : Int))) then
    Option.bind (
      Option.bind (getI r1.Bills v1) fun x1 =>
      bif (decide (0 < x1.Rest)) then
        Option.bind (appO out1 [x1]) fun l1 =>
        some l1
      else
        some out1) (fun out2 =>
      some (.inl (out2, w64 (v1 + 1))))
  else
    some (.inr out1)

def recyclingref56_Register_Open (r1 : T_recyclingref56_Register) : Option ((List T_api_Open) × T_recyclingref56_Register) :=
  Option.bind (
    iter (recyclingref56_Register_Open_l1 r1) (((r1.Bills.length : Nat) : Int).toNat + 1) ([], 0)) (fun out3 =>
    some (out3, r1))

def recyclingref56_Register_Balance_l1 (r1 : T_recyclingref56_Register) (j_ : Int × Int) : Option ((Int × Int) ⊕ (Int)) :=
  oun j_ fun n1 v1 => 
  bif (decide (v1 < ((r1.Bills.length : Nat) : Int))) then
    Option.bind (getI r1.Bills v1) fun x1 =>
    some (.inl (w64 (n1 - x1.Rest), w64 (v1 + 1)))
  else
    some (.inr n1)

def recyclingref56_Register_Balance (r1 : T_recyclingref56_Register) : Option (Int × T_recyclingref56_Register) :=
  Option.bind (
    iter (recyclingref56_Register_Balance_l1 r1) (((r1.Bills.length : Nat) : Int).toNat + 1) (r1.Credit, 0)) (fun n2 =>
    some (n2, r1))

def recyclinglaw56_PaymentRuns_l1 (l1 : (List T_recyclinglaw56_Act)) (j_ : T_payment_Register × T_recyclingref56_Register × Int) : Option ((T_payment_Register × T_recyclingref56_Register × Int) ⊕ (Unit ⊕ Bool)) :=
  oun j_ fun q1 j_ => oun j_ fun q2 v2 => 
  bif (decide (v2 < ((l1.length : Nat) : Int))) then
    Option.bind (getI l1 v2) fun x1 =>
    Option.bind (
      bif (decide (x1.Kind = 0)) then
        Option.bind (payment_Register_Charge q1 x1.Bill x1.Amount x1.At) fun j_ => oun j_ fun r4 r5 => 
        Option.bind (recyclingref56_Register_Charge q2 x1.Bill x1.Amount x1.At) fun j_ => oun j_ fun r6 r7 => 
        bif (!(decide (r4 = r6))) then
          some (.inr false)
        else
          some (.inl (r5, r7))
      else
        bif (decide (x1.Kind = 1)) then
          Option.bind (payment_Register_Pay q1 x1.Amount x1.At) fun j_ => oun j_ fun r8 j_ => oun j_ fun r9 r10 => 
          Option.bind (recyclingref56_Register_Pay q2 x1.Amount x1.At) fun j_ => oun j_ fun r11 j_ => oun j_ fun r12 r13 => 
          Option.bind (
            bif (!(decide (r9 = r12))) then
              some true
            else
              Option.bind (recyclingref56_Same r8 r11) fun r14 =>
              some (!r14)) (fun v3 =>
            bif v3 then
              some (.inr false)
            else
              some (.inl (r10, r13)))
        else
          Option.bind (payment_Register_Late q1 x1.At x1.Bill) fun j_ => oun j_ fun r15 j_ => oun j_ fun r16 r17 => 
          Option.bind (recyclingref56_Register_Late q2 x1.At x1.Bill) fun j_ => oun j_ fun r18 j_ => oun j_ fun r19 r20 => 
          Option.bind (
            bif (!(decide (r16 = r19))) then
              some true
            else
              Option.bind (recyclingref56_Ints r15 r18) fun r21 =>
              some (!r21)) (fun v4 =>
            bif v4 then
              some (.inr false)
            else
              some (.inl (r17, r20)))) (fun o_ => osum o_ (fun j_ => oun j_ fun q3 q4 => 
      Option.bind (
        Option.bind (payment_Register_Open q3) fun j_ => oun j_ fun r22 r23 => 
        Option.bind (recyclingref56_Register_Open q4) fun j_ => oun j_ fun r24 r25 => 
        Option.bind (recyclingref56_Same r22 r24) fun r26 =>
        bif (!r26) then
          some (r23, r25, true)
        else
          Option.bind (payment_Register_Balance r23) fun j_ => oun j_ fun r27 r28 => 
          Option.bind (recyclingref56_Register_Balance r25) fun j_ => oun j_ fun r29 r30 => 
          some (r28, r30, !(decide (r27 = r29)))) (fun j_ => oun j_ fun q5 j_ => oun j_ fun q6 v5 => 
        bif v5 then
          some (.inr (.inr false))
        else
          some (.inl (q5, q6, w64 (v2 + 1))))) (fun rv2266 => some (.inr (.inr rv2266))))
  else
    some (.inr (.inl ()))

def recyclinglaw56_PaymentRuns (l1 : (List T_recyclinglaw56_Act)) : Option (Bool) :=
  Option.bind (payment_New) fun r1 =>
  Option.bind (recyclingref56_New) fun r2 =>
  Option.bind (
    bif (decide (100 < ((l1.length : Nat) : Int))) then
      some true
    else
      some false) (fun v1 =>
    bif v1 then
      Option.bind (recyclinglaw56_awake) fun r3 =>
      some r3
    else
      Option.bind (
        iter (recyclinglaw56_PaymentRuns_l1 l1) (((l1.length : Nat) : Int).toNat + 1) (r1, r2, 0)) (fun o_ => osum o_ (fun _ =>
        Option.bind (recyclinglaw56_awake) fun r31 =>
        some r31) (fun rv2137 => some rv2137)))

end Go.Proofs.Yticcfpmehjcjcaa
