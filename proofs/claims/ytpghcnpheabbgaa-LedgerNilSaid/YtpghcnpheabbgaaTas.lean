/- Printed by gen.py of this repo: specifications of Go functions as Lean functions. -/
import Derived.Test.YtpghcnpheabbgaaGa
import Derived.Test.YtpghcnpheabbgaaGs
import Derived.Test.YtpghcnpheabbgaaGv
import Derived.Test.YtpghcnpheabbgaaGx
namespace Go.Proofs.Ytpghcnpheabbgaa
open Go.RowKit
set_option linter.unusedSimpArgs false
set_option linter.unusedVariables false

structure T_api_Line where
  Account : Int
  Amount : Int
deriving DecidableEq

def enc_api_Line (x : T_api_Line) : List Value := [.int .i64 x.Account, .int .i64 x.Amount]
def r_api_Line : Rp T_api_Line := rFlat 2 enc_api_Line (fun _ => rfl) (by intro x u hu; simp only [enc_api_Line, List.mem_cons, List.not_mem_nil, or_false] at hu; rcases hu with rfl | rfl <;> rfl)

structure T_api_Posting where
  ID : Int
  At : Int
  Lines : (List T_api_Line)
deriving DecidableEq

def r_api_Posting : Rp T_api_Posting where
  sz := 3
  rep μ x cs := ∃ (A2 : Option Addr) (c2 : Nat), cs = [.int .i64 x.ID, .int .i64 x.At, .slice A2 x.Lines.length c2] ∧ (x.Lines.length ≤ c2 ∧ c2 ≤ maxLen) ∧ ArrR r_api_Line μ A2 x.Lines
  len := by rintro μ x cs ⟨A2, c2, rfl, _⟩; rfl
  mono := by rintro μ μ' x cs hm ⟨A2, c2, h, hl2, ha2⟩; exact ⟨A2, c2, h, hl2, ha2.mono hm⟩
  one := by rintro μ x cs ⟨A2, c2, rfl, _⟩ u hu; simp only [List.mem_cons, List.not_mem_nil, or_false] at hu; rcases hu with rfl | rfl | rfl <;> rfl

structure T_ledger_Ledger where
  postings : (List T_api_Posting)
  balances : (List (Int × Int))
deriving DecidableEq

def Obj_ledger_Ledger (μ : Gh) (v : Value) (x : T_ledger_Ledger) (so : Seg) : Prop := ∃ (g : Nat) (A0 : Option Addr) (c0 : Nat) (ch0 : Seg) (m1 : Nat) (es1 : Array MapEntry) (cn1 : Nat), v = .pointer (some ⟨g, 0, none⟩) ∧ so = ((g, Obj.cells #[.slice A0 x.postings.length c0, .map (some m1)] 60 (0, 0)) :: (ch0 ++ ((m1, Obj.map es1 cn1) :: []))) ∧ Own r_api_Posting 24 μ (.slice A0 x.postings.length c0) x.postings ch0 ∧ MapB (Value.int .i64) es1 cn1 x.balances
theorem Obj_ledger_Ledger.mono {μ μ' : Gh} {v : Value} {x : T_ledger_Ledger} {so : Seg} (h : Obj_ledger_Ledger μ v x so) (hm : μ.le μ') : Obj_ledger_Ledger μ' v x so := by
  obtain ⟨g, A0, c0, ch0, m1, es1, cn1, hv, hs, h0, h1⟩ := h
  exact ⟨g, A0, c0, ch0, m1, es1, cn1, hv, hs, h0.mono hm, h1⟩

def wf_api_Line (x : T_api_Line) : Prop := (wfI .i64) x.Account ∧ (wfI .i64) x.Amount
def wf_api_Posting (x : T_api_Posting) : Prop := (wfI .i64) x.ID ∧ (wfI .i64) x.At ∧ (fun xs : List T_api_Line => ∀ x ∈ xs, wf_api_Line x) x.Lines

def ledger_New : Option (T_ledger_Ledger) :=
  some (T_ledger_Ledger.mk [] [])

def recyclinglaw48_pay (id1 : Int) (f_at1 : Int) (f_from1 : Int) (f_to1 : Int) (amount1 : Int) : Option (T_api_Posting) :=
  some (T_api_Posting.mk id1 f_at1 [(T_api_Line.mk f_to1 amount1), (T_api_Line.mk f_from1 (w64 (0 - amount1)))])

def ledger_line (x1 : T_api_Line) : Option (Bool) :=
  Option.bind (
    bif (decide (0 ≤ x1.Account)) then
      bif (decide (x1.Account ≤ 1000000)) then
        bif (!(decide (x1.Amount = 0))) then
          bif (decide ((-1000000000000) ≤ x1.Amount)) then
            some (decide (x1.Amount ≤ 1000000000000))
          else
            some false
        else
          some false
      else
        some false
    else
      some false) (fun v1 =>
    some v1)

def ledger_Check_l1 (p1 : T_api_Posting) (j_ : Int × Int) : Option ((Int × Int) ⊕ (Int ⊕ Int)) :=
  oun j_ fun sum1 v2 => 
  bif (decide (v2 < ((p1.Lines.length : Nat) : Int))) then
    Option.bind (getI p1.Lines v2) fun x1 =>
    Option.bind (ledger_line x1) fun r1 =>
    bif (!r1) then
      some (.inr (.inr 1))
    else
      some (.inl (w64 (sum1 + x1.Amount), w64 (v2 + 1)))
  else
    some (.inr (.inl sum1))

def ledger_Check (p1 : T_api_Posting) : Option (Int) :=
  Option.bind (
    bif (decide (p1.ID < 1)) then
      some true
    else
      bif (decide (1000000 < p1.ID)) then
        some true
      else
        bif (decide (p1.At < 0)) then
          some true
        else
          some (decide (3155759999 < p1.At))) (fun v1 =>
    bif v1 then
      some 1
    else
      bif (decide (16 < ((p1.Lines.length : Nat) : Int))) then
        some 8
      else
        bif (decide (((p1.Lines.length : Nat) : Int) < 2)) then
          some 10
        else
          Option.bind (
            iter (ledger_Check_l1 p1) (((p1.Lines.length : Nat) : Int).toNat + 1) (0, 0)) (fun o_ => osum o_ (fun sum2 =>
            bif (!(decide (sum2 = 0))) then
              some 16
            else
              some 0) (fun rv76 => some rv76)))

def ledger_Ledger_accept_1 (q1 : T_api_Posting) (b1 : T_api_Posting) : Option (Bool) :=
  some (decide (q1.ID = b1.ID))

def slices_IndexFunc_Posting_c38_l1 (s1 : (List T_api_Posting)) (b1 : T_api_Posting) (v1 : Int) : Option ((Int) ⊕ (Unit ⊕ Int)) :=
  bif (decide (v1 < ((s1.length : Nat) : Int))) then
    Option.bind (getI s1 v1) fun x1 =>
    Option.bind (ledger_Ledger_accept_1 x1 b1) fun r1 =>
    bif r1 then
      some (.inr (.inr v1))
    else
      some (.inl (w64 (v1 + 1)))
  else
    some (.inr (.inl ()))

def slices_IndexFunc_Posting_c38 (s1 : (List T_api_Posting)) (b1 : T_api_Posting) : Option (Int) :=
  Option.bind (
    iter (slices_IndexFunc_Posting_c38_l1 s1 b1) (((s1.length : Nat) : Int).toNat + 1) 0) (fun o_ => osum o_ (fun _ =>
    some (-1)) (fun rv127 => some rv127))

def slices_ContainsFunc_Posting_c38 (s1 : (List T_api_Posting)) (b1 : T_api_Posting) : Option (Bool) :=
  Option.bind (slices_IndexFunc_Posting_c38 s1 b1) fun r1 =>
  some (decide (0 ≤ r1))

def ledger_Ledger_accept (l1 : T_ledger_Ledger) (p1 : T_api_Posting) : Option (Int × T_ledger_Ledger) :=
  Option.bind (ledger_Check p1) fun r1 =>
  bif (!(decide (r1 = 0))) then
    some (r1, l1)
  else
    Option.bind (slices_ContainsFunc_Posting_c38 l1.postings p1) fun r2 =>
    bif r2 then
      some (6, l1)
    else
      Option.bind (
        bif (decide (0 < ((l1.postings.length : Nat) : Int))) then
          Option.bind (getI l1.postings (w64 (((l1.postings.length : Nat) : Int) - 1))) fun x1 =>
          some (decide (p1.At < x1.At))
        else
          some false) (fun v1 =>
        bif v1 then
          some (9, l1)
        else
          bif (decide (512 ≤ ((l1.postings.length : Nat) : Int))) then
            some (8, l1)
          else
            some (0, l1))

def ledger_copied (p1 : T_api_Posting) : Option (T_api_Posting) :=
  Option.bind (cloneO p1.Lines) fun l1 =>
  some (T_api_Posting.mk p1.ID p1.At l1)

def ledger_Ledger_Post_l1 (p1 : T_api_Posting) (j_ : (List (Int × Int)) × Int) : Option (((List (Int × Int)) × Int) ⊕ ((List (Int × Int)))) :=
  oun j_ fun m1 v1 => 
  bif (decide (v1 < ((p1.Lines.length : Nat) : Int))) then
    Option.bind (getI p1.Lines v1) fun x1 =>
    some (.inl ((mput x1.Account (w64 (((mget x1.Account m1).getD 0) + x1.Amount)) m1), w64 (v1 + 1)))
  else
    some (.inr m1)

def ledger_Ledger_Post_l2 (p1 : T_api_Posting) (r2 : T_ledger_Ledger) (m2 : (List (Int × Int))) (v2 : Int) : Option ((Int) ⊕ (Unit ⊕ (Int × T_ledger_Ledger))) :=
  bif (decide (v2 < ((p1.Lines.length : Nat) : Int))) then
    Option.bind (getI p1.Lines v2) fun x2 =>
    Option.bind (
      bif (decide (((mget x2.Account m2).getD 0) < (-1000000000000))) then
        some true
      else
        some (decide (1000000000000 < ((mget x2.Account m2).getD 0)))) (fun v3 =>
      bif v3 then
        bif (!(decide (2 = 0))) then
          some (.inr (.inr (2, r2)))
        else
          some (.inr (.inr (2, (T_ledger_Ledger.mk r2.postings m2))))
      else
        some (.inl (w64 (v2 + 1))))
  else
    some (.inr (.inl ()))

def ledger_Ledger_Post (l1 : T_ledger_Ledger) (p1 : T_api_Posting) : Option (Int × T_ledger_Ledger) :=
  Option.bind (ledger_Ledger_accept l1 p1) fun j_ => oun j_ fun r1 r2 => 
  bif (!(decide (r1 = 0))) then
    some (r1, r2)
  else
    Option.bind (
      iter (ledger_Ledger_Post_l1 p1) (((p1.Lines.length : Nat) : Int).toNat + 1) (r2.balances, 0)) (fun m2 =>
      Option.bind (
        iter (ledger_Ledger_Post_l2 p1 r2 m2) (((p1.Lines.length : Nat) : Int).toNat + 1) 0) (fun o_ => osum o_ (fun _ =>
        Option.bind (
          Option.bind (ledger_copied p1) fun r3 =>
          Option.bind (appO r2.postings [r3]) fun l2 =>
          some l2) (fun f1 =>
          bif (!(decide (0 = 0))) then
            some (0, (T_ledger_Ledger.mk f1 r2.balances))
          else
            some (0, (T_ledger_Ledger.mk f1 m2)))) (fun rv633 => some rv633)))

def ledger_Ledger_Balance (l1 : T_ledger_Ledger) (account1 : Int) : Option (Int × T_ledger_Ledger) :=
  some ((mget account1 l1.balances).getD 0, l1)

def ledger_Ledger_At_l1 (account1 : Int) (x1 : T_api_Posting) (j_ : Int × Int) : Option ((Int × Int) ⊕ (Int)) :=
  oun j_ fun n2 v2 => 
  bif (decide (v2 < ((x1.Lines.length : Nat) : Int))) then
    Option.bind (
      Option.bind (getI x1.Lines v2) fun x2 =>
      bif (decide (x2.Account = account1)) then
        some (w64 (n2 + x2.Amount))
      else
        some n2) (fun n3 =>
      some (.inl (n3, w64 (v2 + 1))))
  else
    some (.inr n2)

def ledger_Ledger_At_l2 (l1 : T_ledger_Ledger) (account1 : Int) (t1 : Int) (j_ : Int × Int) : Option ((Int × Int) ⊕ (Int)) :=
  oun j_ fun n1 v1 => 
  bif (decide (v1 < ((l1.postings.length : Nat) : Int))) then
    Option.bind (
      Option.bind (getI l1.postings v1) fun x1 =>
      bif (decide (t1 < x1.At)) then
        some (.inr ())
      else
        Option.bind (
          iter (ledger_Ledger_At_l1 account1 x1) (((x1.Lines.length : Nat) : Int).toNat + 1) (n1, 0)) (fun n4 =>
          some (.inl n4))) (fun o_ => osum o_ (fun n5 =>
      some (.inl (n5, w64 (v1 + 1)))) (fun _ =>
      some (.inr n1)))
  else
    some (.inr n1)

def ledger_Ledger_At (l1 : T_ledger_Ledger) (account1 : Int) (t1 : Int) : Option (Int × T_ledger_Ledger) :=
  Option.bind (
    iter (ledger_Ledger_At_l2 l1 account1 t1) (((l1.postings.length : Nat) : Int).toNat + 1) (0, 0)) (fun n6 =>
    some (n6, l1))

def ledger_Ledger_Accounts (l1 : T_ledger_Ledger) : Option ((List Int) × T_ledger_Ledger) :=
  Option.bind (keysO l1.balances) fun l2 =>
  some (l2, l1)

def recyclingref48_SameInts_l1 (a1 : (List Int)) (b1 : (List Int)) (i1 : Int) : Option ((Int) ⊕ (Unit ⊕ Bool)) :=
  bif (decide (i1 < ((a1.length : Nat) : Int))) then
    Option.bind (getI a1 i1) fun x1 =>
    Option.bind (getI b1 i1) fun x2 =>
    bif (!(decide (x1 = x2))) then
      some (.inr (.inr false))
    else
      some (.inl (w64 (i1 + 1)))
  else
    some (.inr (.inl ()))

def recyclingref48_SameInts (a1 : (List Int)) (b1 : (List Int)) : Option (Bool) :=
  bif (!(decide (((a1.length : Nat) : Int) = ((b1.length : Nat) : Int)))) then
    some false
  else
    Option.bind (
      iter (recyclingref48_SameInts_l1 a1 b1) (((a1.length : Nat) : Int).toNat + 1) 0) (fun o_ => osum o_ (fun _ =>
      some true) (fun rv1146 => some rv1146))

def ledger_Ledger_Postings_l1 (l1 : T_ledger_Ledger) (j_ : (List T_api_Posting) × Int) : Option (((List T_api_Posting) × Int) ⊕ ((List T_api_Posting))) :=
  oun j_ fun out1 v1 => 
  bif (decide (v1 < ((l1.postings.length : Nat) : Int))) then
    Option.bind (getI l1.postings v1) fun x1 =>
    Option.bind (ledger_copied x1) fun r1 =>
    Option.bind (getI out1 v1) fun x2 =>
    some (.inl ((setI out1 v1 r1), w64 (v1 + 1)))
  else
    some (.inr out1)

def ledger_Ledger_Postings (l1 : T_ledger_Ledger) : Option ((List T_api_Posting) × T_ledger_Ledger) :=
  Option.bind (makeO (T_api_Posting.mk 0 0 []) ((l1.postings.length : Nat) : Int)) fun l2 =>
  Option.bind (
    iter (ledger_Ledger_Postings_l1 l1) (((l1.postings.length : Nat) : Int).toNat + 1) (l2, 0)) (fun out2 =>
    some (out2, l1))

def recyclinglaw48_awake : Option (Bool) :=
  Option.bind (ledger_New) fun r1 =>
  Option.bind (recyclinglaw48_pay 1 10 7 100 500) fun r2 =>
  Option.bind (ledger_Ledger_Post r1 r2) fun j_ => oun j_ fun r3 r4 => 
  Option.bind (recyclinglaw48_pay 2 20 100 7 200) fun r5 =>
  Option.bind (ledger_Ledger_Post r4 r5) fun j_ => oun j_ fun r6 r7 => 
  Option.bind (recyclinglaw48_pay 2 20 100 7 200) fun r8 =>
  Option.bind (ledger_Ledger_Post r7 r8) fun j_ => oun j_ fun r9 r10 => 
  Option.bind (recyclinglaw48_pay 3 19 100 7 200) fun r11 =>
  Option.bind (ledger_Ledger_Post r10 r11) fun j_ => oun j_ fun r12 r13 => 
  Option.bind (ledger_Check (T_api_Posting.mk 1 0 [(T_api_Line.mk 1 5), (T_api_Line.mk 2 (-4))])) fun r14 =>
  Option.bind (ledger_Check (T_api_Posting.mk 1 0 [(T_api_Line.mk 1 5)])) fun r15 =>
  Option.bind (
    bif (decide (r3 = 0)) then
      bif (decide (r6 = 0)) then
        bif (decide (r9 = 6)) then
          bif (decide (r12 = 9)) then
            bif (decide (r14 = 16)) then
              bif (decide (r15 = 10)) then
                Option.bind (ledger_Ledger_Balance r13 100) fun j_ => oun j_ fun r16 r17 => 
                bif (decide (r16 = 300)) then
                  Option.bind (ledger_Ledger_Balance r17 7) fun j_ => oun j_ fun r18 r19 => 
                  bif (decide (r18 = (-300))) then
                    Option.bind (ledger_Ledger_At r19 100 19) fun j_ => oun j_ fun r20 r21 => 
                    bif (decide (r20 = 500)) then
                      Option.bind (ledger_Ledger_Accounts r21) fun j_ => oun j_ fun r22 r23 => 
                      Option.bind (recyclingref48_SameInts r22 [7, 100]) fun r24 =>
                      bif r24 then
                        Option.bind (ledger_Ledger_Postings r23) fun j_ => oun j_ fun r25 r26 => 
                        some (decide (((r25.length : Nat) : Int) = 2))
                      else
                        some false
                    else
                      some false
                  else
                    some false
                else
                  some false
              else
                some false
            else
              some false
          else
            some false
        else
          some false
      else
        some false
    else
      some false) (fun v12 =>
    some v12)

def recyclingref48_Check_l1 (p1 : T_api_Posting) (i1 : Int) : Option ((Int) ⊕ (Unit ⊕ Int)) :=
  bif (decide (i1 < ((p1.Lines.length : Nat) : Int))) then
    Option.bind (getI p1.Lines i1) fun x1 =>
    Option.bind (
      bif (decide (x1.Account < 0)) then
        some true
      else
        bif (decide (1000000 < x1.Account)) then
          some true
        else
          bif (decide (x1.Amount = 0)) then
            some true
          else
            bif (decide (x1.Amount < (-1000000000000))) then
              some true
            else
              some (decide (1000000000000 < x1.Amount))) (fun v2 =>
      bif v2 then
        some (.inr (.inr 1))
      else
        some (.inl (w64 (i1 + 1))))
  else
    some (.inr (.inl ()))

def recyclingref48_Check_l2 (p1 : T_api_Posting) (j_ : Int × Int) : Option ((Int × Int) ⊕ (Int)) :=
  oun j_ fun sum1 i2 => 
  bif (decide (i2 < ((p1.Lines.length : Nat) : Int))) then
    Option.bind (getI p1.Lines i2) fun x2 =>
    some (.inl (w64 (sum1 + x2.Amount), w64 (i2 + 1)))
  else
    some (.inr sum1)

def recyclingref48_Check (p1 : T_api_Posting) : Option (Int) :=
  Option.bind (
    bif (decide (p1.ID < 1)) then
      some true
    else
      bif (decide (1000000 < p1.ID)) then
        some true
      else
        bif (decide (p1.At < 0)) then
          some true
        else
          some (decide (3155759999 < p1.At))) (fun v1 =>
    bif v1 then
      some 1
    else
      bif (decide (16 < ((p1.Lines.length : Nat) : Int))) then
        some 8
      else
        bif (decide (((p1.Lines.length : Nat) : Int) < 2)) then
          some 10
        else
          Option.bind (
            iter (recyclingref48_Check_l1 p1) (((p1.Lines.length : Nat) : Int).toNat + 1) 0) (fun o_ => osum o_ (fun _ =>
            Option.bind (
              iter (recyclingref48_Check_l2 p1) (((p1.Lines.length : Nat) : Int).toNat + 1) (0, 0)) (fun sum2 =>
              bif (!(decide (sum2 = 0))) then
                some 16
              else
                some 0)) (fun rv1365 => some rv1365)))

def recyclinglaw48_LedgerChecks (p1 : T_api_Posting) : Option (Bool) :=
  bif (decide (40 < ((p1.Lines.length : Nat) : Int))) then
    Option.bind (recyclinglaw48_awake) fun r1 =>
    some r1
  else
    Option.bind (
      Option.bind (ledger_Check p1) fun r2 =>
      Option.bind (recyclingref48_Check p1) fun r3 =>
      bif (decide (r2 = r3)) then
        Option.bind (recyclinglaw48_awake) fun r4 =>
        some r4
      else
        some false) (fun v3 =>
      some v3)

def recyclinglaw48_great_l1 (l1 : (List T_api_Posting)) (i1 : Int) : Option ((Int) ⊕ (Unit ⊕ Bool)) :=
  bif (decide (i1 < ((l1.length : Nat) : Int))) then
    Option.bind (getI l1 i1) fun x1 =>
    bif (decide (40 < ((x1.Lines.length : Nat) : Int))) then
      some (.inr (.inr true))
    else
      some (.inl (w64 (i1 + 1)))
  else
    some (.inr (.inl ()))

def recyclinglaw48_great (l1 : (List T_api_Posting)) : Option (Bool) :=
  bif (decide (60 < ((l1.length : Nat) : Int))) then
    some true
  else
    Option.bind (
      iter (recyclinglaw48_great_l1 l1) (((l1.length : Nat) : Int).toNat + 1) 0) (fun o_ => osum o_ (fun _ =>
      some false) (fun rv1440 => some rv1440))

def recyclingref48_Balance_l1 (l1 : (List T_api_Posting)) (account1 : Int) (t1 : Int) (i1 : Int) (j_ : Int × Int) : Option ((Int × Int) ⊕ (Int)) :=
  oun j_ fun sum2 k1 => 
  Option.bind (getI l1 i1) fun x1 =>
  bif (decide (k1 < ((x1.Lines.length : Nat) : Int))) then
    Option.bind (
      Option.bind (
        Option.bind (getI l1 i1) fun x2 =>
        bif (decide (x2.At ≤ t1)) then
          Option.bind (getI l1 i1) fun x3 =>
          Option.bind (getI x3.Lines k1) fun x4 =>
          some (decide (x4.Account = account1))
        else
          some false) (fun v1 =>
        bif v1 then
          Option.bind (getI l1 i1) fun x5 =>
          Option.bind (getI x5.Lines k1) fun x6 =>
          some (w64 (sum2 + x6.Amount))
        else
          some sum2)) (fun sum3 =>
      some (.inl (sum3, w64 (k1 + 1))))
  else
    some (.inr sum2)

def recyclingref48_Balance_l2 (F : Nat) (l1 : (List T_api_Posting)) (account1 : Int) (t1 : Int) (j_ : Int × Int) : Option ((Int × Int) ⊕ (Int)) :=
  oun j_ fun sum1 i1 => 
  bif (decide (i1 < ((l1.length : Nat) : Int))) then
    Option.bind (
      Option.bind (
        iter (recyclingref48_Balance_l1 l1 account1 t1 i1) F (sum1, 0)) (fun sum4 =>
        some sum4)) (fun sum5 =>
      some (.inl (sum5, w64 (i1 + 1))))
  else
    some (.inr sum1)

def recyclingref48_Balance (F : Nat) (l1 : (List T_api_Posting)) (account1 : Int) (t1 : Int) : Option (Int) :=
  Option.bind (
    iter (recyclingref48_Balance_l2 F l1 account1 t1) (((l1.length : Nat) : Int).toNat + 1) (0, 0)) (fun sum6 =>
    some sum6)

def recyclingref48_Post_l1 (l1 : (List T_api_Posting)) (p1 : T_api_Posting) (i1 : Int) : Option ((Int) ⊕ (Unit ⊕ ((List T_api_Posting) × Int))) :=
  bif (decide (i1 < ((l1.length : Nat) : Int))) then
    Option.bind (getI l1 i1) fun x1 =>
    bif (decide (x1.ID = p1.ID)) then
      some (.inr (.inr (l1, 6)))
    else
      some (.inl (w64 (i1 + 1)))
  else
    some (.inr (.inl ()))

def recyclingref48_Post_l2 (F : Nat) (l1 : (List T_api_Posting)) (p1 : T_api_Posting) (next1 : (List T_api_Posting)) (k1 : Int) : Option ((Int) ⊕ (Unit ⊕ ((List T_api_Posting) × Int))) :=
  bif (decide (k1 < ((p1.Lines.length : Nat) : Int))) then
    Option.bind (getI p1.Lines k1) fun x3 =>
    Option.bind (recyclingref48_Balance F next1 x3.Account 3155759999) fun r2 =>
    Option.bind (
      bif (decide (r2 < (-1000000000000))) then
        some true
      else
        some (decide (1000000000000 < r2))) (fun v2 =>
      bif v2 then
        some (.inr (.inr (l1, 2)))
      else
        some (.inl (w64 (k1 + 1))))
  else
    some (.inr (.inl ()))

def recyclingref48_Post (F : Nat) (l1 : (List T_api_Posting)) (p1 : T_api_Posting) : Option ((List T_api_Posting) × Int) :=
  Option.bind (recyclingref48_Check p1) fun r1 =>
  bif (!(decide (r1 = 0))) then
    some (l1, r1)
  else
    Option.bind (
      iter (recyclingref48_Post_l1 l1 p1) (((l1.length : Nat) : Int).toNat + 1) 0) (fun o_ => osum o_ (fun _ =>
      Option.bind (
        bif (decide (0 < ((l1.length : Nat) : Int))) then
          Option.bind (getI l1 (w64 (((l1.length : Nat) : Int) - 1))) fun x2 =>
          some (decide (p1.At < x2.At))
        else
          some false) (fun v1 =>
        bif v1 then
          some (l1, 9)
        else
          bif (decide (512 ≤ ((l1.length : Nat) : Int))) then
            some (l1, 8)
          else
            Option.bind (
              Option.bind (appO [] l1) fun l2 =>
              Option.bind (appO l2 [p1]) fun l3 =>
              some l3) (fun next1 =>
              Option.bind (
                iter (recyclingref48_Post_l2 F l1 p1 next1) (((p1.Lines.length : Nat) : Int).toNat + 1) 0) (fun o_ => osum o_ (fun _ =>
                some (next1, 0)) (fun rv1855 => some rv1855))))) (fun rv1734 => some rv1734))

def recyclingref48_SameOne_l1 (a1 : T_api_Posting) (b1 : T_api_Posting) (i1 : Int) : Option ((Int) ⊕ (Unit ⊕ Bool)) :=
  bif (decide (i1 < ((a1.Lines.length : Nat) : Int))) then
    Option.bind (getI a1.Lines i1) fun x1 =>
    Option.bind (getI b1.Lines i1) fun x2 =>
    bif (!(decide (x1 = x2))) then
      some (.inr (.inr false))
    else
      some (.inl (w64 (i1 + 1)))
  else
    some (.inr (.inl ()))

def recyclingref48_SameOne (a1 : T_api_Posting) (b1 : T_api_Posting) : Option (Bool) :=
  Option.bind (
    bif (!(decide (a1.ID = b1.ID))) then
      some true
    else
      bif (!(decide (a1.At = b1.At))) then
        some true
      else
        some (!(decide (((a1.Lines.length : Nat) : Int) = ((b1.Lines.length : Nat) : Int))))) (fun v1 =>
    bif v1 then
      some false
    else
      Option.bind (
        iter (recyclingref48_SameOne_l1 a1 b1) (((a1.Lines.length : Nat) : Int).toNat + 1) 0) (fun o_ => osum o_ (fun _ =>
        some true) (fun rv1948 => some rv1948)))

def recyclingref48_Same_l1 (a1 : (List T_api_Posting)) (b1 : (List T_api_Posting)) (i1 : Int) : Option ((Int) ⊕ (Unit ⊕ Bool)) :=
  bif (decide (i1 < ((a1.length : Nat) : Int))) then
    Option.bind (getI a1 i1) fun x1 =>
    Option.bind (getI b1 i1) fun x2 =>
    Option.bind (recyclingref48_SameOne x1 x2) fun r1 =>
    bif (!r1) then
      some (.inr (.inr false))
    else
      some (.inl (w64 (i1 + 1)))
  else
    some (.inr (.inl ()))

def recyclingref48_Same (a1 : (List T_api_Posting)) (b1 : (List T_api_Posting)) : Option (Bool) :=
  bif (!(decide (((a1.length : Nat) : Int) = ((b1.length : Nat) : Int)))) then
    some false
  else
    Option.bind (
      iter (recyclingref48_Same_l1 a1 b1) (((a1.length : Nat) : Int).toNat + 1) 0) (fun o_ => osum o_ (fun _ =>
      some true) (fun rv1925 => some rv1925))

def recyclingref48_Accounts_l1 (out2 : (List Int)) (x3 : T_api_Line) (k1 : Int) : Option ((Int) ⊕ (Int)) :=
  Option.bind (
    bif (decide (k1 < ((out2.length : Nat) : Int))) then
      Option.bind (getI out2 k1) fun x4 =>
      some (decide (x4 < x3.Account))
    else
      some false) (fun v1 =>
    bif v1 then
      some (.inl (w64 (k1 + 1)))
    else
      some (.inr k1))

def recyclingref48_Accounts_l2 (F : Nat) (l1 : (List T_api_Posting)) (i1 : Int) (j_ : (List Int) × Int) : Option (((List Int) × Int) ⊕ ((List Int))) :=
  oun j_ fun out2 j1 => 
  Option.bind (getI l1 i1) fun x1 =>
  bif (decide (j1 < ((x1.Lines.length : Nat) : Int))) then
    Option.bind (
      Option.bind (getI l1 i1) fun x2 =>
      Option.bind (getI x2.Lines j1) fun x3 =>
      Option.bind (
        iter (recyclingref48_Accounts_l1 out2 x3) F 0) (fun k2 =>
        Option.bind (
          bif (decide (k2 < ((out2.length : Nat) : Int))) then
            Option.bind (getI out2 k2) fun x5 =>
            some (decide (x5 = x3.Account))
          else
            some false) (fun v2 =>
          bif v2 then
            some out2
          else
            Option.bind (subO out2 k2 ((out2.length : Nat) : Int)) fun l2 =>
            Option.bind (appO [] l2) fun l3 =>
            Option.bind (subO out2 0 k2) fun l4 =>
            Option.bind (appO l4 [x3.Account]) fun l5 =>
            Option.bind (appO l5 l3) fun l6 =>
            some l6))) (fun out3 =>
      some (.inl (out3, w64 (j1 + 1))))
  else
    some (.inr out2)

def recyclingref48_Accounts_l3 (F : Nat) (l1 : (List T_api_Posting)) (j_ : (List Int) × Int) : Option (((List Int) × Int) ⊕ ((List Int))) :=
  oun j_ fun out1 i1 => 
  bif (decide (i1 < ((l1.length : Nat) : Int))) then
    Option.bind (
      Option.bind (
        iter (recyclingref48_Accounts_l2 F l1 i1) F (out1, 0)) (fun out4 =>
        some out4)) (fun out5 =>
      some (.inl (out5, w64 (i1 + 1))))
  else
    some (.inr out1)

def recyclingref48_Accounts (F : Nat) (l1 : (List T_api_Posting)) : Option ((List Int)) :=
  Option.bind (
    iter (recyclingref48_Accounts_l3 F l1) (((l1.length : Nat) : Int).toNat + 1) ([], 0)) (fun out6 =>
    some out6)

def recyclinglaw48_LedgerPosts_l1 (F : Nat) (l1 : (List T_api_Posting)) (j_ : T_ledger_Ledger × (List T_api_Posting) × Int) : Option ((T_ledger_Ledger × (List T_api_Posting) × Int) ⊕ ((T_ledger_Ledger × (List T_api_Posting)) ⊕ Bool)) :=
  oun j_ fun q1 j_ => oun j_ fun f_have1 i1 => 
  bif (decide (i1 < ((l1.length : Nat) : Int))) then
    Option.bind (getI l1 i1) fun x1 =>
    Option.bind (ledger_Ledger_Post q1 x1) fun j_ => oun j_ fun r4 r5 => 
    Option.bind (getI l1 i1) fun x2 =>
    Option.bind (recyclingref48_Post F f_have1 x2) fun j_ => oun j_ fun r6 r7 => 
    bif (!(decide (r4 = r7))) then
      some (.inr (.inr false))
    else
      some (.inl (r5, r6, w64 (i1 + 1)))
  else
    some (.inr (.inl (q1, f_have1)))

def recyclinglaw48_LedgerPosts (F : Nat) (l1 : (List T_api_Posting)) : Option (Bool) :=
  Option.bind (recyclinglaw48_great l1) fun r1 =>
  bif r1 then
    Option.bind (recyclinglaw48_awake) fun r2 =>
    some r2
  else
    Option.bind (ledger_New) fun r3 =>
    Option.bind (
      iter (recyclinglaw48_LedgerPosts_l1 F l1) (((l1.length : Nat) : Int).toNat + 1) (r3, [], 0)) (fun o_ => osum o_ (fun j_ => oun j_ fun q2 f_have2 => 
      Option.bind (
        Option.bind (ledger_Ledger_Postings q2) fun j_ => oun j_ fun r8 r9 => 
        Option.bind (recyclingref48_Same r8 f_have2) fun r10 =>
        bif r10 then
          Option.bind (ledger_Ledger_Accounts r9) fun j_ => oun j_ fun r11 r12 => 
          Option.bind (recyclingref48_Accounts F f_have2) fun r13 =>
          Option.bind (recyclingref48_SameInts r11 r13) fun r14 =>
          bif r14 then
            Option.bind (recyclinglaw48_awake) fun r15 =>
            some r15
          else
            some false
        else
          some false) (fun v6 =>
        some v6)) (fun rv2187 => some rv2187))

def recyclinglaw48_filled_l1 (F : Nat) (l1 : (List T_api_Posting)) (j_ : T_ledger_Ledger × (List T_api_Posting) × Int) : Option ((T_ledger_Ledger × (List T_api_Posting) × Int) ⊕ ((T_ledger_Ledger × (List T_api_Posting)))) :=
  oun j_ fun q1 j_ => oun j_ fun f_have1 i1 => 
  bif (decide (i1 < ((l1.length : Nat) : Int))) then
    Option.bind (getI l1 i1) fun x1 =>
    Option.bind (ledger_Ledger_Post q1 x1) fun j_ => oun j_ fun r2 r3 => 
    Option.bind (getI l1 i1) fun x2 =>
    Option.bind (recyclingref48_Post F f_have1 x2) fun j_ => oun j_ fun r4 r5 => 
    some (.inl (r3, r4, w64 (i1 + 1)))
  else
    some (.inr (q1, f_have1))

def recyclinglaw48_filled (F : Nat) (l1 : (List T_api_Posting)) : Option (T_ledger_Ledger × (List T_api_Posting)) :=
  Option.bind (ledger_New) fun r1 =>
  Option.bind (
    iter (recyclinglaw48_filled_l1 F l1) (((l1.length : Nat) : Int).toNat + 1) (r1, [], 0)) (fun j_ => oun j_ fun q2 f_have2 => 
    some (q2, f_have2))

def recyclinglaw48_LedgerBalances (F : Nat) (l1 : (List T_api_Posting)) (account1 : Int) (t1 : Int) : Option (Bool) :=
  Option.bind (recyclinglaw48_great l1) fun r1 =>
  bif r1 then
    Option.bind (recyclinglaw48_awake) fun r2 =>
    some r2
  else
    Option.bind (recyclinglaw48_filled F l1) fun j_ => oun j_ fun r3 r4 => 
    Option.bind (
      Option.bind (ledger_Ledger_Balance r3 account1) fun j_ => oun j_ fun r5 r6 => 
      Option.bind (recyclingref48_Balance F r4 account1 3155759999) fun r7 =>
      bif (decide (r5 = r7)) then
        Option.bind (ledger_Ledger_At r6 account1 t1) fun j_ => oun j_ fun r8 r9 => 
        Option.bind (recyclingref48_Balance F r4 account1 t1) fun r10 =>
        bif (decide (r8 = r10)) then
          Option.bind (recyclinglaw48_awake) fun r11 =>
          some r11
        else
          some false
      else
        some false) (fun v4 =>
      some v4)

def recyclinglaw48_LedgerZero_l1 (l1 : (List T_api_Posting)) (j_ : T_ledger_Ledger × Int) : Option ((T_ledger_Ledger × Int) ⊕ (T_ledger_Ledger)) :=
  oun j_ fun q1 i1 => 
  bif (decide (i1 < ((l1.length : Nat) : Int))) then
    Option.bind (getI l1 i1) fun x1 =>
    Option.bind (ledger_Ledger_Post q1 x1) fun j_ => oun j_ fun r4 r5 => 
    some (.inl (r5, w64 (i1 + 1)))
  else
    some (.inr q1)

def recyclinglaw48_LedgerZero_l2 (t1 : Int) (r6 : (List Int)) (j_ : T_ledger_Ledger × Int × Int × Int) : Option ((T_ledger_Ledger × Int × Int × Int) ⊕ ((Int × Int) ⊕ Bool)) :=
  oun j_ fun q3 j_ => oun j_ fun now1 j_ => oun j_ fun f_then1 i2 => 
  bif (decide (i2 < ((r6.length : Nat) : Int))) then
    Option.bind (getI r6 i2) fun x2 =>
    Option.bind (ledger_Ledger_Balance q3 x2) fun j_ => oun j_ fun r8 r9 => 
    Option.bind (
      bif (decide (r8 < (-1000000000000))) then
        some true
      else
        some (decide (1000000000000 < r8))) (fun v3 =>
      bif v3 then
        some (.inr (.inr false))
      else
        Option.bind (getI r6 i2) fun x3 =>
        Option.bind (ledger_Ledger_At r9 x3 t1) fun j_ => oun j_ fun r10 r11 => 
        some (.inl (r11, w64 (now1 + r8), w64 (f_then1 + r10), w64 (i2 + 1))))
  else
    some (.inr (.inl (now1, f_then1)))

def recyclinglaw48_LedgerZero (l1 : (List T_api_Posting)) (t1 : Int) : Option (Bool) :=
  Option.bind (recyclinglaw48_great l1) fun r1 =>
  bif r1 then
    Option.bind (recyclinglaw48_awake) fun r2 =>
    some r2
  else
    Option.bind (ledger_New) fun r3 =>
    Option.bind (
      iter (recyclinglaw48_LedgerZero_l1 l1) (((l1.length : Nat) : Int).toNat + 1) (r3, 0)) (fun q2 =>
      Option.bind (ledger_Ledger_Accounts q2) fun j_ => oun j_ fun r6 r7 => 
      Option.bind (
        iter (recyclinglaw48_LedgerZero_l2 t1 r6) (((r6.length : Nat) : Int).toNat + 1) (r7, 0, 0, 0)) (fun o_ => osum o_ (fun j_ => oun j_ fun now2 f_then2 => 
        Option.bind (
          bif (decide (now2 = 0)) then
            bif (decide (f_then2 = 0)) then
              Option.bind (recyclinglaw48_awake) fun r12 =>
              some r12
            else
              some false
          else
            some false) (fun v5 =>
          some v5)) (fun rv2469 => some rv2469)))

def recyclinglaw48_LedgerMoments_l1 (l1 : (List T_api_Posting)) (t1 : Int) (j_ : T_ledger_Ledger × T_ledger_Ledger × Int) : Option ((T_ledger_Ledger × T_ledger_Ledger × Int) ⊕ ((T_ledger_Ledger × T_ledger_Ledger) ⊕ Bool)) :=
  oun j_ fun q1 j_ => oun j_ fun q2 i1 => 
  bif (decide (i1 < ((l1.length : Nat) : Int))) then
    Option.bind (
      Option.bind (getI l1 i1) fun x1 =>
      Option.bind (ledger_Ledger_Post q1 x1) fun j_ => oun j_ fun r5 r6 => 
      bif (decide (r5 = 0)) then
        Option.bind (getI l1 i1) fun x2 =>
        bif (decide (x2.At ≤ t1)) then
          Option.bind (getI l1 i1) fun x3 =>
          Option.bind (ledger_Ledger_Post q2 x3) fun j_ => oun j_ fun r7 r8 => 
          some (r6, r8, !(decide (r7 = 0)))
        else
          some (r6, q2, false)
      else
        some (r6, q2, false)) (fun j_ => oun j_ fun q3 j_ => oun j_ fun q4 v4 => 
      bif v4 then
        some (.inr (.inr false))
      else
        some (.inl (q3, q4, w64 (i1 + 1))))
  else
    some (.inr (.inl (q1, q2)))

def recyclinglaw48_LedgerMoments (l1 : (List T_api_Posting)) (account1 : Int) (t1 : Int) : Option (Bool) :=
  Option.bind (recyclinglaw48_great l1) fun r1 =>
  bif r1 then
    Option.bind (recyclinglaw48_awake) fun r2 =>
    some r2
  else
    Option.bind (ledger_New) fun r3 =>
    Option.bind (ledger_New) fun r4 =>
    Option.bind (
      iter (recyclinglaw48_LedgerMoments_l1 l1 t1) (((l1.length : Nat) : Int).toNat + 1) (r3, r4, 0)) (fun o_ => osum o_ (fun j_ => oun j_ fun q5 q6 => 
      Option.bind (
        Option.bind (ledger_Ledger_Balance q5 account1) fun j_ => oun j_ fun r9 r10 => 
        Option.bind (ledger_Ledger_At r10 account1 3155759999) fun j_ => oun j_ fun r11 r12 => 
        bif (decide (r9 = r11)) then
          Option.bind (ledger_Ledger_At r12 account1 t1) fun j_ => oun j_ fun r13 r14 => 
          Option.bind (ledger_Ledger_Balance q6 account1) fun j_ => oun j_ fun r15 r16 => 
          bif (decide (r13 = r15)) then
            Option.bind (recyclinglaw48_awake) fun r17 =>
            some r17
          else
            some false
        else
          some false) (fun v6 =>
        some v6)) (fun rv2577 => some rv2577))

def recyclinglaw48_LedgerFails_l1 (p1 : T_api_Posting) (j_ : T_ledger_Ledger × (List Int) × Int) : Option ((T_ledger_Ledger × (List Int) × Int) ⊕ ((T_ledger_Ledger × (List Int)))) :=
  oun j_ fun q1 j_ => oun j_ fun balances1 i1 => 
  bif (decide (i1 < ((p1.Lines.length : Nat) : Int))) then
    Option.bind (getI p1.Lines i1) fun x1 =>
    Option.bind (ledger_Ledger_Balance q1 x1.Account) fun j_ => oun j_ fun r9 r10 => 
    Option.bind (appO balances1 [r9]) fun l2 =>
    some (.inl (r10, l2, w64 (i1 + 1)))
  else
    some (.inr (q1, balances1))

def recyclinglaw48_LedgerFails_l2 (p1 : T_api_Posting) (balances2 : (List Int)) (j_ : T_ledger_Ledger × Int) : Option ((T_ledger_Ledger × Int) ⊕ (T_ledger_Ledger ⊕ Bool)) :=
  oun j_ fun q3 i2 => 
  bif (decide (i2 < ((p1.Lines.length : Nat) : Int))) then
    Option.bind (getI p1.Lines i2) fun x3 =>
    Option.bind (getI balances2 i2) fun x4 =>
    Option.bind (ledger_Ledger_Balance q3 x3.Account) fun j_ => oun j_ fun r18 r19 => 
    bif (!(decide (r18 = x4))) then
      some (.inr (.inr false))
    else
      some (.inl (r19, w64 (i2 + 1)))
  else
    some (.inr (.inl q3))

def recyclinglaw48_LedgerFails (F : Nat) (l1 : (List T_api_Posting)) (p1 : T_api_Posting) : Option (Bool) :=
  Option.bind (
    Option.bind (recyclinglaw48_great l1) fun r1 =>
    bif r1 then
      some true
    else
      some (decide (40 < ((p1.Lines.length : Nat) : Int)))) (fun v1 =>
    bif v1 then
      Option.bind (recyclinglaw48_awake) fun r2 =>
      some r2
    else
      Option.bind (recyclinglaw48_filled F l1) fun j_ => oun j_ fun r3 r4 => 
      Option.bind (ledger_Ledger_Postings r3) fun j_ => oun j_ fun r5 r6 => 
      Option.bind (ledger_Ledger_Accounts r6) fun j_ => oun j_ fun r7 r8 => 
      Option.bind (
        iter (recyclinglaw48_LedgerFails_l1 p1) (((p1.Lines.length : Nat) : Int).toNat + 1) (r8, [], 0)) (fun j_ => oun j_ fun q2 balances2 => 
        Option.bind (ledger_Ledger_Post q2 p1) fun j_ => oun j_ fun r11 r12 => 
        bif (decide (r11 = 0)) then
          Option.bind (ledger_Ledger_Postings r12) fun j_ => oun j_ fun r13 r14 => 
          Option.bind (
            bif (decide (((r13.length : Nat) : Int) = (w64 (((r5.length : Nat) : Int) + 1)))) then
              Option.bind (subO r13 0 ((r5.length : Nat) : Int)) fun l3 =>
              Option.bind (recyclingref48_Same l3 r5) fun r15 =>
              bif r15 then
                Option.bind (getI r13 ((r5.length : Nat) : Int)) fun x2 =>
                Option.bind (recyclingref48_SameOne x2 p1) fun r16 =>
                bif r16 then
                  Option.bind (recyclinglaw48_awake) fun r17 =>
                  some r17
                else
                  some false
              else
                some false
            else
              some false) (fun v8 =>
            some v8)
        else
          Option.bind (
            iter (recyclinglaw48_LedgerFails_l2 p1 balances2) (((p1.Lines.length : Nat) : Int).toNat + 1) (r12, 0)) (fun o_ => osum o_ (fun q4 =>
            Option.bind (
              Option.bind (ledger_Ledger_Postings q4) fun j_ => oun j_ fun r20 r21 => 
              Option.bind (recyclingref48_Same r20 r5) fun r22 =>
              bif r22 then
                Option.bind (ledger_Ledger_Accounts r21) fun j_ => oun j_ fun r23 r24 => 
                Option.bind (recyclingref48_SameInts r23 r7) fun r25 =>
                bif r25 then
                  Option.bind (recyclinglaw48_awake) fun r26 =>
                  some r26
                else
                  some false
              else
                some false) (fun v11 =>
              some v11)) (fun rv2930 => some rv2930))))

def ledger_Ledger_Post_nil (p1 : T_api_Posting) : Option (Int) :=
  some 14

def ledger_Ledger_Balance_nil (account1 : Int) : Option (Int) :=
  some 0

def ledger_Ledger_At_nil (account1 : Int) (t1 : Int) : Option (Int) :=
  some 0

def ledger_Ledger_Postings_nil : Option ((List T_api_Posting)) :=
  some []

def ledger_Ledger_Accounts_nil : Option ((List Int)) :=
  some []

def recyclinglaw48_LedgerNil (p1 : T_api_Posting) (account1 : Int) (t1 : Int) : Option (Bool) :=
  bif (decide (40 < ((p1.Lines.length : Nat) : Int))) then
    Option.bind (recyclinglaw48_awake) fun r1 =>
    some r1
  else
    Option.bind (
      Option.bind (ledger_Ledger_Post_nil p1) fun r2 =>
      bif (decide (r2 = 14)) then
        Option.bind (ledger_Ledger_Balance_nil account1) fun r3 =>
        bif (decide (r3 = 0)) then
          Option.bind (ledger_Ledger_At_nil account1 t1) fun r4 =>
          bif (decide (r4 = 0)) then
            Option.bind (ledger_Ledger_Postings_nil) fun r5 =>
            bif (decide (((r5.length : Nat) : Int) = 0)) then
              Option.bind (ledger_Ledger_Accounts_nil) fun r6 =>
              bif (decide (((r6.length : Nat) : Int) = 0)) then
                Option.bind (recyclinglaw48_awake) fun r7 =>
                some r7
              else
                some false
            else
              some false
          else
            some false
        else
          some false
      else
        some false) (fun v3 =>
      some v3)

end Go.Proofs.Ytpghcnpheabbgaa
