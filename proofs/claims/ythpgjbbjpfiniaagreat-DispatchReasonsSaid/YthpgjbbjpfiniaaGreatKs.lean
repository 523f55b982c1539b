/- The clauses as rules to be applied one by one; every side condition by 'rfl'. -/
import Derived.Test.YthpgjbbjpfiniaaGreatKh
namespace Go.Proofs.YthpgjbbjpfiniaaGreat
open Go.RowKit
set_option linter.unusedSimpArgs false
set_option linter.unusedVariables false
def evV (fr : Fr) (x : Operand) : Option Value := match x with
  | .tmp t => look fr t
  | .const v => some v
  | .global g => some (.pointer (some ⟨g, 0, none⟩))
  | .func f => some (.func (.func f) #[] #[])
def evVs (fr : Fr) : List Operand → Option (List Value)
  | [] => some []
  | x :: xs => match evV fr x with
    | some v => (match evVs fr xs with | some vs => some (v :: vs) | none => none)
    | none => none
def evVp (fr : Fr) : List (Nat × Operand) → Option (List (Nat × Value))
  | [] => some []
  | x :: xs => match evV fr x.2 with
    | some v => (match evVp fr xs with | some vs => some ((x.1, v) :: vs) | none => none)
    | none => none
section
variable {P : Program} {T : TT} {N : NN} {fr : Fr} {μ : Gh} {L : List Seg}
theorem ev_of {x : Operand} {v : Value} {k : Value → Prop} (h : evV fr x = some v) (hk : k v) : ev fr x k := by
  cases x with
  | tmp t => simp only [evV] at h; simp only [ev, evT, h]; exact hk
  | const u => simp only [evV, Option.some.injEq] at h; subst h; exact hk
  | global g => simp only [evV, Option.some.injEq] at h; subst h; exact hk
  | func f => simp only [evV, Option.some.injEq] at h; subst h; exact hk
theorem evs_of : ∀ {xs : List Operand} {vs : List Value} {k : List Value → Prop}, evVs fr xs = some vs → k vs → evs fr xs k
  | [], vs, k, h, hk => by simp only [evVs, Option.some.injEq] at h; subst h; exact hk
  | x :: xs, vs, k, h, hk => by
    simp only [evVs] at h
    cases h1 : evV fr x with
    | none => rw [h1] at h; cases h
    | some v =>
      cases h2 : evVs fr xs with
      | none => rw [h1, h2] at h; cases h
      | some us =>
        rw [h1, h2] at h
        simp only [Option.some.injEq] at h
        subst h
        exact ev_of h1 (evs_of (k := fun vs => k (v :: vs)) h2 hk)
theorem evp_of : ∀ {xs : List (Nat × Operand)} {vs : List (Nat × Value)} {k : List (Nat × Value) → Prop}, evVp fr xs = some vs → k vs → evp fr xs k
  | [], vs, k, h, hk => by simp only [evVp, Option.some.injEq] at h; subst h; exact hk
  | x :: xs, vs, k, h, hk => by
    simp only [evVp] at h
    cases h1 : evV fr x.2 with
    | none => rw [h1] at h; cases h
    | some v =>
      cases h2 : evVp fr xs with
      | none => rw [h1, h2] at h; cases h
      | some us =>
        rw [h1, h2] at h
        simp only [Option.some.injEq] at h
        subst h
        exact ev_of h1 (evp_of (k := fun vs => k ((x.1, v) :: vs)) h2 hk)
section
variable {k : Value → Prop}
theorem R_move {x : Operand} {v : Value} (h : evV fr x = some v) (hk : k v) : vcR P T (.move x) fr μ L k := ev_of h hk
theorem R_assign {x : Operand} {v : Value} (h : evV fr x = some v) (hk : k v) : vcR P T (.assign x) fr μ L k := ev_of h hk
theorem R_pick_t {c a b : Operand} {v : Value} (h : evV fr c = some (.bool true)) (h2 : evV fr a = some v) (hk : k v) : vcR P T (.pick c a b) fr μ L k := ev_of (k := fun v => pickK v (ev fr a k) (ev fr b k)) h (ev_of h2 hk)
theorem R_pick_f {c a b : Operand} {v : Value} (h : evV fr c = some (.bool false)) (h2 : evV fr b = some v) (hk : k v) : vcR P T (.pick c a b) fr μ L k := ev_of (k := fun v => pickK v (ev fr a k) (ev fr b k)) h (ev_of h2 hk)
theorem R_load {t : TypeId} {a : Operand} {ad : Addr} {i : TyI} (h : evV fr a = some (.pointer (some ad))) (hT : T t = some i) (hi : aggD i.u = false) (hk : Ex (Cell μ L ad) k) : vcR P T (.load t a) fr μ L k := by
  refine ev_of (k := fun v => loadK T μ L t v k) h ?_
  simp only [loadK, hT, hi]; exact hk
theorem R_loadA {t : TypeId} {a : Operand} {ad : Addr} {i : TyI} {n : Nat} (h : evV fr a = some (.pointer (some ad))) (hT : T t = some i) (hi : aggD i.u = true) (hn : i.size = n)
    (hk : Ex (fun vs : List Value => vs.length = n ∧ Cells μ L ad vs) fun vs => k (.agg vs.toArray)) : vcR P T (.load t a) fr μ L k := by
  refine ev_of (k := fun v => loadK T μ L t v k) h ?_
  simp only [loadK, hT, hi, hn]; exact hk
theorem R_nilP {x : Operand} {a : Addr} (h : evV fr x = some (.pointer (some a))) (hk : k (.pointer (some a))) : vcR P T (.nilCheck x) fr μ L k := ev_of (k := fun v => nilK v k) h hk
theorem R_nilF {x : Operand} {f : FuncId} {a b : Array Value} (h : evV fr x = some (.func (.func f) a b)) (hk : k (.func (.func f) a b)) : vcR P T (.nilCheck x) fr μ L k := ev_of (k := fun v => nilK v k) h hk
theorem bin_int {op : BinOp} {t yt : TypeId} {x y : Operand} {kd : IntKind} {a b : Int} (h : evV fr x = some (.int kd a)) (h2 : evV fr y = some (.int kd b)) (hop : op ≠ .shl ∧ op ≠ .shr ∧ op ≠ .and)
    (hk : intBin op kd a b k) : vcR P T (.binOp op t x y yt) fr μ L k := by
  refine ev_of (k := fun a => ev fr y fun b => binK P T op t a b k) h (ev_of (k := fun b => binK P T op t (.int kd a) b k) h2 ?_)
  have hs : ∀ p : Prop, p → sameK kd kd p := by intro p hp; cases kd <;> exact hp
  cases op <;> first | exact hs _ hk | exact absurd rfl hop.1 | exact absurd rfl hop.2.1 | exact absurd rfl hop.2.2
section
variable {t yt : TypeId} {x y : Operand} {kd : IntKind} {a b : Int}
theorem R_add (h : evV fr x = some (.int kd a)) (h2 : evV fr y = some (.int kd b)) (hk : k (.int kd (kd.wrap (a + b)))) : vcR P T (.binOp .add t x y yt) fr μ L k := bin_int h h2 (by simp) hk
theorem R_sub (h : evV fr x = some (.int kd a)) (h2 : evV fr y = some (.int kd b)) (hk : k (.int kd (kd.wrap (a - b)))) : vcR P T (.binOp .sub t x y yt) fr μ L k := bin_int h h2 (by simp) hk
theorem R_mul (h : evV fr x = some (.int kd a)) (h2 : evV fr y = some (.int kd b)) (hk : k (.int kd (kd.wrap (a * b)))) : vcR P T (.binOp .mul t x y yt) fr μ L k := bin_int h h2 (by simp) hk
theorem R_quo (h : evV fr x = some (.int kd a)) (h2 : evV fr y = some (.int kd b)) (hk : b ≠ 0 ∧ k (.int kd (kd.wrap (a.tdiv b)))) : vcR P T (.binOp .quo t x y yt) fr μ L k := bin_int h h2 (by simp) hk
theorem R_rem (h : evV fr x = some (.int kd a)) (h2 : evV fr y = some (.int kd b)) (hk : b ≠ 0 ∧ k (.int kd (a.tmod b))) : vcR P T (.binOp .rem t x y yt) fr μ L k := bin_int h h2 (by simp) hk
theorem R_eql (h : evV fr x = some (.int kd a)) (h2 : evV fr y = some (.int kd b)) (ht : a = b → k (.bool true)) (hf : ¬ a = b → k (.bool false)) : vcR P T (.binOp .eql t x y yt) fr μ L k := bin_int h h2 (by simp) ⟨ht, hf⟩
theorem R_neq (h : evV fr x = some (.int kd a)) (h2 : evV fr y = some (.int kd b)) (ht : ¬ a = b → k (.bool true)) (hf : a = b → k (.bool false)) : vcR P T (.binOp .neq t x y yt) fr μ L k := bin_int h h2 (by simp) ⟨ht, fun h => hf (Classical.not_not.1 h)⟩
theorem R_lss (h : evV fr x = some (.int kd a)) (h2 : evV fr y = some (.int kd b)) (ht : a < b → k (.bool true)) (hf : ¬ a < b → k (.bool false)) : vcR P T (.binOp .lss t x y yt) fr μ L k := bin_int h h2 (by simp) ⟨ht, hf⟩
theorem R_leq (h : evV fr x = some (.int kd a)) (h2 : evV fr y = some (.int kd b)) (ht : a ≤ b → k (.bool true)) (hf : ¬ a ≤ b → k (.bool false)) : vcR P T (.binOp .leq t x y yt) fr μ L k := bin_int h h2 (by simp) ⟨ht, hf⟩
theorem R_gtr (h : evV fr x = some (.int kd a)) (h2 : evV fr y = some (.int kd b)) (ht : b < a → k (.bool true)) (hf : ¬ b < a → k (.bool false)) : vcR P T (.binOp .gtr t x y yt) fr μ L k := bin_int h h2 (by simp) ⟨ht, hf⟩
theorem R_geq (h : evV fr x = some (.int kd a)) (h2 : evV fr y = some (.int kd b)) (ht : b ≤ a → k (.bool true)) (hf : ¬ b ≤ a → k (.bool false)) : vcR P T (.binOp .geq t x y yt) fr μ L k := bin_int h h2 (by simp) ⟨ht, hf⟩
theorem R_shl {kd' : IntKind} (h : evV fr x = some (.int kd a)) (h2 : evV fr y = some (.int kd' b)) (hk : Ex (PureRun P (Op.shift .shl kd a kd' b)) k) : vcR P T (.binOp .shl t x y yt) fr μ L k :=
  ev_of (k := fun a => ev fr y fun b => binK P T .shl t a b k) h (ev_of (k := fun u => binK P T .shl t (.int kd a) u k) h2 hk)
theorem R_shr {kd' : IntKind} (h : evV fr x = some (.int kd a)) (h2 : evV fr y = some (.int kd' b)) (hk : Ex (PureRun P (Op.shift .shr kd a kd' b)) k) : vcR P T (.binOp .shr t x y yt) fr μ L k :=
  ev_of (k := fun a => ev fr y fun b => binK P T .shr t a b k) h (ev_of (k := fun u => binK P T .shr t (.int kd a) u k) h2 hk)
theorem R_and (h : evV fr x = some (.int kd a)) (h2 : evV fr y = some (.int kd b)) (hk : Ex (PureRun P (Op.intBits .and kd a b)) k) : vcR P T (.binOp .and t x y yt) fr μ L k :=
  ev_of (k := fun a => ev fr y fun b => binK P T .and t a b k) h (ev_of (k := fun u => binK P T .and t (.int kd a) u k) h2 (by cases kd <;> exact hk))
end
theorem descK_of {t : TypeId} {f : TypeDesc → Bool} {p : Prop} {i : TyI} (hT : T t = some i) (hf : f i.u = true) (hp : p) : descK T t f p := by
  unfold descK; rw [hT]; simp only [hf]; exact hp
section
variable {t yt : TypeId} {x y : Operand} {i : TyI}
theorem R_eqB {a b : Bool} (h : evV fr x = some (.bool a)) (h2 : evV fr y = some (.bool b)) (hT : T t = some i) (hf : isBl i.u = true) (ht : a = b → k (.bool true)) (hf : ¬ a = b → k (.bool false)) : vcR P T (.binOp .eql t x y yt) fr μ L k :=
  ev_of (k := fun a => ev fr y fun b => binK P T .eql t a b k) h (ev_of (k := fun u => binK P T .eql t (.bool a) u k) h2 (descK_of hT (by assumption) ⟨ht, hf⟩))
theorem R_neB {a b : Bool} (h : evV fr x = some (.bool a)) (h2 : evV fr y = some (.bool b)) (hT : T t = some i) (hf : isBl i.u = true) (ht : ¬ a = b → k (.bool true)) (hf : a = b → k (.bool false)) : vcR P T (.binOp .neq t x y yt) fr μ L k :=
  ev_of (k := fun a => ev fr y fun b => binK P T .neq t a b k) h (ev_of (k := fun u => binK P T .neq t (.bool a) u k) h2 (descK_of hT (by assumption) ⟨ht, fun h => hf (Classical.not_not.1 h)⟩))
theorem R_eqP0 (h : evV fr x = some (.pointer none)) (h2 : evV fr y = some (.pointer none)) (hT : T t = some i) (hf : isPtr i.u = true) (hk : k (.bool true)) : vcR P T (.binOp .eql t x y yt) fr μ L k :=
  ev_of (k := fun a => ev fr y fun b => binK P T .eql t a b k) h (ev_of (k := fun u => binK P T .eql t (.pointer none) u k) h2 (descK_of hT hf ⟨fun _ => hk, fun h => absurd rfl h⟩))
theorem R_eqP1 {a : Addr} (h : evV fr x = some (.pointer (some a))) (h2 : evV fr y = some (.pointer none)) (hT : T t = some i) (hf : isPtr i.u = true) (hk : k (.bool false)) : vcR P T (.binOp .eql t x y yt) fr μ L k :=
  ev_of (k := fun a => ev fr y fun b => binK P T .eql t a b k) h (ev_of (k := fun u => binK P T .eql t (.pointer (some a)) u k) h2 (descK_of hT hf ⟨fun h => (by cases h), fun _ => hk⟩))
theorem R_neP0 (h : evV fr x = some (.pointer none)) (h2 : evV fr y = some (.pointer none)) (hT : T t = some i) (hf : isPtr i.u = true) (hk : k (.bool false)) : vcR P T (.binOp .neq t x y yt) fr μ L k :=
  ev_of (k := fun a => ev fr y fun b => binK P T .neq t a b k) h (ev_of (k := fun u => binK P T .neq t (.pointer none) u k) h2 (descK_of hT hf ⟨fun h => absurd rfl h, fun _ => hk⟩))
theorem R_neP1 {a : Addr} (h : evV fr x = some (.pointer (some a))) (h2 : evV fr y = some (.pointer none)) (hT : T t = some i) (hf : isPtr i.u = true) (hk : k (.bool true)) : vcR P T (.binOp .neq t x y yt) fr μ L k :=
  ev_of (k := fun a => ev fr y fun b => binK P T .neq t a b k) h (ev_of (k := fun u => binK P T .neq t (.pointer (some a)) u k) h2 (descK_of hT hf ⟨fun _ => hk, fun h => absurd (by intro h; cases h) h⟩))
theorem R_eqS {p : Option Addr} {n c n' c' : Nat} (h : evV fr x = some (.slice p n c)) (h2 : evV fr y = some (.slice none n' c')) (hT : T t = some i) (hf : isSlc i.u = true) (ht : p = none → k (.bool true)) (hf2 : ¬ p = none → k (.bool false)) :
    vcR P T (.binOp .eql t x y yt) fr μ L k :=
  ev_of (k := fun a => ev fr y fun b => binK P T .eql t a b k) h (ev_of (k := fun u => binK P T .eql t (.slice p n c) u k) h2 (descK_of hT hf ⟨ht, hf2⟩))
theorem R_agg {op : BinOp} {xs ys : Array Value} (h : evV fr x = some (.agg xs)) (h2 : evV fr y = some (.agg ys))
    (hk : Ex (PureRun P (do eqGuard op t (.tmp 0) (.tmp 0) (.agg xs) (.agg ys); binOp op t (.agg xs) (.agg ys))) k) : vcR P T (.binOp op t x y yt) fr μ L k :=
  ev_of (k := fun a => ev fr y fun b => binK P T op t a b k) h (ev_of (k := fun u => binK P T op t (.agg xs) u k) h2 hk)
end
theorem R_not {t : TypeId} {x : Operand} {b : Bool} (h : evV fr x = some (.bool b)) (hk : k (.bool !b)) : vcR P T (.unOp .not t x) fr μ L k := ev_of (k := fun a => unK .not a k) h hk
theorem R_neg {t : TypeId} {x : Operand} {kd : IntKind} {n : Int} (h : evV fr x = some (.int kd n)) (hk : k (.int kd (kd.wrap (0 - n)))) : vcR P T (.unOp .neg t x) fr μ L k := ev_of (k := fun a => unK .neg a k) h hk
theorem R_maxE {args : Array Operand} {tys : Array TypeId} {kd kd' : IntKind} {x y n : Int} (h : evVs fr args.toList = some [.int kd x, .int kd' y]) (hn : (if y > x then y else x) = n) (hk : k (.int kd n)) : vcR P T (.call ⟨.builtin .max, args, tys⟩) fr μ L k := evs_of (k := fun vs => biK T .max tys.toList vs μ L k) h (by show k (.int kd (if y > x then y else x)); rw [hn]; exact hk)
theorem R_conv {s d : TypeId} {x : Operand} {kd kd' : IntKind} {n : Int} {i j : TyI} (h : evV fr x = some (.int kd n)) (hs : T s = some j) (hd : T d = some i) (hu : i.u = .int kd') (hk : k (.int kd' (kd'.wrap n))) : vcR P T (.convert s d x) fr μ L k := by
  refine ev_of (k := fun a => convK T s d a k) h ?_
  simp only [convK, hs, hd, hu, intD]; exact hk
theorem R_build {t : TypeId} {ps : Array (Nat × Operand)} {vs : List (Nat × Value)} {i : TyI} (h : evVp fr ps.toList = some vs) (hT : T t = some i) (hs : isStr i.u = true) (hall : i.flds.all (·.isSome) = true)
    (hk : fillK (plOf i) i.zero.cells.toList vs fun cs => k (.agg cs.toArray)) : vcR P T (.build t ps) fr μ L k := by
  refine evp_of (k := fun vs => buildK T t vs k) h ?_
  simp only [buildK, hT, hs]; exact ⟨hall, hk⟩
theorem R_fa {s : TypeId} {x : Operand} {f : Nat} {a : Addr} {i : TyI} {q1 q2 : Nat} {q3 : Bool} (h : evV fr x = some (.pointer (some a))) (hT : T s = some i) (hs : isStr i.u = true) (hf : i.flds[f]? = some (some (q1, q2, q3))) (h0 : Nat.beq q2 0 = false)
    (hk : k (.pointer (some (a.add q1)))) : vcR P T (.fieldAddr s x f) fr μ L k := by
  refine ev_of (k := fun v => faK T s v f k) h ?_
  simp only [faK, hT, hs, hf]; exact ⟨Nat.ne_of_beq_eq_false h0, hk⟩
theorem R_fa0 {s : TypeId} {x : Operand} {f g o : Nat} {i : TyI} {q1 q2 : Nat} {q3 : Bool} (h : evV fr x = some (.pointer (some ⟨g, o, none⟩))) (hT : T s = some i) (hs : isStr i.u = true) (hf : i.flds[f]? = some (some (q1, q2, q3))) (h0 : Nat.beq q2 0 = false)
    {o' : Nat} (ho : o + q1 = o') (hk : k (.pointer (some ⟨g, o', none⟩))) : vcR P T (.fieldAddr s x f) fr μ L k := by
  refine R_fa h hT hs hf h0 ?_
  rw [addr_add, ho]; exact hk
theorem R_faz {s : TypeId} {x : Operand} {f : Nat} {a : Addr} {i : TyI} {q2 : Nat} {q3 : Bool} (h : evV fr x = some (.pointer (some a))) (hT : T s = some i) (hs : isStr i.u = true) (hf : i.flds[f]? = some (some (0, q2, q3))) (h0 : Nat.beq q2 0 = false)
    (hk : k (.pointer (some a))) : vcR P T (.fieldAddr s x f) fr μ L k := by
  refine R_fa h hT hs hf h0 ?_
  rw [Addr.add_zero']; exact hk
theorem R_field {s : TypeId} {x : Operand} {f : Nat} {cs : Array Value} {i : TyI} {q1 q2 : Nat} {u : Value} (h : evV fr x = some (.agg cs)) (hT : T s = some i) (hs : isStr i.u = true) (hf : i.flds[f]? = some (some (q1, q2, false)))
    (hu : cs.toList[q1]? = some u) (hk : k u) : vcR P T (.field s x f) fr μ L k := by
  refine ev_of (k := fun v => fieldK T s v f k) h ?_
  simp only [fieldK, hT, hs, hf]; exact ⟨u, by simpa using hu, hk⟩
theorem R_fieldA {s : TypeId} {x : Operand} {f : Nat} {cs : Array Value} {i : TyI} {q1 q2 : Nat} (h : evV fr x = some (.agg cs)) (hT : T s = some i) (hs : isStr i.u = true) (hf : i.flds[f]? = some (some (q1, q2, true)))
    {vs : List Value} (hu : (cs.toList.drop q1).take q2 = vs) (hk : k (.agg vs.toArray)) : vcR P T (.field s x f) fr μ L k := by
  refine ev_of (k := fun v => fieldK T s v f k) h ?_
  simp only [fieldK, hT, hs, hf]
  have : cs.extract q1 (q1 + q2) = vs.toArray := by rw [← hu, ← Array.toList_inj]; simp [List.extract_eq_take_drop]
  rw [this]; exact hk
theorem elemK_of {t e : TypeId} {i j : TyI} {k : TypeId → TyI → Prop} (hT : T t = some i) (hu : i.u = .slice e) (he : T e = some j) (hk : k e j) : elemK T t k := by
  simp only [elemK, hT, hu, he]; exact hk
theorem R_ia {t e : TypeId} {x n : Operand} {A : Option Addr} {len c : Nat} {kd : IntKind} {ix : Int} {i j : TyI} {sz : Nat} (h : evV fr x = some (.slice A len c)) (h2 : evV fr n = some (.int kd ix)) (hT : T t = some i) (hu : i.u = .slice e) (he : T e = some j) (hs : j.size = sz)
    (hk : 0 ≤ ix ∧ ix < len ∧ Ex (fun a => A = some a) fun a => k (.pointer (some (a.add (ix.toNat * sz))))) : vcR P T (.indexAddr t x n) fr μ L k :=
  ev_of (k := fun v => ev fr n fun n => iaK T t v n k) h (ev_of (k := fun u => iaK T t (.slice A len c) u k) h2 (elemK_of hT hu he (by rw [hs]; exact hk)))
theorem R_ext {x : Operand} {i : Nat} {vs : Array Value} {u : Value} (h : evV fr x = some (.tuple vs)) (hu : vs.toList[i]? = some u) (hk : k u) : vcR P T (.extract x i) fr μ L k := by
  refine ev_of (k := fun v => extK v i k) h ?_
  have : vs[i]? = some u := by simpa using hu
  simp only [extK, this]; exact hk
theorem R_mkf {f : Go.Fn} {fi ca : Array Operand} {a b : List Value} (h : evVs fr fi.toList = some a) (h2 : evVs fr ca.toList = some b) (hk : k (.func f a.toArray b.toArray)) : vcR P T (.makeFunc f fi ca) fr μ L k :=
  evs_of (k := fun a => evs fr ca.toList fun b => k (.func f a.toArray b.toArray)) h (evs_of (k := fun b => k (.func f a.toArray b.toArray)) h2 hk)
section
variable {t e : TypeId} {x : Operand} {A : Option Addr} {len cap : Nat} {i j : TyI} {sz : Nat}
theorem R_slLo {lo : Operand} {kd : IntKind} {a : Int} (h1 : evV fr x = some (.slice A len cap)) (h2 : evV fr lo = some (.int kd a)) (hT : T t = some i) (hu : i.u = .slice e) (he : T e = some j) (hs : j.size = sz)
    (hk : 0 ≤ a ∧ a ≤ len ∧ k (.slice (if cap = a.toNat then A else A.map (·.add (a.toNat * sz))) (len - a.toNat) (cap - a.toNat))) : vcR P T (.slice t x (some lo) none none) fr μ L k :=
  ev_of (k := fun v => evo fr (some lo) fun l => evo fr none fun h => evo fr none fun m => sliceK T t v l h m k) h1 (ev_of (k := fun u => sliceK T t (.slice A len cap) (some u) none none k) h2 (elemK_of hT hu he (by rw [hs]; exact hk)))
theorem R_slHi {hi : Operand} {kd : IntKind} {a : Int} (h1 : evV fr x = some (.slice A len cap)) (h2 : evV fr hi = some (.int kd a)) (hT : T t = some i) (hu : i.u = .slice e) (he : T e = some j)
    (hk : 0 ≤ a ∧ a ≤ cap ∧ k (.slice A a.toNat cap)) : vcR P T (.slice t x none (some hi) none) fr μ L k :=
  ev_of (k := fun v => evo fr none fun l => evo fr (some hi) fun h => evo fr none fun m => sliceK T t v l h m k) h1 (ev_of (k := fun u => sliceK T t (.slice A len cap) none (some u) none k) h2 (elemK_of hT hu he (by
    refine ⟨hk.1, hk.2.1, ?_⟩
    have e1 : (if cap = 0 then A else A.map (·.add (0 * j.size))) = A := by
      cases A with
      | none => simp
      | some a => simp [Addr.add_zero']
    show k (.slice (if cap = 0 then A else A.map (·.add (0 * j.size))) (a.toNat - 0) (cap - 0))
    rw [e1]; exact hk.2.2)))
end
theorem R_min {args : Array Operand} {tys : Array TypeId} {kd kd' : IntKind} {x y : Int} (h : evVs fr args.toList = some [.int kd x, .int kd' y]) (hk : k (.int kd (if y < x then y else x))) : vcR P T (.call ⟨.builtin .min, args, tys⟩) fr μ L k :=
  evs_of (k := fun vs => biK T .min tys.toList vs μ L k) h hk
theorem R_minE {args : Array Operand} {tys : Array TypeId} {kd kd' : IntKind} {x y n : Int} (h : evVs fr args.toList = some [.int kd x, .int kd' y]) (hn : (if y < x then y else x) = n) (hk : k (.int kd n)) : vcR P T (.call ⟨.builtin .min, args, tys⟩) fr μ L k := R_min h (by rw [hn]; exact hk)
theorem len_of {args : Array Operand} {t : TypeId} {v : Value} (h : evVs fr args.toList = some [v]) (hk : lenK T t v μ L k) : vcR P T (.call ⟨.builtin .len, args, #[t]⟩) fr μ L k :=
  evs_of (k := fun vs => biK T .len [t] vs μ L k) h hk
theorem R_lenS {args : Array Operand} {t : TypeId} {A : Option Addr} {n c : Nat} {i : TyI} (h : evVs fr args.toList = some [.slice A n c]) (hT : T t = some i) (hf : isSlc i.u = true) (hk : k (.int .i64 n)) : vcR P T (.call ⟨.builtin .len, args, #[t]⟩) fr μ L k :=
  len_of h (descK_of hT hf hk)
theorem R_lenG {args : Array Operand} {t : TypeId} {s : ByteArray} {i : TyI} (h : evVs fr args.toList = some [.string s]) (hT : T t = some i) (hf : isSg i.u = true) (hk : k (.int .i64 s.size)) : vcR P T (.call ⟨.builtin .len, args, #[t]⟩) fr μ L k :=
  len_of h (descK_of hT hf hk)
theorem R_cap {args : Array Operand} {t : TypeId} {A : Option Addr} {n c : Nat} {i : TyI} (h : evVs fr args.toList = some [.slice A n c]) (hT : T t = some i) (hf : isSlc i.u = true) (hk : k (.int .i64 c)) : vcR P T (.call ⟨.builtin .cap, args, #[t]⟩) fr μ L k :=
  evs_of (k := fun vs => biK T .cap [t] vs μ L k) h (descK_of hT hf hk)
theorem R_look {t kt et : TypeId} {m x : Operand} {ok : Bool} {r : Nat} {kd : IntKind} {n : Int} {i ik ie : TyI} {z : Value} (h : evV fr m = some (.map (some r))) (h2 : evV fr x = some (.int kd n)) (hT : T t = some i) (hu : i.u = .map kt et) (hk : T kt = some ik) (hku : ik.u = .int kd) (he : T et = some ie) (hz : ie.zero = z)
    (hk : Ex (fun x : Value × Bool => ∃ es c, ObjAt μ L r (.map es c) ∧ intKeys kd es.toList ∧ x = (match findI n es.toList with | some v => (v, true) | none => (z, false))) fun x => k (okK ok x.1 x.2)) : vcR P T (.lookup t m x ok) fr μ L k := by
  refine ev_of (k := fun v => ev fr x fun n => lookK P T t v n ok μ L k) h (ev_of (k := fun n => lookK P T t (.map (some r)) n ok μ L k) h2 ?_)
  have hs : ∀ p : Prop, p → sameK kd kd p := by intro p hp; cases kd <;> exact hp
  simp only [lookK, hT, hu, ‹T kt = some ik›, hku, intD, he]
  subst hz
  exact hs _ hk
end
theorem F_nil {pl : Nat → Option (Nat × Nat)} {cells : List Value} {k : List Value → Prop} (h : k cells) : fillK pl cells [] k := h
theorem F_cons {pl : Nat → Option (Nat × Nat)} {cells cells' : List Value} {k : List Value → Prop} {i : Nat} {v : Value} {r : List (Nat × Value)} {q1 q2 : Nat} (hp : pl i = some (q1, q2)) (h1 : v.cells.size = q2) (h2 : Nat.ble (q1 + q2) cells.length = true)
    (h3 : setL cells q1 v.cells.toList = cells') (h : fillK pl cells' r k) : fillK pl cells ((i, v) :: r) k := by
  simp only [fillK, hp]
  exact ⟨h1, Nat.le_of_ble_eq_true h2, by rw [h3]; exact h⟩
def isRd : Op → Bool
  | .move _ | .assign _ | .pick .. | .load .. | .nilCheck _ | .binOp .. | .unOp .. | .convert .. | .build .. | .fieldAddr .. | .field .. | .indexAddr .. | .extract .. | .makeFunc .. | .slice .. | .lookup .. | .index .. => true
  | .call ⟨.builtin b, _, _⟩ => (match b with | .len | .cap | .min | .max => true | _ => false)
  | _ => false
section
variable {k : Value → Gh → List Seg → Prop} {ty : TypeId}
theorem O_read {o : Op} (h : isRd o = true) (hk : vcR P T o fr μ L fun v => k v μ L) : vcO P T o ty fr μ L k := by
  cases o <;> first | exact hk | (simp [isRd] at h; done) | skip
  rename_i c
  obtain ⟨ce, args, tys⟩ := c
  cases ce with
  | value f => simp [isRd] at h
  | invoke r m => simp [isRd] at h
  | builtin b => cases b <;> first | exact hk | (simp [isRd] at h; done)
theorem O_store {t : TypeId} {a x : Operand} {ad : Addr} {v : Value} {i : TyI} (h : evV fr a = some (.pointer (some ad))) (h2 : evV fr x = some v) (hT : T t = some i) (hs : v.cells.size = i.size) (h1 : v.cells.toList.all (·.oneCell') = true)
    {vs : List Value} (hv : v.cells.toList = vs) (hk : Ex (StAt L ad vs) fun L' => k undef μ L') : vcO P T (.store t a x) ty fr μ L k := by
  refine ev_of (k := fun p => ev fr x fun v => storeK T t p v L fun L' => k undef μ L') h (ev_of (k := fun v => storeK T t (.pointer (some ad)) v L fun L' => k undef μ L') h2 ?_)
  simp only [storeK, hT]
  subst hv
  exact ⟨hs, fun c hc => List.all_eq_true.1 h1 c (by simpa using hc), hk⟩
theorem O_alloc {t : TypeId} {i : TyI} {cs : Array Value} (hT : T t = some i) (hz : i.zero.cells = cs) (hk : ∀ g, k (.pointer (some ⟨g, 0, none⟩)) μ ([(g, .cells cs t)] :: L)) : vcO P T (.alloc t) ty fr μ L k := by
  simp only [vcO, allocK, hT, hz]; exact hk
theorem O_box {t : TypeId} {x : Operand} {v : Value} {cs : Array Value} (h : evV fr x = some v) (hc : v.cells = cs) (hk : ∀ g, k (.pointer (some ⟨g, 0, none⟩)) μ ([(g, .cells cs t)] :: L)) : vcO P T (.box t x) ty fr μ L k := by
  refine ev_of (k := fun v => ∀ g, k (.pointer (some ⟨g, 0, none⟩)) μ ([(g, .cells v.cells t)] :: L)) h ?_
  rw [hc]; exact hk
theorem O_bsl {t e : TypeId} {n : Nat} {ps : Array (Nat × Operand)} {vs : List (Nat × Value)} {i j : TyI} (h : evVp fr ps.toList = some vs) (hT : T t = some i) (hu : i.u = .slice e) (he : T e = some j) (hn : Nat.ble (n * j.size) 16777216 = true) (hz : j.zero.cells.size = j.size)
    {z : List Value} (hz2 : cyc j.zero.cells.toList n = z) (hk : fillK (fun i => some (i * j.size, j.size)) z vs fun cs => ∀ g, k (.slice (some ⟨g, 0, none⟩) n n) μ ([(g, .cells cs.toArray e)] :: L)) : vcO P T (.buildSlice t n ps) ty fr μ L k := by
  refine evp_of (k := fun vs => buildSlK T t n vs fun e cs => ∀ g, k (.slice (some ⟨g, 0, none⟩) n n) μ ([(g, .cells cs.toArray e)] :: L)) h ?_
  exact elemK_of hT hu he ⟨Nat.le_of_ble_eq_true hn, hz, by rw [hz2]; exact hk⟩
theorem O_mkmap {t : TypeId} (hk : ∀ g, k (.map (some g)) μ ([(g, .map #[] 0)] :: L)) : vcO P T (.makeMap t none) ty fr μ L k := hk
theorem O_mksl {t : TypeId} {l c : Operand} {a b : Value} (h : evV fr l = some a) (h2 : evV fr c = some b) (hk : SemOk P (Instr.makeSlice t a b) μ L k) : vcO P T (.makeSlice t l c) ty fr μ L k :=
  ev_of (k := fun a => ev fr c fun b => SemOk P (Instr.makeSlice t a b) μ L k) h (ev_of (k := fun b => SemOk P (Instr.makeSlice t a b) μ L k) h2 hk)
theorem O_mapUpdate {t : TypeId} {m x v : Operand} {a b c : Value} (h : evV fr m = some a) (h2 : evV fr x = some b) (h3 : evV fr v = some c) (hk : SemU P (Instr.mapUpdate t a b c) μ L fun μ' L' => k undef μ' L') : vcO P T (.mapUpdate t m x v) ty fr μ L k :=
  ev_of (k := fun a => ev fr x fun b => ev fr v fun c => SemU P (Instr.mapUpdate t a b c) μ L fun μ' L' => k undef μ' L') h (ev_of (k := fun b => ev fr v fun c => SemU P (Instr.mapUpdate t a b c) μ L fun μ' L' => k undef μ' L') h2
    (ev_of (k := fun c => SemU P (Instr.mapUpdate t a b c) μ L fun μ' L' => k undef μ' L') h3 hk))
theorem O_call {f : Operand} {args : Array Operand} {tys : Array TypeId} {g : FuncId} {fi ca : Array Value} {vs all : List Value} (h : evV fr f = some (.func (.func g) fi ca)) (h2 : evVs fr args.toList = some vs) (ha : fi.toList ++ vs ++ ca.toList = all)
    (hk : Fn P g all μ L k) : vcO P T (.call ⟨.value f, args, tys⟩) ty fr μ L k := by
  refine ev_of (k := fun fv => evs fr args.toList fun vs => callK P fv vs μ L k) h (evs_of (k := fun vs => callK P (.func (.func g) fi ca) vs μ L k) h2 ?_)
  show Fn P g (fi.toList ++ vs ++ ca.toList) μ L k
  rw [ha]; exact hk
theorem O_append {args : Array Operand} {tys : Array TypeId} {vs : List Value} (h : evVs fr args.toList = some vs) (hk : SemOk P (Builtin.append_ tys ty vs.toArray) μ L k) : vcO P T (.call ⟨.builtin .append, args, tys⟩) ty fr μ L k :=
  evs_of (k := fun vs => biO P T .append tys ty vs μ L k) h hk
theorem O_clear {args : Array Operand} {tys : Array TypeId} {vs : List Value} (h : evVs fr args.toList = some vs) (hk : SemOk P (Builtin.clear_ tys ty vs.toArray) μ L k) : vcO P T (.call ⟨.builtin .clear, args, tys⟩) ty fr μ L k :=
  evs_of (k := fun vs => biO P T .clear tys ty vs μ L k) h hk
end
section
variable {ops r : List Oper} {dst : Option Tmp} {op : Op} {ty : TypeId} {pos : String} {aft : Array Edge} {K : Kont} {j : Nat} {w : Bool} {d : Tmp}
theorem O_nil (h : K fr μ L) : vcOps P T N ops [] fr μ L K := h
theorem O_cons (h : vcO P T op ty fr μ L fun v μ' L' => putK N dst v fr fun fr' => vcOps P T N ops r fr' μ' L' K) : vcOps P T N ops (⟨dst, op, ty, pos, aft, none⟩ :: r) fr μ L K := h
theorem P_some {v : Value} {k : Fr → Prop} (hd : Nat.blt d N.n = true) (h : k ((d, v) :: fr)) : putK N (some d) v fr k := ⟨by simpa [Nat.blt_eq] using hd, h⟩
theorem P_none {v : Value} {k : Fr → Prop} (h : k fr) : putK N none v fr k := h
variable {μ0 : Gh} {keep : List Seg} {pl : List (Bool × Nat)} {i : Nat}
theorem PL_nil (h : K fr μ L) : vcPlan P T N ops μ0 keep [] fr μ L K := h
theorem PL_t (hi : nthOp ops i = some ⟨dst, op, ty, pos, aft, none⟩) (h : vcR P T op fr μ0 keep fun v => putK N dst v fr fun fr' => vcPlan P T N ops μ0 keep pl fr' μ L K) : vcPlan P T N ops μ0 keep ((true, i) :: pl) fr μ L K := by
  simp only [vcPlan, hi]; exact h
theorem PL_f (hi : nthOp ops i = some ⟨dst, op, ty, pos, aft, none⟩) (h : vcO P T op ty fr μ L fun v μ' L' => Kept keep L' ∧ putK N dst v fr fun fr' => vcPlan P T N ops μ0 keep pl fr' μ' L' K) : vcPlan P T N ops μ0 keep ((false, i) :: pl) fr μ L K := by
  simp only [vcPlan, hi]; exact h
def forkOne (P : Program) (T : TT) (N : NN) (ops : List Oper) (μ0 : Gh) (keep : List Seg) (fuel : Nat) (listed : List Bool) (K : Kont) (fr : Fr) (μ : Gh) (L : List Seg) (i : Nat) : Prop :=
  ∃ o, ops[i]? = some o ∧ guardK ops fr o.guard (vcO P T o.op o.type fr μ L fun v μ' L' => Kept keep L' ∧ putK N o.dst v fr fun fr' => AN P N ops μ0 keep fuel (listed.set i true) K fr' μ' L')
      (putK N o.dst undef fr fun fr' => AN P N ops μ0 keep fuel (listed.set i true) K fr' μ L)
variable {fuel : Nat} {listed : List Bool}
theorem FK_2 (hT : TOk P T) {a b : Nat} (hr : Region.ready .any ops.toArray listed.toArray = [a, b]) (h1 : forkOne P T N ops μ0 keep fuel listed K fr μ L a) (h2 : forkOne P T N ops μ0 keep fuel listed K fr μ L b) :
    AN P N ops μ0 keep (fuel + 1) listed K fr μ L := by
  refine AN.fork hT hr rfl fun i hi => ?_
  simp only [List.mem_cons, List.not_mem_nil, or_false] at hi
  rcases hi with rfl | rfl
  · exact h1
  · exact h2
theorem FO_ {listed' : List Bool} (hi : nthOp ops i = some ⟨dst, op, ty, pos, aft, none⟩) (hl : listed.set i true = listed') (h : vcO P T op ty fr μ L fun v μ' L' => Kept keep L' ∧ putK N dst v fr fun fr' => AN P N ops μ0 keep fuel listed' K fr' μ' L') :
    forkOne P T N ops μ0 keep fuel listed K fr μ L i := ⟨_, by rw [← nthOp_eq]; exact hi, by rw [hl]; exact h⟩
theorem AN.run (hT : TOk P T) (plan : List (Bool × Nat)) {listed' : List Bool} {n : Nat} (hs : Region.noSelect ops.toArray = true) (hp : planRun ops plan listed = some listed') (hn : fuel + plan.length = n)
    (h : vcPlan P T N ops μ0 keep plan fr μ L (AN P N ops μ0 keep fuel listed' K)) : AN P N ops μ0 keep n listed K fr μ L := by
  rw [← hn]; exact AN.steps hT hs plan listed hp h
end
section
variable {K : Kont} {B : Nat → Kont} {R : Kont}
theorem W_cond_t {c : Operand} {x y : Code} (h : evV fr c = some (.bool true)) (hk : WP P N x K B R fr μ L) : WP P N (.cond c x y) K B R fr μ L := WP.cond (ev_of (k := fun v => pickK v (WP P N x K B R fr μ L) (WP P N y K B R fr μ L)) h hk)
theorem W_cond_f {c : Operand} {x y : Code} (h : evV fr c = some (.bool false)) (hk : WP P N y K B R fr μ L) : WP P N (.cond c x y) K B R fr μ L := WP.cond (ev_of (k := fun v => pickK v (WP P N x K B R fr μ L) (WP P N y K B R fr μ L)) h hk)
theorem W_cond_v {c : Operand} {x y : Code} {b : Bool} (h : evV fr c = some (.bool b)) (ht : b = true → WP P N x K B R fr μ L) (hf : b = false → WP P N y K B R fr μ L) : WP P N (.cond c x y) K B R fr μ L := by
  refine WP.cond (ev_of (k := fun v => pickK v (WP P N x K B R fr μ L) (WP P N y K B R fr μ L)) h ?_)
  cases b
  · exact hf rfl
  · exact ht rfl
theorem S_nil {k : List Value → Prop} (h : k []) : resK T [] fr μ L k := h
theorem S_tmp {t : Tmp} {r : List ResultVar} {k : List Value → Prop} {v : Value} (h : look fr t = some v) (hk : resK T r fr μ L fun vs => k (v :: vs)) : resK T (.tmp t :: r) fr μ L k := by
  simp only [resK, h, evT]; exact hk
end
end
theorem ST_ {L L' : List Seg} {k : List Seg → Prop} (i j : Nat) {s : Seg} {g off : Nat} {cs : Array Value} {e : TypeId} {vs : List Value} (hi : L[i]? = some s) (hj : s[j]? = some (g, .cells cs e (0, 0))) (hl : Nat.ble (off + vs.length) cs.size = true)
    (hL : L.set i (s.set j (g, .cells (setL cs.toList off vs).toArray e (0, 0))) = L') (hk : k L') : Ex (StAt L ⟨g, off, none⟩ vs) k := Ex.mk _ (StAt.seg i j hi hj (Nat.le_of_ble_eq_true hl)) (by rw [hL]; exact hk)
theorem LA_ {μ : Gh} {L : List Seg} {k : List Value → Prop} (i j : Nat) {s : Seg} {g off n : Nat} {cs : Array Value} {e : TypeId} {f : Nat × Nat} {vs : List Value} (hi : L[i]? = some s) (hj : s[j]? = some (g, .cells cs e f))
    (hv : (cs.toList.drop off).take n = vs) (hl : Nat.beq vs.length n = true) (hk : k vs) : Ex (fun vs : List Value => vs.length = n ∧ Cells μ L ⟨g, off, none⟩ vs) k := by
  have hl := Nat.eq_of_beq_eq_true hl
  exact Ex.mk vs ⟨hl, Cells.seg i j hi hj (by rw [hl]; exact hv)⟩ hk
theorem AN.done0 {P : Program} {N : NN} {ops : List Oper} {μ0 μ : Gh} {keep L : List Seg} {listed : List Bool} {K : Kont} {fr : Fr} (hr : Region.ready .any ops.toArray listed.toArray = []) (h : K fr μ L) : AN P N ops μ0 keep 0 listed K fr μ L := AN.done hr h
theorem perm_cons {L L' : List Seg} {s : Seg} (h : L.flatten.Perm L'.flatten) : (s :: L).flatten.Perm (s :: L').flatten := by simp only [List.flatten_cons]; exact h.append_left _
theorem set_same {L : List Seg} {i : Nat} {s : Seg} (hi : L[i]? = some s) : L.set i s = L := by
  refine List.ext_getElem? fun k => ?_
  by_cases hk : i = k
  · subst hk
    rw [List.getElem?_set_self (by
      rcases Nat.lt_or_ge i L.length with h | h
      · exact h
      · rw [List.getElem?_eq_none h] at hi; cases hi), hi]
  · rw [List.getElem?_set_ne hk]
theorem Kept.more {L L' : List Seg} {s : Seg} (h : Kept L L') : Kept L (s :: L') := fun c hc => by simp only [List.flatten_cons, List.mem_append]; exact .inr (h c hc)
end Go.Proofs.YthpgjbbjpfiniaaGreat
