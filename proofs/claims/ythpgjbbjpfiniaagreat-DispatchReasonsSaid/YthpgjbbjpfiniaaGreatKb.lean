/- What each operation that only reads asks, and that this suffices. -/
import Derived.Test.YthpgjbbjpfiniaaGreatKa
import Derived.ChangeKeysEq
namespace Go.Proofs.YthpgjbbjpfiniaaGreat
open Go.RowKit
set_option linter.unusedSimpArgs false
set_option linter.unusedVariables false
structure TyI where
  u : TypeDesc
  size : Nat
  bytes : Nat
  zero : Value
  flds : List (Option (Nat × Nat × Bool))
def aggD : TypeDesc → Bool
  | .struct _ => true
  | .array _ _ => true
  | _ => false
def fldI (P : Program) (f : Field) : Option (Nat × Nat × Bool) :=
  match P.info? f.type, P.underlying f.type with
  | some i, some d => some (f.offset, i.size, aggD d)
  | _, _ => none
def nrm : TypeDesc → TypeDesc
  | .struct _ => .struct #[]
  | d => d
def tyi (P : Program) (t : TypeId) : Option TyI :=
  match P.underlying t, P.info? t with
  | some u, some i =>
    match i.zero with
    | some z => some { u := nrm u, size := i.size, bytes := i.bytes, zero := z, flds := match u with | .struct fs => fs.toList.map (fldI P) | _ => [] }
    | none => none
  | _, _ => none
abbrev TT := TypeId → Option TyI
def TOk (P : Program) (T : TT) : Prop := ∀ t i, T t = some i → tyi P t = some i
def lookTy : List (Nat × TyI) → TypeId → Option TyI
  | [], _ => none
  | (s, v) :: r, t => bif Nat.beq s t then some v else lookTy r t
theorem TOk.ofList {P : Program} {l : List (Nat × TyI)} (h : ∀ p ∈ l, tyi P p.1 = some p.2) : TOk P (lookTy l) := by
  intro t i hi
  induction l with
  | nil => cases hi
  | cons p r ih =>
    obtain ⟨s, v⟩ := p
    simp only [lookTy] at hi
    by_cases hp : s = t
    · subst hp
      rw [Nat.beq_refl] at hi
      simp only [cond_true, Option.some.injEq] at hi
      rw [← hi]; exact h (s, v) (by simp)
    · have hb : Nat.beq s t = false := by
        cases h : Nat.beq s t with
        | true => exact absurd (Nat.eq_of_beq_eq_true h) hp
        | false => rfl
      rw [hb] at hi
      exact ih (fun q hq => h q (by simp [hq])) hi
theorem tyi_spec {P : Program} {t : TypeId} {i : TyI} (h : tyi P t = some i) :
    ∃ u, P.underlying t = some u ∧ i.u = nrm u ∧ (∃ j, P.info? t = some j ∧ j.size = i.size ∧ j.bytes = i.bytes ∧ j.zero = some i.zero) ∧ (∀ fs, u = .struct fs → i.flds = fs.toList.map (fldI P)) := by
  unfold tyi at h
  cases hu : P.underlying t with
  | none => rw [hu] at h; cases h
  | some u =>
    cases hi : P.info? t with
    | none => rw [hu, hi] at h; cases h
    | some j =>
      rw [hu, hi] at h
      simp only at h
      cases hz : j.zero with
      | none => rw [hz] at h; cases h
      | some z =>
        rw [hz] at h
        simp only [Option.some.injEq] at h
        subst h
        refine ⟨u, rfl, rfl, ⟨j, rfl, rfl, rfl, hz⟩, fun fs hfs => ?_⟩
        subst hfs
        rfl
def Holds (w : World) (μ : Gh) (L : List Seg) : Prop :=
  (∀ b o, μ.mem b = some o → w.heap[b]? = some o) ∧ ∀ c ∈ L.flatten, w.heap[c.1]? = some c.2
theorem Inv.holds {w : World} {μ : Gh} {L : List Seg} (h : Inv w μ L) : Holds w μ L := ⟨h.mem, h.own⟩
def ObjAt (μ : Gh) (L : List Seg) (b : Nat) (o : Obj) : Prop := μ.mem b = some o ∨ (b, o) ∈ L.flatten
theorem Holds.obj {w : World} {μ : Gh} {L : List Seg} (h : Holds w μ L) {b : Nat} {o : Obj} (ho : ObjAt μ L b o) : w.heap[b]? = some o := by
  rcases ho with ho | ho
  · exact h.1 b o ho
  · exact h.2 _ ho
def Cell (μ : Gh) (L : List Seg) (a : Addr) (v : Value) : Prop :=
  a.spot = none ∧ ∃ cs e f, ObjAt μ L a.block (.cells cs e f) ∧ cs[a.off]? = some v
def Cells (μ : Gh) (L : List Seg) (a : Addr) (vs : List Value) : Prop := ∀ j v, vs[j]? = some v → Cell μ L (a.add j) v
theorem Holds.cell {w : World} {μ : Gh} {L : List Seg} (h : Holds w μ L) {a : Addr} {v : Value} (hc : Cell μ L a v) : w.cell? a = some v := by
  obtain ⟨hs, cs, e, f, ho, hv⟩ := hc
  simp [World.cell?, h.obj ho, hs, hv]
theorem ObjAt.mono {μ μ' : Gh} {L L' : List Seg} {b : Nat} {o : Obj} (h : ObjAt μ L b o) (hm : μ.le μ') (hl : ∀ c ∈ L.flatten, c ∈ L'.flatten) : ObjAt μ' L' b o :=
  h.imp (hm.mem b o) (hl _)
theorem Cell.mono {μ μ' : Gh} {L L' : List Seg} {a : Addr} {v : Value} (h : Cell μ L a v) (hm : μ.le μ') (hl : ∀ c ∈ L.flatten, c ∈ L'.flatten) : Cell μ' L' a v := by
  obtain ⟨hs, cs, e, f, ho, hv⟩ := h
  exact ⟨hs, cs, e, f, ho.mono hm hl, hv⟩
theorem Cells.mono {μ μ' : Gh} {L L' : List Seg} {a : Addr} {vs : List Value} (h : Cells μ L a vs) (hm : μ.le μ') (hl : ∀ c ∈ L.flatten, c ∈ L'.flatten) : Cells μ' L' a vs :=
  fun j v hj => (h j v hj).mono hm hl
def Ex {α : Type} (Q : α → Prop) (k : α → Prop) : Prop := ∃ x, Q x ∧ k x
theorem Ex.mk {α : Type} {Q : α → Prop} {k : α → Prop} (x : α) (h : Q x) (hk : k x) : Ex Q k := ⟨x, h, hk⟩
def pickK (v : Value) (x y : Prop) : Prop := match v with | .bool true => x | .bool false => y | _ => False
def nilK (v : Value) (k : Value → Prop) : Prop := match v with
  | .pointer (some a) => k (.pointer (some a))
  | .func (.func f) fi ca => k (.func (.func f) fi ca)
  | _ => False
def loadK (T : TT) (μ : Gh) (L : List Seg) (t : TypeId) (v : Value) (k : Value → Prop) : Prop :=
  match v with
  | .pointer (some a) => match T t with
    | some i => (match aggD i.u with
      | true => Ex (fun vs : List Value => vs.length = i.size ∧ Cells μ L a vs) fun vs => k (.agg vs.toArray)
      | false => Ex (Cell μ L a) k)
    | none => False
  | _ => False
def cmpK (p : Prop) (k : Value → Prop) : Prop := (p → k (.bool true)) ∧ (¬p → k (.bool false))
def intBin (op : BinOp) (kd : IntKind) (a b : Int) (k : Value → Prop) : Prop := match op with
  | .add => k (.int kd (kd.wrap (a + b)))
  | .sub => k (.int kd (kd.wrap (a - b)))
  | .mul => k (.int kd (kd.wrap (a * b)))
  | .quo => b ≠ 0 ∧ k (.int kd (kd.wrap (a.tdiv b)))
  | .rem => b ≠ 0 ∧ k (.int kd (a.tmod b))
  | .eql => cmpK (a = b) k
  | .neq => cmpK (a ≠ b) k
  | .lss => cmpK (a < b) k
  | .leq => cmpK (a ≤ b) k
  | .gtr => cmpK (b < a) k
  | .geq => cmpK (b ≤ a) k
  | _ => False
def PureRun (P : Program) (s : Sem Value) (v : Value) : Prop := ∀ w, s.run P w = .ok v w
def eqK (op : BinOp) (p : Prop) (k : Value → Prop) : Prop := match op with
  | .eql => cmpK p k
  | .neq => cmpK (¬p) k
  | _ => False
def sameK : IntKind → IntKind → Prop → Prop
  | .i8, .i8, p => p | .i16, .i16, p => p | .i32, .i32, p => p | .i64, .i64, p => p
  | .u8, .u8, p => p | .u16, .u16, p => p | .u32, .u32, p => p | .u64, .u64, p => p
  | _, _, _ => False
def isPtr (d : TypeDesc) : Bool := match d with | .pointer _ => true | _ => false
def isSlc (d : TypeDesc) : Bool := match d with | .slice _ => true | _ => false
def isMp (d : TypeDesc) : Bool := match d with | .map _ _ => true | _ => false
def isSg (d : TypeDesc) : Bool := match d with | .string => true | _ => false
def isBl (d : TypeDesc) : Bool := match d with | .bool => true | _ => false
def descK (T : TT) (t : TypeId) (f : TypeDesc → Bool) (p : Prop) : Prop := match T t with | some i => (match f i.u with | true => p | false => False) | none => False
def binK (P : Program) (T : TT) (op : BinOp) (t : TypeId) (x y : Value) (k : Value → Prop) : Prop := match x, y with
  | .int kd a, .int kd' b => (match op with
    | .shl => Ex (PureRun P (Op.shift .shl kd a kd' b)) k
    | .shr => Ex (PureRun P (Op.shift .shr kd a kd' b)) k
    | .and => sameK kd kd' (Ex (PureRun P (Op.intBits .and kd a b)) k)
    | op => sameK kd kd' (intBin op kd a b k))
  | .bool a, .bool b => descK T t isBl (eqK op (a = b) k)
  | .pointer p, .pointer none => descK T t isPtr (eqK op (p = none) k)
  | .slice p _ _, .slice none _ _ => descK T t isSlc (eqK op (p = none) k)
  | .agg xs, .agg ys => Ex (PureRun P (do eqGuard op t (.tmp 0) (.tmp 0) (.agg xs) (.agg ys); binOp op t (.agg xs) (.agg ys))) k
  | .string a, .string b => Ex (PureRun P (do eqGuard op t (.tmp 0) (.tmp 0) (.string a) (.string b); binOp op t (.string a) (.string b))) k
  | .func f fi ca, .nilFunc => Ex (PureRun P (do eqGuard op t (.tmp 0) (.tmp 0) (.func f fi ca) .nilFunc; binOp op t (.func f fi ca) .nilFunc)) k
  | _, _ => False
def unK (op : UnOp) (x : Value) (k : Value → Prop) : Prop := match op, x with
  | .not, .bool b => k (.bool !b)
  | .neg, .int kd n => k (.int kd (kd.wrap (0 - n)))
  | _, _ => False
def intD (d : TypeDesc) (k : IntKind → Prop) : Prop := match d with | .int kd => k kd | _ => False
def convK (T : TT) (s d : TypeId) (x : Value) (k : Value → Prop) : Prop := match x with
  | .int _ n => (match T s with
    | some _ => (match T d with | some i => intD i.u fun kd => k (.int kd (kd.wrap n)) | none => False)
    | none => False)
  | _ => False
def setL : List Value → Nat → List Value → List Value
  | cs, _, [] => cs
  | cs, o, v :: r => setL (cs.set o v) (o + 1) r
def fillK (pl : Nat → Option (Nat × Nat)) (cells : List Value) (parts : List (Nat × Value)) (k : List Value → Prop) : Prop := match parts with
  | [] => k cells
  | p :: r => match pl p.1 with
    | some q => p.2.cells.size = q.2 ∧ q.1 + q.2 ≤ cells.length ∧ fillK pl (setL cells q.1 p.2.cells.toList) r k
    | none => False
def plOf (i : TyI) (n : Nat) : Option (Nat × Nat) := match i.flds[n]? with | some (some x) => some (x.1, x.2.1) | _ => none
def isStr (d : TypeDesc) : Bool := match d with | .struct _ => true | _ => false
def buildK (T : TT) (t : TypeId) (vs : List (Nat × Value)) (k : Value → Prop) : Prop := match T t with
  | some i => (match isStr i.u with
    | true => i.flds.all (·.isSome) = true ∧ fillK (plOf i) i.zero.cells.toList vs fun cs => k (.agg cs.toArray)
    | false => False)
  | none => False
def faK (T : TT) (s : TypeId) (v : Value) (f : Nat) (k : Value → Prop) : Prop := match v with
  | .pointer (some a) => (match T s with
    | some i => (match isStr i.u with
      | true => (match i.flds[f]? with
        | some (some x) => x.2.1 ≠ 0 ∧ k (.pointer (some (a.add x.1)))
        | _ => False)
      | false => False)
    | none => False)
  | _ => False
def fieldK (T : TT) (s : TypeId) (v : Value) (f : Nat) (k : Value → Prop) : Prop := match v with
  | .agg cs => (match T s with
    | some i => (match isStr i.u with
      | true => (match i.flds[f]? with
        | some (some x) => (match x.2.2 with
          | true => k (.agg (cs.extract x.1 (x.1 + x.2.1)))
          | false => Ex (fun u => cs[x.1]? = some u) k)
        | _ => False)
      | false => False)
    | none => False)
  | _ => False
def elemK (T : TT) (t : TypeId) (k : TypeId → TyI → Prop) : Prop := match T t with
  | some i => (match i.u with
    | .slice e => (match T e with | some j => k e j | none => False)
    | _ => False)
  | none => False
def arrK (T : TT) (t : TypeId) (k : Nat → TypeId → TyI → Prop) : Prop := match T t with
  | some i => (match i.u with
    | .array n e => (match T e with | some j => k n e j | none => False)
    | _ => False)
  | none => False
def iaK (T : TT) (t : TypeId) (x n : Value) (k : Value → Prop) : Prop := match x, n with
  | .pointer (some a), .int _ i => arrK T t fun n _ j => 0 ≤ i ∧ i < n ∧ k (.pointer (some (a.add (i.toNat * j.size))))
  | .slice A len _, .int _ i => elemK T t fun _ j => 0 ≤ i ∧ i < len ∧ Ex (fun a => A = some a) fun a => k (.pointer (some (a.add (i.toNat * j.size))))
  | _, _ => False
def extK (v : Value) (i : Nat) (k : Value → Prop) : Prop := match v with
  | .tuple vs => (match vs[i]? with | some u => k u | none => False)
  | _ => False
def bndK (v : Option Value) (dflt y : Nat) (k : Nat → Prop) : Prop := match v with
  | none => k dflt
  | some (.int _ i) => 0 ≤ i ∧ i ≤ y ∧ k i.toNat
  | _ => False
def sliceK (T : TT) (t : TypeId) (x : Value) (lo hi mx : Option Value) (k : Value → Prop) : Prop := match x, mx with
  | .slice A len cap, none => elemK T t fun _ j => bndK hi len cap fun h => bndK lo 0 h fun l =>
      k (.slice (if cap = l then A else A.map (·.add (l * j.size))) (h - l) (cap - l))
  | .slice A len cap, some (.int _ q) => elemK T t fun _ j => 0 ≤ q ∧ q ≤ cap ∧ (match hi with
    | some hv => bndK (some hv) len q.toNat fun h => bndK lo 0 h fun l => k (.slice (if q.toNat = l then A else A.map (·.add (l * j.size))) (h - l) (q.toNat - l))
    | none => False)
  | _, _ => False
def minmaxK (mx : Bool) (vs : List Value) (k : Value → Prop) : Prop := match vs with
  | [.int kd x, .int _ y] => (match mx with
    | true => k (.int kd (if y > x then y else x))
    | false => k (.int kd (if y < x then y else x)))
  | _ => False
def lenK (T : TT) (t : TypeId) (v : Value) (μ : Gh) (L : List Seg) (k : Value → Prop) : Prop := match v with
  | .slice _ n _ => descK T t isSlc (k (.int .i64 n))
  | .map none => descK T t isMp (k (.int .i64 0))
  | .map (some r) => descK T t isMp (Ex (fun es : Array MapEntry => ∃ c, ObjAt μ L r (.map es c)) fun es => k (.int .i64 es.size))
  | .string s => descK T t isSg (k (.int .i64 s.size))
  | _ => False
def capK (T : TT) (t : TypeId) (v : Value) (k : Value → Prop) : Prop := match v with
  | .slice _ _ c => descK T t isSlc (k (.int .i64 c))
  | _ => False
def biK (T : TT) (b : Builtin) (tys : List TypeId) (vs : List Value) (μ : Gh) (L : List Seg) (k : Value → Prop) : Prop := match b, tys, vs with
  | .len, [t], [v] => lenK T t v μ L k
  | .cap, [t], [v] => capK T t v k
  | .min, _, vs => minmaxK false vs k
  | .max, _, vs => minmaxK true vs k
  | _, _, _ => False
def findI (n : Int) : List MapEntry → Option Value
  | [] => none
  | e :: es => match e.key with
    | .int _ m => if m = n then some e.val else findI n es
    | _ => none
def intKeys (kd : IntKind) (es : List MapEntry) : Prop := ∀ e ∈ es, ∃ m, e.key = .int kd m
def okK (ok : Bool) (v : Value) (b : Bool) : Value := match ok with | true => .tuple #[v, .bool b] | false => v
def lookK (P : Program) (T : TT) (t : TypeId) (m key : Value) (ok : Bool) (μ : Gh) (L : List Seg) (k : Value → Prop) : Prop := match key with
  | .int kd n => (match T t with
    | some i => (match i.u with
      | .map kt et => (match T kt with
        | some ik => intD ik.u fun kd' => sameK kd kd' (match T et with
          | some ie => (match m with
            | .map none => k (okK ok ie.zero false)
            | .map (some r) => Ex (fun x : Value × Bool => ∃ es c, ObjAt μ L r (.map es c) ∧ intKeys kd es.toList ∧ x = (match findI n es.toList with | some v => (v, true) | none => (ie.zero, false)))
                fun x => k (okK ok x.1 x.2)
            | _ => False)
          | none => False)
        | none => False)
      | _ => False)
    | none => False)
  | .string s => Ex (fun v => ∀ w, Holds w μ L → (Instr.lookup t m (.string s) ok).run P w = .ok v w) k
  | _ => False
def vcR (P : Program) (T : TT) (o : Op) (fr : Fr) (μ : Gh) (L : List Seg) (k : Value → Prop) : Prop := match o with
  | .move x => ev fr x k
  | .assign x => ev fr x k
  | .pick c a b => ev fr c fun v => pickK v (ev fr a k) (ev fr b k)
  | .load t a => ev fr a fun v => loadK T μ L t v k
  | .nilCheck x => ev fr x fun v => nilK v k
  | .binOp op t x y _ => ev fr x fun a => ev fr y fun b => binK P T op t a b k
  | .unOp op _ x => ev fr x fun a => unK op a k
  | .convert s d x => ev fr x fun a => convK T s d a k
  | .build t ps => evp fr ps.toList fun vs => buildK T t vs k
  | .fieldAddr s x f => ev fr x fun v => faK T s v f k
  | .field s x f => ev fr x fun v => fieldK T s v f k
  | .indexAddr t x i => ev fr x fun v => ev fr i fun n => iaK T t v n k
  | .extract x i => ev fr x fun v => extK v i k
  | .makeFunc fn fi ca => evs fr fi.toList fun a => evs fr ca.toList fun b => k (.func fn a.toArray b.toArray)
  | .slice t x lo hi mx => ev fr x fun v => evo fr lo fun l => evo fr hi fun h => evo fr mx fun m => sliceK T t v l h m k
  | .lookup t m i ok => ev fr m fun v => ev fr i fun n => lookK P T t v n ok μ L k
  | .index t x i => ev fr x fun v => ev fr i fun n => Ex (PureRun P (Instr.index t v n)) k
  | .call c => (match c.callee with
    | .builtin b => evs fr c.args.toList fun vs => biK T b c.argTypes.toList vs μ L k
    | _ => False)
  | _ => False
section
variable {P : Program} {T : TT} {w : World} {μ : Gh} {L : List Seg}
theorem cmpK_val {p : Prop} {k : Value → Prop} (h : cmpK p k) [Decidable p] : k (.bool (decide p)) := by
  by_cases hp : p
  · rw [decide_eq_true hp]; exact h.1 hp
  · rw [decide_eq_false hp]; exact h.2 hp
def Runs (P : Program) (μ : Gh) (L : List Seg) (s : Sem Value) (k : Value → Prop) : Prop := ∃ v, k v ∧ ∀ w, Holds w μ L → s.run P w = .ok v w
theorem nrm_ne {u : TypeDesc} (h : ∀ fs, nrm u ≠ .struct fs) : nrm u = u := by
  cases u <;> first | rfl | exact absurd rfl (h _)
theorem run_und {t : TypeId} {i : TyI} (hT : TOk P T) (h : T t = some i) {d : TypeDesc} (hd : i.u = d) (hs : ∀ fs, d ≠ .struct fs) (w : World) : (underlying t).run P w = .ok d w := by
  obtain ⟨u, h1, h2, _⟩ := tyi_spec (hT t i h)
  rw [hd] at h2
  have := nrm_ne (u := u) (by rw [← h2]; exact hs)
  rw [h2, this]
  exact run_underlying h1 w
theorem run_str {t : TypeId} {i : TyI} (hT : TOk P T) (h : T t = some i) {fs : Array Field} (hd : i.u = .struct fs) :
    ∃ fs, i.flds = fs.toList.map (fldI P) ∧ ∀ w, (underlying t).run P w = .ok (.struct fs) w := by
  obtain ⟨u, h1, h2, _, h3⟩ := tyi_spec (hT t i h)
  rw [hd] at h2
  have : ∃ fs, u = .struct fs := by cases u <;> simp [nrm] at h2 ⊢
  obtain ⟨fs, rfl⟩ := this
  exact ⟨fs, h3 fs rfl, fun w => run_underlying h1 w⟩
theorem run_size {t : TypeId} {i : TyI} (hT : TOk P T) (h : T t = some i) (w : World) : (sizeOf t).run P w = .ok i.size w := by
  obtain ⟨_, _, _, ⟨j, hj, hs, _, _⟩, _⟩ := tyi_spec (hT t i h)
  simp [sizeOf, run_typeInfo w hj, hs]
theorem run_zero {t : TypeId} {i : TyI} (hT : TOk P T) (h : T t = some i) (w : World) : (zeroValue t).run P w = .ok i.zero w := by
  obtain ⟨_, _, _, ⟨j, hj, _, _, hz⟩, _⟩ := tyi_spec (hT t i h)
  simp [zeroValue, run_typeInfo w hj, hz]
theorem run_bytes {t : TypeId} {i : TyI} (hT : TOk P T) (h : T t = some i) : ∃ j, P.info? t = some j ∧ j.bytes = i.bytes ∧ j.size = i.size ∧ j.zero = some i.zero := by
  obtain ⟨_, _, _, ⟨j, hj, hs, hb, hz⟩, _⟩ := tyi_spec (hT t i h)
  exact ⟨j, hj, hb, hs, hz⟩
theorem und_of {t : TypeId} {i : TyI} (hT : TOk P T) (h : T t = some i) {d : TypeDesc} (hd : i.u = d) (hs : ∀ fs, d ≠ .struct fs) : P.underlying t = some d := by
  obtain ⟨u, h1, h2, _⟩ := tyi_spec (hT t i h)
  rw [hd] at h2
  have := nrm_ne (u := u) (by rw [← h2]; exact hs)
  rw [h2, this]; exact h1
theorem aggD_nrm (u : TypeDesc) : aggD (nrm u) = aggD u := by cases u <;> rfl
theorem run_agg {t : TypeId} {i : TyI} (hT : TOk P T) (h : T t = some i) (w : World) : (isAgg t).run P w = .ok (aggD i.u) w := by
  obtain ⟨u, h1, h2, _⟩ := tyi_spec (hT t i h)
  simp only [isAgg, Sem.run_bind, run_underlying h1 w, Result.andThen_ok, h2, aggD_nrm]
  cases u <;> rfl
theorem runs_load (hT : TOk P T) {t : TypeId} {v : Value} {k : Value → Prop} (h : loadK T μ L t v k) : Runs P μ L (Instr.loadAt t v) k := by
  unfold loadK at h
  split at h
  · rename_i a
    split at h
    · rename_i i hi
      split at h
      · rename_i hag
        obtain ⟨vs, ⟨hl, hc⟩, hk⟩ := h
        refine ⟨_, hk, fun w hw => ?_⟩
        have hr := run_loadCells_list (P := P) (w := w) a vs (fun j v hj => hw.cell (hc j v hj))
        simp only [Instr.loadAt, Instr.sureAddr, loadVar, Sem.run_bind, Sem.run_pure, Result.andThen_ok, run_agg hT hi, hag, if_true, run_size hT hi, ← hl, hr]
      · rename_i hag
        obtain ⟨u, hc, hk⟩ := h
        refine ⟨_, hk, fun w hw => ?_⟩
        simp [Instr.loadAt, Instr.sureAddr, loadVar, run_agg hT hi, hag, hw.cell hc]
    · exact h.elim
  · exact h.elim
theorem runs_pure {s : Sem Value} {v : Value} {k : Value → Prop} (hk : k v) (h : ∀ w, s.run P w = .ok v w) : Runs P μ L s k := ⟨v, hk, fun w _ => h w⟩
theorem runs_int (op : BinOp) (kd : IntKind) (a b : Int) {t : TypeId} {x y : Operand} {k : Value → Prop} (h : intBin op kd a b k) :
    Runs P μ L (do eqGuard op t x y (.int kd a) (.int kd b); binOp op t (.int kd a) (.int kd b)) k := by
  cases op <;> simp only [intBin] at h
  case add => exact runs_pure h fun w => by simp [eqGuard, binOp, Op.intArith]
  case sub => exact runs_pure h fun w => by simp [eqGuard, binOp, Op.intArith]
  case mul => exact runs_pure h fun w => by simp [eqGuard, binOp, Op.intArith]
  case quo => exact runs_pure h.2 fun w => by simp [eqGuard, binOp, Op.intDiv, h.1]
  case rem => exact runs_pure h.2 fun w => by simp [eqGuard, binOp, Op.intDiv, h.1]
  case eql => exact runs_pure (cmpK_val h) fun w => by simp [eqGuard, binOp, Op.intCmp, BEq.beq]
  case neq => exact runs_pure (cmpK_val h) fun w => by simp [eqGuard, binOp, Op.intCmp, bne, BEq.beq]
  case lss => exact runs_pure (cmpK_val h) fun w => by simp [eqGuard, binOp, Op.intCmp]
  case leq => exact runs_pure (cmpK_val h) fun w => by simp [eqGuard, binOp, Op.intCmp]
  case gtr => exact runs_pure (cmpK_val h) fun w => by simp [eqGuard, binOp, Op.intCmp]
  case geq => exact runs_pure (cmpK_val h) fun w => by simp [eqGuard, binOp, Op.intCmp]
theorem sameK_spec {kd kd' : IntKind} {p : Prop} (h : sameK kd kd' p) : kd = kd' ∧ p := by
  cases kd <;> cases kd' <;> first | exact ⟨rfl, h⟩ | exact h.elim
theorem descK_spec {t : TypeId} {f : TypeDesc → Bool} {p : Prop} (h : descK T t f p) : ∃ i, T t = some i ∧ f i.u = true ∧ p := by
  unfold descK at h
  split at h
  · rename_i i hi
    split at h
    · exact ⟨i, hi, ‹_›, h⟩
    · exact h.elim
  · exact h.elim
theorem equal_of {t : TypeId} {x y : Value} {b : Bool} (h : ∀ d w, (Op.equalIn (d + 1) t x y).run P w = .ok b w) (w : World) : (Op.equal t x y).run P w = .ok b w := h 9999 w
theorem runs_eq {op : BinOp} {t : TypeId} {x y : Value} {ox oy : Operand} {p : Prop} [Decidable p] {k : Value → Prop} (h : eqK op p k)
    (hg : ∀ w, (eqGuard op t ox oy x y).run P w = .ok () w)
    (h1 : binOp .eql t x y = (do pure (.bool (← Op.equal t x y)))) (h2 : binOp .neq t x y = (do pure (.bool (!(← Op.equal t x y)))))
    (he : ∀ w, (Op.equal t x y).run P w = .ok (decide p) w) : Runs P μ L (do eqGuard op t ox oy x y; binOp op t x y) k := by
  cases op <;> simp only [eqK] at h
  case eql => exact runs_pure (cmpK_val h) fun w => by simp [hg, h1, he]
  case neq => exact runs_pure (cmpK_val h) fun w => by simp [hg, h2, he]
theorem runs_bin (hT : TOk P T) {op : BinOp} {t : TypeId} {x y : Value} {ox oy : Operand} {k : Value → Prop} (h : binK P T op t x y k) :
    Runs P μ L (do eqGuard op t ox oy x y; binOp op t x y) k := by
  unfold binK at h
  split at h
  · rename_i kd a kd' b
    split at h
    · obtain ⟨v, hv, hk⟩ := h
      exact runs_pure hk fun w => by simp [eqGuard, binOp, hv w]
    · obtain ⟨v, hv, hk⟩ := h
      exact runs_pure hk fun w => by simp [eqGuard, binOp, hv w]
    · obtain ⟨rfl, v, hv, hk⟩ := sameK_spec h
      exact runs_pure hk fun w => by simp [eqGuard, binOp, hv w]
    · obtain ⟨rfl, h'⟩ := sameK_spec h
      exact runs_int _ _ _ _ h'
  · rename_i a b
    obtain ⟨i, hi, hf, h⟩ := descK_spec h
    have hd : i.u = .bool := by revert hf; cases i.u <;> simp [isBl]
    refine runs_eq h (fun w => by simp [eqGuard]) rfl rfl (equal_of fun d w => ?_)
    simp [Op.equalIn, run_und hT hi hd (by simp), BEq.beq]
  · rename_i p
    obtain ⟨i, hi, hf, h⟩ := descK_spec h
    have hd : ∃ e, i.u = .pointer e := by revert hf; cases i.u <;> simp [isPtr]
    obtain ⟨e, hd⟩ := hd
    refine runs_eq h (fun w => by simp [eqGuard]) (by cases p <;> rfl) (by cases p <;> rfl) (equal_of fun d w => ?_)
    cases p <;> simp [Op.equalIn, run_und hT hi hd (by simp)]
  · rename_i p n c n' c'
    obtain ⟨i, hi, hf, h⟩ := descK_spec h
    have hd : ∃ e, i.u = .slice e := by revert hf; cases i.u <;> simp [isSlc]
    obtain ⟨e, hd⟩ := hd
    refine runs_eq h (fun w => by simp [eqGuard]) rfl rfl (equal_of fun d w => ?_)
    cases p <;> simp [Op.equalIn, run_und hT hi hd (by simp)]
  · rename_i xs ys
    obtain ⟨v, hv, hk⟩ := h
    exact runs_pure hk fun w => hv w
  · rename_i a b
    obtain ⟨v, hv, hk⟩ := h
    exact runs_pure hk fun w => by have := hv w; cases op <;> simpa [eqGuard] using this
  · rename_i f fi ca
    obtain ⟨v, hv, hk⟩ := h
    exact runs_pure hk fun w => by have := hv w; cases op <;> simpa [eqGuard] using this
  · exact h.elim
end
end Go.Proofs.YthpgjbbjpfiniaaGreat
