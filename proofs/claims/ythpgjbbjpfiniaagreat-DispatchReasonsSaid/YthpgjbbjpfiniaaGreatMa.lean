/- A machine over the clauses: what lies ahead is a list of items; a function that can be computed takes the steps that need no proof. Nothing of the program is named here. -/
import Derived.Test.YthpgjbbjpfiniaaGreatGe
namespace Go.Proofs.YthpgjbbjpfiniaaGreat
open Go.RowKit
set_option linter.unusedSimpArgs false
set_option linter.unusedVariables false
def WPops (P : Program) (N : NN) (all rest : List Oper) (K : Kont) : Kont := fun fr μ L => ∀ (a : Act) (w : World) (Q : Exit → Act → World → Prop), Agr N fr a → Inv w μ L →
  (∀ fr' μ' L' a' w', μ.le μ' → Agr N fr' a' → Inv w' μ' L' → K fr' μ' L' → Q .normal a' w') → wpListIn (fw N.rd) 0 P all.toArray Q rest a w
def planOk (all : List Oper) (plan : List (Bool × Nat)) (l : List Bool) : Bool := match planRun all plan l with
  | some l' => (Region.ready .any all.toArray l'.toArray).isEmpty
  | none => false
def WPpl (P : Program) (N : NN) (all : List Oper) (l : List Bool) (plan : List (Bool × Nat)) (μ0 : Gh) (keep : List Seg) (K : Kont) : Kont := fun fr μ L =>
  Region.noSelect all.toArray = true → planOk all plan l = true → AN P N all μ0 keep plan.length l K fr μ L
def WPpp (P : Program) (N : NN) (all : List Oper) (l : List Bool) (plan : List (Bool × Nat)) (n : Nat) (l' : List Bool) (μ0 : Gh) (keep : List Seg) (K : Kont) : Kont := fun fr μ L =>
  Region.noSelect all.toArray = true → planRun all plan l = some l' → AN P N all μ0 keep (n + plan.length) l K fr μ L
inductive MIt where
  | code (c : Code)
  | blk (i : Nat)
  | ops (all rest : List Oper)
  | pln (all : List Oper) (l : List Bool) (plan : List (Bool × Nat)) (μ0 : Gh) (keep : List Seg)
  | plp (all : List Oper) (l : List Bool) (plan : List (Bool × Nat)) (n : Nat) (l' : List Bool) (μ0 : Gh) (keep : List Seg)
  | cut (M : Kont)
def KEn (N : NN) (K : Kont) : Kont := fun fr μ L => ∀ a w, Agr N fr a → Inv w μ L → ∃ fr' μ' L', Agr N fr' a ∧ μ.le μ' ∧ Inv w μ' L' ∧ K fr' μ' L'
section
variable (P : Program) (N : NN) (R : Kont)
def KB : List MIt → Kont × (Nat → Kont)
  | [] => (KEn N R, fun _ _ _ _ => False)
  | .code c :: s => (fun fr μ L => WP P N c (KB s).1 (KB s).2 (KEn N R) fr μ L, (KB s).2)
  | .blk i :: s => ((KB s).1, inBlk i (KB s).1 (KB s).2)
  | .ops all rest :: s => (WPops P N all rest (KB s).1, (KB s).2)
  | .pln all l plan μ0 keep :: s => (WPpl P N all l plan μ0 keep (KB s).1, (KB s).2)
  | .plp all l plan n l' μ0 keep :: s => (WPpp P N all l plan n l' μ0 keep (KB s).1, (KB s).2)
  | .cut M :: s => (M, (KB s).2)
def KS (s : List MIt) : Kont := (KB P N R s).1
def BS (s : List MIt) : Nat → Kont := (KB P N R s).2
end
section
variable {P : Program} {T : TT} {N : NN} {R K : Kont} {fr : Fr} {μ : Gh} {L : List Seg} {all rest : List Oper} {o : Oper} {l l' : List Bool} {plan : List (Bool × Nat)} {μ0 : Gh} {keep : List Seg} {i n : Nat}
theorem KEn.done (h : K fr μ L) : KEn N K fr μ L := fun _ _ ha hw => ⟨fr, μ, L, ha, Gh.le.refl _, hw, h⟩
theorem WPops.nil (h : K fr μ L) : WPops P N all [] K fr μ L := fun a w Q ha hw hQ => hQ fr μ L a w (Gh.le.refl _) ha hw h
theorem WPops.cons (hT : TOk P T) (h : guardK all fr o.guard (vcO P T o.op o.type fr μ L fun v μ' L' => putK N o.dst v fr fun fr' => WPops P N all rest K fr' μ' L') (putK N o.dst undef fr fun fr' => WPops P N all rest K fr' μ L)) :
    WPops P N all (o :: rest) K fr μ L := by
  intro a w Q ha hw hQ
  refine wpListIn_step fun K' hK' => ?_
  rcases guard_sound ha h with ⟨hg, h⟩ | ⟨hg, h⟩
  · rw [if_pos hg]
    refine opIn (vcO_nodefer h) (vcO_sound hT ha h hw fun v μ' L' w' hm hw' hk => ?_)
    obtain ⟨fr', hk, ha'⟩ := putK_sound ha hk
    exact hK' _ _ (hk _ w' Q ha' hw' fun fr2 μ2 L2 a2 w2 hm2 => hQ fr2 μ2 L2 a2 w2 (hm.trans hm2))
  · rw [if_neg (by rw [hg]; exact Bool.false_ne_true)]
    refine ⟨fun _ _ => trivial, ?_⟩
    obtain ⟨fr', hk, ha'⟩ := putK_sound ha h
    exact hK' _ _ (hk _ w Q ha' hw hQ)
theorem WP.regionS {B : Nat → Kont} {id : Nat} (h : WPops P N all all K fr μ L) : WP P N (.region id all.toArray false) K B R fr μ L := fun a w ha hw =>
  wpIn_region_lit (h a w _ ha hw fun fr' μ' L' a' w' hm ha' hw' hk => ⟨fr', μ', L', ha', hm, hw', hk⟩)
theorem AN.one (hT : TOk P T) (hs : Region.noSelect all.toArray = true) {b : Bool} {m : Nat} {X : Kont} (hX : ∀ fr μ L, X fr μ L → AN P N all μ0 keep m (l.set i true) K fr μ L) (hp : planRun all ((b, i) :: plan) l = some l') (ho : nthOp all i = some o)
    (h : (match b with
      | true => guardK all fr o.guard (vcR P T o.op fr μ0 keep fun v => putK N o.dst v fr fun fr' => X fr' μ L) (putK N o.dst undef fr fun fr' => X fr' μ L)
      | false => guardK all fr o.guard (vcO P T o.op o.type fr μ L fun v μ' L' => Kept keep L' ∧ putK N o.dst v fr fun fr' => X fr' μ' L') (putK N o.dst undef fr fun fr' => X fr' μ L))) :
    AN P N all μ0 keep (m + 1) l K fr μ L := by
  intro hm hk a w Qx ha hw hQ hQp
  unfold planRun at hp
  split at hp
  · rename_i hc
    rw [nthOp_eq] at ho
    have ho' : all.toArray[i]? = some o := by simpa using ho
    show wpAnyH P .any all.toArray Qx _ (m + 1) l.toArray a w
    cases b with
    | true =>
      simp only [Bool.and_eq_true] at h hc
      have hcont : ∀ v, putK N o.dst v fr (fun fr' => X fr' μ L) → wpAnyH P .any all.toArray Qx (fun w => Holds w μ0 keep) m (l.toArray.setIfInBounds i true) (a.put o.dst v) w := by
        intro v hv
        obtain ⟨fr', hv', ha'⟩ := putK_sound ha hv
        rw [set_toArray]
        exact hX _ _ _ hv' hm hk _ w Qx ha' hw hQ hQp
      rcases guard_sound ha h with ⟨hg, h⟩ | ⟨hg, h⟩
      · obtain ⟨v, hv, hrun⟩ := vcR_sound hT ha h
        exact wpAnyH_take ho' hs hc.1 hc.2 (fun c a w h => hQp c a _ _ w h) (.inl ⟨hg, fun w hw => hrun w hw⟩) (holds_of hm hk hw) (hcont v hv)
      · exact wpAnyH_take ho' hs hc.1 hc.2 (fun c a w h => hQp c a _ _ w h) (.inr ⟨hg, rfl⟩) (holds_of hm hk hw) (hcont undef h)
    | false =>
      simp only [beq_iff_eq] at h hc
      refine wpAnyH_all hc (by simp) fun j hj => ?_
      have hj' : j = i := by simpa using hj
      subst hj'
      unfold wpOp
      rw [ho']
      simp only
      rcases guard_sound ha h with ⟨hg, h⟩ | ⟨hg, h⟩
      · rw [if_pos hg]
        refine .inl (vcO_sound hT ha h hw fun v μ' L' w' hm' hw' hv => ?_)
        obtain ⟨fr', hv', ha'⟩ := putK_sound ha hv.2
        refine ⟨holds_of (hm.trans hm') hv.1 hw', ?_⟩
        rw [set_toArray]
        exact hX _ _ _ hv' (hm.trans hm') hv.1 _ w' Qx ha' hw' (fun fr2 μ2 L2 a2 w2 h2 => hQ fr2 μ2 L2 a2 w2 (hm'.trans h2)) hQp
      · rw [if_neg (by rw [hg]; exact Bool.false_ne_true)]
        obtain ⟨fr', hv', ha'⟩ := putK_sound ha h
        refine ⟨holds_of hm hk hw, ?_⟩
        rw [set_toArray]
        exact hX _ _ _ hv' hm hk _ w Qx ha' hw hQ hQp
  · cases hp
theorem planRun_rest {b : Bool} (hp : planRun all ((b, i) :: plan) l = some l') : planRun all plan (l.set i true) = some l' := by
  unfold planRun at hp
  split at hp
  · exact hp
  · cases hp
theorem planOk_run (h : planOk all plan l = true) : ∃ l', planRun all plan l = some l' ∧ Region.ready .any all.toArray l'.toArray = [] := by
  unfold planOk at h
  split at h
  · exact ⟨_, by assumption, by simpa using h⟩
  · cases h
theorem planOk_rest {b : Bool} (h : planOk all ((b, i) :: plan) l = true) : planOk all plan (l.set i true) = true := by
  obtain ⟨l', h1, h2⟩ := planOk_run h
  unfold planOk
  rw [planRun_rest h1]
  simp only [h2]; rfl
theorem WPpl.nil (h : K fr μ L) : WPpl P N all l [] μ0 keep K fr μ L := by
  intro _ hp
  obtain ⟨l', h1, h2⟩ := planOk_run hp
  simp only [planRun, Option.some.injEq] at h1
  subst h1
  exact AN.done h2 h
theorem WPpl.t (hT : TOk P T) (ho : nthOp all i = some o) (h : guardK all fr o.guard (vcR P T o.op fr μ0 keep fun v => putK N o.dst v fr fun fr' => WPpl P N all (l.set i true) plan μ0 keep K fr' μ L) (putK N o.dst undef fr fun fr' => WPpl P N all (l.set i true) plan μ0 keep K fr' μ L)) :
    WPpl P N all l ((true, i) :: plan) μ0 keep K fr μ L := by
  intro hs hp
  have hp2 := planOk_rest hp
  obtain ⟨l', h1, _⟩ := planOk_run hp
  exact AN.one (b := true) hT hs (fun _ _ _ h => h hs hp2) h1 ho h
theorem WPpl.f (hT : TOk P T) (ho : nthOp all i = some o) (h : guardK all fr o.guard (vcO P T o.op o.type fr μ L fun v μ' L' => Kept keep L' ∧ putK N o.dst v fr fun fr' => WPpl P N all (l.set i true) plan μ0 keep K fr' μ' L') (putK N o.dst undef fr fun fr' => WPpl P N all (l.set i true) plan μ0 keep K fr' μ L)) :
    WPpl P N all l ((false, i) :: plan) μ0 keep K fr μ L := by
  intro hs hp
  have hp2 := planOk_rest hp
  obtain ⟨l', h1, _⟩ := planOk_run hp
  exact AN.one (b := false) hT hs (fun _ _ _ h => h hs hp2) h1 ho h
theorem WPpp.t {l1 : List Bool} (hT : TOk P T) (ho : nthOp all i = some o) (h : guardK all fr o.guard (vcR P T o.op fr μ0 keep fun v => putK N o.dst v fr fun fr' => WPpp P N all (l.set i true) plan n l1 μ0 keep K fr' μ L) (putK N o.dst undef fr fun fr' => WPpp P N all (l.set i true) plan n l1 μ0 keep K fr' μ L)) :
    WPpp P N all l ((true, i) :: plan) n l1 μ0 keep K fr μ L := by
  intro hs hp
  exact AN.one (b := true) hT hs (fun _ _ _ h => h hs (planRun_rest hp)) hp ho h
theorem WPpp.f {l1 : List Bool} (hT : TOk P T) (ho : nthOp all i = some o) (h : guardK all fr o.guard (vcO P T o.op o.type fr μ L fun v μ' L' => Kept keep L' ∧ putK N o.dst v fr fun fr' => WPpp P N all (l.set i true) plan n l1 μ0 keep K fr' μ' L') (putK N o.dst undef fr fun fr' => WPpp P N all (l.set i true) plan n l1 μ0 keep K fr' μ L)) :
    WPpp P N all l ((false, i) :: plan) n l1 μ0 keep K fr μ L := by
  intro hs hp
  exact AN.one (b := false) hT hs (fun _ _ _ h => h hs (planRun_rest hp)) hp ho h
theorem WP.drawS {B : Nat → Kont} (hx : P.follows .mixedOrders = true) {id : Nat} (keep : List Seg) (hk : Kept keep L) (plan : List (Bool × Nat)) (hl : plan.length = all.length)
    (hs : Region.noSelect all.toArray = true) (hnd : noDef all = true) (hp : planOk all plan (List.replicate all.length false) = true) (h : WPpl P N all (List.replicate all.length false) plan μ keep K fr μ L) : WP P N (.region id all.toArray true) K B R fr μ L :=
  WP.draw hx keep hk rfl (by rw [← hl]; have := h hs hp; rw [← hl] at this; exact this) (.inr hnd)
end
def popTo (i : Nat) : List MIt → Option (List MIt)
  | [] => none
  | .blk j :: s => bif Nat.beq i j then some s else popTo i s
  | .code _ :: s => popTo i s
  | .ops _ _ :: s => popTo i s
  | .pln _ _ _ _ _ :: s => popTo i s
  | .plp _ _ _ _ _ _ _ :: s => popTo i s
  | .cut _ :: s => popTo i s
section
variable {P : Program} {N : NN} {R : Kont} {fr : Fr} {μ : Gh} {L : List Seg}
theorem popTo_sound {i : Nat} : ∀ {s s' : List MIt}, popTo i s = some s' → KS P N R s' fr μ L → BS P N R s i fr μ L
  | [], s', h, _ => by cases h
  | .blk j :: s, s', h, hk => by
    simp only [popTo] at h
    show inBlk j (KS P N R s) (BS P N R s) i fr μ L
    cases hb : Nat.beq i j with
    | true =>
      rw [hb] at h
      simp only [cond_true, Option.some.injEq] at h
      subst h
      simp only [inBlk, if_pos (Nat.eq_of_beq_eq_true hb)]; exact hk
    | false =>
      rw [hb] at h
      simp only [inBlk, if_neg (Nat.ne_of_beq_eq_false hb)]
      exact popTo_sound (s := s) h hk
  | .code _ :: s, s', h, hk => popTo_sound (s := s) h hk
  | .ops _ _ :: s, s', h, hk => popTo_sound (s := s) h hk
  | .pln _ _ _ _ _ :: s, s', h, hk => popTo_sound (s := s) h hk
  | .plp _ _ _ _ _ _ _ :: s, s', h, hk => popTo_sound (s := s) h hk
  | .cut _ :: s, s', h, hk => popTo_sound (s := s) h hk
end
inductive Out where
  | ok (s : List MIt) (fr : Fr) (L : List Seg) (a b : List Value)
  | bad
def evK (fr : Fr) (x : Operand) (k : Value → Out) : Out := match evV fr x with
  | some v => k v
  | none => .bad
def evsK (fr : Fr) : List Operand → (List Value → Out) → Out
  | [], k => k []
  | x :: xs, k => evK fr x fun v => evsK fr xs fun vs => k (v :: vs)
def evpK (fr : Fr) : List (Nat × Operand) → (List (Nat × Value) → Out) → Out
  | [], k => k []
  | x :: xs, k => evK fr x.2 fun v => evpK fr xs fun vs => k ((x.1, v) :: vs)
def takeK : Nat → List Value → (List Value → Out) → Out
  | 0, _, k => k []
  | _ + 1, [], _ => .bad
  | n + 1, v :: r, k => takeK n r fun t => k (v :: t)
def dropK : Nat → List Value → (List Value → Out) → Out
  | 0, l, k => k l
  | _ + 1, [], _ => .bad
  | n + 1, _ :: r, k => dropK n r k
def nthK : Nat → List Value → (Value → Out) → Out
  | _, [], _ => .bad
  | 0, v :: _, k => k v
  | n + 1, _ :: r, k => nthK n r k
def setK : List Value → Nat → List Value → (List Value → Out) → Out
  | cs, _, [], k => k cs
  | [], _, _ :: _, _ => .bad
  | c :: r, 0, v :: vs, k => setK r 0 vs fun t => k (v :: t)
  | c :: r, o + 1, v :: vs, k => setK r o (v :: vs) fun t => k (c :: t)
def cellsK (v : Value) (k : List Value → Out) : Out := match v with
  | .agg ⟨cs⟩ => k cs
  | .bool b => k [.bool b]
  | .int kd n => k [.int kd n]
  | .string s => k [.string s]
  | .pointer a => k [.pointer a]
  | .slice a n c => k [.slice a n c]
  | .map r => k [.map r]
  | .func f a b => k [.func f a b]
  | .nilFunc => k [.nilFunc]
  | _ => .bad
def sameD : IntKind → IntKind → Bool
  | .i8, .i8 => true | .i16, .i16 => true | .i32, .i32 => true | .i64, .i64 => true
  | .u8, .u8 => true | .u16, .u16 => true | .u32, .u32 => true | .u64, .u64 => true
  | _, _ => false
def intK (x y : Value) (k : IntKind → Int → Int → Out) : Out := match x, y with
  | .int kd a, .int kd' b => (match sameD kd kd' with | true => k kd a b | false => .bad)
  | _, _ => .bad
def bifO (b : Bool) (x : Out) : Out := match b with | true => x | false => .bad
def tyK (T : TT) (t : TypeId) (k : TyI → Out) : Out := match T t with | some i => k i | none => .bad
def eqV (T : TT) (t : TypeId) (x y : Value) (k : Bool → Out) : Out := match x, y with
  | .int kd a, .int kd' b => bifO (sameD kd kd') (k (decide (a = b)))
  | .bool a, .bool b => tyK T t fun i => bifO (isBl i.u) (k (a == b))
  | .pointer none, .pointer none => tyK T t fun i => bifO (isPtr i.u) (k true)
  | .pointer (some _), .pointer none => tyK T t fun i => bifO (isPtr i.u) (k false)
  | _, _ => .bad
def binV (T : TT) (op : BinOp) (t : TypeId) (x y : Value) (k : Value → Out) : Out := match op with
  | .add => intK x y fun kd a b => k (.int kd (kd.wrap (a + b)))
  | .sub => intK x y fun kd a b => k (.int kd (kd.wrap (a - b)))
  | .mul => intK x y fun kd a b => k (.int kd (kd.wrap (a * b)))
  | .lss => intK x y fun kd a b => k (.bool (decide (a < b)))
  | .leq => intK x y fun kd a b => k (.bool (decide (a ≤ b)))
  | .gtr => intK x y fun kd a b => k (.bool (decide (b < a)))
  | .geq => intK x y fun kd a b => k (.bool (decide (b ≤ a)))
  | .eql => eqV T t x y fun b => k (.bool b)
  | .neq => eqV T t x y fun b => k (.bool !b)
  | _ => .bad
def fillV (pl : Nat → Option (Nat × Nat)) (cells : List Value) (parts : List (Nat × Value)) (k : List Value → Out) : Out := match parts with
  | [] => k cells
  | p :: r => match pl p.1 with
    | some (q1, q2) => cellsK p.2 fun vs => bifO (Nat.beq vs.length q2) <| bifO (Nat.blt 0 q2) (setK cells q1 vs fun cells' => fillV pl cells' r k)
    | none => .bad
def fldK (T : TT) (s : TypeId) (f : Nat) (k : Nat → Nat → Bool → Out) : Out := tyK T s fun i => bifO (isStr i.u) (match i.flds[f]? with
  | some (some (q1, q2, q3)) => k q1 q2 q3
  | _ => .bad)
def opV (T : TT) (fr : Fr) (o : Op) (k : Value → Out) : Out := match o with
  | .move x => evK fr x k
  | .assign x => evK fr x k
  | .nilCheck x => evK fr x fun v => (match v with
    | .pointer (some a) => k (.pointer (some a))
    | .func (.func f) fi ca => k (.func (.func f) fi ca)
    | _ => .bad)
  | .binOp op t x y _ => evK fr x fun a => evK fr y fun b => binV T op t a b k
  | .unOp .not _ x => evK fr x fun a => (match a with | .bool b => k (.bool !b) | _ => .bad)
  | .unOp .neg _ x => evK fr x fun a => (match a with | .int kd n => k (.int kd (kd.wrap (0 - n))) | _ => .bad)
  | .convert s d x => evK fr x fun a => (match a with
    | .int _ n => tyK T s fun _ => tyK T d fun i => (match i.u with | .int kd => k (.int kd (kd.wrap n)) | _ => .bad)
    | _ => .bad)
  | .build t ps => evpK fr ps.toList fun vs => tyK T t fun i => bifO (isStr i.u) (bifO (i.flds.all (·.isSome)) (fillV (plOf i) i.zero.cells.toList vs fun cs => k (.agg ⟨cs⟩)))
  | .fieldAddr s x f => evK fr x fun v => (match v with
    | .pointer (some a) => fldK T s f fun q1 q2 _ => (match Nat.beq q2 0 with
      | false => (match Nat.beq q1 0 with | true => k (.pointer (some a)) | false => k (.pointer (some (a.add q1))))
      | true => .bad)
    | _ => .bad)
  | .field s x f => evK fr x fun v => (match v with
    | .agg ⟨cs⟩ => fldK T s f fun q1 q2 q3 => (match q3 with
      | true => dropK q1 cs fun d => takeK q2 d fun vs => k (.agg ⟨vs⟩)
      | false => nthK q1 cs k)
    | _ => .bad)
  | .extract x i => evK fr x fun v => (match v with | .tuple ⟨vs⟩ => nthK i vs k | _ => .bad)
  | .makeFunc f fi ca => evsK fr fi.toList fun a => evsK fr ca.toList fun b => k (.func f ⟨a⟩ ⟨b⟩)
  | .call ⟨.builtin b, args, tys⟩ => evsK fr args.toList fun vs => (match b with
    | .len => (match vs, tys.toList with
      | [.slice _ n _], [t] => tyK T t fun i => bifO (isSlc i.u) (k (.int .i64 n))
      | [.string s], [t] => tyK T t fun i => bifO (isSg i.u) (k (.int .i64 s.size))
      | _, _ => .bad)
    | .cap => (match vs, tys.toList with
      | [.slice _ _ c], [t] => tyK T t fun i => bifO (isSlc i.u) (k (.int .i64 c))
      | _, _ => .bad)
    | .min => (match vs with | [.int kd x, .int _ y] => k (.int kd (min x y)) | _ => .bad)
    | .max => (match vs with | [.int kd x, .int _ y] => k (.int kd (max x y)) | _ => .bad)
    | _ => .bad)
  | _ => .bad
section
variable {fr : Fr} {o : Out}
theorem evK_spec {x : Operand} {k : Value → Out} (h : evK fr x k = o) (ho : o ≠ .bad) : ∃ v, evV fr x = some v ∧ k v = o := by
  unfold evK at h
  split at h
  · exact ⟨_, by assumption, h⟩
  · exact absurd h.symm ho
theorem evsK_spec : ∀ {xs : List Operand} {k : List Value → Out}, evsK fr xs k = o → o ≠ .bad → ∃ vs, evVs fr xs = some vs ∧ k vs = o
  | [], k, h, ho => ⟨[], rfl, h⟩
  | x :: xs, k, h, ho => by
    obtain ⟨v, h1, h2⟩ := evK_spec (x := x) h ho
    obtain ⟨vs, h3, h4⟩ := evsK_spec h2 ho
    exact ⟨v :: vs, by simp only [evVs, h1, h3], h4⟩
theorem evpK_spec : ∀ {xs : List (Nat × Operand)} {k : List (Nat × Value) → Out}, evpK fr xs k = o → o ≠ .bad → ∃ vs, evVp fr xs = some vs ∧ k vs = o
  | [], k, h, ho => ⟨[], rfl, h⟩
  | x :: xs, k, h, ho => by
    obtain ⟨v, h1, h2⟩ := evK_spec (x := x.2) h ho
    obtain ⟨vs, h3, h4⟩ := evpK_spec h2 ho
    exact ⟨(x.1, v) :: vs, by simp only [evVp, h1, h3], h4⟩
theorem takeK_spec : ∀ {n : Nat} {l : List Value} {k : List Value → Out}, takeK n l k = o → o ≠ .bad → k (l.take n) = o ∧ (l.take n).length = n
  | 0, l, k, h, _ => ⟨by simpa [takeK] using h, by simp⟩
  | n + 1, [], k, h, ho => absurd h.symm ho
  | n + 1, v :: r, k, h, ho => by
    obtain ⟨h1, h2⟩ := takeK_spec (n := n) (l := r) h ho
    exact ⟨by simpa using h1, by simpa using h2⟩
theorem dropK_spec : ∀ {n : Nat} {l : List Value} {k : List Value → Out}, dropK n l k = o → o ≠ .bad → k (l.drop n) = o
  | 0, l, k, h, _ => by simpa [dropK] using h
  | n + 1, [], k, h, ho => absurd h.symm ho
  | n + 1, v :: r, k, h, ho => by simpa using dropK_spec (n := n) (l := r) h ho
theorem nthK_spec : ∀ {n : Nat} {l : List Value} {k : Value → Out}, nthK n l k = o → o ≠ .bad → ∃ v, l[n]? = some v ∧ k v = o
  | n, [], k, h, ho => absurd (by cases n <;> exact h.symm) ho
  | 0, v :: r, k, h, ho => ⟨v, rfl, h⟩
  | n + 1, v :: r, k, h, ho => by simpa using nthK_spec (n := n) (l := r) h ho
theorem setL_cons (c : Value) : ∀ (vs r : List Value) (o : Nat), setL (c :: r) (o + 1) vs = c :: setL r o vs
  | [], r, o => rfl
  | v :: vs, r, o => by simp only [setL, List.set_cons_succ]; exact setL_cons c vs _ (o + 1)
theorem setK_spec : ∀ {cs : List Value} {q : Nat} {vs : List Value} {k : List Value → Out}, setK cs q vs k = o → o ≠ .bad → k (setL cs q vs) = o ∧ (vs ≠ [] → q + vs.length ≤ cs.length)
  | [], q, [], k, h, ho => ⟨by cases q <;> exact h, fun h => absurd rfl h⟩
  | c :: r, q, [], k, h, ho => ⟨by cases q <;> exact h, fun h => absurd rfl h⟩
  | [], q, v :: vs, k, h, ho => absurd (by cases q <;> exact h.symm) ho
  | c :: r, 0, v :: vs, k, h, ho => by
    obtain ⟨h1, h2⟩ := setK_spec (cs := r) (q := 0) (vs := vs) h ho
    refine ⟨?_, fun _ => ?_⟩
    · rw [setL, List.set_cons_zero, Nat.zero_add, setL_cons]; exact h1
    · cases vs with
      | nil => simp
      | cons u us => have := h2 (by simp); simp at this ⊢; omega
  | c :: r, q + 1, v :: vs, k, h, ho => by
    obtain ⟨h1, h2⟩ := setK_spec (cs := r) (q := q) (vs := v :: vs) h ho
    refine ⟨?_, fun _ => ?_⟩
    · rw [setL_cons]; exact h1
    · have := h2 (by simp); simp at this ⊢; omega
theorem cellsK_spec {v : Value} {k : List Value → Out} (h : cellsK v k = o) (ho : o ≠ .bad) : k v.cells.toList = o := by
  unfold cellsK at h
  split at h <;> first | exact h | exact absurd h.symm ho
theorem sameD_spec {a b : IntKind} (h : sameD a b = true) : a = b := by
  cases a <;> cases b <;> first | rfl | cases h
theorem intK_spec {x y : Value} {k : IntKind → Int → Int → Out} (h : intK x y k = o) (ho : o ≠ .bad) : ∃ kd a b, x = .int kd a ∧ y = .int kd b ∧ k kd a b = o := by
  unfold intK at h
  split at h
  · split at h
    · rename_i hs
      have := sameD_spec hs
      subst this
      exact ⟨_, _, _, rfl, rfl, h⟩
    · exact absurd h.symm ho
  · exact absurd h.symm ho
theorem bifO_spec {b : Bool} {x : Out} (h : bifO b x = o) (ho : o ≠ .bad) : b = true ∧ x = o := by
  unfold bifO at h
  split at h
  · exact ⟨rfl, h⟩
  · exact absurd h.symm ho
theorem tyK_spec {T : TT} {t : TypeId} {k : TyI → Out} (h : tyK T t k = o) (ho : o ≠ .bad) : ∃ i, T t = some i ∧ k i = o := by
  unfold tyK at h
  split at h
  · exact ⟨_, by assumption, h⟩
  · exact absurd h.symm ho
theorem fldK_spec {T : TT} {s : TypeId} {f : Nat} {k : Nat → Nat → Bool → Out} (h : fldK T s f k = o) (ho : o ≠ .bad) : ∃ i q1 q2 q3, T s = some i ∧ isStr i.u = true ∧ i.flds[f]? = some (some (q1, q2, q3)) ∧ k q1 q2 q3 = o := by
  obtain ⟨i, h1, h2⟩ := tyK_spec h ho
  obtain ⟨h3, h4⟩ := bifO_spec h2 ho
  split at h4
  · exact ⟨i, _, _, _, h1, h3, by assumption, h4⟩
  · exact absurd h4.symm ho
theorem fillV_spec {pl : Nat → Option (Nat × Nat)} : ∀ {parts : List (Nat × Value)} {cells : List Value} {k : List Value → Out}, fillV pl cells parts k = o → o ≠ .bad → ∃ cs, k cs = o ∧ ∀ kk : List Value → Prop, kk cs → fillK pl cells parts kk
  | [], cells, k, h, ho => ⟨cells, h, fun _ h => h⟩
  | p :: r, cells, k, h, ho => by
    unfold fillV at h
    split at h
    · rename_i q1 q2 hq
      have h1 := cellsK_spec h ho
      obtain ⟨h2, h3⟩ := bifO_spec h1 ho
      obtain ⟨h8, h3⟩ := bifO_spec h3 ho
      have h2 := Nat.eq_of_beq_eq_true h2
      have h8 : 0 < q2 := by simpa [Nat.blt_eq] using h8
      obtain ⟨h4, h5⟩ := setK_spec h3 ho
      obtain ⟨cs, h6, h7⟩ := fillV_spec (parts := r) h4 ho
      refine ⟨cs, h6, fun kk hkk => ?_⟩
      obtain ⟨n, v⟩ := p
      simp only at hq h2 h5 h7
      refine F_cons (q1 := q1) (q2 := q2) hq (by rw [← h2]; simp) ?_ rfl (h7 kk hkk)
      have := h5 (by intro e; rw [e] at h2; simp at h2; omega)
      rw [h2] at this
      exact Nat.ble_eq_true_of_le this
    · exact absurd h.symm ho
variable {T : TT} {P : Program} {μ : Gh} {L : List Seg}
theorem eqV_spec {t yt : TypeId} {x y : Operand} {u w : Value} {k : Bool → Out} (h : eqV T t u w k = o) (ho : o ≠ .bad) (hx : evV fr x = some u) (hy : evV fr y = some w) : ∃ b, k b = o ∧
    (∀ kk : Value → Prop, kk (.bool b) → vcR P T (.binOp .eql t x y yt) fr μ L kk) ∧ ∀ kk : Value → Prop, kk (.bool !b) → vcR P T (.binOp .neq t x y yt) fr μ L kk := by
  unfold eqV at h
  split at h
  · obtain ⟨h1, h2⟩ := bifO_spec h ho
    have := sameD_spec h1
    subst this
    exact ⟨_, h2, fun kk hk => R_eqlD hx hy hk, fun kk hk => R_neqD hx hy hk⟩
  · obtain ⟨i, h1, h2⟩ := tyK_spec h ho
    obtain ⟨h3, h4⟩ := bifO_spec h2 ho
    exact ⟨_, h4, fun kk hk => R_eqBD hx hy h1 h3 hk, fun kk hk => R_neBD hx hy h1 h3 hk⟩
  · obtain ⟨i, h1, h2⟩ := tyK_spec h ho
    obtain ⟨h3, h4⟩ := bifO_spec h2 ho
    exact ⟨_, h4, fun kk hk => R_eqP0 hx hy h1 h3 hk, fun kk hk => R_neP0 hx hy h1 h3 hk⟩
  · obtain ⟨i, h1, h2⟩ := tyK_spec h ho
    obtain ⟨h3, h4⟩ := bifO_spec h2 ho
    exact ⟨_, h4, fun kk hk => R_eqP1 hx hy h1 h3 hk, fun kk hk => R_neP1 hx hy h1 h3 hk⟩
  · exact absurd h.symm ho
theorem binV_spec {op : BinOp} {t yt : TypeId} {x y : Operand} {u w : Value} {k : Value → Out} (h : binV T op t u w k = o) (ho : o ≠ .bad) (hx : evV fr x = some u) (hy : evV fr y = some w) :
    ∃ v, k v = o ∧ ∀ kk : Value → Prop, kk v → vcR P T (.binOp op t x y yt) fr μ L kk := by
  cases op <;> simp only [binV] at h <;> try exact absurd h.symm ho
  case eql => obtain ⟨b, h1, h2, _⟩ := eqV_spec (P := P) (μ := μ) (L := L) (yt := yt) h ho hx hy; exact ⟨_, h1, h2⟩
  case neq => obtain ⟨b, h1, _, h2⟩ := eqV_spec (P := P) (μ := μ) (L := L) (yt := yt) h ho hx hy; exact ⟨_, h1, h2⟩
  all_goals
    obtain ⟨kd, a, b, rfl, rfl, h1⟩ := intK_spec h ho
    refine ⟨_, h1, fun kk hk => ?_⟩
  case add => exact R_add hx hy hk
  case sub => exact R_sub hx hy hk
  case mul => exact R_mul hx hy hk
  case lss => exact R_lssD hx hy hk
  case leq => exact R_leqD hx hy hk
  case gtr => exact R_gtrD hx hy hk
  case geq => exact R_geqD hx hy hk
theorem one_of_list {α : Type} {a : Array α} {x : α} (h : a.toList = [x]) : a = #[x] := by rw [← Array.toList_inj]; simp [h]
theorem opV_spec {op : Op} {k : Value → Out} (h : opV T fr op k = o) (ho : o ≠ .bad) : ∃ v, k v = o ∧ isRd op = true ∧ ∀ kk : Value → Prop, kk v → vcR P T op fr μ L kk := by
  cases op with
  | move x => obtain ⟨v, h1, h2⟩ := evK_spec h ho; exact ⟨v, h2, rfl, fun kk hk => R_move h1 hk⟩
  | assign x => obtain ⟨v, h1, h2⟩ := evK_spec h ho; exact ⟨v, h2, rfl, fun kk hk => R_assign h1 hk⟩
  | nilCheck x =>
    obtain ⟨v, h1, h2⟩ := evK_spec h ho
    split at h2
    · exact ⟨_, h2, rfl, fun kk hk => R_nilP h1 hk⟩
    · exact ⟨_, h2, rfl, fun kk hk => R_nilF h1 hk⟩
    · exact absurd h2.symm ho
  | binOp op t x y yt =>
    obtain ⟨u, h1, h2⟩ := evK_spec h ho
    obtain ⟨w, h3, h4⟩ := evK_spec h2 ho
    obtain ⟨v, h5, h6⟩ := binV_spec (P := P) (μ := μ) (L := L) (yt := yt) h4 ho h1 h3
    exact ⟨v, h5, rfl, h6⟩
  | unOp op t x =>
    cases op <;> simp only [opV] at h <;> try exact absurd h.symm ho
    case not =>
      obtain ⟨v, h1, h2⟩ := evK_spec h ho
      split at h2
      · exact ⟨_, h2, rfl, fun kk hk => R_not h1 hk⟩
      · exact absurd h2.symm ho
    case neg =>
      obtain ⟨v, h1, h2⟩ := evK_spec h ho
      split at h2
      · exact ⟨_, h2, rfl, fun kk hk => R_neg h1 hk⟩
      · exact absurd h2.symm ho
  | convert s d x =>
    obtain ⟨v, h1, h2⟩ := evK_spec h ho
    split at h2
    · obtain ⟨j, h3, h4⟩ := tyK_spec h2 ho
      obtain ⟨i, h5, h6⟩ := tyK_spec h4 ho
      split at h6
      · exact ⟨_, h6, rfl, fun kk hk => R_conv h1 h3 h5 (by assumption) hk⟩
      · exact absurd h6.symm ho
    · exact absurd h2.symm ho
  | build t ps =>
    obtain ⟨vs, h1, h2⟩ := evpK_spec h ho
    obtain ⟨i, h3, h4⟩ := tyK_spec h2 ho
    obtain ⟨h5, h6⟩ := bifO_spec h4 ho
    obtain ⟨h7, h8⟩ := bifO_spec h6 ho
    obtain ⟨cs, h9, h10⟩ := fillV_spec h8 ho
    exact ⟨_, h9, rfl, fun kk hk => R_build h1 h3 h5 h7 (h10 _ hk)⟩
  | fieldAddr s x f =>
    obtain ⟨v, h1, h2⟩ := evK_spec h ho
    split at h2
    · obtain ⟨i, q1, q2, q3, h3, h4, h5, h6⟩ := fldK_spec h2 ho
      split at h6
      · rename_i h7
        split at h6
        · rename_i h8
          have := Nat.eq_of_beq_eq_true h8
          subst this
          exact ⟨_, h6, rfl, fun kk hk => R_faz h1 h3 h4 h5 h7 hk⟩
        · exact ⟨_, h6, rfl, fun kk hk => R_fa h1 h3 h4 h5 h7 hk⟩
      · exact absurd h6.symm ho
    · exact absurd h2.symm ho
  | field s x f =>
    obtain ⟨v, h1, h2⟩ := evK_spec h ho
    split at h2
    · obtain ⟨i, q1, q2, q3, h3, h4, h5, h6⟩ := fldK_spec h2 ho
      cases q3 with
      | true =>
        have h7 := dropK_spec h6 ho
        obtain ⟨h8, _⟩ := takeK_spec h7 ho
        exact ⟨_, h8, rfl, fun kk hk => R_fieldA h1 h3 h4 h5 rfl hk⟩
      | false =>
        obtain ⟨u, h7, h8⟩ := nthK_spec h6 ho
        exact ⟨_, h8, rfl, fun kk hk => R_field h1 h3 h4 h5 h7 hk⟩
    · exact absurd h2.symm ho
  | extract x i =>
    obtain ⟨v, h1, h2⟩ := evK_spec h ho
    split at h2
    · obtain ⟨u, h7, h8⟩ := nthK_spec h2 ho
      exact ⟨_, h8, rfl, fun kk hk => R_ext h1 h7 hk⟩
    · exact absurd h2.symm ho
  | makeFunc f fi ca =>
    obtain ⟨a, h1, h2⟩ := evsK_spec h ho
    obtain ⟨b, h3, h4⟩ := evsK_spec h2 ho
    exact ⟨_, h4, rfl, fun kk hk => R_mkf h1 h3 hk⟩
  | call c =>
    obtain ⟨ce, args, tys⟩ := c
    cases ce with
    | value f => exact absurd h.symm ho
    | invoke r m => exact absurd h.symm ho
    | builtin b =>
      obtain ⟨vs, h1, h2⟩ := evsK_spec h ho
      cases b <;> simp only at h2 <;> try exact absurd h2.symm ho
      case len =>
        split at h2
        · rename_i ht
          obtain ⟨i, h3, h4⟩ := tyK_spec h2 ho
          obtain ⟨h5, h6⟩ := bifO_spec h4 ho
          have := one_of_list ht
          subst this
          exact ⟨_, h6, rfl, fun kk hk => R_lenS h1 h3 h5 hk⟩
        · rename_i ht
          obtain ⟨i, h3, h4⟩ := tyK_spec h2 ho
          obtain ⟨h5, h6⟩ := bifO_spec h4 ho
          have := one_of_list ht
          subst this
          exact ⟨_, h6, rfl, fun kk hk => R_lenG h1 h3 h5 hk⟩
        · exact absurd h2.symm ho
      case cap =>
        split at h2
        · rename_i ht
          obtain ⟨i, h3, h4⟩ := tyK_spec h2 ho
          obtain ⟨h5, h6⟩ := bifO_spec h4 ho
          have := one_of_list ht
          subst this
          exact ⟨_, h6, rfl, fun kk hk => R_cap h1 h3 h5 hk⟩
        · exact absurd h2.symm ho
      case min =>
        split at h2
        · exact ⟨_, h2, rfl, fun kk hk => R_minI h1 hk⟩
        · exact absurd h2.symm ho
      case max =>
        split at h2
        · exact ⟨_, h2, rfl, fun kk hk => R_maxI h1 hk⟩
        · exact absurd h2.symm ho
  | _ => exact absurd h.symm ho
end
end Go.Proofs.YthpgjbbjpfiniaaGreat
