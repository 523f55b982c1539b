/- The machine's rules for this program: stretches that need no proof, and the steps that do. -/
import Derived.Test.YthpgjbbjpfiniaaGreatMb
import Derived.Test.YthpgjbbjpfiniaaGreatTt
namespace Go.Proofs.YthpgjbbjpfiniaaGreat
open Go.RowKit
set_option linter.unusedSimpArgs false
set_option linter.unusedVariables false
section
variable {N : NN} {R : Kont} {fr : Fr} {μ : Gh} {L : List Seg} {s s' : List MIt} {fr' : Fr} {L' : List Seg} {e : List Value} {dst : Option Tmp} {v : Value}
theorem Z1 {a : Addr} {cs : List Value} (h : Cells μ L a cs) : ElsOk μ L [(a, cs)] := fun p hp => by simp only [List.mem_singleton] at hp; subst hp; exact h
theorem Z2 {a : Addr} {cs : List Value} {r : Els} (h : Cells μ L a cs) (hr : ElsOk μ L r) : ElsOk μ L ((a, cs) :: r) := fun p hp => by
  rcases List.mem_cons.1 hp with rfl | hp
  · exact h
  · exact hr p hp
def knF : List Nat → List (Nat × Bool)
  | [] => []
  | x :: r => (x, false) :: knF r
def knT : List Nat → List Nat → List (Nat × Bool)
  | [], b => knF b
  | x :: r, b => (x, true) :: knT r b
theorem G3 (m : Nat) (ka kb hs : List Nat) {els : Els} (hel : ElsOk (cxM s μ) (cxL s L) els) (h : runO Tt N.n (knT ka kb) m els hs s fr L [] [] = .ok s' fr' L' e e) (k : KS Tryz.prog N R s' fr' μ L') : KS Tryz.prog N R s fr μ L :=
  (runO_spec Tt_ok m els hs s fr L [] [] h rfl hel).2 k
theorem G2 (m : Nat) (ka kb hs : List Nat) (h : runO Tt N.n (knT ka kb) m [] hs s fr L [] [] = .ok s' fr' L' e e) (k : KS Tryz.prog N R s' fr' μ L') : KS Tryz.prog N R s fr μ L := G3 m ka kb hs (fun p hp => by cases hp) h k
theorem G1 (m : Nat) (hs : List Nat) (h : runO Tt N.n [] m [] hs s fr L [] [] = .ok s' fr' L' e e) (k : KS Tryz.prog N R s' fr' μ L') : KS Tryz.prog N R s fr μ L := G2 m [] [] hs h k
theorem G0 (m : Nat) (h : runO Tt N.n [] m [] [] s fr L [] [] = .ok s' fr' L' e e) (k : KS Tryz.prog N R s' fr' μ L') : KS Tryz.prog N R s fr μ L := G2 m [] [] [] h k
theorem Q3 (m : Nat) (ka kb hs : List Nat) {els : Els} (hel : ElsOk (cxM s μ) (cxL s L) els) (h : putO N.n dst v fr (fun f => runO Tt N.n (knT ka kb) m els hs s f L [] []) = .ok s' fr' L' e e) (k : KS Tryz.prog N R s' fr' μ L') : putK N dst v fr fun f => KS Tryz.prog N R s f μ L := by
  obtain ⟨f, h1, h2⟩ := putO_spec h (by simp)
  exact h2 _ (G3 m ka kb hs hel h1 k)
theorem Q2 (m : Nat) (ka kb hs : List Nat) (h : putO N.n dst v fr (fun f => runO Tt N.n (knT ka kb) m [] hs s f L [] []) = .ok s' fr' L' e e) (k : KS Tryz.prog N R s' fr' μ L') : putK N dst v fr fun f => KS Tryz.prog N R s f μ L := Q3 m ka kb hs (fun p hp => by cases hp) h k
theorem Q1 (m : Nat) (hs : List Nat) (h : putO N.n dst v fr (fun f => runO Tt N.n [] m [] hs s f L [] []) = .ok s' fr' L' e e) (k : KS Tryz.prog N R s' fr' μ L') : putK N dst v fr fun f => KS Tryz.prog N R s f μ L := Q2 m [] [] hs h k
theorem Q0 (m : Nat) (h : putO N.n dst v fr (fun f => runO Tt N.n [] m [] [] s f L [] []) = .ok s' fr' L' e e) (k : KS Tryz.prog N R s' fr' μ L') : putK N dst v fr fun f => KS Tryz.prog N R s f μ L := Q2 m [] [] [] h k
def gdB (all : List Oper) (fr : Fr) (g : Option (Nat × Bool)) : Bool := match g with
  | none => true
  | some (j, w) => match gslot all j with
    | some d => (match look fr d with | some (.bool true) => w | some (.bool false) => !w | _ => false)
    | none => false
theorem gdB_spec {all : List Oper} {g : Option (Nat × Bool)} (h : gdB all fr g = true) {y n : Prop} (hy : y) : guardK all fr g y n := by
  unfold gdB at h
  split at h
  · exact hy
  · rename_i j w
    split at h
    · rename_i d hd
      split at h
      · rename_i hl; subst h; simp only [guardK, hd, hl]; exact hy
      · rename_i hl; have : w = false := by simpa using h
        subst this; simp only [guardK, hd, hl]; exact hy
      · cases h
    · cases h
def hdO (s : List MIt) (fr : Fr) : Option (Bool × Oper × List MIt) := match s with
  | .ops all (o :: r) :: s => (match gdB all fr o.guard with | true => some (true, o, .ops all r :: s) | false => none)
  | .pln all l ((b, i) :: pl) μ0 keep :: s => (match nthOp all i with
    | some o => (match gdB all fr o.guard with | true => some (b, o, .pln all (l.set i true) pl μ0 keep :: s) | false => none)
    | none => none)
  | .plp all l ((b, i) :: pl) n l1 μ0 keep :: s => (match nthOp all i with
    | some o => (match gdB all fr o.guard with | true => some (b, o, .plp all (l.set i true) pl n l1 μ0 keep :: s) | false => none)
    | none => none)
  | _ => none
abbrev kpt (s : List MIt) (L : List Seg) (X : Prop) : Prop := match s with
  | .pln _ _ _ _ keep :: _ => Kept keep L ∧ X
  | .plp _ _ _ _ _ _ keep :: _ => Kept keep L ∧ X
  | _ => X
theorem Rdo {o : Oper} (h : hdO s fr = some (true, o, s')) (hr : isRd o.op = true) (k : vcR Tryz.prog Tt o.op fr (cxM s μ) (cxL s L) fun v => putK N o.dst v fr fun f => KS Tryz.prog N R s' f μ L) : KS Tryz.prog N R s fr μ L := by
  unfold hdO at h
  split at h
  · split at h
    · rename_i hg
      simp only [Option.some.injEq, Prod.mk.injEq] at h
      obtain ⟨_, rfl, rfl⟩ := h
      exact WPops.cons Tt_ok (gdB_spec hg (O_read hr k))
    · cases h
  · split at h
    · rename_i ho
      split at h
      · rename_i hg
        simp only [Option.some.injEq, Prod.mk.injEq] at h
        obtain ⟨rfl, rfl, rfl⟩ := h
        exact WPpl.t Tt_ok ho (gdB_spec hg k)
      · cases h
    · cases h
  · split at h
    · rename_i ho
      split at h
      · rename_i hg
        simp only [Option.some.injEq, Prod.mk.injEq] at h
        obtain ⟨rfl, rfl, rfl⟩ := h
        exact WPpp.t Tt_ok ho (gdB_spec hg k)
      · cases h
    · cases h
  · cases h
def hdS (s : List MIt) (fr : Fr) : Option (Oper × List MIt) := match s with
  | .ops all (o :: r) :: s => (match gdB all fr o.guard with | true => some (o, .ops all r :: s) | false => none)
  | .pln all l ((false, i) :: pl) μ0 keep :: s => (match nthOp all i with
    | some o => (match gdB all fr o.guard with | true => some (o, .pln all (l.set i true) pl μ0 keep :: s) | false => none)
    | none => none)
  | .plp all l ((false, i) :: pl) n l1 μ0 keep :: s => (match nthOp all i with
    | some o => (match gdB all fr o.guard with | true => some (o, .plp all (l.set i true) pl n l1 μ0 keep :: s) | false => none)
    | none => none)
  | _ => none
theorem So {o : Oper} (h : hdS s fr = some (o, s')) (k : vcO Tryz.prog Tt o.op o.type fr μ L fun v μ' L' => kpt s L' (putK N o.dst v fr fun f => KS Tryz.prog N R s' f μ' L')) : KS Tryz.prog N R s fr μ L := by
  unfold hdS at h
  split at h
  · split at h
    · rename_i hg
      simp only [Option.some.injEq, Prod.mk.injEq] at h
      obtain ⟨rfl, rfl⟩ := h
      exact WPops.cons Tt_ok (gdB_spec hg k)
    · cases h
  · split at h
    · rename_i ho
      split at h
      · rename_i hg
        simp only [Option.some.injEq, Prod.mk.injEq] at h
        obtain ⟨rfl, rfl⟩ := h
        exact WPpl.f Tt_ok ho (gdB_spec hg k)
      · cases h
    · cases h
  · split at h
    · rename_i ho
      split at h
      · rename_i hg
        simp only [Option.some.injEq, Prod.mk.injEq] at h
        obtain ⟨rfl, rfl⟩ := h
        exact WPpp.f Tt_ok ho (gdB_spec hg k)
      · cases h
    · cases h
  · cases h
def subB : List MIt → Bool
  | [] => true
  | .code _ :: _ => true
  | .ops _ _ :: _ => true
  | .pln _ _ _ _ _ :: _ => true
  | .plp _ _ _ _ _ _ _ :: _ => true
  | .blk _ :: s => subB s
  | .cut _ :: _ => false
theorem KS.frm {F : Fr} : ∀ {s : List MIt}, subB s = true → SubFr F fr → KS Tryz.prog N R s F μ L → KS Tryz.prog N R s fr μ L
  | [], _, hF, h => fun a w ha hw => h a w (ha.sub hF) hw
  | .code _ :: _, _, hF, h => fun a w ha hw => h a w (ha.sub hF) hw
  | .ops _ _ :: _, _, hF, h => fun a w Q ha hw hQ => h a w Q (ha.sub hF) hw hQ
  | .pln _ _ _ _ _ :: _, _, hF, h => fun h1 h2 h3 h4 a w Q ha hw hQ => h h1 h2 h3 h4 a w Q (ha.sub hF) hw hQ
  | .plp _ _ _ _ _ _ _ :: _, _, hF, h => fun h1 h2 h3 h4 a w Q ha hw hQ => h h1 h2 h3 h4 a w Q (ha.sub hF) hw hQ
  | .blk _ :: s, hb, hF, h => KS.frm (s := s) hb hF h
  | .cut _ :: _, hb, _, _ => by cases hb
def segB : List MIt → Bool
  | [] => true
  | .code _ :: _ => true
  | .ops _ _ :: _ => true
  | .blk _ :: s => segB s
  | _ => false
theorem KS.upd : ∀ {s : List MIt}, segB s = true → Upd μ L (fun μ' L' => KS Tryz.prog N R s fr μ' L') → KS Tryz.prog N R s fr μ L
  | [], _, h => fun a w ha hw => by
    obtain ⟨μ1, L1, h1, h2, h3⟩ := h w hw
    obtain ⟨f, μ2, L2, h4, h5, h6, h7⟩ := h3 a w ha h2
    exact ⟨f, μ2, L2, h4, h1.trans h5, h6, h7⟩
  | .code _ :: _, _, h => WP.upd h
  | .ops _ _ :: _, _, h => fun a w Q ha hw hQ => by
    obtain ⟨μ1, L1, h1, h2, h3⟩ := h w hw
    exact h3 a w Q ha h2 fun fr2 μ2 L2 a2 w2 hm => hQ fr2 μ2 L2 a2 w2 (h1.trans hm)
  | .blk _ :: s, hb, h => KS.upd (s := s) hb h
  | .pln _ _ _ _ _ :: _, hb, _ => by cases hb
  | .plp _ _ _ _ _ _ _ :: _, hb, _ => by cases hb
  | .cut _ :: _, hb, _ => by cases hb
theorem KS.seg {L2 : List Seg} (hs : SegSub L2 L) (hb : segB s = true) (h : KS Tryz.prog N R s fr μ L2) : KS Tryz.prog N R s fr μ L := KS.upd hb fun w hw => ⟨μ, L2, Gh.le.refl _, hs w μ hw, h⟩
theorem subB_of : ∀ {s : List MIt}, segB s = true → subB s = true
  | [], _ => rfl
  | .code _ :: _, _ => rfl
  | .ops _ _ :: _, _ => rfl
  | .blk _ :: s, h => subB_of (s := s) h
theorem Att {F : Fr} {L2 : List Seg} (hF : SubFr F fr) (hs : SegSub L2 L) (hb : segB s = true) (h : KS Tryz.prog N R s F μ L2) : KS Tryz.prog N R s fr μ L := KS.frm (subB_of hb) hF (KS.seg hs hb h)
theorem look_lit {d : Nat} {u : Value} (hl : look fr d = some u) : SubFr ((d, u) :: fr) fr := fun t v hv => by
  rw [look_cons] at hv
  split at hv
  · rename_i hd; simp only at hd; subst hd; rw [hl]; exact hv
  · exact hv
theorem Br {β : Type} {z : Bool} {A B r : Option β} (h : (bif z then A else B) = r) (d : Nat) (hl : look fr d = some (.bool z)) (hb : subB s = true)
    (ht : z = true → A = r → KS Tryz.prog N R s ((d, .bool true) :: fr) μ L) (hf : z = false → B = r → KS Tryz.prog N R s ((d, .bool false) :: fr) μ L) : KS Tryz.prog N R s fr μ L := by
  cases z with
  | true => exact KS.frm hb (look_lit hl) (ht rfl h)
  | false => exact KS.frm hb (look_lit hl) (hf rfl h)
end
end Go.Proofs.YthpgjbbjpfiniaaGreat
