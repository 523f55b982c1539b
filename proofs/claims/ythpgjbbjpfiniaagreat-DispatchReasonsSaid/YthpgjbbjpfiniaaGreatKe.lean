/- Regions, code, loops, and a function by its body. -/
import Derived.Test.YthpgjbbjpfiniaaGreatKd
namespace Go.Proofs.YthpgjbbjpfiniaaGreat
open Go.RowKit
set_option linter.unusedSimpArgs false
set_option linter.unusedVariables false
abbrev Kont := Fr → Gh → List Seg → Prop
def gslot : List Oper → Nat → Option Tmp
  | [], _ => none
  | o :: _, 0 => o.dst
  | _ :: r, n + 1 => gslot r n
theorem gslot_eq : ∀ (ops : List Oper) (n : Nat), gslot ops n = (ops[n]?).bind (·.dst)
  | [], _ => by simp [gslot]
  | o :: r, 0 => by simp [gslot]
  | o :: r, n + 1 => by simp [gslot, gslot_eq r n]
def guardK (ops : List Oper) (fr : Fr) (g : Option (Nat × Bool)) (yes no : Prop) : Prop := match g with
  | none => yes
  | some p => match gslot ops p.1 with
    | some d => (match look fr d with
      | some (.bool true) => (match p.2 with | true => yes | false => no)
      | some (.bool false) => (match p.2 with | true => no | false => yes)
      | some (.tuple _) => no
      | _ => False)
    | none => False
def putK (N : NN) (dst : Option Tmp) (v : Value) (fr : Fr) (k : Fr → Prop) : Prop := match dst with
  | some d => d < N.n ∧ k ((d, v) :: fr)
  | none => k fr
def vcOps (P : Program) (T : TT) (N : NN) (ops : List Oper) : List Oper → Fr → Gh → List Seg → Kont → Prop
  | [], fr, μ, L, K => K fr μ L
  | o :: rest, fr, μ, L, K => guardK ops fr o.guard
      (vcO P T o.op o.type fr μ L fun v μ' L' => putK N o.dst v fr fun fr' => vcOps P T N ops rest fr' μ' L' K)
      (putK N o.dst undef fr fun fr' => vcOps P T N ops rest fr' μ L K)
section
variable {P : Program} {T : TT} {N : NN}
theorem putK_sound {fr : Fr} {a : Act} (ha : Agr N fr a) {dst : Option Tmp} {v : Value} {k : Fr → Prop} (h : putK N dst v fr k) : ∃ fr', k fr' ∧ Agr N fr' (a.put dst v) := by
  cases dst with
  | none => exact ⟨fr, h, ha⟩
  | some d => exact ⟨_, h.2, ha.put h.1 v⟩
theorem guard_sound {ops : List Oper} {fr : Fr} {a : Act} (ha : Agr N fr a) {o : Oper} {yes no : Prop} (h : guardK ops fr o.guard yes no) :
    (Region.wanted o (yielded ops.toArray a.tmps) = true ∧ yes) ∨ (Region.wanted o (yielded ops.toArray a.tmps) = false ∧ no) := by
  unfold guardK at h
  cases hg : o.guard with
  | none => rw [hg] at h; exact .inl ⟨by simp [Region.wanted, hg], h⟩
  | some p =>
    rw [hg] at h
    simp only [gslot_eq] at h
    cases hd : (ops[p.1]?).bind (·.dst) with
    | none => rw [hd] at h; exact h.elim
    | some d =>
      rw [hd] at h
      simp only at h
      have hy : ∀ v, look fr d = some v → yielded ops.toArray a.tmps p.1 = match v with | .bool b => some b | _ => none := by
        intro v hv
        have h1 := ha.get d v hv
        unfold yielded
        have h2 : (ops.toArray[p.1]?).bind (·.dst) = some d := by simpa using hd
        simp only [h2, Option.bind_some]
        cases h3 : a.tmps[d]? with
        | none =>
          simp only [Array.getD_eq_getD_getElem?, h3, Option.getD_none] at h1
          subst h1; rfl
        | some u =>
          simp only [Array.getD_eq_getD_getElem?, h3, Option.getD_some] at h1
          subst h1; cases u <;> rfl
      cases hl : look fr d with
      | none => rw [hl] at h; exact h.elim
      | some v =>
        have hv := hy v hl
        rw [hl] at h
        obtain ⟨p1, p2⟩ := p
        simp only at hv h
        cases v <;> simp only at h hv
        case bool b =>
          cases b <;> cases p2 <;> simp only at h <;> first
            | exact .inl ⟨by simp [Region.wanted, hg, hv], h⟩
            | exact .inr ⟨by simp [Region.wanted, hg, hv], h⟩
        case tuple vs => exact .inr ⟨by simp [Region.wanted, hg, hv], h⟩
theorem vcOps_sound (hT : TOk P T) {ops : List Oper} {Q : Exit → Act → World → Prop} {K : Kont} : ∀ (rest : List Oper) (fr : Fr) (μ : Gh) (L : List Seg) (a : Act) (w : World),
    vcOps P T N ops rest fr μ L K → Agr N fr a → Inv w μ L →
    (∀ fr' μ' L' a' w', μ.le μ' → Agr N fr' a' → Inv w' μ' L' → K fr' μ' L' → Q .normal a' w') → wpListIn (fw N.rd) 0 P ops.toArray Q rest a w
  | [], fr, μ, L, a, w, h, ha, hw, hQ => hQ fr μ L a w (Gh.le.refl _) ha hw h
  | o :: rest, fr, μ, L, a, w, h, ha, hw, hQ => by
    refine wpListIn_step fun K' hK' => ?_
    rcases guard_sound ha h with ⟨hg, h⟩ | ⟨hg, h⟩
    · rw [if_pos hg]
      refine opIn (vcO_nodefer h) (vcO_sound hT ha h hw fun v μ' L' w' hm hw' hk => ?_)
      obtain ⟨fr', hk, ha'⟩ := putK_sound ha hk
      exact hK' _ _ (vcOps_sound hT rest fr' μ' L' _ w' hk ha' hw' fun fr2 μ2 L2 a2 w2 hm2 => hQ fr2 μ2 L2 a2 w2 (hm.trans hm2))
    · rw [if_neg (by rw [hg]; exact Bool.false_ne_true)]
      obtain ⟨fr', hk, ha'⟩ := putK_sound ha h
      refine ⟨fun _ _ => trivial, ?_⟩
      exact hK' _ _ (vcOps_sound hT rest fr' μ L _ w hk ha' hw hQ)
def lift (N : NN) (μ0 : Gh) (K : Kont) (B : Nat → Kont) (R : Kont) : Exit → Act → World → Prop
  | .normal, a, w => ∃ fr μ L, Agr N fr a ∧ μ0.le μ ∧ Inv w μ L ∧ K fr μ L
  | .exit i, a, w => ∃ fr μ L, Agr N fr a ∧ μ0.le μ ∧ Inv w μ L ∧ B i fr μ L
  | .ret, a, w => ∃ fr μ L, Agr N fr a ∧ μ0.le μ ∧ Inv w μ L ∧ R fr μ L
  | _, _, _ => False
def WP (P : Program) (N : NN) (c : Code) (K : Kont) (B : Nat → Kont) (R : Kont) (fr : Fr) (μ : Gh) (L : List Seg) : Prop :=
  ∀ a w, Agr N fr a → Inv w μ L → c.wpIn (fw N.rd) 0 P (lift N μ K B R) a w
theorem lift_mono {μ0 μ1 : Gh} (hm : μ0.le μ1) {K K' : Kont} {B B' : Nat → Kont} {R R' : Kont} (hK : ∀ fr μ L, μ1.le μ → K fr μ L → K' fr μ L) (hB : ∀ i fr μ L, μ1.le μ → B i fr μ L → B' i fr μ L)
    (hR : ∀ fr μ L, μ1.le μ → R fr μ L → R' fr μ L) (e : Exit) (a : Act) (w : World) (h : lift N μ1 K B R e a w) : lift N μ0 K' B' R' e a w := by
  cases e <;> first
    | exact h.elim
    | (obtain ⟨fr, μ, L, h1, h2, h3, h4⟩ := h
       first
        | exact ⟨fr, μ, L, h1, hm.trans h2, h3, hK _ _ _ h2 h4⟩
        | exact ⟨fr, μ, L, h1, hm.trans h2, h3, hB _ _ _ _ h2 h4⟩
        | exact ⟨fr, μ, L, h1, hm.trans h2, h3, hR _ _ _ h2 h4⟩)
theorem lift_letsOut {μ0 : Gh} {K : Kont} {B : Nat → Kont} {R : Kont} : ¬ LetsOut (lift N μ0 K B R) := fun ⟨_, _, h⟩ => h
variable {K : Kont} {B : Nat → Kont} {R : Kont} {fr : Fr} {μ : Gh} {L : List Seg}
theorem WP.mono {c : Code} {K' : Kont} {B' : Nat → Kont} {R' : Kont} (h : WP P N c K B R fr μ L) (hK : ∀ fr μ' L, μ.le μ' → K fr μ' L → K' fr μ' L)
    (hB : ∀ i fr μ' L, μ.le μ' → B i fr μ' L → B' i fr μ' L) (hR : ∀ fr μ' L, μ.le μ' → R fr μ' L → R' fr μ' L) : WP P N c K' B' R' fr μ L :=
  fun a w ha hw => Code.wpIn_mono (lift_mono (Gh.le.refl _) hK hB hR) (h a w ha hw)
theorem WP.skip (h : K fr μ L) : WP P N .skip K B R fr μ L := fun _ _ ha hw => wpIn_skip ⟨fr, μ, L, ha, Gh.le.refl _, hw, h⟩
theorem WP.exit {i : Nat} (h : B i fr μ L) : WP P N (.exit i) K B R fr μ L := fun _ _ ha hw => wpIn_exit ⟨fr, μ, L, ha, Gh.le.refl _, hw, h⟩
theorem WP.ret (h : R fr μ L) : WP P N .ret K B R fr μ L := fun _ _ ha hw => wpIn_ret ⟨fr, μ, L, ha, Gh.le.refl _, hw, h⟩
theorem WP.seq {x y : Code} (h : WP P N x (WP P N y K B R) B R fr μ L) : WP P N (.seq x y) K B R fr μ L := by
  intro a w ha hw
  refine wpIn_seq (Code.wpIn_mono (fun e a' w' hl => ?_) (h a w ha hw))
  cases e with
  | normal =>
    obtain ⟨fr1, μ1, L1, h1, h2, h3, h4⟩ := hl
    exact Code.wpIn_mono (lift_mono h2 (fun _ _ _ _ h => h) (fun _ _ _ _ _ h => h) (fun _ _ _ _ h => h)) (h4 a' w' h1 h3)
  | _ => exact hl
theorem WP.seq_k {x y : Code} (h : ∀ K' : Kont, (∀ fr μ L, WP P N y K B R fr μ L → K' fr μ L) → WP P N x K' B R fr μ L) : WP P N (.seq x y) K B R fr μ L := WP.seq (h _ fun _ _ _ h => h)
theorem WP.cond {c : Operand} {x y : Code} (h : ev fr c fun v => pickK v (WP P N x K B R fr μ L) (WP P N y K B R fr μ L)) : WP P N (.cond c x y) K B R fr μ L := by
  intro a w ha hw
  have h1 := ev_sound ha h
  revert h1
  cases hc : a.eval c <;> simp only [pickK, false_implies]
  rename_i b
  cases b
  · exact fun h => wpIn_cond hc (by simpa using h a w ha hw)
  · exact fun h => wpIn_cond hc (by simpa using h a w ha hw)
def inBlk (i : Nat) (K : Kont) (B : Nat → Kont) : Nat → Kont := fun j => if j = i then K else B j
theorem WP.block {i : Nat} {c : Code} (h : WP P N c K (inBlk i K B) R fr μ L) : WP P N (.block i c) K B R fr μ L := by
  intro a w ha hw
  refine wpIn_block (Code.wpIn_mono (fun e a' w' hl => ?_) (h a w ha hw))
  cases e with
  | exit j =>
    obtain ⟨fr1, μ1, L1, h1, h2, h3, h4⟩ := hl
    by_cases hj : j = i
    · simp only [inBlk, hj, if_true] at h4
      simp only [Exit.inBlock, hj, if_true]
      exact ⟨fr1, μ1, L1, h1, h2, h3, h4⟩
    · simp only [inBlk, hj, if_false] at h4
      simp only [Exit.inBlock, hj, if_false]
      exact ⟨fr1, μ1, L1, h1, h2, h3, h4⟩
  | _ => exact hl
theorem WP.region (hT : TOk P T) {id : Nat} {ops : List Oper} (h : vcOps P T N ops ops fr μ L K) : WP P N (.region id ops.toArray false) K B R fr μ L := by
  intro a w ha hw
  exact wpIn_region_lit (vcOps_sound hT ops fr μ L a w h ha hw fun fr' μ' L' a' w' hm ha' hw' hk => ⟨fr', μ', L', ha', hm, hw', hk⟩)
theorem wp_loop_ix {F : Fence} {m : Nat} {c : Code} {Q : Exit → Act → World → Prop} (I : Nat → Act → World → Prop)
    (round : ∀ n a w, I n a w → c.wpIn F m P (Exit.then (fun a' w' => ∃ n', n' < n ∧ I n' a' w') Q) a w) {n : Nat} {a : Act} {w : World} (h₀ : I n a w) : (Code.loop c).wpIn F m P Q a w := by
  intro b k cs hro hb hr
  have key : ∀ n a w, I n a w →
      ∃ e a' w', Q e a' w' ∧ ArrivesIn (Machine.fenced P F) P (lone (b.atR a (.code c :: .inLoop c :: k)) cs w) b k cs e a' w' := by
    intro n
    induction n using Nat.strongRecOn with
    | _ n ih =>
      intro a w hI
      obtain ⟨e, a₁, w₁, hq, harr⟩ := round n a w hI b (.inLoop c :: k) cs hro hb hr
      cases e with
      | normal =>
        obtain ⟨n', hlt, hI₁⟩ := hq
        obtain ⟨e₂, a₂, w₂, hq₂, harr₂⟩ := ih n' hlt a₁ w₁ hI₁
        exact ⟨e₂, a₂, w₂, hq₂, .of_steps (StepsIn.trans harr (.one (fenced_calm hb hr rfl) stepR_inLoop)) harr₂⟩
      | exit id => exact ⟨_, a₁, w₁, hq, .pass (x := .inLoop c) rfl (fun _ _ => .inl (by simp)) harr⟩
      | goto l => exact ⟨_, a₁, w₁, hq, .pass (x := .inLoop c) rfl (fun _ _ => .inl (by simp)) harr⟩
      | ret => exact ⟨_, a₁, w₁, hq, .pass (x := .inLoop c) rfl (fun _ _ => .inl (by simp)) harr⟩
      | panic ch => exact ⟨_, a₁, w₁, hq, .pass (x := .inLoop c) rfl (fun _ _ => .inl (by simp)) harr⟩
      | outgrown => exact ⟨_, a₁, w₁, hq, .pass (x := .inLoop c) rfl (fun _ _ => .inl (by simp)) harr⟩
  obtain ⟨e, a', w', hq, harr⟩ := key n a w h₀
  exact ⟨e, a', w', hq, .of_steps (.one (fenced_calm hb hr rfl) stepR_loop) harr⟩
theorem WP.loop {c : Code} (I : Nat → Kont) {n : Nat} (h0 : I n fr μ L)
    (round : ∀ n fr μ' L, μ.le μ' → I n fr μ' L → WP P N c (fun fr' μ2 L' => ∃ n', n' < n ∧ I n' fr' μ2 L') B R fr μ' L) : WP P N (.loop c) K B R fr μ L := by
  intro a w ha hw
  refine wp_loop_ix (fun n a w => ∃ fr μ' L, Agr N fr a ∧ μ.le μ' ∧ Inv w μ' L ∧ I n fr μ' L) ?_ ⟨fr, μ, L, ha, Gh.le.refl _, hw, h0⟩
  rintro n a w ⟨fr1, μ1, L1, h1, h2, h3, h4⟩
  refine Code.wpIn_mono (fun e a' w' hl => ?_) (round n fr1 μ1 L1 h2 h4 a w h1 h3)
  cases e with
  | normal =>
    obtain ⟨fr2, μ2, L2, k1, k2, k3, n', k4, k5⟩ := hl
    exact ⟨n', k4, fr2, μ2, L2, k1, h2.trans k2, k3, k5⟩
  | exit i => exact lift_mono h2 (fun _ _ _ _ h => h) (fun _ _ _ _ _ h => h) (fun _ _ _ _ h => h) (.exit i) a' w' hl
  | ret => exact lift_mono h2 (fun _ _ _ _ h => h) (fun _ _ _ _ _ h => h) (fun _ _ _ _ h => h) .ret a' w' hl
  | _ => exact hl.elim
theorem WP.sub {c : Code} {fr' : Fr} {L' : List Seg} (h : WP P N c K B R fr' μ L') (hf : ∀ t v, look fr' t = some v → look fr t = some v) (hL : L'.flatten.Sublist L.flatten) :
    WP P N c K B R fr μ L := fun a w ha hw => h a w (ha.sub hf) (hw.sub hL)
theorem WP.freeze {c : Code} {s : Seg} (h : μ.le (μ.add s) → WP P N c K B R fr (μ.add s) L) : WP P N c K B R fr μ (s :: L) := fun a w ha hw => by
  obtain ⟨hm, hi⟩ := hw.freeze
  exact Code.wpIn_mono (lift_mono hm (fun _ _ _ _ h => h) (fun _ _ _ _ _ h => h) (fun _ _ _ _ h => h)) (h hm a w ha hi)
theorem WP.perm {c : Code} {L' : List Seg} (h : WP P N c K B R fr μ L') (hp : L.flatten.Perm L'.flatten) : WP P N c K B R fr μ L := fun a w ha hw => h a w ha (hw.perm hp)
theorem WP.know {c : Code} (h : (∃ w, Inv w μ L) → WP P N c K B R fr μ L) : WP P N c K B R fr μ L := fun a w ha hw => h ⟨w, hw⟩ a w ha hw
def resK (T : TT) (rs : List ResultVar) (fr : Fr) (μ : Gh) (L : List Seg) (k : List Value → Prop) : Prop := match rs with
  | [] => k []
  | .tmp t :: r => evT (look fr t) fun v => resK T r fr μ L fun vs => k (v :: vs)
  | .cell p t :: r => evT (look fr p) fun a => loadK T μ L t a fun v => resK T r fr μ L fun vs => k (v :: vs)
def resV (vs : List Value) : Value := match vs with | [v] => v | vs => .tuple vs.toArray
def resOne (tmps : Array Value) (r : ResultVar) : Sem Value := match r with
  | .tmp t => pure (tmps.getD t undef)
  | .cell p t => do loadVar t (← asAddr (tmps.getD p undef))
theorem resK_sound (hT : TOk P T) {a : Act} (ha : Agr N fr a) {w : World} (hw : Holds w μ L) : ∀ (rs : List ResultVar) {k : List Value → Prop}, resK T rs fr μ L k →
    ∃ vs, k vs ∧ (rs.mapM (resOne a.tmps)).run P w = .ok vs w
  | [], k, h => ⟨[], h, rfl⟩
  | .tmp t :: r, k, h => by
    simp only [resK] at h
    cases hl : look fr t with
    | none => rw [hl] at h; exact h.elim
    | some v =>
      rw [hl] at h
      obtain ⟨vs, h1, h2⟩ := resK_sound hT ha hw r h
      refine ⟨_, h1, ?_⟩
      simp only [List.mapM_cons, resOne, Sem.run_bind, Sem.run_pure, Result.andThen_ok, h2, ha.get t v hl]
  | .cell p t :: r, k, h => by
    simp only [resK] at h
    cases hl : look fr p with
    | none => rw [hl] at h; exact h.elim
    | some v =>
      rw [hl] at h
      obtain ⟨u, h1, h2⟩ := runs_load (P := P) (μ := μ) (L := L) hT (v := v) (t := t) (k := fun v => resK T r fr μ L fun vs => k (v :: vs)) h
      obtain ⟨vs, h3, h4⟩ := resK_sound hT ha hw r h1
      refine ⟨_, h3, ?_⟩
      have h5 := h2 w hw
      have h6 : ∃ ad, v = .pointer (some ad) := by
        have : loadK T μ L t v (fun v => resK T r fr μ L fun vs => k (v :: vs)) := h
        unfold loadK at this
        split at this
        · exact ⟨_, rfl⟩
        · exact this.elim
      obtain ⟨ad, rfl⟩ := h6
      simp only [Instr.loadAt, Instr.sureAddr, Sem.run_bind, Sem.run_pure, Result.andThen_ok] at h5
      simp only [List.mapM_cons, resOne, Sem.run_bind, Sem.run_pure, Result.andThen_ok, h4, ha.get p _ hl, asAddr, h5]
def Upd (μ : Gh) (L : List Seg) (k : Gh → List Seg → Prop) : Prop := ∀ w, Inv w μ L → ∃ μ' L', μ.le μ' ∧ Inv w μ' L' ∧ k μ' L'
def argFr (args : List Value) : Fr := (args.zipIdx).map fun p => (p.2, p.1)
theorem look_zip (args : List Value) : ∀ (i t : Nat) (v : Value), look ((args.zipIdx i).map fun p => (p.2, p.1)) t = some v → i ≤ t ∧ args[t - i]? = some v := by
  induction args with
  | nil => intro i t v h; cases h
  | cons x xs ih =>
    intro i t v h
    simp only [List.zipIdx_cons, List.map_cons, look_cons] at h
    by_cases hi : i = t
    · rw [if_pos hi] at h; subst hi; simpa using h
    · rw [if_neg hi] at h
      obtain ⟨h1, h2⟩ := ih (i + 1) t v h
      refine ⟨by omega, ?_⟩
      have : t - i = (t - (i + 1)) + 1 := by omega
      rw [this]; simpa using h2
theorem Fn.of_body (hT : TOk P T) {f : FuncId} {fn : Func} {c : Code} {args : List Value} {Rv : Value → Gh → List Seg → Prop} (hf : P.funcs[f]? = some fn)
    (hnm : (fn.name == "runtime.NumGoroutine") = false) (hb : fn.body = some c) {n : Nat} (hn : fn.ntmps = n) (hl : args.length ≤ n)
    (h : WP P ⟨n, [], none⟩ c (fun fr μ L => resK T fn.results.toList fr μ L fun vs => Upd μ L (Rv (resV vs))) (fun _ _ _ _ => False) (fun fr μ L => resK T fn.results.toList fr μ L fun vs => Upd μ L (Rv (resV vs))) (argFr args) μ L) :
    Fn P f args μ L Rv := by
  refine .inl ⟨⟨fn, hf, hnm, by rw [hb]; rfl⟩, fun w hw => ?_⟩
  refine calls_of_wp hf hb ?_
  have ha : Agr ⟨n, [], none⟩ (argFr args) { tmps := args.toArray ++ Array.replicate (fn.ntmps - args.toArray.size) undef, defers := [] } := by
    refine ⟨rfl, by simp [hn]; omega, fun t v hv => ?_⟩
    obtain ⟨_, h2⟩ := look_zip args 0 t v hv
    have hlt : t < args.length := by
      rcases Nat.lt_or_ge t args.length with h | h
      · exact h
      · rw [List.getElem?_eq_none (by simpa using h)] at h2; cases h2
    have h2' : args[t]? = some v := h2
    have hg : args[t] = v := by rw [List.getElem?_eq_getElem hlt] at h2'; injection h2'
    simp [Array.getElem?_append, hlt, hg]
  have hfin : ∀ a w', lift ⟨n, [], none⟩ μ (fun fr μ L => resK T fn.results.toList fr μ L fun vs => Upd μ L (Rv (resV vs))) (fun _ _ _ _ => False) (fun fr μ L => resK T fn.results.toList fr μ L fun vs => Upd μ L (Rv (resV vs))) .normal a w' →
      a.defers = [] ∧ ∃ v, (results fn a.tmps).run P w' = .ok v w' ∧ ∃ v' μ' L', Ending.returned v = .returned v' ∧ μ.le μ' ∧ Inv w' μ' L' ∧ Rv v' μ' L' := by
    rintro a w' ⟨fr', μ', L', h1, h2, h3, h4⟩
    obtain ⟨vs, h5, h6⟩ := resK_sound hT h1 h3.holds fn.results.toList h4
    obtain ⟨μ3, L3, k1, k2, k3⟩ := h5 w' h3
    refine ⟨h1.defers, resV vs, ?_, resV vs, μ3, L3, rfl, h2.trans k1, k2, k3⟩
    have h7 : (fn.results.mapM (resOne a.tmps)).run P w' = .ok vs.toArray w' := by
      rw [Array.mapM_eq_mapM_toList, Sem.run_map, h6]; rfl
    have h8 : results fn a.tmps = (do
        let vs ← fn.results.mapM (resOne a.tmps)
        pure (if h : vs.size = 1 then vs[0] else .tuple vs)) := rfl
    rw [h8, Sem.run_bind, h7]
    simp only [Result.andThen_ok, Sem.run_pure]
    congr 1
    match vs with
    | [] => rfl
    | [v] => rfl
    | v :: u :: r => simp [resV]
  refine Code.wp_mono (fun e a w' hl => ?_) (wpIn_wide.1 (h _ w ha hw))
  cases e with
  | normal => exact hfin a w' hl
  | ret => exact hfin a w' hl
  | exit i => obtain ⟨_, _, _, _, _, _, h4⟩ := hl; exact h4.elim
  | _ => exact hl.elim
end
end Go.Proofs.YthpgjbbjpfiniaaGreat
