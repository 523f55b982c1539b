/- Functions that defer one call after another: their bodies in parts. Nothing of the program is named here. -/
import Derived.Test.YtpghcnpheabbgaaGx
import Derived.Defers
namespace Go.Proofs.Ytpghcnpheabbgaa
open Go.RowKit
set_option linter.unusedSimpArgs false
set_option linter.unusedVariables false

/-- Code with any end. -/
def WPG (P : Program) (N : NN) (c : Code) (Q : Exit → Act → World → Prop) (μ0 : Gh) (fr : Fr) (μ : Gh) (L : List Seg) : Prop :=
  μ0.le μ → ∀ a w, Agr N fr a → Inv w μ L → c.wp P Q a w
def FinG (N : NN) (e : Exit) (Q : Exit → Act → World → Prop) (μ0 : Gh) (fr : Fr) (μ : Gh) (L : List Seg) : Prop :=
  μ0.le μ → ∀ a w, Agr N fr a → Inv w μ L → Q e a w
/-- The end of a function with these results. -/
def QD (P : Program) (rs : List ResultVar) (μ0 : Gh) (Rv : Value → Gh → List Seg → Prop) (e : Exit) (a : Act) (w : World) : Prop :=
  ∀ fn : Func, fn.results.toList = rs → bodyPostD P fn (fun e w' => ∃ v μ' L', e = .returned v ∧ μ0.le μ' ∧ Inv w' μ' L' ∧ Rv v μ' L') e a w
section
variable {P : Program} {T : TT} {N : NN} {Q : Exit → Act → World → Prop} {μ0 μ : Gh} {fr : Fr} {L : List Seg}
theorem WPG.at {c : Code} {F : Fr} {L2 : List Seg} (hF : SubFr F fr) (hL : SegSub L2 L) (h : WPG P N c Q μ0 F μ L2) : WPG P N c Q μ0 fr μ L := fun hm a w ha hw => h hm a w (ha.sub hF) (hL w μ hw)
theorem FinG.at {e : Exit} {F : Fr} {L2 : List Seg} (hF : SubFr F fr) (hL : SegSub L2 L) (h : FinG N e Q μ0 F μ L2) : FinG N e Q μ0 fr μ L := fun hm a w ha hw => h hm a w (ha.sub hF) (hL w μ hw)
theorem WPG.seqP {x y : Code} (h : ∀ K' : Kont, (∀ fr μ L, WPG P N y Q μ0 fr μ L → K' fr μ L) → WP P N x K' (fun _ _ _ _ => False) (fun fr μ L => FinG N .ret Q μ0 fr μ L) fr μ L) : WPG P N (.seq x y) Q μ0 fr μ L := by
  intro hm a w ha hw
  refine wp_seq (Code.wp_mono (fun e a' w' hl => ?_) (h _ (fun _ _ _ h => h) a w ha hw))
  cases e with
  | normal =>
    obtain ⟨fr1, μ1, L1, h1, h2, h3, h4⟩ := hl
    exact h4 (hm.trans h2) a' w' h1 h3
  | ret =>
    obtain ⟨fr1, μ1, L1, h1, h2, h3, h4⟩ := hl
    exact h4 (hm.trans h2) a' w' h1 h3
  | exit i => obtain ⟨_, _, _, _, _, _, h4⟩ := hl; exact h4.elim
  | _ => exact hl.elim
theorem WPG.last {x : Code} (h : WP P N x (fun fr μ L => FinG N .normal Q μ0 fr μ L) (fun _ _ _ _ => False) (fun fr μ L => FinG N .ret Q μ0 fr μ L) fr μ L) : WPG P N x Q μ0 fr μ L := by
  intro hm a w ha hw
  refine Code.wp_mono (fun e a' w' hl => ?_) (h a w ha hw)
  cases e with
  | normal =>
    obtain ⟨fr1, μ1, L1, h1, h2, h3, h4⟩ := hl
    exact h4 (hm.trans h2) a' w' h1 h3
  | ret =>
    obtain ⟨fr1, μ1, L1, h1, h2, h3, h4⟩ := hl
    exact h4 (hm.trans h2) a' w' h1 h3
  | exit i => obtain ⟨_, _, _, _, _, _, h4⟩ := hl; exact h4.elim
  | _ => exact hl.elim
/-- A region that makes a function value and defers its call. -/
theorem WPG.defer2 (hT : TOk P T) {n : Nat} {ds : List Deferred} {id d1 : Nat} {op1 : Op} {ty1 ty2 : TypeId} {p1 p2 : String} {af1 af2 : Array Edge} {at2 : Array TypeId} {y : Code} {g : FuncId} {cap : Array Value}
    (h : vcO P T op1 ty1 fr μ L fun v μ' L' => v = .func (.func g) #[] cap ∧ d1 < n ∧ WPG P ⟨n, { target := .fn (.func g) cap, args := #[] } :: ds⟩ y Q μ0 ((d1, v) :: fr) μ' L') :
    WPG P ⟨n, ds⟩ (.seq (.region id #[{ dst := some d1, op := op1, type := ty1, pos := p1, after := af1, guard := none }, { dst := none, op := .defer { callee := .value (.tmp d1), args := #[], argTypes := at2 }, type := ty2, pos := p2, after := af2, guard := none }] false) y) Q μ0 fr μ L := by
  intro hm a w ha hw
  refine wp_seq ?_
  refine wp_region_lit (l := [_, _]) (wpList_step fun K1 hK1 => ?_)
  rw [if_pos (by simp [Region.wanted])]
  refine vcO_sound hT ha h hw fun v μ' L' w' hm' hw' hk => ?_
  obtain ⟨rfl, hd1, hy⟩ := hk
  have ha1 := ha.put (d := d1) hd1 (.func (.func g) #[] cap)
  refine hK1 _ _ (wpList_step fun K2 hK2 => ?_)
  rw [if_pos (by simp [Region.wanted])]
  unfold Oper.wp
  have he : (a.put (some d1) (.func (.func g) #[] cap)).eval (.tmp d1) = .func (.func g) #[] cap := ha1.get d1 _ (by simp [look_cons])
  have hx : (execOp (a.put (some d1) (.func (.func g) #[] cap)).eval { dst := none, op := .defer { callee := .value (.tmp d1), args := #[], argTypes := at2 }, type := ty2, pos := p2, after := af2, guard := none }).run P w' =
      .ok (.defer { target := .fn (.func g) cap, args := #[] }) w' := by
    simp [execOp, resolve, he, Deferred.ofValue, Sem.run_bind, Sem.run_pure, Result.andThen_ok]
  rw [hx, Oper.upon_defer]
  refine hK2 _ _ ?_
  refine wpList_nil ?_
  refine hy (hm.trans hm') _ _ ⟨?_, ?_, ?_⟩ hw'
  · show _ :: _ = _
    rw [ha1.defers]
  · exact ha1.size
  · exact ha1.get

theorem FinG.nil {e : Exit} (he : e = .normal ∨ e = .ret) {n : Nat} {rs : List ResultVar} {Rv : Value → Gh → List Seg → Prop} (hT : TOk P T) (h : resK T rs fr μ L fun vs => Upd μ L (Rv (resV vs))) : FinG ⟨n, []⟩ e (QD P rs μ0 Rv) μ0 fr μ L := by
  intro hm a w ha hw fn hfn
  subst hfn
  have key : Leaves P fn a.tmps (fun e w' => ∃ v μ' L', e = .returned v ∧ μ0.le μ' ∧ Inv w' μ' L' ∧ Rv v μ' L') a.defers .returning w := by
    rw [ha.defers]
    obtain ⟨vs, h5, h6⟩ := resK_sound hT ha hw.holds fn.results.toList h
    obtain ⟨μ3, L3, k1, k2, k3⟩ := h5 w hw
    refine ⟨resV vs, ?_, resV vs, μ3, L3, rfl, hm.trans k1, k2, k3⟩
    have h7 : (fn.results.mapM (resOne a.tmps)).run P w = .ok vs.toArray w := by
      rw [Array.mapM_eq_mapM_toList, Sem.run_map, h6]; rfl
    have h8 : results fn a.tmps = (do
        let vs ← fn.results.mapM (resOne a.tmps)
        pure (if h : vs.size = 1 then vs[0] else .tuple vs)) := rfl
    rw [h8, Sem.run_bind, h7]
    simp only [Result.andThen_ok, Sem.run_pure]
    congr 1
    match vs with
    | [] => rfl
    | [v] => rfl
    | v :: u :: r => simp [resV]
  rcases he with rfl | rfl <;> exact key
/-- The call that was deferred last, walked in place. -/
theorem FinG.cons {e : Exit} (he : e = .normal ∨ e = .ret) {n m : Nat} {ds : List Deferred} {g : FuncId} {cap : Array Value} {rs : List ResultVar} {Rv : Value → Gh → List Seg → Prop} {fg : Func} {cg : Code}
    (hf : P.funcs[g]? = some fg) (hnm : (fg.name == "runtime.NumGoroutine") = false) (hb : fg.body = some cg) (hn : fg.ntmps = m) (hr : fg.results = #[]) (hl : cap.toList.length ≤ m)
    (h : WP P ⟨m, []⟩ cg (fun _ μ' L' => FinG ⟨n, ds⟩ .ret (QD P rs μ0 Rv) μ0 fr μ' L') (fun _ _ _ _ => False) (fun _ μ' L' => FinG ⟨n, ds⟩ .ret (QD P rs μ0 Rv) μ0 fr μ' L') (argFr cap.toList) μ L) :
    FinG ⟨n, { target := .fn (.func g) cap, args := #[] } :: ds⟩ e (QD P rs μ0 Rv) μ0 fr μ L := by
  intro hm a w ha hw fn hfn
  have key : Leaves P fn a.tmps (fun e w' => ∃ v μ' L', e = .returned v ∧ μ0.le μ' ∧ Inv w' μ' L' ∧ Rv v μ' L') a.defers .returning w := by
    rw [ha.defers]
    refine leaves_cons (f := g) (args := #[] ++ cap) (by simp) ?_ ?_
    · show (callFunc g (#[] ++ cap)).run P w = _
      have h1 : fg.name ≠ "runtime.NumGoroutine" := by simpa using hnm
      simp [callFunc, hf, h1, hb, mark]
    · have hag : Agr ⟨m, []⟩ (argFr cap.toList) { tmps := (#[] ++ cap) ++ Array.replicate (fg.ntmps - (#[] ++ cap).size) undef, defers := [] } := by
        refine ⟨rfl, by simp [hn]; simp at hl; omega, fun t v hv => ?_⟩
        obtain ⟨_, h2⟩ := look_zip cap.toList 0 t v hv
        have hlt : t < cap.size := by
          rcases Nat.lt_or_ge t cap.toList.length with h | h
          · simpa using h
          · rw [List.getElem?_eq_none (by simpa using h)] at h2; cases h2
        have h2' : cap.toList[t]? = some v := h2
        have hg : cap[t] = v := by simpa [hlt] using h2'
        simp [Array.getElem?_append, hlt, hg]
      have fin : ∀ a' w', (∃ fr' μ' L', Agr ⟨m, []⟩ fr' a' ∧ μ.le μ' ∧ Inv w' μ' L' ∧ FinG ⟨n, ds⟩ .ret (QD P rs μ0 Rv) μ0 fr μ' L') →
          a'.defers = [] ∧ ∃ v, (results fg a'.tmps).run P w' = .ok v w' ∧ Leaves P fn a.tmps (fun e w' => ∃ v μ' L', e = .returned v ∧ μ0.le μ' ∧ Inv w' μ' L' ∧ Rv v μ' L') ds .returning w' := by
        rintro a' w' ⟨fr', μ', L', k1, k2, k3, k4⟩
        refine ⟨k1.defers, .tuple #[], ?_, ?_⟩
        · have h8 : results fg a'.tmps = (do
            let vs ← fg.results.mapM (resOne a'.tmps)
            pure (if h : vs.size = 1 then vs[0] else .tuple vs)) := rfl
          have h7 : (fg.results.mapM (resOne a'.tmps)).run P w' = .ok #[] w' := by
            rw [hr, Array.mapM_eq_mapM_toList, Sem.run_map]
            simp [Sem.run_pure]
          rw [h8, Sem.run_bind, h7]
          simp [Sem.run_pure]
        · have := k4 (hm.trans k2) { a with defers := ds } w' ⟨rfl, ha.size, ha.get⟩ k3 fn hfn
          exact this
      refine (callsD_of_wp (R := fun e w' => ∃ v, e = .returned v ∧ Leaves P fn a.tmps (fun e w' => ∃ v μ' L', e = .returned v ∧ μ0.le μ' ∧ Inv w' μ' L' ∧ Rv v μ' L') ds .returning w') hf hb ?_).mono ?_
      · refine Code.wp_mono (fun e a' w' hl => ?_) (h _ w hag hw)
        cases e with
        | normal => obtain ⟨h1, v, h2, h3⟩ := fin a' w' hl; exact ⟨h1, v, h2, v, rfl, h3⟩
        | ret => obtain ⟨h1, v, h2, h3⟩ := fin a' w' hl; exact ⟨h1, v, h2, v, rfl, h3⟩
        | exit i => obtain ⟨_, _, _, _, _, _, h4⟩ := hl; exact h4.elim
        | _ => exact hl.elim
      · rintro e u' w' ⟨rfl, v, rfl, h3⟩
        exact h3
  rcases he with rfl | rfl <;> exact key
theorem Fn.of_bodyD {f : FuncId} {fn : Func} {c : Code} {args : List Value} {rs : List ResultVar} {Rv : Value → Gh → List Seg → Prop} (hf : P.funcs[f]? = some fn)
    (hnm : (fn.name == "runtime.NumGoroutine") = false) (hb : fn.body = some c) (hrs : fn.results.toList = rs) {n : Nat} (hn : fn.ntmps = n) (hl : args.length ≤ n)
    (h : WPG P ⟨n, []⟩ c (QD P rs μ Rv) μ (argFr args) μ L) : Fn P f args μ L Rv := by
  refine .inl ⟨⟨fn, hf, hnm, by rw [hb]; rfl⟩, fun w hw => ?_⟩
  refine calls_of_wp_defers hf hb ?_
  have ha : Agr ⟨n, []⟩ (argFr args) { tmps := args.toArray ++ Array.replicate (fn.ntmps - args.toArray.size) undef, defers := [] } := by
    refine ⟨rfl, by simp [hn]; omega, fun t v hv => ?_⟩
    obtain ⟨_, h2⟩ := look_zip args 0 t v hv
    have hlt : t < args.length := by
      rcases Nat.lt_or_ge t args.length with h | h
      · exact h
      · rw [List.getElem?_eq_none (by simpa using h)] at h2; cases h2
    have h2' : args[t]? = some v := h2
    have hg : args[t] = v := by rw [List.getElem?_eq_getElem hlt] at h2'; injection h2'
    simp [Array.getElem?_append, hlt, hg]
  exact Code.wp_mono (fun e a' w' hl => hl fn hrs) (h (Gh.le.refl _) _ w ha hw)
end

end Go.Proofs.Ytpghcnpheabbgaa
