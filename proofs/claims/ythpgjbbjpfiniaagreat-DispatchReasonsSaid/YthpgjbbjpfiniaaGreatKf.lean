/- A region that draws its order: a plan says what may be taken first and what is forced. -/
import Derived.Test.YthpgjbbjpfiniaaGreatKe
namespace Go.Proofs.YthpgjbbjpfiniaaGreat
open Go.RowKit
set_option linter.unusedSimpArgs false
set_option linter.unusedVariables false
def Kept (keep L : List Seg) : Prop := ∀ c ∈ keep.flatten, c ∈ L.flatten
def AN (P : Program) (N : NN) (ops : List Oper) (μ0 : Gh) (keep : List Seg) (fuel : Nat) (listed : List Bool) (K : Kont) (fr : Fr) (μ : Gh) (L : List Seg) : Prop :=
  μ0.le μ → Kept keep L → ∀ (a : Act) (w : World) (Q : Exit → Act → World → Prop), Agr N fr a → Inv w μ L →
    (∀ fr' μ' L' a' w', μ.le μ' → Agr N fr' a' → Inv w' μ' L' → K fr' μ' L' → Q .normal a' w') →
    (∀ c a d v w, Q (.panic c) (Act.put a d v) w → Q (.panic c) a w) → wpAnyH P .any ops.toArray Q (fun w => Holds w μ0 keep) fuel listed.toArray a w
def planRun (ops : List Oper) : List (Bool × Nat) → List Bool → Option (List Bool)
  | [], l => some l
  | p :: r, l => match (match p.1 with
      | true => Region.free .any ops.toArray l.toArray p.2 && (Region.ready .any ops.toArray l.toArray).contains p.2
      | false => Region.ready .any ops.toArray l.toArray == [p.2]) with
    | true => planRun ops r (l.set p.2 true)
    | false => none
def nthOp : List Oper → Nat → Option Oper
  | [], _ => none
  | o :: _, 0 => some o
  | _ :: r, n + 1 => nthOp r n
theorem nthOp_eq : ∀ (ops : List Oper) (n : Nat), nthOp ops n = ops[n]?
  | [], _ => by simp [nthOp]
  | o :: r, 0 => by simp [nthOp]
  | o :: r, n + 1 => by simp [nthOp, nthOp_eq r n]
def vcPlan (P : Program) (T : TT) (N : NN) (ops : List Oper) (μ0 : Gh) (keep : List Seg) : List (Bool × Nat) → Fr → Gh → List Seg → Kont → Prop
  | [], fr, μ, L, K => K fr μ L
  | p :: r, fr, μ, L, K => match nthOp ops p.2 with
    | some o => (match p.1 with
      | true => guardK ops fr o.guard (vcR P T o.op fr μ0 keep fun v => putK N o.dst v fr fun fr' => vcPlan P T N ops μ0 keep r fr' μ L K)
          (putK N o.dst undef fr fun fr' => vcPlan P T N ops μ0 keep r fr' μ L K)
      | false => guardK ops fr o.guard (vcO P T o.op o.type fr μ L fun v μ' L' => Kept keep L' ∧ putK N o.dst v fr fun fr' => vcPlan P T N ops μ0 keep r fr' μ' L' K)
          (putK N o.dst undef fr fun fr' => vcPlan P T N ops μ0 keep r fr' μ L K))
    | none => False
section
variable {P : Program} {T : TT} {N : NN} {ops : List Oper} {μ0 : Gh} {keep : List Seg} {K : Kont} {fr : Fr} {μ : Gh} {L : List Seg} {fuel : Nat} {listed : List Bool}
theorem holds_of {w : World} (hm : μ0.le μ) (hk : Kept keep L) (hw : Inv w μ L) : Holds w μ0 keep :=
  ⟨fun b o h => hw.mem b o (hm.mem b o h), fun c hc => hw.own c (hk c hc)⟩
theorem AN.done (hr : Region.ready .any ops.toArray listed.toArray = []) (h : K fr μ L) : AN P N ops μ0 keep fuel listed K fr μ L :=
  fun _ _ a w _ ha hw hQ _ => wpAnyH_done hr (hQ fr μ L a w (Gh.le.refl _) ha hw h) fuel
theorem set_toArray (l : List Bool) (i : Nat) : l.toArray.setIfInBounds i true = (l.set i true).toArray := by simp
theorem AN.steps (hT : TOk P T) (hs : Region.noSelect ops.toArray = true) : ∀ (plan : List (Bool × Nat)) (listed : List Bool) {listed' : List Bool} (_ : planRun ops plan listed = some listed') {fr : Fr} {μ : Gh} {L : List Seg}
    (_ : vcPlan P T N ops μ0 keep plan fr μ L (AN P N ops μ0 keep fuel listed' K)), AN P N ops μ0 keep (fuel + plan.length) listed K fr μ L
  | [], listed, listed', hp, fr, μ, L, h => by
    simp only [planRun, Option.some.injEq] at hp
    subst hp
    exact h
  | (b, i) :: r, listed, listed', hp, fr, μ, L, h => by
    intro hm hk a w Qx ha hw hQ hQp
    unfold planRun at hp
    split at hp
    · rename_i hc
      unfold vcPlan at h
      simp only [nthOp_eq] at h hc
      cases ho : ops[i]? with
      | none => rw [ho] at h; exact h.elim
      | some o =>
        rw [ho] at h
        have ho' : ops.toArray[i]? = some o := by simpa using ho
        show wpAnyH P .any ops.toArray Qx _ ((fuel + r.length) + 1) listed.toArray a w
        cases b with
        | true =>
          simp only [Bool.and_eq_true] at h hc
          have hcont : ∀ v, putK N o.dst v fr (fun fr' => vcPlan P T N ops μ0 keep r fr' μ L (AN P N ops μ0 keep fuel listed' K)) →
              wpAnyH P .any ops.toArray Qx (fun w => Holds w μ0 keep) (fuel + r.length) (listed.toArray.setIfInBounds i true) (a.put o.dst v) w := by
            intro v hv
            obtain ⟨fr', hv', ha'⟩ := putK_sound ha hv
            rw [set_toArray]
            exact AN.steps hT hs r _ hp hv' hm hk _ w Qx ha' hw hQ hQp
          rcases guard_sound ha h with ⟨hg, h⟩ | ⟨hg, h⟩
          · obtain ⟨v, hv, hrun⟩ := vcR_sound hT ha h
            exact wpAnyH_take ho' hs hc.1 hc.2 (fun c a w h => hQp c a _ _ w h) (.inl ⟨hg, fun w hw => hrun w hw⟩) (holds_of hm hk hw) (hcont v hv)
          · exact wpAnyH_take ho' hs hc.1 hc.2 (fun c a w h => hQp c a _ _ w h) (.inr ⟨hg, rfl⟩) (holds_of hm hk hw) (hcont undef h)
        | false =>
          simp only [beq_iff_eq] at h hc
          refine wpAnyH_all hc (by simp) fun j hj => ?_
          have hj' : j = i := by simpa using hj
          subst hj'
          unfold wpOp
          rw [ho']
          simp only
          rcases guard_sound ha h with ⟨hg, h⟩ | ⟨hg, h⟩
          · rw [if_pos hg]
            refine .inl (vcO_sound hT ha h hw fun v μ' L' w' hm' hw' hv => ?_)
            obtain ⟨fr', hv', ha'⟩ := putK_sound ha hv.2
            refine ⟨holds_of (hm.trans hm') hv.1 hw', ?_⟩
            rw [set_toArray]
            exact AN.steps hT hs r _ hp hv' (hm.trans hm') hv.1 _ w' Qx ha' hw' (fun fr2 μ2 L2 a2 w2 h2 => hQ fr2 μ2 L2 a2 w2 (hm'.trans h2)) hQp
          · rw [if_neg (by rw [hg]; exact Bool.false_ne_true)]
            obtain ⟨fr', hv', ha'⟩ := putK_sound ha h
            refine ⟨holds_of hm hk hw, ?_⟩
            rw [set_toArray]
            exact AN.steps hT hs r _ hp hv' hm hk _ w Qx ha' hw hQ hQp
    · cases hp
theorem AN.fork (hT : TOk P T) {rs : List Nat} (hr : Region.ready .any ops.toArray listed.toArray = rs) (hne : rs.isEmpty = false)
    (h : ∀ i ∈ rs, ∃ o, ops[i]? = some o ∧ guardK ops fr o.guard (vcO P T o.op o.type fr μ L fun v μ' L' => Kept keep L' ∧ putK N o.dst v fr fun fr' => AN P N ops μ0 keep fuel (listed.set i true) K fr' μ' L')
      (putK N o.dst undef fr fun fr' => AN P N ops μ0 keep fuel (listed.set i true) K fr' μ L)) : AN P N ops μ0 keep (fuel + 1) listed K fr μ L := by
  intro hm hk a w Q ha hw hQ hQp
  refine wpAnyH_all hr (by intro e; rw [e] at hne; cases hne) fun j hj => ?_
  obtain ⟨o, ho, h⟩ := h j hj
  have ho' : ops.toArray[j]? = some o := by simpa using ho
  unfold wpOp
  rw [ho']
  simp only
  rcases guard_sound ha h with ⟨hg, h⟩ | ⟨hg, h⟩
  · rw [if_pos hg]
    refine .inl (vcO_sound hT ha h hw fun v μ' L' w' hm' hw' hv => ?_)
    obtain ⟨fr', hv', ha'⟩ := putK_sound ha hv.2
    refine ⟨holds_of (hm.trans hm') hv.1 hw', ?_⟩
    rw [set_toArray]
    exact hv' (hm.trans hm') hv.1 _ w' Q ha' hw' (fun fr2 μ2 L2 a2 w2 h2 => hQ fr2 μ2 L2 a2 w2 (hm'.trans h2)) hQp
  · rw [if_neg (by rw [hg]; exact Bool.false_ne_true)]
    obtain ⟨fr', hv', ha'⟩ := putK_sound ha h
    refine ⟨holds_of hm hk hw, ?_⟩
    rw [set_toArray]
    exact hv' hm hk _ w Q ha' hw hQ hQp
theorem WP.draw {B : Nat → Kont} {R : Kont} (hx : P.follows .mixedOrders = true) {id n : Nat} (keep : List Seg) (hk : Kept keep L) (hn : ops.length = n)
    (h : AN P N ops μ keep n (List.replicate n false) K fr μ L) (hd : N.rd = none ∨ noDef ops = true := by first | exact .inl rfl | exact .inr (by kernel_rfl)) : WP P N (.region id ops.toArray true) K B R fr μ L := by
  intro a w ha hw
  refine region_in hx hd lift_letsOut (wpAny_of_held (S := fun w => Holds w μ keep) _ _ _ _ ?_)
  have e1 : ops.toArray.size = n := by simpa using hn
  have e2 : Array.replicate n false = (List.replicate n false).toArray := by simp
  rw [e1, e2]
  exact h (Gh.le.refl _) hk a _ _ ha hw.drew (fun fr' μ' L' a' w' hm ha' hw' hk' => ⟨fr', μ', L', ha', hm, hw', hk'⟩) (fun _ _ _ _ _ h => h)
theorem WP.drawn {B : Nat → Kont} {R : Kont} (hx : P.follows .mixedOrders = true) (hT : TOk P T) {id : Nat} (keep : List Seg) (hk : Kept keep L) (plan : List (Bool × Nat)) {l' : List Bool}
    (hs : Region.noSelect ops.toArray = true) (hp : planRun ops plan (List.replicate ops.length false) = some l') (hl : plan.length = ops.length)
    (h : vcPlan P T N ops μ keep plan fr μ L (AN P N ops μ keep 0 l' K)) (hd : N.rd = none ∨ noDef ops = true := by first | exact .inl rfl | exact .inr (by kernel_rfl)) : WP P N (.region id ops.toArray true) K B R fr μ L := by
  refine WP.draw hx keep hk rfl ?_ hd
  have := AN.steps (N := N) (fuel := 0) (μ0 := μ) (keep := keep) (K := K) hT hs plan _ hp (fr := fr) (μ := μ) (L := L) h
  rw [Nat.zero_add, hl] at this
  exact this
end
end Go.Proofs.YthpgjbbjpfiniaaGreat
