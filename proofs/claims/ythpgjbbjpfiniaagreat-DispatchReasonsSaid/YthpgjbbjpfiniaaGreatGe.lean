/- A region that draws and whose last operation waits for what the region reads: what is read early need not outlive that one. Nothing of the program is named here. -/
import Derived.Test.YthpgjbbjpfiniaaGreatGx
namespace Go.Proofs.YthpgjbbjpfiniaaGreat
open Go.RowKit
set_option linter.unusedSimpArgs false
set_option linter.unusedVariables false
section
variable {P : Program} {ops : Array Oper} {Q : Exit → Act → World → Prop} {S : World → Prop} {b : Nat}
def anyB (P : Program) (ops : Array Oper) (Q : Exit → Act → World → Prop) (S : World → Prop) (b : Nat) : Nat → Array Bool → Act → World → Prop
  | 0, listed, a, w => Region.ready .any ops listed = [] ∧ Q .normal a w
  | fuel + 1, listed, a, w => (Region.ready .any ops listed = [] → Q .normal a w) ∧
    ∀ i ∈ Region.ready .any ops listed, wpOp P ops Q i (fun a' w' => (i ≠ b → S w') ∧ anyB P ops Q S b fuel (listed.setIfInBounds i true) a' w') a w
theorem any_of_B : ∀ (fuel : Nat) (listed : Array Bool) (a : Act) (w : World), anyB P ops Q S b fuel listed a w → wpAny P .any ops Q fuel listed a w
  | 0, _, _, _, h => h
  | fuel + 1, _, _, _, h => ⟨h.1, fun i hi => wpOp_mono (fun a' w' h' => any_of_B fuel _ a' w' h'.2) (h.2 i hi)⟩
def ClosedL (ops : Array Oper) (l : Array Bool) : Prop := ∀ j oj, ops[j]? = some oj → l.getD j false = true → ∀ e ∈ oj.after, Region.binds .any e = true → l.getD e.on false = true
theorem ClosedL.start (n : Nat) : ClosedL ops (List.replicate n false).toArray := by
  intro j oj _ h
  rcases Nat.lt_or_ge j n with h' | h' <;> simp [h'] at h
theorem ClosedL.set {l : Array Bool} {i : Nat} (h : ClosedL ops l) (hr : i ∈ Region.ready .any ops l) : ClosedL ops (l.setIfInBounds i true) := by
  intro j oj hj hl e he hb
  by_cases hij : i = j
  · subst hij
    obtain ⟨_, o, ho, hall⟩ := mem_ready.1 hr
    rw [hj] at ho; injection ho with ho; subst ho
    exact getD_set_true (hall e he hb)
  · rw [getD_set_ne false hij] at hl
    exact getD_set_true (h j oj hj hl e he hb)
def WaitsFor (ops : Array Oper) (b i : Nat) : Prop := ∀ l : Array Bool, ClosedL ops l → (∃ ob, ops[b]? = some ob ∧ ∀ e ∈ ob.after, Region.binds .any e = true → l.getD e.on false = true) → l.getD i false = true
theorem anyB_first {i : Nat} {oi : Oper} {v : Value} (hi : ops[i]? = some oi) (hsel : ∀ (j : Nat) (o : Oper) cs c, ops[j]? = some o → o.op ≠ .select cs c)
    (hQ : ∀ c a w, Q (.panic c) (a.put oi.dst v) w → Q (.panic c) a w) (hb : WaitsFor ops b i) :
    ∀ (fuel : Nat) (listed : Array Bool) (a : Act) (w : World),
      (∀ j oj, ops[j]? = some oj → j ≠ i → listed.getD j true = false → (∀ e ∈ oj.after, Region.binds .any e = true → e.on ≠ i) → oi.apart ops oj = true) →
      i ∈ Region.ready .any ops listed → ClosedL ops listed → YieldsIf P ops S oi v a → S w →
      anyB P ops Q S b fuel (listed.setIfInBounds i true) (a.put oi.dst v) w → anyB P ops Q S b (fuel + 1) listed a w := by
  intro fuel
  induction fuel with
  | zero =>
    intro listed a w _ hr _ hy hS H
    refine ⟨fun h => (by rw [h] at hr; cases hr), fun j hj => ?_⟩
    by_cases hji : j = i
    · subst hji; exact hy.wpOp hi hS ⟨fun _ => hS, H⟩
    · have := ready_mono hj hji
      rw [H.1] at this
      cases this
  | succ fuel ih =>
    intro listed a w hfree hr hcl hy hS H
    refine ⟨fun h => (by rw [h] at hr; cases hr), fun j hj => ?_⟩
    by_cases hji : j = i
    · subst hji; exact hy.wpOp hi hS ⟨fun _ => hS, H⟩
    · have h1 := H.2 j (ready_mono hj hji)
      obtain ⟨hjun, oj, hoj, hall⟩ := mem_ready.1 hj
      have hnot : ∀ e ∈ oj.after, Region.binds .any e = true → e.on ≠ i := fun e he hb heq => by
        have h1 := hall e he hb
        have h0 := (mem_ready.1 hr).1
        rw [heq] at h1
        rcases Nat.lt_or_ge i listed.size with h' | h'
        · simp [h'] at h0 h1; rw [h0] at h1; cases h1
        · simp [Array.getElem?_eq_none h'] at h1
      have hjb : j ≠ b := by
        rintro rfl
        have h3 := hb listed hcl ⟨oj, hoj, hall⟩
        have h0 := (mem_ready.1 hr).1
        rcases Nat.lt_or_ge i listed.size with h' | h'
        · simp [h'] at h0 h3; rw [h0] at h3; cases h3
        · simp [Array.getElem?_eq_none h'] at h3
      have h2 := wpOp_putIf hoj (hfree j oj hoj hji hjun hnot) (fun cs c => hsel i oi cs c hi) (fun cs c => hsel j oj cs c hoj) hQ hy h1
      have hfree' : ∀ k ok, ops[k]? = some ok → k ≠ i → (listed.setIfInBounds j true).getD k true = false →
          (∀ e ∈ ok.after, Region.binds .any e = true → e.on ≠ i) → oi.apart ops ok = true := fun k ok hk hki hun hno => by
        refine hfree k ok hk hki ?_ hno
        by_cases hjk : j = k
        · subst hjk; exact hjun
        · rw [getD_set_ne true hjk] at hun; exact hun
      refine wpOp_mono (fun a' w' h3 => ⟨fun _ => h3.2.1 hjb, ih (listed.setIfInBounds j true) a' w' hfree' (ready_mono hr (Ne.symm hji)) (hcl.set hj) h3.1 (h3.2.1 hjb) ?_⟩) h2
      rw [Array.setIfInBounds_comm _ _ hji]
      exact h3.2.2
end
def edgeB (ops : List Oper) (b i : Nat) : Bool := match nthOp ops b with
  | some o => o.after.toList.any fun e => Region.binds .any e && e.on == i
  | none => false
def waitsB (ops : List Oper) : Nat → List Nat → Nat → Bool
  | b, [], i => edgeB ops b i
  | b, k :: r, i => edgeB ops b k && waitsB ops k r i
theorem edgeB_spec {ops : List Oper} {b i : Nat} (h : edgeB ops b i = true) : ∃ ob, ops.toArray[b]? = some ob ∧ ∃ e ∈ ob.after, Region.binds .any e = true ∧ e.on = i := by
  unfold edgeB at h
  rw [nthOp_eq] at h
  cases hob : ops[b]? with
  | none => rw [hob] at h; cases h
  | some ob =>
    rw [hob] at h
    simp only [List.any_eq_true, Bool.and_eq_true, beq_iff_eq] at h
    obtain ⟨e, h10, h11, h12⟩ := h
    exact ⟨ob, by simpa using hob, e, by simpa using h10, h11, h12⟩
theorem waitsB_spec {ops : List Oper} : ∀ {p : List Nat} {b i : Nat} (_ : waitsB ops b p i = true), WaitsFor ops.toArray b i
  | [], b, i, h, l, hc, ⟨ob, h1, h2⟩ => by
    obtain ⟨ob', h3, e, h4, h5, h6⟩ := edgeB_spec h
    rw [h1] at h3; injection h3 with h3; subst h3
    rw [← h6]; exact h2 e h4 h5
  | k :: r, b, i, h, l, hc, ⟨ob, h1, h2⟩ => by
    unfold waitsB at h
    rw [Bool.and_eq_true] at h
    obtain ⟨ob', h3, e, h4, h5, h6⟩ := edgeB_spec h.1
    rw [h1] at h3; injection h3 with h3; subst h3
    have hk : l.getD k false = true := by rw [← h6]; exact h2 e h4 h5
    have hok : ∃ ok, ops.toArray[k]? = some ok := by
      cases r with
      | nil => obtain ⟨o, h7, _⟩ := edgeB_spec (show edgeB ops k i = true from h.2); exact ⟨o, h7⟩
      | cons k' r' => obtain ⟨o, h7, _⟩ := edgeB_spec (Bool.and_eq_true _ _ ▸ (show (edgeB ops k k' && waitsB ops k' r' i) = true from h.2) : edgeB ops k k' = true ∧ _).1; exact ⟨o, h7⟩
    obtain ⟨ok, h7⟩ := hok
    exact waitsB_spec h.2 l hc ⟨ok, h7, fun e he hb => hc k ok h7 hk e he hb⟩
def pathB (ps : List (Nat × List Nat)) (i : Nat) : List Nat := match ps with
  | [] => []
  | p :: r => bif p.1 == i then p.2 else pathB r i
def planRunB (ops : List Oper) (ps : List (Nat × List Nat)) (b : Nat) : List (Bool × Nat) → List Bool → Option (List Bool)
  | [], l => some l
  | p :: r, l => match (match p.1 with
      | true => Region.free .any ops.toArray l.toArray p.2 && (Region.ready .any ops.toArray l.toArray).contains p.2 && waitsB ops b (pathB ps p.2) p.2
      | false => Region.ready .any ops.toArray l.toArray == [p.2]) with
    | true => planRunB ops ps b r (l.set p.2 true)
    | false => none
section
variable {P : Program} {T : TT} {N : NN} {ops : List Oper} {μ0 : Gh} {keep : List Seg} {K : Kont} {fr : Fr} {μ : Gh} {L : List Seg} {fuel : Nat} {listed : List Bool} {b : Nat} {ps : List (Nat × List Nat)}
def ANB (P : Program) (N : NN) (ops : List Oper) (μ0 : Gh) (keep : List Seg) (b fuel : Nat) (listed : List Bool) (K : Kont) (fr : Fr) (μ : Gh) (L : List Seg) : Prop :=
  μ0.le μ → Kept keep L → ∀ (a : Act) (w : World) (Q : Exit → Act → World → Prop), Agr N fr a → Inv w μ L →
    (∀ fr' μ' L' a' w', μ.le μ' → Agr N fr' a' → Inv w' μ' L' → K fr' μ' L' → Q .normal a' w') →
    (∀ c a d v w, Q (.panic c) (Act.put a d v) w → Q (.panic c) a w) → anyB P ops.toArray Q (fun w => Holds w μ0 keep) b fuel listed.toArray a w
def lastK (P : Program) (T : TT) (N : NN) (ops : List Oper) (b : Nat) (K : Kont) : Kont := fun fr μ L =>
  ∃ o, nthOp ops b = some o ∧ o.guard = none ∧ vcO P T o.op o.type fr μ L fun v μ' L' => putK N o.dst v fr fun fr' => K fr' μ' L'
theorem last_ {dst : Option Tmp} {op : Op} {ty : TypeId} {pos : String} {aft : Array Edge} (hi : nthOp ops b = some ⟨dst, op, ty, pos, aft, none⟩) (h : vcO P T op ty fr μ L fun v μ' L' => putK N dst v fr fun fr' => K fr' μ' L') : lastK P T N ops b K fr μ L :=
  ⟨_, hi, rfl, h⟩
theorem ANB.last (hT : TOk P T) (hr : Region.ready .any ops.toArray listed.toArray = [b]) (hd : Region.ready .any ops.toArray (listed.set b true).toArray = []) (h : lastK P T N ops b K fr μ L) : ANB P N ops μ0 keep b 1 listed K fr μ L := by
  intro hm hk a w Q ha hw hQ hQp
  obtain ⟨o, ho, hg, h⟩ := h
  rw [nthOp_eq] at ho
  have ho' : ops.toArray[b]? = some o := by simpa using ho
  refine ⟨fun h0 => absurd (hr ▸ h0) (by simp), fun j hj => ?_⟩
  rw [hr] at hj
  have hj' : j = b := by simpa using hj
  subst hj'
  unfold wpOp
  rw [ho']
  simp only
  have hwt : Region.wanted o (yielded ops.toArray a.tmps) = true := by unfold Region.wanted; rw [hg]
  rw [if_pos hwt]
  refine .inl (vcO_sound hT ha h hw fun v μ' L' w' hm' hw' hv => ?_)
  obtain ⟨fr', hv', ha'⟩ := putK_sound ha hv
  refine ⟨fun hne => absurd rfl hne, ?_, ?_⟩
  · rw [set_toArray]; exact hd
  · exact hQ fr' μ' L' _ w' hm' ha' hw' hv'
theorem ANB.steps (hT : TOk P T) (hs : Region.noSelect ops.toArray = true) {listed' : List Bool} (hr : Region.ready .any ops.toArray listed'.toArray = [b]) (hd : Region.ready .any ops.toArray (listed'.set b true).toArray = []) :
    ∀ (plan : List (Bool × Nat)) (listed : List Bool) (_ : planRunB ops ps b plan listed = some listed') (_ : ClosedL ops.toArray listed.toArray) {fr : Fr} {μ : Gh} {L : List Seg}
    (_ : vcPlan P T N ops μ0 keep plan fr μ L (lastK P T N ops b K)), ANB P N ops μ0 keep b (1 + plan.length) listed K fr μ L
  | [], listed, hp, _, fr, μ, L, h => by
    simp only [planRunB, Option.some.injEq] at hp
    subst hp
    exact ANB.last hT hr hd h
  | (q, i) :: r, listed, hp, hcl, fr, μ, L, h => by
    intro hm hk a w Qx ha hw hQ hQp
    unfold planRunB at hp
    split at hp
    · rename_i hc
      unfold vcPlan at h
      simp only [nthOp_eq] at h hc
      cases ho : ops[i]? with
      | none => rw [ho] at h; exact h.elim
      | some o =>
        rw [ho] at h
        have ho' : ops.toArray[i]? = some o := by simpa using ho
        show anyB P ops.toArray Qx _ b ((1 + r.length) + 1) listed.toArray a w
        cases q with
        | true =>
          simp only [Bool.and_eq_true] at h hc
          have hwb : WaitsFor ops.toArray b i := waitsB_spec hc.2
          have hri : i ∈ Region.ready .any ops.toArray listed.toArray := by simpa using hc.1.2
          have hcl2 : ClosedL ops.toArray (listed.set i true).toArray := by rw [← set_toArray]; exact hcl.set hri
          have hcont : ∀ v, putK N o.dst v fr (fun fr' => vcPlan P T N ops μ0 keep r fr' μ L (lastK P T N ops b K)) →
              anyB P ops.toArray Qx (fun w => Holds w μ0 keep) b (1 + r.length) (listed.toArray.setIfInBounds i true) (a.put o.dst v) w := by
            intro v hv
            obtain ⟨fr', hv', ha'⟩ := putK_sound ha hv
            rw [set_toArray]
            exact ANB.steps hT hs hr hd r _ hp hcl2 hv' hm hk _ w Qx ha' hw hQ hQp
          rcases guard_sound ha h with ⟨hg, h⟩ | ⟨hg, h⟩
          · obtain ⟨v, hv, hrun⟩ := vcR_sound hT ha h
            exact anyB_first ho' (Region.noSelect_spec hs) (fun c a w h => hQp c a _ _ w h) hwb _ _ a w (Region.free_spec ho' hc.1.1) hri hcl (.inl ⟨hg, fun w hw => hrun w hw⟩) (holds_of hm hk hw) (hcont v hv)
          · exact anyB_first ho' (Region.noSelect_spec hs) (fun c a w h => hQp c a _ _ w h) hwb _ _ a w (Region.free_spec ho' hc.1.1) hri hcl (.inr ⟨hg, rfl⟩) (holds_of hm hk hw) (hcont undef h)
        | false =>
          simp only [beq_iff_eq] at h hc
          refine ⟨fun h0 => absurd (hc ▸ h0) (by simp), fun j hj => ?_⟩
          rw [hc] at hj
          have hj' : j = i := by simpa using hj
          subst hj'
          have hcl2 : ClosedL ops.toArray (listed.set j true).toArray := by rw [← set_toArray]; exact hcl.set (by rw [hc]; simp)
          unfold wpOp
          rw [ho']
          simp only
          rcases guard_sound ha h with ⟨hg, h⟩ | ⟨hg, h⟩
          · rw [if_pos hg]
            refine .inl (vcO_sound hT ha h hw fun v μ' L' w' hm' hw' hv => ?_)
            obtain ⟨fr', hv', ha'⟩ := putK_sound ha hv.2
            refine ⟨fun _ => holds_of (hm.trans hm') hv.1 hw', ?_⟩
            rw [set_toArray]
            exact ANB.steps hT hs hr hd r _ hp hcl2 hv' (hm.trans hm') hv.1 _ w' Qx ha' hw' (fun fr2 μ2 L2 a2 w2 h2 => hQ fr2 μ2 L2 a2 w2 (hm'.trans h2)) hQp
          · rw [if_neg (by rw [hg]; exact Bool.false_ne_true)]
            obtain ⟨fr', hv', ha'⟩ := putK_sound ha h
            refine ⟨fun _ => holds_of hm hk hw, ?_⟩
            rw [set_toArray]
            exact ANB.steps hT hs hr hd r _ hp hcl2 hv' hm hk _ w Qx ha' hw hQ hQp
    · cases hp
theorem WP.drawB {B : Nat → Kont} {R : Kont} (hx : P.follows .mixedOrders = true) (hT : TOk P T) {id : Nat} (keep : List Seg) (hk : Kept keep L) (b : Nat) (ps : List (Nat × List Nat)) (plan : List (Bool × Nat)) {l' : List Bool}
    (hs : Region.noSelect ops.toArray = true) (hp : planRunB ops ps b plan (List.replicate ops.length false) = some l') (hl : plan.length + 1 = ops.length)
    (hr : Region.ready .any ops.toArray l'.toArray = [b]) (hd : Region.ready .any ops.toArray (l'.set b true).toArray = [])
    (h : vcPlan P T N ops μ keep plan fr μ L (lastK P T N ops b K)) (hnd : N.rd = none ∨ noDef ops = true := by first | exact .inl rfl | exact .inr (by kernel_rfl)) : WP P N (.region id ops.toArray true) K B R fr μ L := by
  intro a w ha hw
  refine region_in hx hnd lift_letsOut (any_of_B (S := fun w => Holds w μ keep) (b := b) _ _ _ _ ?_)
  have e1 : ops.toArray.size = 1 + plan.length := by simp; omega
  have e2 : Array.replicate (1 + plan.length) false = (List.replicate ops.length false).toArray := by simp; omega
  rw [e1, e2]
  exact ANB.steps hT hs hr hd plan _ hp (ClosedL.start _) h (Gh.le.refl _) hk a _ _ ha hw.drew (fun fr' μ' L' a' w' hm ha' hw' hk' => ⟨fr', μ', L', ha', hm, hw', hk'⟩) (fun _ _ _ _ _ h => h)
end
section
variable {P : Program} {T : TT} {N : NN} {ops r : List Oper} {dst : Option Tmp} {op : Op} {ty : TypeId} {pos : String} {aft : Array Edge} {K : Kont} {d : Tmp} {fr : Fr} {μ : Gh} {L : List Seg} {v : Value}
theorem Pt {μ0 : Gh} {keep : List Seg} {pl : List (Bool × Nat)} {i : Nat} (hd : Nat.blt d N.n = true) (hi : nthOp ops i = some ⟨dst, op, ty, pos, aft, none⟩) (h : vcR P T op ((d, v) :: fr) μ0 keep fun u => putK N dst u ((d, v) :: fr) fun fr' => vcPlan P T N ops μ0 keep pl fr' μ L K) :
    putK N (some d) v fr fun fr' => vcPlan P T N ops μ0 keep ((true, i) :: pl) fr' μ L K := P_some hd (PL_t hi h)
end
end Go.Proofs.YthpgjbbjpfiniaaGreat
