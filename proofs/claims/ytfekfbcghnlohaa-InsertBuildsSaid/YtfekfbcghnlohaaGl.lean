/- A row is lent to a call: it is kept for good while the call lasts, and owned again behind it; what the call gives is told apart from it by what it holds. -/
import Derived.Test.YtfekfbcghnlohaaTas
import Derived.Test.YtfekfbcghnlohaaMd
namespace Go.Proofs.Ytfekfbcghnlohaa
open Go.RowKit
set_option linter.unusedSimpArgs false
set_option linter.unusedVariables false

def Gh.del (μ : Gh) (g : Nat) : Gh := { μ with mem := fun b => if b = g then none else μ.mem b }
section
variable {μ μ2 : Gh} {L : List Seg} {g : Nat} {o : Obj} {R : Value → Gh → List Seg → Prop}
/-- What is asked behind a call to which (g, o) was lent. -/
def Lent (μ : Gh) (g : Nat) (o : Obj) (R : Value → Gh → List Seg → Prop) : Value → Gh → List Seg → Prop := fun v μ' L' => ∀ μ2, μ2 = μ'.del g → μ.le μ2 → μ'.mem g = some o → R v μ2 ([(g, o)] :: L')
theorem Fn.lend {f : FuncId} {fn : Func} {args : List Value} (hf : Try.prog.funcs[f]? = some fn) (hnm : (fn.name == "runtime.NumGoroutine") = false) (hb : fn.body.isNone = false) (i : Nat) (hi : nthS L i = some [(g, o)])
    (h : (∀ c ∈ [(g, o)], (μ.add [(g, o)]).mem c.1 = some c.2) → μ.le (μ.add [(g, o)]) → Fn Try.prog f args (μ.add [(g, o)]) (setS L i []) (Lent μ g o R)) : Fn Try.prog f args μ L R := by
  have hg : ∀ c ∈ [(g, o)], (μ.add [(g, o)]).mem c.1 = some c.2 := fun c hc => Gh.add_at hc (by simp)
  have hi' : L[i]? = some [(g, o)] := by rw [← nthS_eq]; exact hi
  have key : ∀ w, Inv w μ L → μ.le (μ.add [(g, o)]) ∧ Inv w (μ.add [(g, o)]) (setS L i []) ∧ μ.mem g = none := by
    intro w hw
    have h1 := hw.perm (set_nil_perm hi')
    rw [← setS_eq] at h1
    obtain ⟨h2, h3⟩ := h1.freeze
    exact ⟨h2, h3, h1.sep (g, o) (by simp)⟩
  have fin : ∀ w v μ' L', μ.mem g = none → (μ.add [(g, o)]).le μ' → Inv w μ' L' → Lent μ g o R v μ' L' → ∃ μ3 L3, μ.le μ3 ∧ Inv w μ3 L3 ∧ R v μ3 L3 := by
    intro w v μ' L' hn hm hi hR
    have hgo : μ'.mem g = some o := hm.mem g o (hg (g, o) (by simp))
    have hle : μ.le (μ'.del g) := by
      refine ⟨fun b x hb => ?_, hm.os, hm.out, hm.tape⟩
      have hne : b ≠ g := by rintro rfl; rw [hn] at hb; cases hb
      show (if b = g then none else μ'.mem b) = some x
      rw [if_neg hne]
      have h4 : (μ.add [(g, o)]).mem b = some x := by
        show (match [(g, o)].find? (fun c => c.1 == b) with | some c => some c.2 | none => μ.mem b) = some x
        rw [find_none (by intro c hc; simp only [List.mem_singleton] at hc; subst hc; exact fun e => hne e.symm)]
        exact hb
      exact hm.mem b x h4
    refine ⟨μ'.del g, [(g, o)] :: L', hle, ?_, hR _ rfl hle hgo⟩
    refine ⟨hi.os, hi.out, hi.tape, fun b x hb => ?_, fun c hc => ?_, fun c hc => ?_, ?_⟩
    · change (if b = g then none else μ'.mem b) = some x at hb
      split at hb
      · cases hb
      · exact hi.mem b x hb
    · simp only [List.flatten_cons, List.singleton_append, List.mem_cons] at hc
      rcases hc with rfl | hc
      · exact hi.mem g o hgo
      · exact hi.own c hc
    · show (if c.1 = g then none else μ'.mem c.1) = none
      split
      · rfl
      · simp only [List.flatten_cons, List.singleton_append, List.mem_cons] at hc
        rcases hc with rfl | hc
        · rename_i hne; exact absurd rfl hne
        · exact hi.sep c hc
    · simp only [List.flatten_cons, List.singleton_append, List.map_cons, List.nodup_cons]
      refine ⟨fun hm => ?_, hi.nd⟩
      obtain ⟨c, hc, he⟩ := List.mem_map.1 hm
      have := hi.sep c hc
      rw [he, hgo] at this; cases this
  refine .inl ⟨⟨fn, hf, hnm, hb⟩, fun w hw => ?_⟩
  obtain ⟨hle, hi1, hn⟩ := key w hw
  rcases h hg hle with ⟨_, h2⟩ | ⟨fn', _, hf', _, hb', _⟩
  · refine (h2 w hi1).mono fun _ w' ⟨v, μ', L', he, hm, hi, hR⟩ => ?_
    obtain ⟨μ3, L3, k1, k2, k3⟩ := fin w' v μ' L' hn hm hi hR
    exact ⟨v, μ3, L3, he, k1, k2, k3⟩
  · rw [hf] at hf'
    injection hf' with hf'
    subst hf'
    rw [hb] at hb'; cases hb'
theorem Lent.mk {μ1 μ' : Gh} {L' : List Seg} {v : Value} (hb : μ1.le μ') (h : ∀ μ2, μ.le μ2 → (μ2 = μ'.del g ∧ μ'.mem g = some o) → R v μ2 ([(g, o)] :: L')) : Lent μ g o R v μ' L' := fun μ2 h1 h2 h3 => h μ2 h2 ⟨h1, h3⟩

def intsV : List Value → List Int
  | [] => []
  | v :: r => match v with | .int _ n => n :: intsV r | _ => intsV r
theorem intsV_mem {k : IntKind} {n : Int} : ∀ {l : List Value}, Value.int k n ∈ l → n ∈ intsV l
  | v :: r, h => by
    rcases List.mem_cons.1 h with rfl | h
    · simp [intsV]
    · have := intsV_mem h
      unfold intsV
      split
      · exact List.mem_cons_of_mem _ this
      · exact this
def noSl : List Value → Bool
  | [] => true
  | v :: r => match v with | .slice _ _ _ => false | _ => noSl r
theorem noSl_mem {A : Option Addr} {n c : Nat} : ∀ {l : List Value}, noSl l = true → ¬ Value.slice A n c ∈ l
  | v :: r, h, hm => by
    unfold noSl at h
    split at h
    · cases h
    · rcases List.mem_cons.1 hm with rfl | hm
      · rename_i hne; exact hne _ _ _ rfl
      · exact noSl_mem h hm
variable {μ' : Gh} {A : Option Addr} {cs : Array Value} {e : TypeId} {f : Nat × Nat} {ns : List Int}
theorem Arr.del {sz : Nat} {css : List (List Value)} (h : Arr μ' A sz css) (hne : ∀ a, A = some a → css ≠ [] → a.block ≠ g) : Arr (μ'.del g) A sz css := by
  intro i c hi
  obtain ⟨h1, a, h2, h3⟩ := h i c hi
  have hb := hne a h2 (by rintro rfl; simp at hi)
  refine ⟨h1, a, h2, fun j v hj => ?_⟩
  obtain ⟨k1, cs1, e1, f1, k2, k3⟩ := h3 j v hj
  refine ⟨k1, cs1, e1, f1, ?_, k3⟩
  rw [Addr.block_add, Addr.block_add] at k2 ⊢
  rcases k2 with k2 | k2
  · refine .inl ?_
    show (if a.block = g then none else μ'.mem a.block) = _
    rw [if_neg hb]; exact k2
  · simp at k2
/-- A cell of the row tells it apart. -/
theorem Arr.apart {sz : Nat} {css : List (List Value)} (h : Arr μ' A sz css) (hg : μ'.mem g = some (.cells cs e f)) {i j : Nat} {c : List Value} {v : Value} (hi : css[i]? = some c) (hj : c[j]? = some v) (hv : v ∉ cs.toList) : ∀ a, A = some a → a.block ≠ g := by
  intro a ha hb
  obtain ⟨h1, a', h2, h3⟩ := h i c hi
  rw [ha] at h2; injection h2 with h2; subst h2
  obtain ⟨k1, cs1, e1, f1, k2, k3⟩ := h3 j v hj
  rw [Addr.block_add, Addr.block_add, hb] at k2
  rcases k2 with k2 | k2
  · rw [hg] at k2
    injection k2 with k2
    injection k2 with k2 _ _
    subst k2
    have := Array.mem_of_getElem? k3
    exact hv (by simpa using this)
  · simp at k2
theorem lentI {xs : List Int} (hd : μ2 = μ'.del g ∧ μ'.mem g = some (.cells cs e f)) (hc : intsV cs.toList = ns) (hs : sepI ns xs) (h : ArrR rInt μ' A xs) : ArrR rInt μ2 A xs := by
  obtain ⟨rfl, hg⟩ := hd
  obtain ⟨css, h1, h2⟩ := h
  refine ⟨css, h1.del fun a ha hne => ?_, h2.mono fun _ _ h => h⟩
  rcases hs with rfl | ⟨x, hx, hn⟩
  · exact absurd (List.eq_nil_of_length_eq_zero (by rw [← h2.1]; rfl)) hne
  · obtain ⟨i, hi⟩ := List.getElem?_of_mem hx
    obtain ⟨c, hc1, hc2⟩ := h2.get hi
    have hc2 : c = [.int .i64 x] := hc2
    subst hc2
    exact h1.apart hg hc1 (j := 0) rfl (fun hm => hn (by rw [← hc]; exact intsV_mem hm)) a ha
theorem lent_rep {t : T_api_Tour} {c : List Value} (hd : μ2 = μ'.del g ∧ μ'.mem g = some (.cells cs e f)) (hc : intsV cs.toList = ns) (hs : sepI ns t.Stops) (h : r_api_Tour.rep μ' t c) : r_api_Tour.rep μ2 t c := by
  obtain ⟨A1, c1, h1, h2, h3⟩ := h
  exact ⟨A1, c1, h1, h2, lentI hd hc hs h3⟩
theorem All2.monoM {α β : Type} {R R' : α → β → Prop} {xs : List α} {ys : List β} (h : All2 R xs ys) (hr : ∀ x ∈ xs, ∀ y, R x y → R' x y) : All2 R' xs ys := ⟨h.1, fun i x y h1 h2 => hr _ (List.mem_of_getElem? h1) _ (h.2 i x y h1 h2)⟩
theorem lentT {el : TypeId} {v : Value} {ts : List T_api_Tour} {ch : Seg} (hd : μ2 = μ'.del g ∧ μ'.mem g = some (.cells cs e f)) (hc : intsV cs.toList = ns) (hs : sepT ns ts) (h : Own r_api_Tour el μ' v ts ch) : Own r_api_Tour el μ2 v ts ch := by
  obtain ⟨css, h1, h2⟩ := h
  exact ⟨css, h1, h2.monoM fun t ht c h => lent_rep hd hc (hs t ht) h⟩
theorem lentA {ts : List T_api_Tour} (hd : μ2 = μ'.del g ∧ μ'.mem g = some (.cells cs e f)) (hn : noSl cs.toList = true) (hc : intsV cs.toList = ns) (hs : sepT ns ts) (h : ArrR r_api_Tour μ' A ts) : ArrR r_api_Tour μ2 A ts := by
  have hd' := hd
  obtain ⟨rfl, hg⟩ := hd
  obtain ⟨css, h1, h2⟩ := h
  refine ⟨css, h1.del fun a ha hne => ?_, h2.monoM fun t ht c h => lent_rep hd' hc (hs t ht) h⟩
  cases css with
  | nil => exact absurd rfl hne
  | cons c r =>
    obtain ⟨t, ht⟩ := h2.get' (y := c) (by simp)
    obtain ⟨A1, c1, rfl, _⟩ := ht
    exact h1.apart hg (i := 0) rfl (j := 1) rfl (noSl_mem hn) a ha
theorem Own.lent {α : Type} {r : Rp α} {el : TypeId} {n c : Nat} {xs : List α} {ch : Seg} (h : Own r el μ (.slice A n c) xs ch) (hm : μ.le μ2) (hg : ∀ c ∈ ch, μ2.mem c.1 = some c.2) : ArrR r μ2 A xs := by
  obtain ⟨css, h1, h2⟩ := h
  exact ⟨css, h1.arr hg, h2.mono fun _ _ h => r.mono hm h⟩
end
end Go.Proofs.Ytfekfbcghnlohaa
