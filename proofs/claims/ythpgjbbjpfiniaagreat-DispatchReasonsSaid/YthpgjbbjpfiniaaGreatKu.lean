/- From a function's contract to its row: the row says 'true, and every argument reads as it read'. -/
import Derived.Test.YthpgjbbjpfiniaaGreatKt
import Derived.ProofKit
import Derived.Below
import Derived.ChangeSame
import Derived.Carry
import Derived.WideKeyArgs
namespace Go.Proofs.YthpgjbbjpfiniaaGreat
open Go.RowKit Go.ChangeShapes Go.WideShapes
set_option linter.unusedSimpArgs false
set_option linter.unusedVariables false
def ghOf (W : World) : Gh := ⟨fun b => W.heap[b]?, W.os, W.output, W.tape⟩
theorem inv_ghOf (W : World) : Inv W (ghOf W) [] := ⟨rfl, rfl, rfl, fun _ _ h => h, by simp, by simp, by simp⟩
theorem below_of {W W' : World} {μ : Gh} {L : List Seg} (hm : (ghOf W).le μ) (h : Inv W' μ L) : Below W.heap.size W W' := by
  have hb : ∀ k, k < W.heap.size → W'.heap[k]? = W.heap[k]? := fun k hk => by
    have h1 : W.heap[k]? = some W.heap[k] := by simp [hk]
    rw [h1]
    exact h.mem k _ (hm.mem k _ h1)
  refine ⟨h.os.trans hm.os, h.tape.trans hm.tape, h.out.trans hm.out, ?_, hb⟩
  rcases Nat.eq_zero_or_pos W.heap.size with h0 | h0
  · omega
  · have h1 := hb (W.heap.size - 1) (by omega)
    have h2 : W.heap[W.heap.size - 1]? = some (W.heap[W.heap.size - 1]'(by omega)) := by simp
    rw [h2] at h1
    have := lt_of_some h1
    omega
theorem calls_of_fn {P : Program} {f : FuncId} {fn : Func} (hf : P.funcs[f]? = some fn) (hb : fn.body.isNone = false) {args : List Value} {W : World} {v : Value} (h : Fn P f args (ghOf W) [] fun u _ _ => u = v) :
    Calls P f args.toArray W fun e W' => e = .returned v ∧ Below W.heap.size W W' := by
  rcases h with ⟨_, h⟩ | ⟨fn', _, hf', _, hb', _⟩
  · refine (h W (inv_ghOf W)).mono ?_
    rintro e W' ⟨u, μ', L', rfl, hm, hi, rfl⟩
    exact ⟨rfl, below_of hm hi⟩
  · rw [hf] at hf'
    injection hf' with hf'
    subst hf'
    rw [hb] at hb'; cases hb'
section
variable {H : Type} {enc : TypeId × Value → H} {P : Program}
theorem trodAll_stays (hl : laidOutB P = true) {W W' : World} (hb : Below W.heap.size W W') {sp : Nat → Bool} : ∀ {ts : List TypeId} {vs : List Value} {ds : List (DataW H)} {ps : List MemPlace},
    (∀ t ∈ ts, P.readableRec t = true ∧ t < P.types.size) → (∀ p ∈ ps, p.block < W.heap.size) → (∀ p ∈ ps, sp p.block = true) →
    DataW.TrodAll enc P W 0 (fun _ => true) true ts vs ds ps → DataW.TrodAll enc P W' 0 sp true ts vs ds ps
  | [], vs, ds, ps, _, _, _, h => by
    obtain ⟨rfl, rfl, rfl⟩ := trodAll_nil h
    rfl
  | t :: ts, vs, ds, ps, hr, hlt, hs, h => by
    obtain ⟨v, vs', d, ds', p, q, rfl, rfl, rfl, hd, hrest⟩ := trodAll_cons h
    refine ⟨p, q, WideElems.Trod_stays hl (hr t (by simp)).1 (hr t (by simp)).2 hd (fun x hx => hb.same (hlt x (by simp [hx]))) (fun x hx => hs x (by simp [hx])), ?_, rfl⟩
    exact trodAll_stays hl hb (fun u hu => hr u (by simp [hu])) (fun x hx => hlt x (by simp [hx])) (fun x hx => hs x (by simp [hx])) hrest
theorem post_true {f : Func} {s : ChangeSpec} {apart fresh handsOn again : Bool} {W W' : World} {args : Array Value} {ds : List (DataW H)} {before : List MemPlace} {tb : TypeId}
    (hW : DataW.Whole enc P f.params.toList s.vars apart W args.toList ds [] before) (hv : s.vars = []) (hres : f.resultTypes = #[tb]) (htb : P.underlying tb = some .bool)
    (hfr : (s.fn H ds).results = [.lit (.bool true)]) (hfa : (s.fn H ds).args = ds) (hfv : (s.fn H ds).vars = []) (hl : laidOutB P = true) (hr : ∀ t ∈ f.params.toList, P.readableRec t = true ∧ t < P.types.size) (hb : Below W.heap.size W W') :
    s.post enc P f apart fresh handsOn again W args (.bool true) W' := by
  have hlt : ∀ p ∈ before, p.block < W.heap.size := fun p hp => hW.lt p hp
  have hW' := hW
  obtain ⟨p, q, hA, hV, hpq, hz, hn⟩ := hW'
  rw [hv] at hV
  obtain ⟨_, rfl⟩ := trodVars_none hV
  rw [List.append_nil] at hpq
  subst hpq
  have hresl : ((Value.bool true).resultList f.resultTypes.size) = [.bool true] := by rw [hres]; rfl
  have hargs : ∀ sp : Nat → Bool, (∀ x ∈ before, sp x.block = true) → DataW.TrodAll enc P W' 0 sp true f.params.toList args.toList ds before := fun sp hs => trodAll_stays hl hb hr hlt hs hA
  have hres2 : ∀ (b : Nat) (sp : Nat → Bool) (hd : Bool), DataW.TrodAll enc P W' b sp hd f.resultTypes.toList [.bool true] [.lit (.bool true)] [] := fun b sp hd => by
    rw [hres]; exact trodAll_mk1 (shut_bool htb true)
  have hold : ∀ p ∈ before, (fun b => decide (b < W.heap.size)) p.block = true := fun p hp => by simpa using hlt p hp
  have hvars : ∀ sp : Nat → Bool, DataW.TrodVars enc P W' sp s.vars [] [] := fun sp => by rw [hv]; rfl
  refine ⟨ds, [], before, [], before, [], hW, ?_, ?_, ?_, World.keptBut_mono (fun p hp => ⟨hp, by simpa using hp⟩) (hb.frame (· ∈ before)), fun _ => ?_⟩
  · rw [hresl, List.append_nil, hfr]; exact hres2 _ _ _
  · rw [List.append_nil, hfa]; exact hargs _ hold
  · rw [List.append_nil, hfv]; exact hvars _
  · have A1 := hargs (fun _ => true) (fun _ _ => rfl)
    have R1 := hres2 0 (fun _ => true) true
    refine ⟨ok_one hres rfl (okWide_bool_mk htb true), ?_⟩
    rw [hresl]
    refine ⟨_, _, ([] ++ before) ++ [], ⟨[] ++ before, [], trodAll_append A1 R1, hvars _, rfl, ?_, ?_⟩, ?_⟩
    · intro b off hp
      have hin : MemPlace.cell b off ∈ before := by simpa using hp
      rw [hb.frozen (hlt _ hin)]
      exact hz b off hin
    · intro ha
      have := hn ha
      simpa using this
    · intro p hp _
      simpa using hp
end
end Go.Proofs.YthpgjbbjpfiniaaGreat
