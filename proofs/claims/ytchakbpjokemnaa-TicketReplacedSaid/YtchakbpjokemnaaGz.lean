/- A map of integers as the kit reads it; its values sorted. -/
import Derived.Test.YtchakbpjokemnaaGy
import Derived.Test.YtchakbpjokemnaaGs
namespace Go.Proofs.Ytchakbpjokemnaa
open Go.RowKit Go.Maps Go.Sort Go.Shelf
set_option linter.unusedSimpArgs false
set_option linter.unusedVariables false

theorem vals_gives {H : Type} (F : Fence) (n : Nat) (h10 : F.fn 50) (hro : F.round = none) (hn : 1 ≤ n) (Bm b nn : Nat) (D0 : DataW H) (w : World) (hBm : Bm < w.heap.size)
    (hm : w.cell? ⟨Bm, 0, none⟩ = some (.map (some b))) (hown : w.ownsMap Try.prog 3 (plainElem Try.prog 3) b nn D0) :
    SeqGives F n Try.prog 50 #[.pointer (some ⟨Bm, 0, none⟩)] encZ (fun ss => ∃ ps, AllOfI D0 ps ∧ ss = ps.map (·.2)) (Maps.size D0) w := fun l J W hW hJ hY h0 => by
  have hown' : W.ownsMap Try.prog 3 (plainElem Try.prog 3) b nn D0 := by
    have hbl := hown.lt
    obtain ⟨es, clock, hb, Ft, hs, hD⟩ := hown
    exact ⟨es, clock, (hW.block b hbl).trans hb, Ft, hs, hD⟩
  refine (vals1N F n h10 hro hn l Bm b nn D0 J hY W hJ ((hW.cell (p := ⟨Bm, 0, none⟩) hBm).trans hm) hown' h0).mono ?_
  rintro e W' ⟨h1, ps, h2, h3⟩
  exact ⟨h1, _, ⟨ps, h2, rfl⟩, h3⟩

section
variable {es : Array MapEntry} {cn : Nat} {m : List (Int × Int)}
theorem ent_of (hm : MapB (Value.int .i64) es cn m) : es.toList.map (fun e => (e.key, e.val)) = m.map fun p => (Value.int .i64 p.1, Value.int .i64 p.2) := by
  have := hm.ps
  rw [List.map_map] at this
  exact this
theorem ent_mem (hm : MapB (Value.int .i64) es cn m) {e : MapEntry} (he : e ∈ es.toList) : ∃ p ∈ m, e.key = .int .i64 p.1 ∧ e.val = .int .i64 p.2 := by
  have h1 : (e.key, e.val) ∈ es.toList.map (fun e => (e.key, e.val)) := List.mem_map.2 ⟨e, he, rfl⟩
  rw [ent_of hm] at h1
  obtain ⟨p, hp, h2⟩ := List.mem_map.1 h1
  injection h2 with h2 h3
  exact ⟨p, hp, h2.symm, h3.symm⟩
theorem mem_ent (hm : MapB (Value.int .i64) es cn m) {p : Int × Int} (hp : p ∈ m) : ∃ e ∈ es.toList, e.key = .int .i64 p.1 ∧ e.val = .int .i64 p.2 := by
  have h1 : (Value.int .i64 p.1, Value.int .i64 p.2) ∈ m.map fun p => (Value.int .i64 p.1, Value.int .i64 p.2) := List.mem_map.2 ⟨p, hp, rfl⟩
  rw [← ent_of hm] at h1
  obtain ⟨e, he, h2⟩ := List.mem_map.1 h1
  injection h2 with h2 h3
  exact ⟨e, he, h2, h3⟩
theorem keyOf_i {n : Int} (hw : wfI .i64 n) : keyOf Try.prog 3 (.int .i64 n) = some (.int .i64 n) := by
  have : (Lit.int .i64 n).wf = true := hw
  simp [keyOf, mapKey, Try.underlying3, this]
theorem rd_i {H : Type} {e : MapEntry} {p : Int × Int} (hk : e.key = .int .i64 p.1) (hv : e.val = .int .i64 p.2) (h1 : wfI .i64 p.1) (h2 : wfI .i64 p.2) :
    WideElems.rd Try.prog 3 (plainElem (H := H) Try.prog 3) e = some (.int .i64 p.1, .lit (.int .i64 p.2)) := by
  obtain ⟨k, v, b⟩ := e
  simp only at hk hv
  subst hk hv
  have := plainElem_int (H := H) Try.underlying3 (a := p.2) h2
  exact WideElems.rd_mk (keyOf_i h1) this
theorem fit_i {H : Type} (hm : MapB (Value.int .i64) es cn m) (hw : wfM m) : WideElems.Fit Try.prog 3 (plainElem (H := H) Try.prog 3) es cn := by
  refine ⟨?_, (MapKept.stamped_iff es cn).2 ⟨hm.lt, hm.born, ?_⟩, fun e he => ?_⟩
  · have h1 := MapB.size hm; have h2 := hw.1
    unfold maxLen; omega
  · have h1 : (es.toList.map (·.key)) = m.map fun p => Value.int .i64 p.1 := by
      have := congrArg (List.map Prod.fst) (ent_of hm)
      simpa [List.map_map, Function.comp_def] using this
    have h2 : (es.toList.map (·.key)).Nodup := by
      rw [h1]
      have h3 : (m.map (·.1)).Nodup := by
        have := hm.nd
        simpa [List.map_map, Function.comp_def] using this
      have h4 : (m.map fun p => Value.int .i64 p.1) = (m.map (·.1)).map (Value.int .i64) := by simp [List.map_map, Function.comp_def]
      rw [h4]
      exact List.pairwise_map.2 (h3.imp fun hne e => hne (by injection e))
    exact List.pairwise_map.1 h2
  · obtain ⟨p, hp, hk, hv⟩ := ent_mem hm he
    exact ⟨_, rd_i hk hv (hw.2 p hp).1 (hw.2 p hp).2⟩
end

end Go.Proofs.Ytchakbpjokemnaa
