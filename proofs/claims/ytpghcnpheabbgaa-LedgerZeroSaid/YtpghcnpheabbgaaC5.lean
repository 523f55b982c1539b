/- LedgerZero: for every input the given law returns true, and its arguments read as before. No condition. -/
import Derived.Test.YtpghcnpheabbgaaRows
import Derived.Test.YtpghcnpheabbgaaTaw2
import Derived.Test.YtpghcnpheabbgaaLd
import Derived.Test.YtpghcnpheabbgaaGo
namespace Go.Proofs.Ytpghcnpheabbgaa
open Go.ChangeShapes Go.WideShapes Go.ChangeAt Go.RowKit
set_option linter.unusedSimpArgs false
set_option linter.unusedVariables false

theorem own_ : ownKnob Try.prog.godebug = none := by kernel_rfl
theorem laidOut_ : laidOutB Try.prog = true := by kernel_rfl

theorem opn_api_Line {W : World} : Opn Try.prog W 49 r_api_Line wf_api_Line := by
  intro H enc spare held fuel cs x h
  obtain ⟨xs, n, _, _, hlen, hxl, hf⟩ := DataW.trod_struct Try.underlying49 h
  rw [show Try.prog.cellsOf 49 = 2 by kernel_rfl] at hlen
  have g0 : DataW.trod enc Try.prog W 0 spare held n 3 ((cs.drop 0).take (Try.prog.cellsOf 3)) = xs[0]? := hf 0 _ rfl
  rw [show Try.prog.cellsOf 3 = 1 by kernel_rfl, List.getElem?_eq_getElem (by rw [hxl]; decide)] at g0
  obtain ⟨d0, h0, q0⟩ := (opn_int Try.underlying3) H enc spare held n _ _ g0
  have g1 : DataW.trod enc Try.prog W 0 spare held n 3 ((cs.drop 1).take (Try.prog.cellsOf 3)) = xs[1]? := hf 1 _ rfl
  rw [show Try.prog.cellsOf 3 = 1 by kernel_rfl, List.getElem?_eq_getElem (by rw [hxl]; decide)] at g1
  obtain ⟨d1, h1, q1⟩ := (opn_int Try.underlying3) H enc spare held n _ _ g1
  have e0 : cs.drop 0 = (cs.drop 0).take 1 ++ cs.drop 1 := splitF rfl
  have e1 : cs.drop 1 = (cs.drop 1).take 1 ++ cs.drop 2 := splitF rfl
  have en : cs.drop 2 = [] := List.drop_of_length_le (by omega)
  have hcs : cs.drop 0 = _ := e0
  rw [e1, en, show (cs.drop 0).take 1 = _ from h0, show (cs.drop 1).take 1 = _ from h1] at hcs
  exact ⟨⟨d0, d1⟩, hcs, q0, q1⟩

theorem opn_api_Posting {W : World} : Opn Try.prog W 24 r_api_Posting wf_api_Posting := by
  intro H enc spare held fuel cs x h
  obtain ⟨xs, n, _, _, hlen, hxl, hf⟩ := DataW.trod_struct Try.underlying24 h
  rw [show Try.prog.cellsOf 24 = 3 by kernel_rfl] at hlen
  have g0 : DataW.trod enc Try.prog W 0 spare held n 3 ((cs.drop 0).take (Try.prog.cellsOf 3)) = xs[0]? := hf 0 _ rfl
  rw [show Try.prog.cellsOf 3 = 1 by kernel_rfl, List.getElem?_eq_getElem (by rw [hxl]; decide)] at g0
  obtain ⟨d0, h0, q0⟩ := (opn_int Try.underlying3) H enc spare held n _ _ g0
  have g1 : DataW.trod enc Try.prog W 0 spare held n 3 ((cs.drop 1).take (Try.prog.cellsOf 3)) = xs[1]? := hf 1 _ rfl
  rw [show Try.prog.cellsOf 3 = 1 by kernel_rfl, List.getElem?_eq_getElem (by rw [hxl]; decide)] at g1
  obtain ⟨d1, h1, q1⟩ := (opn_int Try.underlying3) H enc spare held n _ _ g1
  have g2 : DataW.trod enc Try.prog W 0 spare held n 22 ((cs.drop 2).take (Try.prog.cellsOf 22)) = xs[2]? := hf 2 _ rfl
  rw [show Try.prog.cellsOf 22 = 1 by kernel_rfl, List.getElem?_eq_getElem (by rw [hxl]; decide)] at g2
  obtain ⟨d2, h2, q2⟩ := (opn_slice Try.underlying22 (by kernel_rfl) opn_api_Line) H enc spare held n _ _ g2
  have e0 : cs.drop 0 = (cs.drop 0).take 1 ++ cs.drop 1 := splitF rfl
  have e1 : cs.drop 1 = (cs.drop 1).take 1 ++ cs.drop 2 := splitF rfl
  have e2 : cs.drop 2 = (cs.drop 2).take 1 ++ cs.drop 3 := splitF rfl
  have en : cs.drop 3 = [] := List.drop_of_length_le (by omega)
  obtain ⟨A0, c0, h2, hl0, hm0, ha0⟩ := h2
  have hcs : cs.drop 0 = _ := e0
  rw [e1, e2, en, show (cs.drop 0).take 1 = _ from h0, show (cs.drop 1).take 1 = _ from h1, show (cs.drop 2).take 1 = _ from h2] at hcs
  exact ⟨⟨d0, d1, d2⟩, ⟨A0, c0, hcs, ⟨hl0, hm0⟩, ha0⟩, q0, q1, q2⟩

set_option maxRecDepth 100000 in
theorem ledgerZero_lifted (os : Os) (started : os.Started) (H : Type) (enc : TypeId × Value → H) :
    ReturnsInHanded {} Try.checked os 6 .any (Rows.ledgerZeroSpec.pre6 enc Try.prog Try.f6 Rows.ledgerZeroRow.domain false) (Rows.ledgerZeroSpec.post enc Try.prog Try.f6 false true false false) := by
  refine returnsInHanded_of_change (C := Try.checked) own_ started (by kernel_rfl) Try.func6
    (ChangeSpec.witness6 (enc := enc) (C := Try.checked) false ⟨#[], #[(.slice none 0 0), (.int .i64 0)], []⟩ 8 (by kernel_rfl) (by kernel_rfl) (by kernel_rfl) (by kernel_rfl)) ?_
  intro W base args ds gs before hval0 hW hcnd _
  have hval : ∀ (j : Nat) t v, Try.f6.params[j]? = some t → args[j]? = some v → Value.okWide Try.prog W .any base t v := hval0
  have hW' := hW
  obtain ⟨p, q, hA0, hV, rfl, hfz, hnd⟩ := hW
  have hA : DataW.TrodAll enc Try.prog W 0 (fun _ => true) true Try.f6.params.toList args.toList ds p := hA0
  rw [Try.params6] at hA hval
  obtain ⟨rfl, rfl⟩ := trodVars_none hV
  clear hA0 hval0
  obtain ⟨v0, v1, d0, d1, p0, p1, rfl, rfl, rfl, a0, a1⟩ := trodAll_two hA
  obtain ⟨A0, n0, c0, rfl⟩ := okWide_slice Try.underlying29 (hval 0 29 v0 rfl rfl)
  obtain ⟨fu0, ht0⟩ := a0
  obtain ⟨x0, ⟨B0, b0, hcs0, hl0, hm0, ha0⟩, q0⟩ := (opn_slice (W := W) Try.underlying29 (by kernel_rfl) opn_api_Posting) H enc _ _ fu0 _ _ ht0
  have e0 : Value.slice A0 n0 c0 = .slice B0 x0.length b0 := by simpa [Value.cells] using hcs0
  injection e0 with e0a e0b e0c
  subst e0a e0b e0c
  obtain ⟨x1, rfl, _, _, q1⟩ := open_int (P := Try.prog) Try.underlying3 (hval 1 3 v1 rfl rfl) a1
  have hF := recyclinglaw48_LedgerZero_true x0 x1 q0 q1
  refine (calls_of_fn (v := .bool true) Try.func6 rfl (args := [_, _]) (recyclinglaw48_LedgerZero_fn ⟨hl0, hm0⟩ (ha0.rds _) hF (fun _ _ => rfl))).mono fun e W' ⟨he, hw⟩ => ?_
  exact ⟨_, he, post_true (tb := 4) hW' rfl rfl Try.underlying4 rfl rfl rfl laidOut_ (by decide +kernel) hw⟩

theorem ledgerZero_holds : Rows.LedgerZeroSaid :=
  OpenClaim.holds_of_wide 6 Try.f6 rfl rfl rfl rfl rfl rfl rfl ⟨rfl, rfl, rfl, rfl, rfl⟩ rfl rfl rfl rfl rfl (by kernel_rfl) Try.func6 (by kernel_rfl)
    (of_decide_eq_true (by kernel_rfl)) (by unfold Func.isWrapper; first | (rw [if_pos (by decide +kernel)]; kernel_rfl) | (rw [if_neg (by decide +kernel)]; exact ⟨rfl, rfl⟩))
    (fun os started H enc _ => ledgerZero_lifted os started H enc)

end Go.Proofs.Ytpghcnpheabbgaa
