/- LedgerNil: for every input the given law returns true, and its arguments read as before. No condition. -/
import Derived.Test.YtpghcnpheabbgaaRows
import Derived.Test.YtpghcnpheabbgaaTaw2
import Derived.Test.YtpghcnpheabbgaaLa
import Derived.Test.YtpghcnpheabbgaaGo
namespace Go.Proofs.Ytpghcnpheabbgaa
open Go.ChangeShapes Go.WideShapes Go.ChangeAt Go.RowKit
set_option linter.unusedSimpArgs false
set_option linter.unusedVariables false

theorem own_ : ownKnob Try.prog.godebug = none := by kernel_rfl
theorem laidOut_ : laidOutB Try.prog = true := by kernel_rfl

theorem opn_api_Line {W : World} : Opn Try.prog W 49 r_api_Line wf_api_Line := by
  intro H enc spare held fuel cs x h
  obtain ⟨xs, n, _, _, hlen, hxl, hf⟩ := DataW.trod_struct Try.underlying49 h
  rw [show Try.prog.cellsOf 49 = 2 by kernel_rfl] at hlen
  have g0 : DataW.trod enc Try.prog W 0 spare held n 3 ((cs.drop 0).take (Try.prog.cellsOf 3)) = xs[0]? := hf 0 _ rfl
  rw [show Try.prog.cellsOf 3 = 1 by kernel_rfl, List.getElem?_eq_getElem (by rw [hxl]; decide)] at g0
  obtain ⟨d0, h0, q0⟩ := (opn_int Try.underlying3) H enc spare held n _ _ g0
  have g1 : DataW.trod enc Try.prog W 0 spare held n 3 ((cs.drop 1).take (Try.prog.cellsOf 3)) = xs[1]? := hf 1 _ rfl
  rw [show Try.prog.cellsOf 3 = 1 by kernel_rfl, List.getElem?_eq_getElem (by rw [hxl]; decide)] at g1
  obtain ⟨d1, h1, q1⟩ := (opn_int Try.underlying3) H enc spare held n _ _ g1
  have e0 : cs.drop 0 = (cs.drop 0).take 1 ++ cs.drop 1 := splitF rfl
  have e1 : cs.drop 1 = (cs.drop 1).take 1 ++ cs.drop 2 := splitF rfl
  have en : cs.drop 2 = [] := List.drop_of_length_le (by omega)
  have hcs : cs.drop 0 = _ := e0
  rw [e1, en, show (cs.drop 0).take 1 = _ from h0, show (cs.drop 1).take 1 = _ from h1] at hcs
  exact ⟨⟨d0, d1⟩, hcs, q0, q1⟩

theorem opn_api_Posting {W : World} : Opn Try.prog W 24 r_api_Posting wf_api_Posting := by
  intro H enc spare held fuel cs x h
  obtain ⟨xs, n, _, _, hlen, hxl, hf⟩ := DataW.trod_struct Try.underlying24 h
  rw [show Try.prog.cellsOf 24 = 3 by kernel_rfl] at hlen
  have g0 : DataW.trod enc Try.prog W 0 spare held n 3 ((cs.drop 0).take (Try.prog.cellsOf 3)) = xs[0]? := hf 0 _ rfl
  rw [show Try.prog.cellsOf 3 = 1 by kernel_rfl, List.getElem?_eq_getElem (by rw [hxl]; decide)] at g0
  obtain ⟨d0, h0, q0⟩ := (opn_int Try.underlying3) H enc spare held n _ _ g0
  have g1 : DataW.trod enc Try.prog W 0 spare held n 3 ((cs.drop 1).take (Try.prog.cellsOf 3)) = xs[1]? := hf 1 _ rfl
  rw [show Try.prog.cellsOf 3 = 1 by kernel_rfl, List.getElem?_eq_getElem (by rw [hxl]; decide)] at g1
  obtain ⟨d1, h1, q1⟩ := (opn_int Try.underlying3) H enc spare held n _ _ g1
  have g2 : DataW.trod enc Try.prog W 0 spare held n 22 ((cs.drop 2).take (Try.prog.cellsOf 22)) = xs[2]? := hf 2 _ rfl
  rw [show Try.prog.cellsOf 22 = 1 by kernel_rfl, List.getElem?_eq_getElem (by rw [hxl]; decide)] at g2
  obtain ⟨d2, h2, q2⟩ := (opn_slice Try.underlying22 (by kernel_rfl) opn_api_Line) H enc spare held n _ _ g2
  have e0 : cs.drop 0 = (cs.drop 0).take 1 ++ cs.drop 1 := splitF rfl
  have e1 : cs.drop 1 = (cs.drop 1).take 1 ++ cs.drop 2 := splitF rfl
  have e2 : cs.drop 2 = (cs.drop 2).take 1 ++ cs.drop 3 := splitF rfl
  have en : cs.drop 3 = [] := List.drop_of_length_le (by omega)
  obtain ⟨A0, c0, h2, hl0, hm0, ha0⟩ := h2
  have hcs : cs.drop 0 = _ := e0
  rw [e1, e2, en, show (cs.drop 0).take 1 = _ from h0, show (cs.drop 1).take 1 = _ from h1, show (cs.drop 2).take 1 = _ from h2] at hcs
  exact ⟨⟨d0, d1, d2⟩, ⟨A0, c0, hcs, ⟨hl0, hm0⟩, ha0⟩, q0, q1, q2⟩

set_option maxRecDepth 100000 in
theorem ledgerNil_lifted (os : Os) (started : os.Started) (H : Type) (enc : TypeId × Value → H) :
    ReturnsInHanded {} Try.checked os 10 .any (Rows.ledgerNilSpec.pre6 enc Try.prog Try.f10 Rows.ledgerNilRow.domain false) (Rows.ledgerNilSpec.post enc Try.prog Try.f10 false true false false) := by
  refine returnsInHanded_of_change (C := Try.checked) own_ started (by kernel_rfl) Try.func10
    (ChangeSpec.witness6 (enc := enc) (C := Try.checked) false ⟨#[], #[((Go.Value.agg #[(Go.Value.int Go.IntKind.i64 0), (Go.Value.int Go.IntKind.i64 0), (Go.Value.slice none 0 0)])), (.int .i64 0), (.int .i64 0)], []⟩ 8 (by kernel_rfl) (by kernel_rfl) (by kernel_rfl) (by kernel_rfl)) ?_
  intro W base args ds gs before hval0 hW hcnd _
  have hval : ∀ (j : Nat) t v, Try.f10.params[j]? = some t → args[j]? = some v → Value.okWide Try.prog W .any base t v := hval0
  have hW' := hW
  obtain ⟨p, q, hA0, hV, rfl, hfz, hnd⟩ := hW
  have hA : DataW.TrodAll enc Try.prog W 0 (fun _ => true) true Try.f10.params.toList args.toList ds p := hA0
  rw [Try.params10] at hA hval
  obtain ⟨rfl, rfl⟩ := trodVars_none hV
  clear hA0 hval0
  obtain ⟨v0, v1, v2, d0, d1, d2, p0, p1, p2, rfl, rfl, rfl, a0, a1, a2⟩ := trodAll_three hA
  obtain ⟨cs0, rfl, _⟩ := okWide_struct Try.underlying24 (hval 0 24 v0 rfl rfl)
  obtain ⟨fu0, ht0⟩ := a0
  obtain ⟨x0, hr0, q0⟩ := opn_api_Posting (W := W) H enc _ _ fu0 _ _ ht0
  obtain ⟨A0_0, c0_0, hcs0, hl0_0, ha0_0⟩ := hr0
  obtain rfl := toList_eq hcs0
  obtain ⟨x1, rfl, _, _, q1⟩ := open_int (P := Try.prog) Try.underlying3 (hval 1 3 v1 rfl rfl) a1
  obtain ⟨x2, rfl, _, _, q2⟩ := open_int (P := Try.prog) Try.underlying3 (hval 2 3 v2 rfl rfl) a2
  have hF := recyclinglaw48_LedgerNil_true x0 x1 x2 q0 q1 q2
  refine (calls_of_fn (v := .bool true) Try.func10 rfl (args := [_, _, _]) (recyclinglaw48_LedgerNil_fn hl0_0 ha0_0 hF (fun _ _ => rfl))).mono fun e W' ⟨he, hw⟩ => ?_
  exact ⟨_, he, post_true (tb := 4) hW' rfl rfl Try.underlying4 rfl rfl rfl laidOut_ (by decide +kernel) hw⟩

theorem ledgerNil_holds : Rows.LedgerNilSaid :=
  OpenClaim.holds_of_wide 10 Try.f10 rfl rfl rfl rfl rfl rfl rfl ⟨rfl, rfl, rfl, rfl, rfl⟩ rfl rfl rfl rfl rfl (by kernel_rfl) Try.func10 (by kernel_rfl)
    (of_decide_eq_true (by kernel_rfl)) (by unfold Func.isWrapper; first | (rw [if_pos (by decide +kernel)]; kernel_rfl) | (rw [if_neg (by decide +kernel)]; exact ⟨rfl, rfl⟩))
    (fun os started H enc _ => ledgerNil_lifted os started H enc)

end Go.Proofs.Ytpghcnpheabbgaa
