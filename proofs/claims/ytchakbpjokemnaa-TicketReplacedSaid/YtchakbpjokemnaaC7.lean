/- TicketReplaced: for every input the given law returns true, and its arguments read as before. No condition. -/
import Derived.Test.YtchakbpjokemnaaRows
import Derived.Test.YtchakbpjokemnaaTaw4
import Derived.Test.YtchakbpjokemnaaTm
import Derived.Test.YtchakbpjokemnaaGo
namespace Go.Proofs.Ytchakbpjokemnaa
open Go.ChangeShapes Go.WideShapes Go.ChangeAt Go.RowKit
set_option linter.unusedSimpArgs false
set_option linter.unusedVariables false

theorem own_ : ownKnob Try.prog.godebug = none := by kernel_rfl
theorem laidOut_ : laidOutB Try.prog = true := by kernel_rfl

theorem opn_api_Scale {W : World} : Opn Try.prog W 52 r_api_Scale wf_api_Scale := by
  intro H enc spare held fuel cs x h
  obtain ⟨xs, n, _, _, hlen, hxl, hf⟩ := DataW.trod_struct Try.underlying52 h
  rw [show Try.prog.cellsOf 52 = 6 by kernel_rfl] at hlen
  have g0 : DataW.trod enc Try.prog W 0 spare held n 3 ((cs.drop 0).take (Try.prog.cellsOf 3)) = xs[0]? := hf 0 _ rfl
  rw [show Try.prog.cellsOf 3 = 1 by kernel_rfl, List.getElem?_eq_getElem (by rw [hxl]; decide)] at g0
  obtain ⟨d0, h0, q0⟩ := (opn_int Try.underlying3) H enc spare held n _ _ g0
  have g1 : DataW.trod enc Try.prog W 0 spare held n 3 ((cs.drop 1).take (Try.prog.cellsOf 3)) = xs[1]? := hf 1 _ rfl
  rw [show Try.prog.cellsOf 3 = 1 by kernel_rfl, List.getElem?_eq_getElem (by rw [hxl]; decide)] at g1
  obtain ⟨d1, h1, q1⟩ := (opn_int Try.underlying3) H enc spare held n _ _ g1
  have g2 : DataW.trod enc Try.prog W 0 spare held n 3 ((cs.drop 2).take (Try.prog.cellsOf 3)) = xs[2]? := hf 2 _ rfl
  rw [show Try.prog.cellsOf 3 = 1 by kernel_rfl, List.getElem?_eq_getElem (by rw [hxl]; decide)] at g2
  obtain ⟨d2, h2, q2⟩ := (opn_int Try.underlying3) H enc spare held n _ _ g2
  have g3 : DataW.trod enc Try.prog W 0 spare held n 3 ((cs.drop 3).take (Try.prog.cellsOf 3)) = xs[3]? := hf 3 _ rfl
  rw [show Try.prog.cellsOf 3 = 1 by kernel_rfl, List.getElem?_eq_getElem (by rw [hxl]; decide)] at g3
  obtain ⟨d3, h3, q3⟩ := (opn_int Try.underlying3) H enc spare held n _ _ g3
  have g4 : DataW.trod enc Try.prog W 0 spare held n 3 ((cs.drop 4).take (Try.prog.cellsOf 3)) = xs[4]? := hf 4 _ rfl
  rw [show Try.prog.cellsOf 3 = 1 by kernel_rfl, List.getElem?_eq_getElem (by rw [hxl]; decide)] at g4
  obtain ⟨d4, h4, q4⟩ := (opn_int Try.underlying3) H enc spare held n _ _ g4
  have g5 : DataW.trod enc Try.prog W 0 spare held n 3 ((cs.drop 5).take (Try.prog.cellsOf 3)) = xs[5]? := hf 5 _ rfl
  rw [show Try.prog.cellsOf 3 = 1 by kernel_rfl, List.getElem?_eq_getElem (by rw [hxl]; decide)] at g5
  obtain ⟨d5, h5, q5⟩ := (opn_int Try.underlying3) H enc spare held n _ _ g5
  have e0 : cs.drop 0 = (cs.drop 0).take 1 ++ cs.drop 1 := splitF rfl
  have e1 : cs.drop 1 = (cs.drop 1).take 1 ++ cs.drop 2 := splitF rfl
  have e2 : cs.drop 2 = (cs.drop 2).take 1 ++ cs.drop 3 := splitF rfl
  have e3 : cs.drop 3 = (cs.drop 3).take 1 ++ cs.drop 4 := splitF rfl
  have e4 : cs.drop 4 = (cs.drop 4).take 1 ++ cs.drop 5 := splitF rfl
  have e5 : cs.drop 5 = (cs.drop 5).take 1 ++ cs.drop 6 := splitF rfl
  have en : cs.drop 6 = [] := List.drop_of_length_le (by omega)
  have hcs : cs.drop 0 = _ := e0
  rw [e1, e2, e3, e4, e5, en, show (cs.drop 0).take 1 = _ from h0, show (cs.drop 1).take 1 = _ from h1, show (cs.drop 2).take 1 = _ from h2, show (cs.drop 3).take 1 = _ from h3, show (cs.drop 4).take 1 = _ from h4, show (cs.drop 5).take 1 = _ from h5] at hcs
  exact ⟨⟨d0, d1, d2, d3, d4, d5⟩, hcs, q0, q1, q2, q3, q4, q5⟩

theorem opn_api_Ticket {W : World} : Opn Try.prog W 29 r_api_Ticket wf_api_Ticket := by
  intro H enc spare held fuel cs x h
  obtain ⟨xs, n, _, _, hlen, hxl, hf⟩ := DataW.trod_struct Try.underlying29 h
  rw [show Try.prog.cellsOf 29 = 6 by kernel_rfl] at hlen
  have g0 : DataW.trod enc Try.prog W 0 spare held n 3 ((cs.drop 0).take (Try.prog.cellsOf 3)) = xs[0]? := hf 0 _ rfl
  rw [show Try.prog.cellsOf 3 = 1 by kernel_rfl, List.getElem?_eq_getElem (by rw [hxl]; decide)] at g0
  obtain ⟨d0, h0, q0⟩ := (opn_int Try.underlying3) H enc spare held n _ _ g0
  have g1 : DataW.trod enc Try.prog W 0 spare held n 3 ((cs.drop 1).take (Try.prog.cellsOf 3)) = xs[1]? := hf 1 _ rfl
  rw [show Try.prog.cellsOf 3 = 1 by kernel_rfl, List.getElem?_eq_getElem (by rw [hxl]; decide)] at g1
  obtain ⟨d1, h1, q1⟩ := (opn_int Try.underlying3) H enc spare held n _ _ g1
  have g2 : DataW.trod enc Try.prog W 0 spare held n 3 ((cs.drop 2).take (Try.prog.cellsOf 3)) = xs[2]? := hf 2 _ rfl
  rw [show Try.prog.cellsOf 3 = 1 by kernel_rfl, List.getElem?_eq_getElem (by rw [hxl]; decide)] at g2
  obtain ⟨d2, h2, q2⟩ := (opn_int Try.underlying3) H enc spare held n _ _ g2
  have g3 : DataW.trod enc Try.prog W 0 spare held n 3 ((cs.drop 3).take (Try.prog.cellsOf 3)) = xs[3]? := hf 3 _ rfl
  rw [show Try.prog.cellsOf 3 = 1 by kernel_rfl, List.getElem?_eq_getElem (by rw [hxl]; decide)] at g3
  obtain ⟨d3, h3, q3⟩ := (opn_int Try.underlying3) H enc spare held n _ _ g3
  have g4 : DataW.trod enc Try.prog W 0 spare held n 3 ((cs.drop 4).take (Try.prog.cellsOf 3)) = xs[4]? := hf 4 _ rfl
  rw [show Try.prog.cellsOf 3 = 1 by kernel_rfl, List.getElem?_eq_getElem (by rw [hxl]; decide)] at g4
  obtain ⟨d4, h4, q4⟩ := (opn_int Try.underlying3) H enc spare held n _ _ g4
  have g5 : DataW.trod enc Try.prog W 0 spare held n 3 ((cs.drop 5).take (Try.prog.cellsOf 3)) = xs[5]? := hf 5 _ rfl
  rw [show Try.prog.cellsOf 3 = 1 by kernel_rfl, List.getElem?_eq_getElem (by rw [hxl]; decide)] at g5
  obtain ⟨d5, h5, q5⟩ := (opn_int Try.underlying3) H enc spare held n _ _ g5
  have e0 : cs.drop 0 = (cs.drop 0).take 1 ++ cs.drop 1 := splitF rfl
  have e1 : cs.drop 1 = (cs.drop 1).take 1 ++ cs.drop 2 := splitF rfl
  have e2 : cs.drop 2 = (cs.drop 2).take 1 ++ cs.drop 3 := splitF rfl
  have e3 : cs.drop 3 = (cs.drop 3).take 1 ++ cs.drop 4 := splitF rfl
  have e4 : cs.drop 4 = (cs.drop 4).take 1 ++ cs.drop 5 := splitF rfl
  have e5 : cs.drop 5 = (cs.drop 5).take 1 ++ cs.drop 6 := splitF rfl
  have en : cs.drop 6 = [] := List.drop_of_length_le (by omega)
  have hcs : cs.drop 0 = _ := e0
  rw [e1, e2, e3, e4, e5, en, show (cs.drop 0).take 1 = _ from h0, show (cs.drop 1).take 1 = _ from h1, show (cs.drop 2).take 1 = _ from h2, show (cs.drop 3).take 1 = _ from h3, show (cs.drop 4).take 1 = _ from h4, show (cs.drop 5).take 1 = _ from h5] at hcs
  exact ⟨⟨d0, d1, d2, d3, d4, d5⟩, hcs, q0, q1, q2, q3, q4, q5⟩

theorem opn_arr3_3 {W : World} : Opn Try.prog W 46 r_arr3_3 wf_arr3_3 := by
  intro H enc spare held fuel cs x h
  obtain ⟨xs, n, _, _, hlen, hxl, hf⟩ := DataW.trod_array Try.underlying46 h
  rw [show Try.prog.cellsOf 46 = 3 by kernel_rfl] at hlen
  simp only [show Try.prog.cellsOf 3 = 1 by kernel_rfl] at hf
  have g0 : DataW.trod enc Try.prog W 0 spare held n 3 ((cs.drop 0).take 1) = xs[0]? := hf 0 (by decide)
  rw [List.getElem?_eq_getElem (by rw [hxl]; decide)] at g0
  obtain ⟨d0, h0, q0⟩ := (opn_int Try.underlying3) H enc spare held n _ _ g0
  have g1 : DataW.trod enc Try.prog W 0 spare held n 3 ((cs.drop 1).take 1) = xs[1]? := hf 1 (by decide)
  rw [List.getElem?_eq_getElem (by rw [hxl]; decide)] at g1
  obtain ⟨d1, h1, q1⟩ := (opn_int Try.underlying3) H enc spare held n _ _ g1
  have g2 : DataW.trod enc Try.prog W 0 spare held n 3 ((cs.drop 2).take 1) = xs[2]? := hf 2 (by decide)
  rw [List.getElem?_eq_getElem (by rw [hxl]; decide)] at g2
  obtain ⟨d2, h2, q2⟩ := (opn_int Try.underlying3) H enc spare held n _ _ g2
  have e0 : cs.drop 0 = (cs.drop 0).take 1 ++ cs.drop 1 := splitF rfl
  have e1 : cs.drop 1 = (cs.drop 1).take 1 ++ cs.drop 2 := splitF rfl
  have e2 : cs.drop 2 = (cs.drop 2).take 1 ++ cs.drop 3 := splitF rfl
  have en : cs.drop 3 = [] := List.drop_of_length_le (by omega)
  have hcs : cs.drop 0 = _ := e0
  rw [e1, e2, en, show (cs.drop 0).take 1 = _ from h0, show (cs.drop 1).take 1 = _ from h1, show (cs.drop 2).take 1 = _ from h2] at hcs
  exact ⟨⟨d0, d1, d2⟩, hcs, q0, q1, q2⟩

set_option maxRecDepth 100000 in
theorem ticketReplaced_lifted (os : Os) (started : os.Started) (H : Type) (enc : TypeId × Value → H) :
    ReturnsInHanded {} Try.checked os 8 .any (Rows.ticketReplacedSpec.pre6 enc Try.prog Try.f8 Rows.ticketReplacedRow.domain false) (Rows.ticketReplacedSpec.post enc Try.prog Try.f8 false true false false) := by
  refine returnsInHanded_of_change (C := Try.checked) own_ started (by kernel_rfl) Try.func8
    (ChangeSpec.witness6 (enc := enc) (C := Try.checked) false ⟨#[], #[(.slice none 0 0), (.slice none 0 0), ((Go.Value.agg #[(Go.Value.int Go.IntKind.i64 0), (Go.Value.int Go.IntKind.i64 0), (Go.Value.int Go.IntKind.i64 0)]))], []⟩ 8 (by kernel_rfl) (by kernel_rfl) (by kernel_rfl) (by kernel_rfl)) ?_
  intro W base args ds gs before hval0 hW hcnd _
  have hval : ∀ (j : Nat) t v, Try.f8.params[j]? = some t → args[j]? = some v → Value.okWide Try.prog W .any base t v := hval0
  have hW' := hW
  obtain ⟨p, q, hA0, hV, rfl, hfz, hnd⟩ := hW
  have hA : DataW.TrodAll enc Try.prog W 0 (fun _ => true) true Try.f8.params.toList args.toList ds p := hA0
  rw [Try.params8] at hA hval
  obtain ⟨rfl, rfl⟩ := trodVars_none hV
  clear hA0 hval0
  obtain ⟨v0, v1, v2, d0, d1, d2, p0, p1, p2, rfl, rfl, rfl, a0, a1, a2⟩ := trodAll_three hA
  obtain ⟨A0, n0, c0, rfl⟩ := okWide_slice Try.underlying22 (hval 0 22 v0 rfl rfl)
  obtain ⟨fu0, ht0⟩ := a0
  obtain ⟨x0, ⟨B0, b0, hcs0, hl0, hm0, ha0⟩, q0⟩ := (opn_slice (W := W) Try.underlying22 (by kernel_rfl) opn_api_Scale) H enc _ _ fu0 _ _ ht0
  have e0 : Value.slice A0 n0 c0 = .slice B0 x0.length b0 := by simpa [Value.cells] using hcs0
  injection e0 with e0a e0b e0c
  subst e0a e0b e0c
  obtain ⟨A1, n1, c1, rfl⟩ := okWide_slice Try.underlying23 (hval 1 23 v1 rfl rfl)
  obtain ⟨fu1, ht1⟩ := a1
  obtain ⟨x1, ⟨B1, b1, hcs1, hl1, hm1, ha1⟩, q1⟩ := (opn_slice (W := W) Try.underlying23 (by kernel_rfl) opn_api_Ticket) H enc _ _ fu1 _ _ ht1
  have e1 : Value.slice A1 n1 c1 = .slice B1 x1.length b1 := by simpa [Value.cells] using hcs1
  injection e1 with e1a e1b e1c
  subst e1a e1b e1c
  obtain ⟨cs2, rfl, _⟩ := okWide_array Try.underlying46 (hval 2 46 v2 rfl rfl)
  obtain ⟨fu2, ht2⟩ := a2
  obtain ⟨x2, hr2, q2⟩ := opn_arr3_3 (W := W) H enc _ _ fu2 _ _ ht2
  have hcs2 := hr2
  obtain rfl := toList_eq hcs2
  obtain ⟨F, hF⟩ := recyclinglaw27_TicketReplaced_true x0 x1 x2 q0 q1 q2
  refine (calls_of_fn (v := .bool true) Try.func8 rfl (args := [_, _, _]) (recyclinglaw27_TicketReplaced_fn ⟨hl0, hm0⟩ (ha0.rds _) ⟨hl1, hm1⟩ (ha1.rds _) hF rfl)).mono fun e W' ⟨he, hw⟩ => ?_
  exact ⟨_, he, post_true (tb := 4) hW' rfl rfl Try.underlying4 rfl rfl rfl laidOut_ (by decide +kernel) hw⟩

theorem ticketReplaced_holds : Rows.TicketReplacedSaid :=
  OpenClaim.holds_of_wide 8 Try.f8 rfl rfl rfl rfl rfl rfl rfl ⟨rfl, rfl, rfl, rfl, rfl⟩ rfl rfl rfl rfl rfl (by kernel_rfl) Try.func8 (by kernel_rfl)
    (of_decide_eq_true (by kernel_rfl)) (by unfold Func.isWrapper; first | (rw [if_pos (by decide +kernel)]; kernel_rfl) | (rw [if_neg (by decide +kernel)]; exact ⟨rfl, rfl⟩))
    (fun os started H enc _ => ticketReplaced_lifted os started H enc)

end Go.Proofs.Ytchakbpjokemnaa
