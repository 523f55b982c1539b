/- PaymentLate: for every input the law of recyclinglaw56 on late bills returns true and its arguments read as before. No condition. -/
import Derived.Test.YticcfpmehjcjcaaRows
import Derived.Test.YticcfpmehjcjcaaPm
import Derived.Test.YticcfpmehjcjcaaKo
namespace Go.Proofs.Yticcfpmehjcjcaa
open Go.ChangeShapes Go.WideShapes Go.ChangeAt Go.RowKit

theorem own_ : ownKnob Try.prog.godebug = none := by kernel_rfl
theorem laidOut_ : laidOutB Try.prog = true := by kernel_rfl
theorem act_mk (ns : List Int) (h : ns.length = 4) : ∃ x : Act, x.cells = ns.map (Value.int .i64) := by
  match ns, h with
  | [a, b, c, d], _ => exact ⟨⟨a, b, c, d⟩, rfl⟩

set_option maxRecDepth 100000 in
theorem paymentLate_lifted (os : Os) (started : os.Started) (H : Type) (enc : TypeId × Value → H) :
    ReturnsInHanded {} Try.checked os 7 .any (Rows.paymentLateSpec.pre6 enc Try.prog Try.f7 Rows.paymentLateRow.domain false) (Rows.paymentLateSpec.post enc Try.prog Try.f7 false true false false) := by
  refine returnsInHanded_of_change (C := Try.checked) own_ started (by kernel_rfl) Try.func7
    (ChangeSpec.witness6 (enc := enc) (C := Try.checked) false ⟨#[], #[(.slice none 0 0), (.int .i64 0), (.int .i64 0)], []⟩ 8 (by kernel_rfl) (by kernel_rfl) (by kernel_rfl) (by kernel_rfl)) ?_
  intro W base args ds gs before hval0 hW hcnd _
  have hval : ∀ (j : Nat) t v, Try.f7.params[j]? = some t → args[j]? = some v → Value.okWide Try.prog W .any base t v := hval0
  have hW' := hW
  obtain ⟨p, q, hA0, hV, rfl, hfz, hnd⟩ := hW
  have hA : DataW.TrodAll enc Try.prog W 0 (fun _ => true) true Try.f7.params.toList args.toList ds p := hA0
  rw [Try.params7] at hA hval
  obtain ⟨rfl, rfl⟩ := trodVars_none hV
  clear hA0 hval0
  obtain ⟨v0, v1, v2, d0, d1, d2, p0, p1, p2, rfl, rfl, rfl, h0, h1, h2⟩ := trodAll_three hA
  obtain ⟨A, n, c, l, rfl, hn, hc, hm, hr⟩ := open_rows (P := Try.prog) Act.cells 4 Try.underlying22 Try.underlying29 (by kernel_rfl) (by kernel_rfl) rfl (by kernel_rfl) (fun _ => rfl) act_mk (hval 0 22 v0 rfl rfl) h0
  obtain ⟨t, rfl, _, _, _⟩ := open_int (P := Try.prog) Try.underlying3 (hval 1 3 v1 rfl rfl) h1
  obtain ⟨d, rfl, _, _, _⟩ := open_int (P := Try.prog) Try.underlying3 (hval 2 3 v2 rfl rfl) h2
  refine (calls_of_fn (v := .bool true) Try.func7 rfl (args := [_, _, _]) (paymentLate_fn hr hn (by simp only [maxLen] at hm; omega) t d fun _ _ _ => rfl)).mono fun e W' ⟨he, hw⟩ => ?_
  exact ⟨_, he, post_true (tb := 4) hW' rfl rfl Try.underlying4 rfl rfl rfl laidOut_ (by decide +kernel) hw⟩

theorem paymentLate_holds : Rows.PaymentLateSaid :=
  OpenClaim.holds_of_wide 7 Try.f7 rfl rfl rfl rfl rfl rfl rfl ⟨rfl, rfl, rfl, rfl, rfl⟩ rfl rfl rfl rfl rfl (by kernel_rfl) Try.func7 (by kernel_rfl)
    (of_decide_eq_true (by kernel_rfl)) (by unfold Func.isWrapper; first | (rw [if_pos (by decide +kernel)]; kernel_rfl) | (rw [if_neg (by decide +kernel)]; exact ⟨rfl, rfl⟩))
    (fun os started H enc _ => paymentLate_lifted os started H enc)

end Go.Proofs.Yticcfpmehjcjcaa
