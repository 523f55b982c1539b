/- PaymentNil. -/
import Derived.Test.YticcfpmehjcjcaaRows
import Derived.Test.YticcfpmehjcjcaaPn
import Derived.Test.YticcfpmehjcjcaaKu
import Derived.Lib.SmallJoins
namespace Go.Proofs.Yticcfpmehjcjcaa
open Go.ChangeShapes Go.WideShapes Go.ChangeAt Go.RowKit Go.Joins

theorem own_ : ownKnob Try.prog.godebug = none := by kernel_rfl
theorem laidOut_ : laidOutB Try.prog = true := by kernel_rfl

set_option maxRecDepth 100000 in
theorem paymentNil_lifted (os : Os) (started : os.Started) (H : Type) (enc : TypeId × Value → H) :
    ReturnsInHanded {} Try.checked os 8 .any (Rows.paymentNilSpec.pre6 enc Try.prog Try.f8 Rows.paymentNilRow.domain false) (Rows.paymentNilSpec.post enc Try.prog Try.f8 false true false false) := by
  refine returnsInHanded_of_change (C := Try.checked) own_ started (by kernel_rfl) Try.func8
    (ChangeSpec.witness6 (enc := enc) (C := Try.checked) false ⟨#[], #[.agg #[.int .i64 0, .int .i64 0, .int .i64 0, .int .i64 0]], []⟩ 8 (by kernel_rfl) (by kernel_rfl) (by kernel_rfl) (by kernel_rfl)) ?_
  intro W base args ds gs before hval0 hW hcnd _
  have hval : ∀ (j : Nat) t v, Try.f8.params[j]? = some t → args[j]? = some v → Value.okWide Try.prog W .any base t v := hval0
  have hW' := hW
  obtain ⟨p, q, hA0, hV, rfl, hfz, hnd⟩ := hW
  have hA : DataW.TrodAll enc Try.prog W 0 (fun _ => true) true Try.f8.params.toList args.toList ds p := hA0
  rw [Try.params8] at hA hval
  obtain ⟨v0, d0, rfl, rfl, h0⟩ := trodAll_one hA
  obtain ⟨rfl, rfl⟩ := trodVars_none hV
  obtain ⟨c0, c1, c2, c3, y0, y1, y2, y3, n, rfl, rfl, hp, k0, k1, k2, k3⟩ := open_agg4 (P := Try.prog) Try.underlying29 (by kernel_rfl) (by kernel_rfl) (hval 0 29 v0 rfl rfl) h0
  obtain ⟨a, ha, _, _⟩ := DataW.trod_int (P := Try.prog) Try.underlying3 k0
  obtain ⟨b, hb, _, _⟩ := DataW.trod_int (P := Try.prog) Try.underlying3 k1
  obtain ⟨c, hc, _, _⟩ := DataW.trod_int (P := Try.prog) Try.underlying3 k2
  obtain ⟨d, hd, _, _⟩ := DataW.trod_int (P := Try.prog) Try.underlying3 k3
  injection ha with ha; injection hb with hb; injection hc with hc; injection hd with hd
  subst ha hb hc hd
  clear hA0 hval0
  refine (calls_of_fn (v := .bool true) Try.func8 rfl (args := [_]) (paymentNil_fn a b c d fun _ _ _ => rfl)).mono fun e W' ⟨he, hw⟩ => ?_
  exact ⟨_, he, post_true (tb := 4) hW' rfl rfl Try.underlying4 rfl rfl rfl laidOut_ (by decide +kernel) hw⟩

theorem paymentNil_holds : Rows.PaymentNilSaid :=
  OpenClaim.holds_of_wide 8 Try.f8 rfl rfl rfl rfl rfl rfl rfl ⟨rfl, rfl, rfl, rfl, rfl⟩ rfl rfl rfl rfl rfl (by kernel_rfl) Try.func8 (by kernel_rfl)
    (of_decide_eq_true (by kernel_rfl)) (by unfold Func.isWrapper; first | (rw [if_pos (by decide +kernel)]; kernel_rfl) | (rw [if_neg (by decide +kernel)]; exact ⟨rfl, rfl⟩))
    (fun os started H enc _ => paymentNil_lifted os started H enc)

end Go.Proofs.Yticcfpmehjcjcaa
