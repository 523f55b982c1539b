/- slices.Clone at the types of this program. -/
import Derived.Test.YtpghcnpheabbgaaTt
import Derived.Test.YtpghcnpheabbgaaKt
namespace Go.Proofs.Ytpghcnpheabbgaa
open Go.RowKit
set_option linter.unusedSimpArgs false
set_option linter.unusedVariables false
attribute [local irreducible] WP SemOk SemU Fn AN Upd vcR vcO vcOps vcPlan putK fillK resK inBlk forkOne Cell StAt Kept

theorem clone_f40 {μ : Gh} {L : List Seg} {A : Option Addr} {n c : Nat} {css : List (List Value)} (hr : Rd μ L A 2 css) (hn : css.length = n) (h1 : ∀ cs ∈ css, ∀ u ∈ cs, u.oneCell' = true) (hb : n ≤ 1000000)
    {R : Value → Gh → List Seg → Prop} (hR : ∀ v ch, OwnSl 49 2 v css ch → R v μ (ch :: L)) : Fn Try.prog 40 [.slice A n c] μ L R := by
  refine Fn.of_body Tt_ok Try.func40 (by kernel_rfl) rfl Try.ntmps40 (by simp) ?_
  simp only [Try.f40, argFr, List.zipIdx, List.map, Nat.reduceAdd]
  repeat' first | (apply O_cons) | (apply P_some; exact rfl) | (apply P_none) | ((first | (apply O_read; exact rfl)); first | (apply R_move; exact rfl) | (apply R_assign; exact rfl) | (apply R_eql; exact rfl; exact rfl; all_goals (intro h; try (exfalso; omega))) | (apply R_agg; exact rfl; exact rfl) | (apply R_eqP0; exact rfl; exact rfl; exact rfl; exact rfl) | (apply R_eqP1; exact rfl; exact rfl; exact rfl; exact rfl) | (apply R_eqS; exact rfl; exact rfl; exact rfl; exact rfl; all_goals (intro h)) | (apply R_eqB; exact rfl; exact rfl; exact rfl; exact rfl; all_goals (intro h))) | (apply O_nil) | (apply F_nil) | (apply F_cons; exact rfl; exact rfl; exact rfl; (focus (simp only [setL, List.set_cons_zero, List.set_cons_succ, List.take_succ_cons, List.take_zero, List.drop_succ_cons, List.drop_zero, Value.cells, Nat.reduceAdd, Nat.reduceMul, Nat.zero_add, Nat.add_zero, List.toList_toArray, List.cons_append, List.nil_append, cyc]; first | done | exact rfl))) | (apply WP.seq_k; intro K hK) | refine WP.region Tt_ok ?_ | (apply W_cond_t; exact rfl) | (apply W_cond_f; exact rfl) | (apply W_cond_v; exact rfl; all_goals (intro h)) | (apply WP.skip) | (apply WP.ret) | (apply S_nil) | (apply S_tmp; exact rfl) | (first | (apply O_bsl; exact rfl; exact rfl; exact rfl; exact rfl; exact rfl; exact rfl; (focus (simp only [setL, List.set_cons_zero, List.set_cons_succ, List.take_succ_cons, List.take_zero, List.drop_succ_cons, List.drop_zero, Value.cells, Nat.reduceAdd, Nat.reduceMul, Nat.zero_add, Nat.add_zero, List.toList_toArray, List.cons_append, List.nil_append, cyc]; first | done | exact rfl))) | (apply O_append; exact rfl)) | (fail) | (first | (refine hK _ _ _ ?_; clear hK K) | (clear hK K; refine hK _ _ _ ?_; clear hK K) | (clear hK K; clear hK K; refine hK _ _ _ ?_; clear hK K) | (clear hK K; clear hK K; clear hK K; refine hK _ _ _ ?_; clear hK K)) | intro g
  · subst h
    obtain rfl : css = [] := by
      cases css with
      | nil => rfl
      | cons a r => obtain ⟨a, ha, _⟩ := hr.2 (by simp); cases ha
    exact Upd.know fun ⟨w, hw⟩ => Upd.sub (L' := [] :: L) (by simp) (Upd.done (hR _ _ OwnSl.nil))
  · refine sem_app Tt_ok rfl rfl rfl rfl (by decide) 0 rfl (css := []) ⟨by simp, .inr ⟨g, 0, #[], rfl, rfl, by simp, by simp [maxLen], by simp, by simp⟩⟩ hn hr.cons h1 (by simp; omega) (by simp; omega) fun v' ch' hv _ => ?_
    repeat' first | (apply O_cons) | (apply P_some; exact rfl) | (apply P_none) | ((first | (apply O_read; exact rfl)); first | (apply R_move; exact rfl) | (apply R_assign; exact rfl) | (apply R_eql; exact rfl; exact rfl; all_goals (intro h; try (exfalso; omega))) | (apply R_agg; exact rfl; exact rfl) | (apply R_eqP0; exact rfl; exact rfl; exact rfl; exact rfl) | (apply R_eqP1; exact rfl; exact rfl; exact rfl; exact rfl) | (apply R_eqS; exact rfl; exact rfl; exact rfl; exact rfl; all_goals (intro h)) | (apply R_eqB; exact rfl; exact rfl; exact rfl; exact rfl; all_goals (intro h))) | (apply O_nil) | (apply F_nil) | (apply F_cons; exact rfl; exact rfl; exact rfl; (focus (simp only [setL, List.set_cons_zero, List.set_cons_succ, List.take_succ_cons, List.take_zero, List.drop_succ_cons, List.drop_zero, Value.cells, Nat.reduceAdd, Nat.reduceMul, Nat.zero_add, Nat.add_zero, List.toList_toArray, List.cons_append, List.nil_append, cyc]; first | done | exact rfl))) | (apply WP.seq_k; intro K hK) | refine WP.region Tt_ok ?_ | (apply W_cond_t; exact rfl) | (apply W_cond_f; exact rfl) | (apply W_cond_v; exact rfl; all_goals (intro h)) | (apply WP.skip) | (apply WP.ret) | (apply S_nil) | (apply S_tmp; exact rfl) | (first | (apply O_bsl; exact rfl; exact rfl; exact rfl; exact rfl; exact rfl; exact rfl; (focus (simp only [setL, List.set_cons_zero, List.set_cons_succ, List.take_succ_cons, List.take_zero, List.drop_succ_cons, List.drop_zero, Value.cells, Nat.reduceAdd, Nat.reduceMul, Nat.zero_add, Nat.add_zero, List.toList_toArray, List.cons_append, List.nil_append, cyc]; first | done | exact rfl))) | (apply O_append; exact rfl)) | (fail) | (first | (refine hK _ _ _ ?_; clear hK K) | (clear hK K; refine hK _ _ _ ?_; clear hK K) | (clear hK K; clear hK K; refine hK _ _ _ ?_; clear hK K) | (clear hK K; clear hK K; clear hK K; refine hK _ _ _ ?_; clear hK K)) | intro g
    rw [List.nil_append] at hv
    exact Upd.done (hR _ _ hv)

end Go.Proofs.Ytpghcnpheabbgaa
