/- The plain laws of Insert: the example, InsertOptions. -/
import Derived.Test.YtfekfbcghnlohaaWc
namespace Go.Proofs.Ytfekfbcghnlohaa
open Go.RowKit
set_option linter.unusedSimpArgs false
set_option linter.unusedVariables false

def exI : Pr := ⟨⟨2, [⟨0, 1, 500, 60⟩, ⟨1, 0, 500, 60⟩]⟩, [⟨⟨#[118]⟩, 0, ⟨1000, 2000⟩, 1000, 1⟩], [⟨0, 1, 0, 300, ⟨1100, 1200⟩, 30⟩], 0, 20⟩
def exJ : Pr := ⟨⟨2, [⟨0, 1, 500, 60⟩, ⟨1, 0, 500, 60⟩]⟩, [⟨⟨#[118]⟩, 0, ⟨1000, 1100⟩, 1000, 1⟩], [⟨0, 1, 0, 300, ⟨1100, 1200⟩, 30⟩], 0, 20⟩
theorem chkI : recyclingref22_Check exI = some 0 := by decide +kernel
theorem chkJ : recyclingref22_Check exJ = some 0 := by decide +kernel
theorem okPI : OkP exI := OkP.of (by decide) chkI
theorem okPJ : OkP exJ := OkP.of (by decide) chkJ
theorem costR_of {p : Pr} (hp : OkP p) (hc : recyclingref22_Check p = some 0) {t : T_api_Tour} {c : Int × Int} (h : recyclingref22_Cost p t = some c) : costR p t = c := by
  rw [ref_Cost hp hc t] at h
  injection h
theorem costI : costR exI ⟨0, [0, -1]⟩ = (1000, 0) := costR_of okPI chkI (by decide +kernel)
theorem costJ : costR exJ ⟨0, [0, -1]⟩ = (0, 19) := costR_of okPJ chkJ (by decide +kernel)
theorem exI_opts {F : Nat} (hF : 40000 ≤ F) : insert_options F exI ⟨0, []⟩ 0 = some ([⟨⟨0, [0, -1]⟩, 1000⟩], 0) := by
  obtain ⟨L, h1, h2⟩ := options_det hF (p := exI) (by decide) (t := ⟨0, []⟩) (by decide) (d := 0) chkI (by decide) (by decide)
  have hf : feas exI ((cands [] 0).map (toT 0)) = [⟨⟨0, [0, -1]⟩, 1000⟩] := by
    rw [show cands [] 0 = [[0, -1]] by decide]
    simp [feas, opOf, toT, costI]
  have h3 := h2.stab
  simp only at h3
  rw [hf] at h3
  have := h3.perm.symm.eq_singleton
  rw [this] at h1
  exact h1
theorem exJ_opts {F : Nat} (hF : 40000 ≤ F) : insert_options F exJ ⟨0, []⟩ 0 = some ([], 0) := by
  obtain ⟨L, h1, h2⟩ := options_det hF (p := exJ) (by decide) (t := ⟨0, []⟩) (by decide) (d := 0) chkJ (by decide) (by decide)
  have hf : feas exJ ((cands [] 0).map (toT 0)) = [] := by
    rw [show cands [] 0 = [[0, -1]] by decide]
    simp [feas, opOf, toT, costJ]
  have h3 := h2.stab
  simp only at h3
  rw [hf] at h3
  have := h3.perm.symm.eq_nil
  rw [this] at h1
  exact h1
theorem exI_twice {F : Nat} (hF : 40000 ≤ F) : insert_options F exI ⟨0, [0, -1]⟩ 0 = some ([], 6) := by
  obtain ⟨L, e, h1, _, h3, h4⟩ := options_both hF exI (by decide) ⟨0, [0, -1]⟩ (by decide) 0
  have he := h4 chkI (by decide)
  have he : e = 6 := he
  subst he
  rcases h3 with ⟨_, h⟩ | ⟨h, _⟩
  · subst h; exact h1
  · exact absurd h (by decide)
theorem exI_build {F : Nat} (hF : 40000 ≤ F) : insert_Build F exI = some (⟨[⟨0, [0, -1]⟩], []⟩, 0) := by
  unfold insert_Build
  rw [tour_Check_eq (by omega) _ (by decide), chkI]
  simp only [Option.bind_some, decide_true, Bool.not_true, cond_false]
  have e1 : makeO (T_insert_option.mk (T_api_Tour.mk 0 []) 0) ((exI.Vehicles.length : Nat) : Int) = some [⟨⟨0, []⟩, 0⟩] := by decide +kernel
  have e2 : iter (insert_Build_l1 [⟨⟨0, []⟩, 0⟩]) ((([⟨⟨0, []⟩, 0⟩] : List Op).length : Nat) : Int).toNat.succ ([⟨⟨0, []⟩, 0⟩], 0) = some [⟨⟨0, []⟩, 0⟩] := by decide +kernel
  have e3 : iter (insert_Build_l2 F exI [⟨⟨0, []⟩, 0⟩] 0) ((((([⟨⟨0, []⟩, 0⟩] : List Op).length : Nat) : Int).toNat) + 1) (0, [], 0, -1, 0) = some (0, [0, -1], 1000, 0) := by
    show iter (insert_Build_l2 F exI [⟨⟨0, []⟩, 0⟩] 0) 2 (0, [], 0, -1, 0) = _
    rw [iter]
    have : insert_Build_l2 F exI [⟨⟨0, []⟩, 0⟩] 0 (0, [], 0, -1, 0) = some (.inl (0, [0, -1], 1000, 0, 1)) := by
      unfold insert_Build_l2
      simp only [oun]
      rw [show getI ([⟨⟨0, []⟩, 0⟩] : List Op) 0 = some ⟨⟨0, []⟩, 0⟩ by decide]
      simp only [Option.bind_some, exI_opts hF]
      decide +kernel
    rw [this]
    simp only [Option.bind_some, osum, iter]
    have : insert_Build_l2 F exI [⟨⟨0, []⟩, 0⟩] 0 (0, [0, -1], 1000, 0, 1) = some (.inr (0, [0, -1], 1000, 0)) := by
      unfold insert_Build_l2
      simp only [oun]
      rw [show decide ((1 : Int) < ((([⟨⟨0, []⟩, 0⟩] : List Op).length : Nat) : Int)) = false by decide]
      rfl
    rw [this]
    rfl
  have e4 : iter (insert_Build_l3 F exI) ((((exI.Demands.length : Nat) : Int).toNat) + 1) ([⟨⟨0, []⟩, 0⟩], [], 0) = some ([⟨⟨0, [0, -1]⟩, 1000⟩], []) := by
    show iter (insert_Build_l3 F exI) 2 ([⟨⟨0, []⟩, 0⟩], [], 0) = _
    rw [iter]
    have : insert_Build_l3 F exI ([⟨⟨0, []⟩, 0⟩], [], 0) = some (.inl ([⟨⟨0, [0, -1]⟩, 1000⟩], [], 1)) := by
      unfold insert_Build_l3
      simp only [oun]
      rw [e3]
      decide +kernel
    rw [this]
    simp only [Option.bind_some, osum, iter]
    have : insert_Build_l3 F exI ([⟨⟨0, [0, -1]⟩, 1000⟩], [], 1) = some (.inr ([⟨⟨0, [0, -1]⟩, 1000⟩], [])) := by
      unfold insert_Build_l3
      simp only [oun]
      rw [show decide ((1 : Int) < ((exI.Demands.length : Nat) : Int)) = false by decide]
      rfl
    rw [this]
    rfl
  rw [e1]
  simp only [Option.bind_some]
  rw [show iter (insert_Build_l1 [⟨⟨0, []⟩, 0⟩]) (((([⟨⟨0, []⟩, 0⟩] : List Op).length : Nat) : Int).toNat + 1) ([⟨⟨0, []⟩, 0⟩], 0) = some [⟨⟨0, []⟩, 0⟩] from e2]
  simp only [Option.bind_some]
  rw [e4]
  decide +kernel
theorem awakeI {F : Nat} (hF : 40000 ≤ F) : recyclinglaw23_awake F = some true := by
  have h1 : insert_Options F exI ⟨0, []⟩ 0 = some ([⟨0, [0, -1]⟩], 0) := Options_at (exI_opts hF) (by decide)
  have h2 : insert_Options F exI ⟨0, [0, -1]⟩ 0 = some ([], 6) := Options_at (exI_twice hF) (by decide)
  have h3 := exI_build hF
  have h4 : insert_Best F exJ ⟨0, []⟩ 0 = some (⟨0, []⟩, 40) := by
    unfold insert_Best
    rw [exJ_opts hF]
    rfl
  unfold exI at h1 h2 h3
  unfold exJ at h4
  unfold recyclinglaw23_awake
  rw [h1]
  simp only [Option.bind_some, oun]
  rw [h2]
  simp only [Option.bind_some, oun]
  rw [h3]
  simp only [Option.bind_some, oun]
  rw [show getI [(T_api_Vehicle.mk ⟨#[118]⟩ 0 (T_api_Window.mk 1000 2000) 1000 1)] 0 = some (T_api_Vehicle.mk ⟨#[118]⟩ 0 (T_api_Window.mk 1000 2000) 1000 1) by decide]
  simp only [Option.bind_some]
  rw [show setI [(T_api_Vehicle.mk ⟨#[118]⟩ 0 (T_api_Window.mk 1000 2000) 1000 1)] 0 (T_api_Vehicle.mk ⟨#[118]⟩ 0 (T_api_Window.mk 1000 1100) 1000 1) = [(T_api_Vehicle.mk ⟨#[118]⟩ 0 (T_api_Window.mk 1000 1100) 1000 1)] by decide]
  rw [h4]
  decide +kernel
theorem recyclinglaw23_InsertOptions_true (p : T_api_Problem) (t : T_api_Tour) (d : Int) (hp : wf_api_Problem p) (ht : wf_api_Tour t) (hd : wfI .i64 d) : ∃ F, recyclinglaw23_InsertOptions F p t d = some true := by
  refine ⟨40000, ?_⟩
  have hF : 40000 ≤ 40000 := Nat.le_refl _
  unfold recyclinglaw23_InsertOptions
  obtain ⟨b, hb, hl⟩ := light_some p t
  rw [hb]
  cases b with
  | false => simp only [Option.bind_some, Bool.not_false, cond_true, awakeI hF]
  | true =>
    obtain ⟨h1, _, _, h4⟩ := hl rfl
    obtain ⟨q1, q2⟩ := Options_eq hF p h1 t (by omega) d
    obtain ⟨L, e, _, j1, j2, _⟩ := options_both hF p h1 t (by omega) d
    have hs : recyclingref23_Same (L.map otour) (L.map otour) = some true := by
      rcases j2 with ⟨_, rfl⟩ | ⟨_, j2⟩
      · exact Tours_self _ (by simp) (by simp)
      · have := j2.len (by omega)
        refine Tours_self _ (by simp; omega) fun x hx => ?_
        obtain ⟨y, hy, rfl⟩ := List.mem_map.1 hx
        have := j2.stops y hy
        simp only [otour]; omega
    obtain ⟨x, e2, hbest, hbl⟩ : ∃ x e2, recyclingref23_Best 40000 p t d = some (x, e2) ∧ x.Stops.length ≤ 40 := by
      unfold recyclingref23_Best
      rw [j1]
      simp only [Option.bind_some, oun]
      cases decide (e = 0) with
      | false => exact ⟨_, _, rfl, by simp⟩
      | true =>
        simp only [Bool.not_true, cond_false]
        cases L with
        | nil => exact ⟨_, _, rfl, by simp⟩
        | cons y M =>
          have : ¬ (((((y :: M).map otour).length : Nat) : Int) = 0) := by simp; omega
          simp only [this, decide_false, cond_false, List.map_cons]
          refine ⟨_, _, rfl, ?_⟩
          rcases j2 with ⟨_, h⟩ | ⟨_, j2⟩
          · cases h
          · exact j2.stops y (by simp)
    simp only [Option.bind_some, Bool.not_true, cond_false, q1, q2, j1, oun, decide_true, hs, hbest, cond_true, Ints_self _ (by omega : x.Stops.length ≤ 1000000), awakeI hF]
end Go.Proofs.Ytfekfbcghnlohaa
