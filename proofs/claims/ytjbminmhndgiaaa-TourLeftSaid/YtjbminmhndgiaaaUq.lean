/- The plain laws of the tours: all demands are left (TourLeft). -/
import Derived.Test.YtjbminmhndgiaaaUp
namespace Go.Proofs.Ytjbminmhndgiaaa
open Go.RowKit
set_option linter.unusedSimpArgs false
set_option linter.unusedVariables false

theorem plan0 {F : Nat} (hF : 40000 ≤ F) {p : Pr} (hp : OkP p) (hc : recyclingref22_Check p = some 0) (hn : p.Road.Edges.length ≤ 600) (L : List Int) (hL : L.length ≤ 1000) (hb : badL p.Demands.length L = false) :
    tour_plan F p ⟨[], L⟩ = some (0, ansC (vec p.Demands.length (cn L))) := by
  have hdl := hp.dl
  have hl : iter (tour_plan_l1 F p ⟨[], L⟩) (((([] : List T_api_Tour).length : Nat) : Int).toNat + 1) (0, 0) = some (.inl 0) := by
    simp [iter, tour_plan_l1, oun, osum]
  have h1 := (left_loop (n := p.Demands.length) ⟨[], L⟩ (fun _ => 0) hL (fun _ => Nat.zero_le _)).1
  have h2 := (tours_loop (n := p.Demands.length) ⟨[], []⟩ (fun d => 0 + cn L d) (by simp) (fun d => by have := cn_le L d; omega) (by intro t ht; cases ht) (by intro t ht; cases ht)).1
  have h2' : iter (tour_plan_l4 ⟨[], L⟩) (((([] : List T_api_Tour).length : Nat) : Int).toNat + 1) (vec p.Demands.length fun d => 0 + cn L d, 0) = some (vec p.Demands.length fun d => 0 + cn L d + tn [] d) := h2
  have h3 : (vec p.Demands.length fun d => 0 + cn L d + tn [] d) = vec p.Demands.length (cn L) := vec_ext fun d _ => by simp [tn]
  rw [h3] at h2'
  unfold tour_plan
  rw [tour_Check_eq (by omega) _ hn, hc]
  simp only [Option.bind_some, decide_true, Bool.not_true, cond_false]
  rw [hl]
  simp only [Option.bind_some, osum]
  rw [make_vec _ (by omega)]
  simp only [Option.bind_some]
  rw [h1, hb]
  simp only [cond_false, Option.bind_some, osum]
  rw [h2']
  simp only [Option.bind_some]
  rw [more_eq _ (by rw [vec_len]; omega), zero_eq _ (by rw [vec_len]; omega)]
  unfold ansC
  simp only [Option.bind_some]
  generalize (vec p.Demands.length (cn L)).any (fun c => decide (1 < c)) = a
  generalize (vec p.Demands.length (cn L)).any (fun c => decide (c = 0)) = b
  cases a <;> cases b <;> rfl
theorem mem_vec {n : Nat} {f : Nat → Nat} {c : Int} (h : c ∈ vec n f) : ∃ d, d < n ∧ c = (f d : Int) := by
  unfold vec at h
  obtain ⟨d, h1, h2⟩ := List.mem_map.1 h
  exact ⟨d, List.mem_range.1 h1, h2.symm⟩
theorem ans_ok {n : Nat} {f : Nat → Nat} (h : ∀ d, d < n → f d = 1) : ansC (vec n f) = 0 := by
  unfold ansC
  have h1 : (vec n f).any (fun c => decide (1 < c)) = false := by
    rw [List.any_eq_false]
    intro c hc
    obtain ⟨d, hd, rfl⟩ := mem_vec hc
    rw [h d hd]; decide
  have h2 : (vec n f).any (fun c => decide (c = 0)) = false := by
    rw [List.any_eq_false]
    intro c hc
    obtain ⟨d, hd, rfl⟩ := mem_vec hc
    rw [h d hd]; decide
  rw [h1, h2]; rfl
theorem ans_miss {n : Nat} {f : Nat → Nat} (h : ∀ d, d < n → f d ≤ 1) {m : Nat} (hm : m < n) (h0 : f m = 0) : ansC (vec n f) = 38 := by
  unfold ansC
  have h1 : (vec n f).any (fun c => decide (1 < c)) = false := by
    rw [List.any_eq_false]
    intro c hc
    obtain ⟨d, hd, rfl⟩ := mem_vec hc
    have := h d hd
    simp; omega
  have h2 : (vec n f).any (fun c => decide (c = 0)) = true := by
    rw [List.any_eq_true]
    exact ⟨_, List.mem_of_getElem? (vec_get f hm), by rw [h0]; rfl⟩
  rw [h1, h2]; rfl
theorem ans_twice {n : Nat} {f : Nat → Nat} {m : Nat} (hm : m < n) (h0 : 1 < f m) : ansC (vec n f) = 6 := by
  unfold ansC
  have h1 : (vec n f).any (fun c => decide (1 < c)) = true := by
    rw [List.any_eq_true]
    exact ⟨_, List.mem_of_getElem? (vec_get f hm), by simp; omega⟩
  rw [h1]; rfl
theorem nodup_mapI {α β : Type} {f : α → β} : ∀ {l : List α}, l.Nodup → (∀ a ∈ l, ∀ b ∈ l, f a = f b → a = b) → (l.map f).Nodup
  | [], _, _ => List.nodup_nil
  | x :: l, h, hi => by
    rw [List.nodup_cons] at h
    rw [List.map_cons, List.nodup_cons]
    refine ⟨fun hm => ?_, nodup_mapI h.2 fun a ha b hb => hi a (List.mem_cons_of_mem _ ha) b (List.mem_cons_of_mem _ hb)⟩
    obtain ⟨y, hy, he⟩ := List.mem_map.1 hm
    exact h.1 (hi y (List.mem_cons_of_mem _ hy) x List.mem_cons_self he ▸ hy)
def dn_ (n k : Nat) : List Int := (List.range k).map fun i => ((n - 1 - i : Nat) : Int)
def up_ (m k : Nat) : List Int := ((List.range k).filter fun i => !decide (i = m)).map fun i : Nat => (i : Int)
theorem dn_nodup {n : Nat} : (dn_ n n).Nodup := by
  unfold dn_
  refine nodup_mapI List.nodup_range ?_
  intro a ha b hb h
  have h1 := List.mem_range.1 ha
  have h2 := List.mem_range.1 hb
  omega
theorem dn_cn {n d : Nat} (h : d < n) : cn (dn_ n n) d = 1 := by
  unfold cn
  have h1 : List.count (d : Int) (dn_ n n) ≤ 1 := List.nodup_iff_count.1 dn_nodup _
  have h2 : 0 < List.count (d : Int) (dn_ n n) := List.count_pos_iff.2 ?_
  · omega
  unfold dn_
  exact List.mem_map.2 ⟨n - 1 - d, List.mem_range.2 (by omega), by omega⟩
theorem up_nodup {m n : Nat} : (up_ m n).Nodup := by
  unfold up_
  refine nodup_mapI (List.nodup_range.sublist List.filter_sublist) ?_
  intro a _ b _ h
  omega
theorem up_le {m n d : Nat} : cn (up_ m n) d ≤ 1 := List.nodup_iff_count.1 up_nodup _
theorem up_zero {m n : Nat} : cn (up_ m n) m = 0 := by
  unfold cn
  rw [List.count_eq_zero]
  unfold up_
  intro h
  obtain ⟨i, h1, h2⟩ := List.mem_map.1 h
  have := (List.mem_filter.1 h1).2
  simp at this
  omega

theorem dn_succ {n k : Nat} : dn_ n (k + 1) = dn_ n k ++ [((n - 1 - k : Nat) : Int)] := by simp [dn_, List.range_succ]
theorem up_succ {m k : Nat} : up_ m (k + 1) = if k = m then up_ m k else up_ m k ++ [(k : Int)] := by
  unfold up_
  rw [List.range_succ, List.filter_append]
  by_cases h : k = m <;> simp [h]
theorem left_build {p : Pr} {k : Int} {m : Nat} (hdl : p.Demands.length ≤ 32) (hm : Int.tmod (w64 k) ((p.Demands.length : Nat) : Int) = (m : Int)) :
    iter (recyclinglaw22_TourLeft_l1 p k) (((p.Demands.length : Nat) : Int).toNat + 1) ([], [], 0) = some (dn_ p.Demands.length p.Demands.length, up_ m p.Demands.length) := by
  have := iter_stI (body := recyclinglaw22_TourLeft_l1 p k) p.Demands (fun i => (dn_ p.Demands.length i, up_ m i)) (fun z i => (z.1, z.2, i)) (fun _ _ => none) (dn_ p.Demands.length p.Demands.length, up_ m p.Demands.length) (by omega) (fun i d hd _ => ?_) (fun _ => by simp [recyclinglaw22_TourLeft_l1, oun]) (((p.Demands.length : Nat) : Int).toNat + 1) (by simp)
  · rw [firstI_none _ _ (fun _ _ _ => rfl)] at this
    exact this
  · have hk := lt_of_get hd
    have hk2 : ((i : Int) < (p.Demands.length : Nat)) := by omega
    have l1 : (dn_ p.Demands.length i).length = i := by simp [dn_]
    have l2 : (up_ m i).length ≤ i := by
      unfold up_
      rw [List.length_map]
      exact Nat.le_trans (List.length_filter_le _ _) (by simp)
    simp only [recyclinglaw22_TourLeft_l1, oun, hk2, decide_true, cond_true]
    rw [w64_eq (n := ((p.Demands.length : Nat) : Int) - 1) (by omega) (by omega), w64_eq (n := ((p.Demands.length : Nat) : Int) - 1 - (i : Int)) (by omega) (by omega), appO_eq (by simp; omega), guardO_eq (by omega), hm]
    simp only [Option.bind_some, pickO]
    rw [show ((p.Demands.length : Nat) : Int) - 1 - (i : Int) = ((p.Demands.length - 1 - i : Nat) : Int) by omega, ← dn_succ, up_succ]
    by_cases h : i = m
    · subst h; simp
    · rw [show decide ((i : Int) = (m : Int)) = false by simp; omega, if_neg h, appO_eq (by simp; omega)]
      simp
theorem bad_dn {n : Nat} : badL n (dn_ n n) = false := by
  unfold badL
  rw [List.any_eq_false]
  intro s hs
  obtain ⟨i, h1, rfl⟩ := List.mem_map.1 hs
  have := List.mem_range.1 h1
  simp; omega
theorem bad_up {n m : Nat} : badL n (up_ m n) = false := by
  unfold badL
  rw [List.any_eq_false]
  intro s hs
  obtain ⟨i, h1, rfl⟩ := List.mem_map.1 hs
  have := List.mem_range.1 (List.mem_filter.1 h1).1
  simp; omega
theorem recyclinglaw22_TourLeft_true (p : T_api_Problem) (k : Int) (hp : wf_api_Problem p) (hk : wfI .u8 k) : ∃ F, recyclinglaw22_TourLeft F p k = some true := by
  refine ⟨40000, ?_⟩
  have hk0 : 0 ≤ k ∧ k < 256 := by
    simp only [wfI, Lit.wf, Bool.and_eq_true, decide_eq_true_eq] at hk
    have h1 : IntKind.u8.min = 0 := by decide
    have h2 : IntKind.u8.max = 255 := by decide
    omega
  unfold recyclinglaw22_TourLeft
  obtain ⟨⟨b, hb⟩, hl⟩ := Large_some p
  rw [hb]
  have haw := awake_all (Nat.le_refl 40000)
  cases b with
  | true => simp only [Option.bind_some, cond_true, haw]
  | false =>
    obtain ⟨h1, _, _⟩ := hl hb
    simp only [Option.bind_some, cond_false, tour_Check_eq (show 33 ≤ 40000 by decide) p h1]
    rcases Check_cases p h1 with ⟨g1, g2⟩ | ⟨e, g1, g2⟩
    · simp only [g1, Option.bind_some, decide_true, Bool.not_true, cond_false]
      have hdl := g2.dl
      have hw : w64 k = k := w64_eq (by omega) (by omega)
      obtain ⟨m, hm, hmn⟩ : ∃ m : Nat, Int.tmod (w64 k) ((p.Demands.length : Nat) : Int) = (m : Int) ∧ (p.Demands.length ≠ 0 → m < p.Demands.length) := by
        rw [hw, Int.tmod_eq_emod_of_nonneg hk0.1]
        by_cases h0 : p.Demands.length = 0
        · rw [h0]; exact ⟨k.toNat, by simp; omega, fun h => absurd rfl h⟩
        · have h2 := Int.emod_nonneg k (show ((p.Demands.length : Nat) : Int) ≠ 0 by omega)
          have h3 := Int.emod_lt_of_pos k (show (0 : Int) < ((p.Demands.length : Nat) : Int) by omega)
          exact ⟨(k % ((p.Demands.length : Nat) : Int)).toNat, by omega, fun _ => by omega⟩
      have hdn : (dn_ p.Demands.length p.Demands.length).length ≤ 32 := by simp [dn_]; omega
      have hup : (up_ m p.Demands.length).length ≤ 32 := by
        unfold up_
        rw [List.length_map]
        exact Nat.le_trans (List.length_filter_le _ _) (by simp; omega)
      have e1 : tour_plan 40000 p ⟨[], dn_ p.Demands.length p.Demands.length⟩ = some (0, 0) := by
        rw [plan0 (Nat.le_refl _) g2 g1 h1 _ (by omega) bad_dn, ans_ok fun d hd => dn_cn hd]
      rw [left_build hdl hm]
      simp only [Option.bind_some, oun, tour_Total, tour_Feasible, e1, decide_true, Bool.not_true, cond_false]
      by_cases h0 : p.Demands.length = 0
      · rw [show decide (((p.Demands.length : Nat) : Int) = 0) = true from decide_eq_true (by omega)]
        simp only [cond_true, haw, Option.bind_some]
      · have hmn := hmn h0
        rw [show decide (((p.Demands.length : Nat) : Int) = 0) = false from decide_eq_false (by omega), guardO_eq (show ((p.Demands.length : Nat) : Int) ≠ 0 by omega), appO_eq (by simp; omega), hm]
        simp only [cond_false, Option.bind_some, List.nil_append]
        rw [appO_eq (by simp; omega)]
        have e2 : tour_plan 40000 p ⟨[], up_ m p.Demands.length⟩ = some (0, 38) := by
          rw [plan0 (Nat.le_refl _) g2 g1 h1 _ (by omega) bad_up, ans_miss (f := cn (up_ m p.Demands.length)) (fun d _ => up_le) hmn up_zero]
        have e3 : tour_plan 40000 p ⟨[], dn_ p.Demands.length p.Demands.length ++ [(m : Int)]⟩ = some (0, 6) := by
          rw [plan0 (Nat.le_refl _) g2 g1 h1 _ (by simp; omega) (by
            have := bad_dn (n := p.Demands.length)
            unfold badL at this ⊢
            rw [List.any_append, this]
            simp; omega), ans_twice (f := cn (dn_ p.Demands.length p.Demands.length ++ [(m : Int)])) hmn (by rw [cn_snoc, dn_cn hmn]; simp)]
        simp only [Option.bind_some, e2, e3, oun, decide_true, cond_true, haw]
    · simp only [g2, Option.bind_some]
      rw [show decide (e = 0) = false by simpa using g1]
      simp only [Bool.not_false, cond_true, Option.bind_some, haw]

end Go.Proofs.Ytjbminmhndgiaaa
