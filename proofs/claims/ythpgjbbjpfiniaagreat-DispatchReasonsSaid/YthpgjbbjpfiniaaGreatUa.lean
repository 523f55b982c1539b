/- The plain laws of the tours: the checks. -/
import Derived.Test.YthpgjbbjpfiniaaGreatTas
import Derived.Test.YthpgjbbjpfiniaaGreatGq
namespace Go.Proofs.YthpgjbbjpfiniaaGreat
open Go.RowKit
set_option linter.unusedSimpArgs false
set_option linter.unusedVariables false
theorem or_some (a b : Bool) : (bif a then some true else some b) = some (a || b) := by cases a <;> rfl
theorem and_some (a b : Bool) : (bif a then some b else some false) = some (a && b) := by cases a <;> rfl
def okEdge (r : T_api_Road) (x : T_api_Edge) : Prop := 0 ≤ x.From ∧ x.From < r.Nodes ∧ 0 ≤ x.To ∧ x.To < r.Nodes ∧ x.From ≠ x.To ∧ 1 ≤ x.Meters ∧ x.Meters ≤ 100000 ∧ 1 ≤ x.Secs ∧ x.Secs ≤ 100000
def edgeE (r : T_api_Road) (x : T_api_Edge) : Option (Unit ⊕ Int) :=
  bif (decide (x.From < 0) || (decide (r.Nodes ≤ x.From) || (decide (x.To < 0) || decide (r.Nodes ≤ x.To)))) then some (.inr 7)
  else bif (decide (x.From = x.To) || (decide (x.Meters < 1) || (decide (100000 < x.Meters) || (decide (x.Secs < 1) || decide (100000 < x.Secs))))) then some (.inr 1) else none
theorem edgeE_none {r : T_api_Road} {x : T_api_Edge} (h : edgeE r x = none) : okEdge r x := by
  unfold edgeE at h
  simp only [cond_eq_ite, Bool.or_eq_true, decide_eq_true_eq] at h
  split at h
  · cases h
  · split at h
    · cases h
    · unfold okEdge; omega
theorem edgeE_some {r : T_api_Road} {x : T_api_Edge} {o : Unit ⊕ Int} (h : edgeE r x = some o) : ∃ e, o = .inr e ∧ e ≠ 0 := by
  unfold edgeE at h
  simp only [cond_eq_ite] at h
  split at h
  · injection h with h; exact ⟨7, h.symm, by decide⟩
  · split at h
    · injection h with h; exact ⟨1, h.symm, by decide⟩
    · cases h
theorem ref19_l1 (r : T_api_Road) (hn : r.Edges.length ≤ 600) (n : Nat) (h : r.Edges.length < n) : iter (recyclingref19_Check_l1 r) n 0 = some (firstI (fun _ x => edgeE r x) (.inl ()) 0 r.Edges) := by
  refine iter_firstI r.Edges (fun _ x => edgeE r x) (.inl ()) (by omega) (fun k x hx => ?_) (by simp [recyclingref19_Check_l1]) n h
  have hk := lt_of_get hx
  have hk2 : ((k : Int) < (r.Edges.length : Nat)) := by omega
  simp only [recyclingref19_Check_l1, hk2, decide_true, cond_true, getI_nat, hx, Option.bind_some, or_some, edgeE]
  generalize (decide (x.From < 0) || _) = a
  generalize (decide (x.From = x.To) || _) = b
  cases a <;> cases b <;> rfl
theorem network_eq (r : T_api_Road) (hn : r.Edges.length ≤ 600) : road_network r = some ⟨r.Nodes, r.Edges.map fun x => ⟨x.From, x.To⟩⟩ := by
  unfold road_network
  have := iter_stI (body := road_network_l1 r) r.Edges (fun k => (r.Edges.take k).map fun x => (⟨x.From, x.To⟩ : T_api_Arc)) (fun m k => (m, k)) (fun _ _ => none) (r.Edges.map fun x => (⟨x.From, x.To⟩ : T_api_Arc)) (by omega) (fun k x hx _ => ?_) (fun _ => by simp [road_network_l1, oun]) (((r.Edges.length : Nat) : Int).toNat + 1) (by simp)
  · rw [show ((r.Edges.take 0).map fun x => (⟨x.From, x.To⟩ : T_api_Arc)) = [] by simp] at this
    rw [this, firstI_none _ _ (fun _ _ _ => rfl)]
    rfl
  · have hk := lt_of_get hx
    have hk2 : ((k : Int) < (r.Edges.length : Nat)) := by omega
    simp only [road_network_l1, oun, hk2, decide_true, cond_true, getI_nat, hx, Option.bind_some]
    rw [appO_eq (by simp; omega)]
    simp [take_succ' hx, pickO]
theorem graph_ok (r : T_api_Road) (hn : r.Edges.length ≤ 512) (h1 : 1 ≤ r.Nodes) (h2 : r.Nodes ≤ 64) (ho : ∀ x ∈ r.Edges, okEdge r x) : graph_Check ⟨r.Nodes, r.Edges.map fun x => ⟨x.From, x.To⟩⟩ = some 0 := by
  unfold graph_Check
  have := iter_firstI (body := graph_Check_l1 ⟨r.Nodes, r.Edges.map fun x => ⟨x.From, x.To⟩⟩) (r.Edges.map fun x => (⟨x.From, x.To⟩ : T_api_Arc)) (fun _ _ => none) (.inl () : Unit ⊕ Int) (by simp; omega) (fun k x hx => ?_) (by simp [graph_Check_l1]) ((((r.Edges.map fun x => (⟨x.From, x.To⟩ : T_api_Arc)).length : Nat) : Int).toNat + 1) (by simp)
  · rw [firstI_none _ _ (fun _ _ _ => rfl)] at this
    simp only [or_some, Option.bind_some]
    rw [show (decide (r.Nodes < 0) || decide (64 < r.Nodes)) = false by simp; omega]
    simp only [cond_false]
    rw [show decide ((512 : Int) < (((r.Edges.map fun x => (⟨x.From, x.To⟩ : T_api_Arc)).length : Nat) : Int)) = false by simp; omega]
    simp only [cond_false, this, Option.bind_some, osum]
  · have hk := lt_of_get hx
    have hk2 : ((k : Int) < ((r.Edges.map fun x => (⟨x.From, x.To⟩ : T_api_Arc)).length : Nat)) := by omega
    obtain ⟨y, hy, rfl⟩ : ∃ y, r.Edges[k]? = some y ∧ (⟨y.From, y.To⟩ : T_api_Arc) = x := by
      rw [List.getElem?_map] at hx
      cases hq : r.Edges[k]? with
      | none => rw [hq] at hx; cases hx
      | some y => rw [hq] at hx; injection hx with hx; exact ⟨y, rfl, hx⟩
    have hok := ho y (List.mem_of_getElem? hy)
    simp only [graph_Check_l1, hk2, decide_true, cond_true, getI_nat, hx, Option.bind_some, or_some]
    unfold okEdge at hok
    rw [show (decide (y.From < 0) || (decide (r.Nodes ≤ y.From) || (decide (y.To < 0) || decide (r.Nodes ≤ y.To)))) = false by simp; omega]
    rfl
def roadE (r : T_api_Road) : Int := bif (decide (r.Nodes < 1) || decide (64 < r.Nodes)) then 1 else bif decide ((512 : Int) < (r.Edges.length : Nat)) then 8 else
  match firstI (fun _ x => edgeE r x) (.inl ()) 0 r.Edges with | .inl _ => 0 | .inr e => e
theorem ref19_Check_eq (r : T_api_Road) (hn : r.Edges.length ≤ 600) : recyclingref19_Check r = some (roadE r) := by
  unfold recyclingref19_Check roadE
  simp only [or_some, Option.bind_some]
  rw [ref19_l1 r hn _ (by simp)]
  generalize (decide (r.Nodes < 1) || _) = a
  generalize decide ((512 : Int) < (r.Edges.length : Nat)) = b
  generalize firstI (fun _ x => edgeE r x) (.inl ()) 0 r.Edges = o
  cases a <;> cases b <;> cases o <;> rfl
theorem roadE_zero {r : T_api_Road} (h : roadE r = 0) : 1 ≤ r.Nodes ∧ r.Nodes ≤ 64 ∧ r.Edges.length ≤ 512 ∧ ∀ x ∈ r.Edges, okEdge r x := by
  unfold roadE at h
  simp only [cond_eq_ite, Bool.or_eq_true, decide_eq_true_eq] at h
  split at h
  · cases h
  · split at h
    · cases h
    · refine ⟨by omega, by omega, by omega, fun x hx => ?_⟩
      obtain ⟨i, hi⟩ := List.getElem?_of_mem hx
      rcases firstI_cases (step := fun _ x => edgeE r x) (fin := (.inl () : Unit ⊕ Int)) r.Edges 0 with ⟨h1, _⟩ | ⟨j, y, o, h1, h2, h3, _⟩
      · exact edgeE_none (h1 i x hi)
      · rw [h3] at h
        obtain ⟨e, rfl, he⟩ := edgeE_some h2
        exact absurd h he
theorem road_Check_eq (r : T_api_Road) (hn : r.Edges.length ≤ 600) : road_Check r = some (roadE r) := by
  by_cases hz : roadE r = 0
  · obtain ⟨h1, h2, h3, h4⟩ := roadE_zero hz
    unfold road_Check
    rw [hz]
    have e1 : road_Check_l1 r = recyclingref19_Check_l1 r := rfl
    rw [e1, ref19_l1 r hn _ (by simp)]
    simp only [or_some, Option.bind_some]
    rw [show (decide (r.Nodes < 1) || decide (64 < r.Nodes)) = false by simp; omega]
    simp only [cond_false]
    rw [show decide ((512 : Int) < (r.Edges.length : Nat)) = false by simp; omega]
    simp only [cond_false]
    have : firstI (fun _ x => edgeE r x) (.inl () : Unit ⊕ Int) 0 r.Edges = .inl () := by
      refine firstI_none _ _ fun i x hx => ?_
      have := h4 x (List.mem_of_getElem? hx)
      unfold okEdge at this
      unfold edgeE
      rw [show (decide (x.From < 0) || (decide (r.Nodes ≤ x.From) || (decide (x.To < 0) || decide (r.Nodes ≤ x.To)))) = false by simp; omega, show (decide (x.From = x.To) || (decide (x.Meters < 1) || (decide (100000 < x.Meters) || (decide (x.Secs < 1) || decide (100000 < x.Secs))))) = false by simp; omega]
      rfl
    rw [this]
    simp only [osum, network_eq r hn, Option.bind_some, graph_ok r h3 h1 h2 h4]
  · have h := ref19_Check_eq r hn
    unfold road_Check
    have e1 : road_Check_l1 r = recyclingref19_Check_l1 r := rfl
    rw [e1, ref19_l1 r hn _ (by simp)]
    unfold roadE at hz ⊢
    simp only [or_some, Option.bind_some]
    generalize (decide (r.Nodes < 1) || _) = a at *
    generalize decide ((512 : Int) < (r.Edges.length : Nat)) = b at *
    generalize firstI (fun _ x => edgeE r x) (.inl ()) 0 r.Edges = o at *
    cases a <;> cases b <;> cases o <;> first | rfl | exact absurd rfl hz
end Go.Proofs.YthpgjbbjpfiniaaGreat
