/- The plain laws of schedules: the collection days. -/
import Derived.Test.YtpcajjnanljajaaSa
namespace Go.Proofs.Ytpcajjnanljajaa
set_option linter.unusedSimpArgs false
set_option linter.unusedVariables false

structure V (s : Sch) : Prop where
  head : Head s
  len : s.Moves.length ≤ 32
  mv : ∀ m ∈ s.Moves, patB s m.From = true ∧ val m.To = true ∧ patB s m.To = false
  tos : (s.Moves.map (·.To)).Nodup

theorem dup_false : ∀ {l seen : List Mv}, dupB seen l = false → l.Pairwise fun a b => a.To ≠ b.To
  | [], _, _ => List.Pairwise.nil
  | x :: r, seen, h => by
    rw [dupB, Bool.or_eq_false_iff] at h
    have key : ∀ {l seen : List Mv}, dupB seen l = false → ∀ y ∈ l, ∀ z ∈ seen, z.To ≠ y.To := by
      intro l
      induction l with
      | nil => intro _ _ y hy; cases hy
      | cons a q ih =>
        intro seen h y hy z hz
        rw [dupB, Bool.or_eq_false_iff] at h
        rcases List.mem_cons.1 hy with rfl | hy
        · have := List.any_eq_false.1 h.1 z hz
          simp only [clash, decide_eq_true_eq, not_or] at this
          exact fun e => this.2 e.symm
        · exact ih h.2 y hy z (by simp [hz])
    exact List.Pairwise.cons (fun y hy => key h.2 y hy x (by simp)) (dup_false h.2)
theorem V.of {s : Sch} (h : chk s = 0) : V s := by
  unfold chk at h
  split at h
  · cases h
  · rename_i hh
    have hh := Classical.not_not.1 hh
    split at h
    · cases h
    · rename_i h32
      split at h
      · rename_i e he
        obtain ⟨m, _, hm⟩ := List.exists_of_findSome?_eq_some he
        unfold mvErr at hm
        split at hm
        · injection hm with hm; omega
        · split at hm
          · injection hm with hm; omega
          · split at hm
            · injection hm with hm; omega
            · cases hm
      · rename_i he
        split at h
        · cases h
        · rename_i hd
          refine ⟨hh, by omega, fun m hm => ?_, ?_⟩
          · have := List.findSome?_eq_none_iff.1 he m hm
            unfold mvErr at this
            split at this
            · cases this
            · split at this
              · cases this
              · split at this
                · cases this
                · rename_i h1 h2 h3
                  exact ⟨by simpa using h1, by simpa using h2, by simpa using h3⟩
          · rw [List.Nodup, List.pairwise_map]
            exact dup_false (by simpa using hd)

def toB (s : Sch) (d : Int) : Bool := s.Moves.any fun m => decide (m.To = d)
def fromB (s : Sch) (d : Int) : Bool := s.Moves.any fun m => decide (m.From = d)
def dayB (s : Sch) (d : Int) : Bool := toB s d || (patB s d && !fromB s d)
theorem not_both {s : Sch} (h : V s) {d : Int} (h1 : toB s d = true) (h2 : fromB s d = true) : False := by
  obtain ⟨m, hm, hm1⟩ := List.any_eq_true.1 h1
  obtain ⟨k, hk, hk1⟩ := List.any_eq_true.1 h2
  simp only [decide_eq_true_eq] at hm1 hk1
  have a := (h.mv m hm).2.2
  have b := (h.mv k hk).1
  rw [hm1] at a
  rw [hk1, a] at b
  cases b

/-! the reference's day -/
theorem fold_day (d : Int) : ∀ (l : List Mv) (is : Bool), (∀ x ∈ l, ∀ y ∈ l, ¬ (x.To = d ∧ y.From = d)) →
    each (fun (is : Bool) (x : Mv) => (.inl (if x.To = d then true else if x.From = d then false else is) : Bool ⊕ Bool)) (fun is => is) l is = if (l.any fun m => decide (m.To = d)) = true then true else if (l.any fun m => decide (m.From = d)) = true then false else is
  | [], is, _ => rfl
  | x :: r, is, h => by
    have ih := fun is => fold_day d r is fun a ha b hb => h a (by simp [ha]) b (by simp [hb])
    simp only [each, ih, List.any_cons]
    by_cases h1 : x.To = d
    · have h2 : (r.any fun m => decide (m.From = d)) = false := by
        rw [List.any_eq_false]
        intro y hy
        simp only [decide_eq_true_eq]
        exact fun e => h x (by simp) y (by simp [hy]) ⟨h1, e⟩
      simp [h1, h2]
    · by_cases h2 : x.From = d
      · have h3 : (r.any fun m => decide (m.To = d)) = false := by
          rw [List.any_eq_false]
          intro y hy
          simp only [decide_eq_true_eq]
          exact fun e => h y (by simp [hy]) x (by simp) ⟨e, h2⟩
        simp [h1, h2, h3]
      · simp [h1, h2]
theorem noclash {s : Sch} (h : V s) (d : Int) : ∀ x ∈ s.Moves, ∀ y ∈ s.Moves, ¬ (x.To = d ∧ y.From = d) := fun x hx y hy ⟨h1, h2⟩ =>
  not_both h (List.any_eq_true.2 ⟨x, hx, by simpa using h1⟩) (List.any_eq_true.2 ⟨y, hy, by simpa using h2⟩)
theorem rday_eq {s : Sch} (h : V s) (d : Int) : recyclingref17_day s d = some (dayB s d) := by
  have hl := h.len
  unfold recyclingref17_day
  rw [Pattern_eq h.head, Option.bind_some]
  have hb : ∀ (k : Nat) (x : Mv) (is : Bool), s.Moves[k]? = some x → recyclingref17_day_l1 s d (is, (k : Int)) = some (mapL (fun is => (is, w64 ((k : Int) + 1))) (.inl (if x.To = d then true else if x.From = d then false else is) : Bool ⊕ Bool)) := by
    intro k x is hx
    have hk : ((k : Int) < (s.Moves.length : Nat)) := by have := lt_of_get hx; omega
    simp only [recyclingref17_day_l1, oun, hk, decide_true, cond_true, getI_nat, hx, Option.bind_some]
    by_cases h1 : x.From = d <;> by_cases h2 : x.To = d <;> simp [h1, h2]
  rw [iter_each s.Moves (fun (is : Bool) k => (is, k)) _ (fun is => is) (fun _ _ => True) (by omega) (fun k x is hx _ => ⟨hb k x is hx, fun _ _ => trivial⟩) (fun is _ => by simp [recyclingref17_day_l1, oun]) _ _ trivial (by simp), Option.bind_some, fold_day d _ _ (noclash h d)]
  unfold dayB toB fromB
  cases ht : (s.Moves.any fun m => decide (m.To = d)) <;> cases hf : (s.Moves.any fun m => decide (m.From = d)) <;> simp

/-! what is held -/
theorem held_get (d : Int) : ∀ (l : List Mv) (m : List (Int × Bool)), (∀ x ∈ l, ∀ y ∈ l, ¬ (x.To = d ∧ y.From = d)) →
    mget d (each (fun (m : List (Int × Bool)) (x : Mv) => (.inl (mput x.To true (mput x.From false m)) : _ ⊕ List (Int × Bool))) (fun m => m) l m) = if (l.any fun m => decide (m.To = d)) = true then some true else if (l.any fun m => decide (m.From = d)) = true then some false else mget d m
  | [], m, _ => rfl
  | x :: r, m, h => by
    have ih := fun m => held_get d r m fun a ha b hb => h a (by simp [ha]) b (by simp [hb])
    simp only [each, ih, List.any_cons, mget_mput]
    by_cases h1 : x.To = d
    · have h2 : (r.any fun m => decide (m.From = d)) = false := by
        rw [List.any_eq_false]
        intro y hy
        simp only [decide_eq_true_eq]
        exact fun e => h x (by simp) y (by simp [hy]) ⟨h1, e⟩
      simp [h1, h2]
    · by_cases h2 : x.From = d
      · have h3 : (r.any fun m => decide (m.To = d)) = false := by
          rw [List.any_eq_false]
          intro y hy
          simp only [decide_eq_true_eq]
          exact fun e => h y (by simp [hy]) x (by simp) ⟨e, h2⟩
        simp [h1, h2, h3]
      · simp [h1, h2]
def heldM (s : Sch) : List (Int × Bool) := each (fun (m : List (Int × Bool)) (x : Mv) => (.inl (mput x.To true (mput x.From false m)) : _ ⊕ List (Int × Bool))) (fun m => m) s.Moves []
theorem held_eq {s : Sch} (h : V s) : schedule_held s = some (heldM s) := by
  have hl := h.len
  unfold schedule_held
  have hb : ∀ (k : Nat) (x : Mv) (m : List (Int × Bool)), s.Moves[k]? = some x → schedule_held_l1 s (m, (k : Int)) = some (mapL (fun m => (m, w64 ((k : Int) + 1))) (.inl (mput x.To true (mput x.From false m)) : _ ⊕ List (Int × Bool))) := by
    intro k x m hx
    have hk : ((k : Int) < (s.Moves.length : Nat)) := by have := lt_of_get hx; omega
    simp only [schedule_held_l1, oun, hk, decide_true, cond_true, getI_nat, hx, Option.bind_some, mapL_inl]
  rw [iter_each s.Moves (fun (m : List (Int × Bool)) k => (m, k)) _ (fun m => m) (fun _ _ => True) (by omega) (fun k x m hx _ => ⟨hb k x m hx, fun _ _ => trivial⟩) (fun m _ => by simp [schedule_held_l1, oun]) _ _ trivial (by simp)]
  rfl
theorem due_eq {s : Sch} (h : V s) (d : Int) : schedule_due s (heldM s) d = some (dayB s d) := by
  unfold schedule_due
  rw [heldM, held_get d _ _ (noclash h d), pattern_eq h.head]
  unfold dayB toB fromB
  cases ht : (s.Moves.any fun m => decide (m.To = d)) <;> cases hf : (s.Moves.any fun m => decide (m.From = d)) <;> simp [mget]

/-! days in steps -/
def pl (E b : Int) : Nat → Int → List Int
  | 0, _ => []
  | n + 1, d => if d < b then d :: pl E b n (d + E) else []
theorem mem_pl {E b : Int} (hE : 1 ≤ E) : ∀ {n : Nat} {d x : Int}, (b - d).toNat ≤ n → (x ∈ pl E b n d ↔ ∃ j : Nat, x = d + j * E ∧ x < b)
  | 0, d, x, h => by
    simp only [pl, List.not_mem_nil, false_iff, not_exists, not_and]
    intro j e
    have : 0 ≤ (j : Int) * E := Int.mul_nonneg (by omega) (by omega)
    omega
  | n + 1, d, x, h => by
    rw [pl]
    by_cases hd : d < b
    · rw [if_pos hd, List.mem_cons, mem_pl hE (n := n) (by omega)]
      constructor
      · rintro (rfl | ⟨j, rfl, hj⟩)
        · exact ⟨0, by simp, hd⟩
        · exact ⟨j + 1, by rw [Int.natCast_add, Int.add_mul]; simp; omega, hj⟩
      · rintro ⟨j, rfl, hj⟩
        cases j with
        | zero => left; simp
        | succ j => right; exact ⟨j, by rw [Int.natCast_add, Int.add_mul]; simp; omega, hj⟩
    · rw [if_neg hd]
      simp only [List.not_mem_nil, false_iff, not_exists, not_and]
      intro j e
      have : 0 ≤ (j : Int) * E := Int.mul_nonneg (by omega) (by omega)
      omega
theorem pl_sorted {E b : Int} (hE : 1 ≤ E) : ∀ (n : Nat) (d : Int), (pl E b n d).Pairwise (· < ·) ∧ ∀ x ∈ pl E b n d, d ≤ x
  | 0, d => ⟨List.Pairwise.nil, by simp [pl]⟩
  | n + 1, d => by
    rw [pl]
    split
    · obtain ⟨h1, h2⟩ := pl_sorted hE (b := b) n (d + E)
      refine ⟨List.Pairwise.cons (fun x hx => by have := h2 x hx; omega) h1, fun x hx => ?_⟩
      rcases List.mem_cons.1 hx with rfl | hx
      · omega
      · have := h2 x hx; omega
    · exact ⟨List.Pairwise.nil, by simp⟩
theorem length_pl (E b : Int) : ∀ (n : Nat) (d : Int), (pl E b n d).length ≤ n
  | 0, d => by simp [pl]
  | n + 1, d => by
    rw [pl]
    split
    · have := length_pl E b n (d + E)
      simp; omega
    · simp
def days (s : Sch) (a b : Int) : List Int := (pl 1 b 36525 a).filter (dayB s)
theorem mem_days {s : Sch} {a b x : Int} (ha : 0 ≤ a) (hb : b ≤ 36525) : x ∈ days s a b ↔ (a ≤ x ∧ x < b) ∧ dayB s x = true := by
  unfold days
  rw [List.mem_filter, mem_pl (by omega) (by omega)]
  constructor
  · rintro ⟨⟨j, rfl, h⟩, h2⟩
    exact ⟨⟨by omega, h⟩, h2⟩
  · rintro ⟨⟨h1, h2⟩, h3⟩
    exact ⟨⟨(x - a).toNat, by omega, h2⟩, h3⟩
theorem days_lt (s : Sch) (a b : Int) : (days s a b).Pairwise (· < ·) := (pl_sorted (by omega) _ _).1.filter _
theorem length_days (s : Sch) (a b : Int) : (days s a b).length ≤ 36525 := Nat.le_trans (List.length_filter_le _ _) (length_pl _ _ _ _)

/-- The reference's loop over days. -/
theorem rdays_loop {s : Sch} (h : V s) {b : Int} (hb : b ≤ 36525) {a : Int} (ha : 0 ≤ a) {F : Nat} (hF : 36526 ≤ F) : iter (recyclingref17_Days_l1 s b) F ([], a) = some (days s a b) := by
  refine iter_rel (fun n t o => ∃ (out : List Int) (d : Int), t = (out, d) ∧ 0 ≤ d ∧ (b - d).toNat ≤ n ∧ n ≤ 36525 ∧ out.length + n ≤ 36525 ∧ out ++ (pl 1 b n d).filter (dayB s) = o) ?_ F 36525 _ _ ⟨[], a, rfl, ha, by omega, by omega, by simp, rfl⟩ (by omega)
  rintro n _ o ⟨out, d, rfl, hd, hn, hn2, hl, ho⟩
  by_cases hdb : d < b
  · obtain ⟨n, rfl⟩ : ∃ k, n = k + 1 := ⟨n - 1, by omega⟩
    rw [pl, if_pos hdb] at ho
    have hw : w64 (d + 1) = d + 1 := w64_eq (by omega) (by omega)
    left
    cases hday : dayB s d with
    | true =>
      rw [List.filter_cons_of_pos hday] at ho
      refine ⟨(out ++ [d], d + 1), n, ?_, by omega, out ++ [d], d + 1, rfl, by omega, by omega, by omega, by simp; omega, by rw [← ho]; simp⟩
      simp only [recyclingref17_Days_l1, oun, hdb, decide_true, cond_true, rday_eq h, hday, Option.bind_some, appO_eq (show out.length + [d].length ≤ 1000000 by simp; omega), hw]
    | false =>
      rw [List.filter_cons_of_neg (by rw [hday]; simp)] at ho
      refine ⟨(out, d + 1), n, ?_, by omega, out, d + 1, rfl, by omega, by omega, by omega, by omega, ho⟩
      simp only [recyclingref17_Days_l1, oun, hdb, decide_true, cond_true, rday_eq h, hday, Option.bind_some, cond_false, hw]
  · right
    have e : (pl 1 b n d).filter (dayB s) = [] := by
      cases n with
      | zero => rfl
      | succ n => rw [pl, if_neg hdb]; rfl
    rw [e, List.append_nil] at ho
    simp only [recyclingref17_Days_l1, oun, hdb, decide_false, cond_false, ho]

/-! the program's days -/
theorem pat_iff {s : Sch} (h : Head s) {d : Int} : patB s d = true ↔ (0 ≤ d ∧ d ≤ 36524) ∧ ∃ j : Nat, d = s.Start + j * s.Every := by
  have h1 := h.hs; have h2 := h.he
  unfold patB
  rw [decide_eq_true_iff]
  constructor
  · rintro ⟨h3, h4, h5⟩
    refine ⟨h3, ((d - s.Start) / s.Every).toNat, ?_⟩
    rw [Int.tmod_eq_emod_of_nonneg (by omega)] at h5
    have h6 := Int.mul_ediv_add_emod (d - s.Start) s.Every
    rw [h5] at h6
    have h7 : 0 ≤ (d - s.Start) / s.Every := Int.ediv_nonneg (by omega) (by omega)
    have h8 : ((((d - s.Start) / s.Every).toNat : Nat) : Int) = (d - s.Start) / s.Every := Int.toNat_of_nonneg h7
    rw [h8, Int.mul_comm]; omega
  · rintro ⟨h3, j, h4⟩
    have h5 : 0 ≤ (j : Int) * s.Every := Int.mul_nonneg (by omega) (by omega)
    refine ⟨h3, by omega, ?_⟩
    have : d - s.Start = j * s.Every := by omega
    rw [this, Int.tmod_eq_emod_of_nonneg h5]
    exact Int.mul_emod_left _ _
theorem first_at {S E a : Int} (hE : 1 ≤ E) (ha : S < a) : ∃ c : Nat, Int.tdiv (a - S + E - 1) E = c ∧ a ≤ S + c * E ∧ S + (c - 1) * E < a := by
  have h0 : 0 ≤ a - S + E - 1 := by omega
  have h1 : 0 ≤ (a - S + E - 1) / E := Int.ediv_nonneg h0 (by omega)
  refine ⟨((a - S + E - 1) / E).toNat, ?_, ?_, ?_⟩
  · rw [Int.tdiv_eq_ediv_of_nonneg h0]; omega
  · rw [Int.toNat_of_nonneg h1]
    have h2 := Int.mul_ediv_add_emod (a - S + E - 1) E
    have h3 := Int.emod_lt_of_pos (a - S + E - 1) (show 0 < E by omega)
    rw [Int.mul_comm] at h2
    omega
  · rw [Int.toNat_of_nonneg h1, Int.sub_mul]
    have h2 := Int.mul_ediv_add_emod (a - S + E - 1) E
    have h3 := Int.emod_nonneg (a - S + E - 1) (show E ≠ 0 by omega)
    rw [Int.mul_comm] at h2
    omega
theorem days_loop1 {s : Sch} (h : V s) {b : Int} (hb : b ≤ 36525) {a : Int} (ha : 0 ≤ a) {F : Nat} (hF : 36526 ≤ F) : iter (schedule_Days_l1 s b (heldM s)) F ([], a) = some ((pl s.Every b 36525 a).filter (dayB s)) := by
  have he := h.head.he
  refine iter_rel (fun n t o => ∃ (out : List Int) (d : Int), t = (out, d) ∧ 0 ≤ d ∧ (b - d).toNat ≤ n ∧ n ≤ 36525 ∧ out.length + n ≤ 36525 ∧ out ++ (pl s.Every b n d).filter (dayB s) = o) ?_ F 36525 _ _ ⟨[], a, rfl, ha, by omega, by omega, by simp, rfl⟩ (by omega)
  rintro n _ o ⟨out, d, rfl, hd, hn, hn2, hl, ho⟩
  by_cases hdb : d < b
  · obtain ⟨n, rfl⟩ : ∃ k, n = k + 1 := ⟨n - 1, by omega⟩
    rw [pl, if_pos hdb] at ho
    have hw : w64 (d + s.Every) = d + s.Every := w64_eq (by omega) (by omega)
    left
    cases hday : dayB s d with
    | true =>
      rw [List.filter_cons_of_pos hday] at ho
      refine ⟨(out ++ [d], d + s.Every), n, ?_, by omega, out ++ [d], d + s.Every, rfl, by omega, by omega, by omega, by simp; omega, by rw [← ho]; simp⟩
      simp only [schedule_Days_l1, oun, hdb, decide_true, cond_true, due_eq h, hday, Option.bind_some, appO_eq (show out.length + [d].length ≤ 1000000 by simp; omega), hw]
    | false =>
      rw [List.filter_cons_of_neg (by rw [hday]; simp)] at ho
      refine ⟨(out, d + s.Every), n, ?_, by omega, out, d + s.Every, rfl, by omega, by omega, by omega, by omega, ho⟩
      simp only [schedule_Days_l1, oun, hdb, decide_true, cond_true, due_eq h, hday, Option.bind_some, cond_false, hw]
  · right
    have e : (pl s.Every b n d).filter (dayB s) = [] := by
      cases n with
      | zero => rfl
      | succ n => rw [pl, if_neg hdb]; rfl
    rw [e, List.append_nil] at ho
    simp only [schedule_Days_l1, oun, hdb, decide_false, cond_false, ho]
theorem each_app (a b : Int) : ∀ (l : List Mv) (out : List Int),
    each (fun (out : List Int) (x : Mv) => (.inl (if a ≤ x.To ∧ x.To < b then out ++ [x.To] else out) : List Int ⊕ List Int)) (fun out => out) l out = out ++ (l.map (·.To)).filter fun t => decide (a ≤ t ∧ t < b)
  | [], out => by simp [each]
  | x :: r, out => by
    simp only [each, each_app a b r, List.map_cons]
    by_cases h : a ≤ x.To ∧ x.To < b
    · rw [if_pos h, List.filter_cons_of_pos (by simpa using h)]; simp
    · rw [if_neg h, List.filter_cons_of_neg (by simpa using h)]
theorem days_loop2 {s : Sch} (hl : s.Moves.length ≤ 32) (a b : Int) (out : List Int) (ho : out.length ≤ 36525) : iter (schedule_Days_l2 s a b) (((s.Moves.length : Nat) : Int).toNat + 1) (out, 0) = some (out ++ (s.Moves.map (·.To)).filter fun t => decide (a ≤ t ∧ t < b)) := by
  have hb : ∀ (k : Nat) (x : Mv) (out : List Int), s.Moves[k]? = some x → out.length ≤ 36525 + k → schedule_Days_l2 s a b (out, (k : Int)) = some (mapL (fun out => (out, w64 ((k : Int) + 1))) (.inl (if a ≤ x.To ∧ x.To < b then out ++ [x.To] else out) : List Int ⊕ List Int)) := by
    intro k x out hx hlen
    have hk2 := lt_of_get hx
    have hk : ((k : Int) < (s.Moves.length : Nat)) := by omega
    simp only [schedule_Days_l2, oun, hk, decide_true, cond_true, getI_nat, hx, Option.bind_some, mapL_inl]
    by_cases h1 : a ≤ x.To
    · by_cases h2 : x.To < b
      · simp [h1, h2, appO_eq (show out.length + [x.To].length ≤ 1000000 by simp; omega)]
      · simp [h1, h2]
    · simp [h1]
  rw [iter_each s.Moves (fun (out : List Int) k => (out, k)) _ (fun out => out) (fun out k => out.length ≤ 36525 + k) (by omega) (fun k x out hx hI => ⟨hb k x out hx hI, fun s' hs => ?_⟩) (fun out _ => by simp [schedule_Days_l2, oun]) _ _ (by omega) (by simp), each_app]
  injection hs with hs
  rw [← hs]
  split
  · simp; omega
  · omega
theorem nodup_lt {l : List Int} (h : l.Pairwise (· < ·)) : l.Nodup := h.imp fun h e => by omega
theorem perm_of_mem {a b : List Int} (ha : a.Nodup) (hb : b.Nodup) (h : ∀ x, x ∈ a ↔ x ∈ b) : a.Perm b := (List.perm_ext_iff_of_nodup ha hb).2 h
theorem days_perm {s : Sch} (h : V s) {a b f : Int} (ha : 0 ≤ a) (hab : a ≤ b) (hb : b ≤ 36525) (hf : ∃ c : Nat, f = s.Start + c * s.Every ∧ a ≤ f ∧ (c = 0 ∨ s.Start + ((c : Int) - 1) * s.Every < a)) :
    ((pl s.Every b 36525 f).filter (dayB s) ++ (s.Moves.map (·.To)).filter fun t => decide (a ≤ t ∧ t < b)).Perm (days s a b) := by
  have he := h.head.he; have hs := h.head.hs
  obtain ⟨c, rfl, hf1, hf2⟩ := hf
  have hce : 0 ≤ (c : Int) * s.Every := Int.mul_nonneg (by omega) (by omega)
  have hpat : ∀ x, x ∈ pl s.Every b 36525 (s.Start + c * s.Every) ↔ (a ≤ x ∧ x < b) ∧ patB s x = true := by
    intro x
    rw [mem_pl (by omega) (by omega), pat_iff h.head]
    constructor
    · rintro ⟨j, rfl, h1⟩
      have : 0 ≤ (j : Int) * s.Every := Int.mul_nonneg (by omega) (by omega)
      exact ⟨⟨by omega, h1⟩, ⟨by omega, by omega⟩, c + j, by rw [Int.natCast_add, Int.add_mul]; omega⟩
    · rintro ⟨⟨h1, h2⟩, _, j, rfl⟩
      have hcj : c ≤ j := by
        rcases Nat.lt_or_ge j c with hlt | hge
        · rcases hf2 with rfl | hf2
          · omega
          · have : (j : Int) * s.Every ≤ ((c : Int) - 1) * s.Every := Int.mul_le_mul_of_nonneg_right (by omega) (by omega)
            omega
        · exact hge
      refine ⟨j - c, ?_, h2⟩
      have : (((j - c : Nat) : Int)) = (j : Int) - c := by omega
      rw [this, Int.sub_mul]; omega
  have hto : ∀ x, x ∈ s.Moves.map (·.To) ↔ toB s x = true := by
    intro x
    simp [toB, List.mem_map, List.any_eq_true]
  refine perm_of_mem ?_ (nodup_lt (days_lt s a b)) fun x => ?_
  · rw [List.nodup_append]
    refine ⟨(nodup_lt (pl_sorted (by omega) _ _).1).filter _, h.tos.filter _, fun x hx y hy e => ?_⟩
    subst e
    rw [List.mem_filter] at hx hy
    have h1 := ((hpat x).1 hx.1).2
    obtain ⟨m, hm, rfl⟩ := List.mem_map.1 hy.1
    rw [(h.mv m hm).2.2] at h1
    cases h1
  · rw [List.mem_append, List.mem_filter, List.mem_filter, mem_days ha hb, hpat, hto]
    simp only [decide_eq_true_eq]
    constructor
    · rintro (⟨⟨h1, _⟩, h2⟩ | ⟨h1, h2⟩)
      · exact ⟨h1, h2⟩
      · exact ⟨h2, by unfold dayB; rw [h1]; rfl⟩
    · rintro ⟨h1, h2⟩
      by_cases ht : toB s x = true
      · exact .inr ⟨ht, h1⟩
      · left
        refine ⟨⟨h1, ?_⟩, h2⟩
        unfold dayB at h2
        rw [show toB s x = false by simpa using ht, Bool.false_or, Bool.and_eq_true] at h2
        exact h2.1
theorem isort_days {s : Sch} {l : List Int} {a b : Int} (h : l.Perm (days s a b)) : isort l = days s a b :=
  sorted_unique ((isort_perm l).trans h) (isort_sorted l) ((days_lt s a b).imp fun h => by omega)

def winBad (a b : Int) : Bool := decide (a < 0 ∨ b < a ∨ 36525 < b)
theorem win_eq (a b : Int) : (bif (decide (a < 0)) then some true else bif (decide (b < a)) then some true else some (decide (36525 < b))) = some (winBad a b) := by
  unfold winBad
  by_cases h1 : a < 0 <;> by_cases h2 : b < a <;> by_cases h3 : 36525 < b <;> simp [h1, h2, h3]
def daysR (s : Sch) (a b : Int) : List Int × Int := if chk s ≠ 0 then ([], chk s) else if winBad a b = true then ([], 1) else (days s a b, 0)
theorem RDays_eq (s : Sch) (hl : s.Moves.length ≤ 200) {F : Nat} (hF : 36526 ≤ F) (a b : Int) : recyclingref17_Days F s a b = some (daysR s a b) := by
  unfold recyclingref17_Days daysR
  rw [RCheck_eq s hl, Option.bind_some]
  by_cases hc : chk s = 0
  · simp only [hc, decide_true, Bool.not_true, cond_false, ne_eq, not_true_eq_false, if_false, win_eq, Option.bind_some]
    cases hw : winBad a b with
    | true => simp
    | false =>
      have hw' : ¬ (a < 0 ∨ b < a ∨ 36525 < b) := by simpa [winBad] using hw
      simp only [cond_false, Bool.false_eq_true, if_false]
      rw [rdays_loop (V.of hc) (by omega) (by omega) hF, Option.bind_some]
  · simp [hc]
theorem Days_eq (s : Sch) (hl : s.Moves.length ≤ 200) {F : Nat} (hF : 36526 ≤ F) (a b : Int) : schedule_Days F s a b = some (daysR s a b) := by
  unfold schedule_Days daysR
  rw [Check_eq s hl, Option.bind_some]
  by_cases hc : chk s = 0
  · have hv := V.of hc
    have he := hv.head.he; have hs := hv.head.hs
    simp only [hc, decide_true, Bool.not_true, cond_false, ne_eq, not_true_eq_false, if_false, win_eq, Option.bind_some]
    cases hw : winBad a b with
    | true => simp
    | false =>
      have hw' : ¬ (a < 0 ∨ b < a ∨ 36525 < b) := by simpa [winBad] using hw
      simp only [cond_false, Bool.false_eq_true, if_false, held_eq hv, Option.bind_some]
      have key : ∀ f : Int, 0 ≤ f → (∃ c : Nat, f = s.Start + c * s.Every ∧ a ≤ f ∧ (c = 0 ∨ s.Start + ((c : Int) - 1) * s.Every < a)) →
          ((iter (schedule_Days_l1 s b (heldM s)) F ([], f)).bind fun out3 => (iter (schedule_Days_l2 s a b) (((s.Moves.length : Nat) : Int).toNat + 1) (out3, 0)).bind fun out6 => (sortO out6).bind fun l3 => some (l3, (0 : Int))) = some (days s a b, 0) := by
        intro f hf0 hf
        have hlen : ((pl s.Every b 36525 f).filter (dayB s)).length ≤ 36525 := Nat.le_trans (List.length_filter_le _ _) (length_pl _ _ _ _)
        rw [days_loop1 hv (by omega) hf0 hF, Option.bind_some, days_loop2 hv.len a b _ hlen, Option.bind_some]
        have hp := days_perm hv (a := a) (b := b) (f := f) (by omega) (by omega) (by omega) hf
        have hln := hp.length_eq
        have hld := length_days s a b
        rw [sortO, if_pos (by omega), Option.bind_some, isort_days hp]
      by_cases hlt : s.Start < a
      · obtain ⟨c, h1, h2, h3⟩ := first_at (E := s.Every) (by omega) hlt
        have h4 : (c : Int) * s.Every ≤ a - s.Start + s.Every - 1 := by rw [Int.sub_mul] at h3; omega
        have h5 : (c : Int) ≤ c * s.Every := by
          have := Int.mul_le_mul_of_nonneg_left (show (1 : Int) ≤ s.Every by omega) (show (0 : Int) ≤ c by omega)
          simpa using this
        simp only [hlt, decide_true, cond_true, guardO_eq (show s.Every ≠ 0 by omega), Option.bind_some]
        rw [w64_eq (n := a - s.Start) (by omega) (by omega), w64_eq (n := a - s.Start + s.Every) (by omega) (by omega), w64_eq (n := a - s.Start + s.Every - 1) (by omega) (by omega), h1, w64_eq (n := (c : Int)) (by omega) (by omega),
          w64_eq (n := (c : Int) * s.Every) (by omega) (by omega), w64_eq (n := s.Start + (c : Int) * s.Every) (by omega) (by omega)]
        exact key _ (by omega) ⟨c, rfl, h2, .inr h3⟩
      · simp only [hlt, decide_false, cond_false, Option.bind_some]
        exact key _ (by omega) ⟨0, by simp, by omega, .inl rfl⟩
  · simp [hc]

end Go.Proofs.Ytpcajjnanljajaa
