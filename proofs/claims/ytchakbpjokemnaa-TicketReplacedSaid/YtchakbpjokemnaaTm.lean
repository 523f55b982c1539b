/- Tickets: a correction that changes nothing. -/
import Derived.Test.YtchakbpjokemnaaTl
namespace Go.Proofs.Ytchakbpjokemnaa
set_option linter.unusedSimpArgs false
set_option linter.unusedVariables false

/-! an ID that no ticket has -/
theorem pigeon : ∀ (n : Nat) (a : Int) (L : List Int), (∀ v, a ≤ v → v < a + n → v ∈ L) → n ≤ L.length
  | 0, _, _, _ => Nat.zero_le _
  | n + 1, a, L, h => by
    have hm := h (a + n) (by omega) (by omega)
    have ih := pigeon n a (L.erase (a + n)) fun v h1 h2 => (List.mem_erase_of_ne (by omega)).2 (h v h1 (by omega))
    rw [List.length_erase_of_mem hm] at ih
    have : 0 < L.length := List.length_pos_of_mem hm
    omega
def upd (id : Int) (x : Tk) : Int := if x.ID = id then id - 1 else id
structure Dn (l : List Tk) (id : Int) : Prop where
  le : id ≤ 1000000
  all : ∀ v, id < v → v ≤ 1000000 → v ∈ l.map (·.ID)
theorem Dn.low {l : List Tk} {id : Int} (h : Dn l id) : 1000000 - (l.length : Nat) ≤ id := by
  have := pigeon (1000000 - id).toNat (id + 1) (l.map (·.ID)) fun v h1 h2 => h.all v (by omega) (by have := h.le; omega)
  rw [List.length_map] at this
  omega
theorem upd_fold {l : List Tk} : ∀ (r : List Tk) (id : Int), (∀ x ∈ r, x ∈ l) → Dn l id → Dn l (r.foldl upd id) ∧ r.foldl upd id ≤ id ∧ (id ∈ r.map (·.ID) → r.foldl upd id < id) ∧ (id ∉ r.map (·.ID) → r.foldl upd id = id)
  | [], id, _, h => ⟨h, Int.le_refl _, by simp, fun _ => rfl⟩
  | x :: r, id, hr, h => by
    rw [List.foldl_cons]
    by_cases hx : x.ID = id
    · have hu : upd id x = id - 1 := by simp [upd, hx]
      have hd : Dn l (id - 1) := ⟨by have := h.le; omega, fun v h1 h2 => by
        by_cases hv : v = id
        · rw [hv, ← hx]; exact List.mem_map.2 ⟨x, hr x (by simp), rfl⟩
        · exact h.all v (by omega) h2⟩
      obtain ⟨g1, g2, _⟩ := upd_fold r (id - 1) (fun y hy => hr y (by simp [hy])) hd
      rw [hu]
      exact ⟨g1, by omega, fun _ => by omega, fun hn => absurd (by simp [hx]) hn⟩
    · have hu : upd id x = id := by simp [upd, hx]
      obtain ⟨g1, g2, g3, g4⟩ := upd_fold r id (fun y hy => hr y (by simp [hy])) h
      rw [hu]
      refine ⟨g1, g2, fun hm => g3 ?_, fun hn => g4 fun hm => hn (by simp [hm])⟩
      rcases List.mem_cons.1 (by simpa using hm : id ∈ x.ID :: r.map (·.ID)) with e | e
      · exact absurd e.symm hx
      · exact e
def un (l : List Tk) : Nat → Int
  | 0 => 1000000
  | k + 1 => l.foldl upd (un l k)
theorem un_inv (l : List Tk) : ∀ (k : Nat), Dn l (un l k) ∧ (un l k ∉ l.map (·.ID) ∨ un l k ≤ 1000000 - (k : Nat))
  | 0 => ⟨⟨Int.le_refl _, fun v h1 h2 => by simp only [un] at h1; omega⟩, .inr (by simp [un])⟩
  | k + 1 => by
    obtain ⟨h1, h2⟩ := un_inv l k
    obtain ⟨g1, g2, g3, g4⟩ := upd_fold l (un l k) (fun _ h => h) h1
    refine ⟨g1, ?_⟩
    by_cases hm : un l k ∈ l.map (·.ID)
    · right
      have := g3 hm
      rcases h2 with h2 | h2
      · exact absurd hm h2
      · show l.foldl upd (un l k) ≤ _
        omega
    · left
      show l.foldl upd (un l k) ∉ _
      rw [g4 hm]; exact hm
theorem unused_eq (l : List Tk) (hl : l.length ≤ 62) : ∃ u, recyclinglaw27_unused l = some u ∧ 999000 ≤ u ∧ u ≤ 1000000 ∧ ∀ x ∈ l, x.ID ≠ u := by
  have inner : ∀ id, Dn l id → iter (recyclinglaw27_unused_l1 l) (((l.length : Nat) : Int).toNat + 1) (id, 0) = some (l.foldl upd id) := by
    intro id hd
    have := iter_stI (body := recyclinglaw27_unused_l1 l) l (fun k => (l.take k).foldl upd id) (fun m k => (m, k)) (fun _ _ => none) (l.foldl upd id) (by omega) (fun k x hx _ => by
      have hk := lt_of_get hx
      have hk2 : ((k : Int) < (l.length : Nat)) := by omega
      obtain ⟨g1, _⟩ := upd_fold (l.take k) id (fun y hy => List.mem_of_mem_take hy) hd
      have b1 := g1.low; have b2 := g1.le
      simp only [recyclinglaw27_unused_l1, oun, hk2, decide_true, cond_true, getI_nat, hx, Option.bind_some, pickO_none, take_succ' hx, List.foldl_append, List.foldl_cons, List.foldl_nil]
      rw [w64_eq (n := (l.take k).foldl upd id - 1) (by omega) (by omega)]
      by_cases h : x.ID = (l.take k).foldl upd id <;> simp [h, upd]) (fun _ => by simp [recyclinglaw27_unused_l1, oun]) (((l.length : Nat) : Int).toNat + 1) (by simp)
    rw [firstI_none l 0 fun _ _ _ => rfl] at this
    exact this
  have outer := iter_stI (body := recyclinglaw27_unused_l2 l) l (un l) (fun m k => (m, k)) (fun _ _ => none) (un l l.length) (by omega) (fun k x hx _ => by
    have hk := lt_of_get hx
    have hk2 : ((k : Int) < (l.length : Nat)) := by omega
    simp only [recyclinglaw27_unused_l2, oun, hk2, decide_true, cond_true, Option.bind_some, pickO_none, inner _ (un_inv l k).1]
    rfl) (fun _ => by simp [recyclinglaw27_unused_l2, oun]) (((l.length : Nat) : Int).toNat + 1) (by simp)
  rw [firstI_none l 0 fun _ _ _ => rfl] at outer
  obtain ⟨h1, h2⟩ := un_inv l l.length
  have b1 := h1.low; have b2 := h1.le
  have hno : un l l.length ∉ l.map (·.ID) := by
    rcases h2 with h2 | h2
    · exact h2
    · intro hm
      have := pigeon (l.length + 1) (un l l.length) (l.map (·.ID)) fun v g1 g2 => by
        by_cases hv : v = un l l.length
        · rw [hv]; exact hm
        · exact h1.all v (by omega) (by omega)
      rw [List.length_map] at this
      omega
  refine ⟨un l l.length, ?_, by omega, b2, fun x hx he => hno (List.mem_map.2 ⟨x, hx, he⟩)⟩
  unfold recyclinglaw27_unused
  rw [show iter (recyclinglaw27_unused_l2 l) (((l.length : Nat) : Int).toNat + 1) (1000000, 0) = some (un l l.length) from outer]
  rfl

/-! one ticket more -/
theorem get_snoc {α : Type} {l : List α} {y : α} {i : Nat} {x : α} (h : (l ++ [y])[i]? = some x) : l[i]? = some x ∨ (i = l.length ∧ x = y) := by
  rcases Nat.lt_or_ge i l.length with hi | hi
  · rw [List.getElem?_append_left hi] at h; exact .inl h
  · rw [List.getElem?_append_right hi] at h
    cases hk : i - l.length with
    | zero => rw [hk] at h; simp at h; exact .inr ⟨by omega, h.symm⟩
    | succ k => rw [hk] at h; simp at h
section
variable {s : List Sc} {l : List Tk} {a : Nat} {z : Tk} {u : Int}
def new (u : Int) (z : Tk) : Tk := ⟨u, z.Scale, z.At, z.Gross, z.Tare, z.ID⟩
theorem more_valid (v : Vl l) (ha : l[a]? = some z) (hr : rpl l z.ID = false) (hu1 : 1 ≤ u) (hu2 : u ≤ 1000000) (hu : ∀ x ∈ l, x.ID ≠ u) : Vl (l ++ [new u z]) := by
  have hno : ∀ x ∈ l, x.Replaces ≠ z.ID := by
    intro x hx he
    unfold rpl at hr
    rw [List.any_eq_false] at hr
    exact hr x hx (by simp [he])
  have put : ∀ {i : Nat} {x : Tk}, l[i]? = some x → (l ++ [new u z])[i]? = some x := fun h => by rw [List.getElem?_append_left (lt_of_get h)]; exact h
  refine ⟨fun i x hx => ?_, fun i j x y hx hy he => ?_, fun i x hx hr0 => ?_, fun i j x y hx hy hr0 he => ?_⟩
  · rcases get_snoc hx with h | ⟨_, rfl⟩
    · exact v.ids i x h
    · exact ⟨hu1, hu2⟩
  · rcases get_snoc hx with h | ⟨h, rfl⟩ <;> rcases get_snoc hy with h2 | ⟨h2, rfl⟩
    · exact v.uniq i j x y h h2 he
    · exact absurd he (hu x (List.mem_of_getElem? h))
    · exact absurd he.symm (hu y (List.mem_of_getElem? h2))
    · omega
  · rcases get_snoc hx with h | ⟨h, rfl⟩
    · obtain ⟨j, y, h1, h2, h3⟩ := v.par i x h hr0
      exact ⟨j, y, h1, put h2, h3⟩
    · exact ⟨a, z, by have := lt_of_get ha; omega, put ha, rfl⟩
  · rcases get_snoc hx with h | ⟨h, rfl⟩ <;> rcases get_snoc hy with h2 | ⟨h2, rfl⟩
    · exact v.once i j x y h h2 hr0 he
    · exact absurd he (hno x (List.mem_of_getElem? h))
    · exact absurd he.symm (hno y (List.mem_of_getElem? h2))
    · omega
theorem rpl_more (id : Int) : rpl (l ++ [new u z]) id = (rpl l id || decide (z.ID = id)) := by simp [rpl, new]
theorem rpl_u (v : Vl l) (ha : l[a]? = some z) (hu1 : 1 ≤ u) (hu : ∀ x ∈ l, x.ID ≠ u) : rpl (l ++ [new u z]) u = false := by
  rw [rpl_more, Bool.or_eq_false_iff]
  refine ⟨?_, by simpa using hu z (List.mem_of_getElem? ha)⟩
  unfold rpl
  rw [List.any_eq_false]
  intro x hx he
  have he : x.Replaces = u := by simpa using he
  obtain ⟨i, hi⟩ := List.getElem?_of_mem hx
  obtain ⟨j, y, _, h2, h3⟩ := v.par i x hi (by omega)
  exact hu y (List.mem_of_getElem? h2) (by omega)
theorem filter_one {β : Type} {n : Int} : ∀ {m : List (Int × β)}, (m.map Prod.fst).Nodup → n ∈ m.map Prod.fst → (m.filter fun p => !decide (n = p.1)).length + 1 = m.length
  | [], _, h => by cases h
  | p :: m, hn, h => by
    rw [List.map_cons, List.nodup_cons] at hn
    rw [List.filter_cons]
    by_cases hp : n = p.1
    · subst hp
      have : (m.filter fun q => !decide (p.1 = q.1)) = m := by
        rw [List.filter_eq_self]
        intro q hq
        have : p.1 ≠ q.1 := fun he => hn.1 (by rw [he]; exact List.mem_map_of_mem hq)
        simp [this]
      simp [this]
    · have hm : n ∈ m.map Prod.fst := by
        rcases List.mem_cons.1 (by simpa using h : n ∈ p.1 :: m.map Prod.fst) with e | e
        · exact absurd e hp
        · exact e
      have ih := filter_one hn.2 hm
      simp only [hp, decide_false, Bool.not_false, if_true, List.length_cons]
      omega
theorem act_more (v : Vl l) (ha : l[a]? = some z) (hr : rpl l z.ID = false) (hu1 : 1 ≤ u) (hu : ∀ x ∈ l, x.ID ≠ u) : ∃ b, act (l ++ [new u z]) = b ++ [(l.length : Int)] ∧ b.length + 1 = (act l).length := by
  have hu0 := rpl_u v ha hu1 hu
  unfold act
  rw [mp_append, List.filter_append, List.map_append]
  have ht : ((mp (0 + l.length) [new u z]).filter fun p => !rpl (l ++ [new u z]) p.1).map Prod.snd = [(l.length : Int)] := by
    simp only [mp, List.filter_cons, List.filter_nil, show (new u z).ID = u from rfl, hu0, Nat.zero_add]
    rfl
  refine ⟨((mp 0 l).filter fun p => !rpl (l ++ [new u z]) p.1).map Prod.snd, by rw [ht], ?_⟩
  rw [List.length_map, List.length_map]
  have : ((mp 0 l).filter fun p => !rpl (l ++ [new u z]) p.1) = ((mp 0 l).filter fun p => !rpl l p.1).filter fun p => !decide (z.ID = p.1) := by
    rw [List.filter_filter]
    congr 1
    funext p
    rw [rpl_more, Bool.not_or, Bool.and_comm]
  rw [this]
  refine filter_one (nodup_filter _ (by rw [mp_fst]; exact ids_nodup v)) ?_
  have := act_mem ha hr
  unfold act at this
  obtain ⟨p, hp, he⟩ := List.mem_map.1 this
  refine List.mem_map.2 ⟨p, hp, ?_⟩
  obtain ⟨i, x, hx, hpe⟩ := mem_mp (List.mem_filter.1 hp).1
  rw [hpe] at he ⊢
  simp only [Nat.zero_add] at he
  have : i = a := by omega
  subst this
  rw [ha] at hx; injection hx with hx
  rw [hx]
theorem sum_one (f : Tk → Int) (q : Tk → Bool) : ∀ {l : List Tk}, (l.map (·.ID)).Nodup → z ∈ l → sumBy f (l.filter q) = sumBy f (l.filter fun x => !decide (z.ID = x.ID) && q x) + if q z = true then f z else 0
  | [], _, h => by cases h
  | x :: l, hn, h => by
    rw [List.map_cons, List.nodup_cons] at hn
    rw [List.filter_cons, List.filter_cons]
    by_cases hx : z.ID = x.ID
    · have hzx : z = x := by
        rcases List.mem_cons.1 h with e | e
        · exact e
        · exact absurd (by rw [← hx]; exact List.mem_map.2 ⟨z, e, rfl⟩) hn.1
      subst hzx
      have : (l.filter fun x => !decide (z.ID = x.ID) && q x) = l.filter q := by
        refine List.filter_congr fun y hy => ?_
        have : z.ID ≠ y.ID := fun he => hn.1 (by rw [he]; exact List.mem_map.2 ⟨y, hy, rfl⟩)
        simp [this]
      rw [this]
      cases q z <;> simp <;> omega
    · have hm : z ∈ l := by
        rcases List.mem_cons.1 h with e | e
        · exact absurd (by rw [e]) hx
        · exact e
      have ih := sum_one f q hn.2 hm
      cases hq : q x <;> simp [hx] <;> omega
theorem fault_new (hu1 : 1 ≤ u) (hu2 : u ≤ 1000000) (hz1 : 1 ≤ z.ID) (hz2 : z.ID ≤ 1000000) : recyclingref27_fault 64 s (new u z) = recyclingref27_fault 64 s z := by
  unfold recyclingref27_fault new
  simp only [show ¬ u < 1 by omega, show ¬ 1000000 < u by omega, show ¬ z.ID < 1 by omega, show ¬ 1000000 < z.ID by omega]
theorem net_new (hu1 : 1 ≤ u) (hu2 : u ≤ 1000000) (hz1 : 1 ≤ z.ID) (hz2 : z.ID ≤ 1000000) : net s (new u z) = net s z := by
  unfold net ticket_Net ticket_weighed new
  simp only [show ¬ u < 1 by omega, show ¬ 1000000 < u by omega, show ¬ z.ID < 1 by omega, show ¬ 1000000 < z.ID by omega]
theorem more_good (g : Good s l) (ha : l[a]? = some z) (hr : rpl l z.ID = false) (hu1 : 1 ≤ u) (hu2 : u ≤ 1000000) (hu : ∀ x ∈ l, x.ID ≠ u) : Good s (l ++ [new u z]) := by
  refine ⟨g.sc, fun x hx => ?_, more_valid g.v ha hr hu1 hu2 hu⟩
  rcases List.mem_append.1 hx with h | h
  · exact g.ok x h
  · rw [List.mem_singleton.1 h]
    have hz := g.v.ids a z ha
    rw [fault_new hu1 hu2 hz.1 hz.2]
    exact g.ok z (List.mem_of_getElem? ha)
theorem more_sum (g : Good s l) (ha : l[a]? = some z) (hr : rpl l z.ID = false) (hu1 : 1 ≤ u) (hu2 : u ≤ 1000000) (hu : ∀ x ∈ l, x.ID ≠ u) (w : T_api_Window) (f : Sp → Int) :
    sumBy (fun x => f (net s x)) ((l ++ [new u z]).filter (keep (l ++ [new u z]) w)) = sumBy (fun x => f (net s x)) (l.filter (keep l w)) := by
  have hz := g.v.ids a z ha
  rw [List.filter_append, sumBy_append]
  have e1 : l.filter (keep (l ++ [new u z]) w) = l.filter fun x => !decide (z.ID = x.ID) && keep l w x := by
    refine List.filter_congr fun x _ => ?_
    unfold keep
    rw [rpl_more, Bool.not_or]
    cases rpl l x.ID <;> cases decide (z.ID = x.ID) <;> cases inW w x <;> rfl
  have e2 : keep (l ++ [new u z]) w (new u z) = inW w z := by
    unfold keep
    rw [show (new u z).ID = u from rfl, rpl_u g.v ha hu1 hu]
    rfl
  have e3 : keep l w z = inW w z := by unfold keep; rw [hr]; rfl
  rw [sum_one (fun x => f (net s x)) (keep l w) (ids_nodup g.v) (List.mem_of_getElem? ha), e1, e3, List.filter_cons, e2]
  cases inW w z with
  | false => simp
  | true => simp [net_new hu1 hu2 hz.1 hz.2]
end
theorem act_ne {l : List Tk} (v : Vl l) (h : (act l).length = 0) : l.length = 0 := by
  refine Classical.byContradiction fun hn => ?_
  have hl : l[l.length - 1]? = some l[l.length - 1] := List.getElem?_eq_getElem (by omega)
  cases hr : rpl l l[l.length - 1].ID with
  | false =>
    have := act_mem hl hr
    rw [List.length_eq_zero_iff] at h
    rw [h] at this; cases this
  | true =>
    unfold rpl at hr
    obtain ⟨x, hx, he⟩ := List.any_eq_true.1 hr
    obtain ⟨k, hk⟩ := List.getElem?_of_mem hx
    have he : x.Replaces = l[l.length - 1].ID := by simpa using he
    have hid := v.ids _ _ hl
    obtain ⟨j, y, h1, h2, h3⟩ := v.par k x hk (by omega)
    have := v.uniq j _ y _ h2 hl (by rw [h3, he])
    have := lt_of_get hk
    omega
theorem recyclinglaw27_TicketReplaced_true (s : List Sc) (l : List Tk) (x : T_arr3_3) (_ : ∀ y ∈ s, wf_api_Scale y) (_ : ∀ y ∈ l, wf_api_Ticket y) (_ : wf_arr3_3 x) : ∃ F, recyclinglaw27_TicketReplaced F s l x = some true := by
  refine ⟨64, ?_⟩
  unfold recyclinglaw27_TicketReplaced
  rw [great_eq]
  by_cases h : 20 < s.length ∨ 60 < l.length
  · simp [h, awake_true]
  · obtain ⟨t1, _⟩ := Total_both s (by omega) l (by omega) ⟨x.e1, x.e2⟩
    simp only [h, decide_false, cond_false, Option.bind_some, t1, oun, Active_eq l (show l.length ≤ 512 by omega)]
    by_cases hc : chkR 64 s l = 0
    · have g := chk_good.1 hc
      by_cases hw : x.e1 < 0 ∨ x.e2 < x.e1 ∨ 3155760000 < x.e2
      · have e1 : totR s l ⟨x.e1, x.e2⟩ = (⟨0, 0⟩, 1) := by unfold totR; rw [if_neg (by simp [hc]), if_pos hw]
        rw [e1]
        simp [awake_true]
      · have e1 : ∀ m, chkR 64 s m = 0 → totR s m ⟨x.e1, x.e2⟩ = (⟨sumBy (fun x => (net s x).Lo) (m.filter (keep m ⟨x.e1, x.e2⟩)), sumBy (fun x => (net s x).Hi) (m.filter (keep m ⟨x.e1, x.e2⟩))⟩, 0) := fun m hm => by
          unfold totR; rw [if_neg (by simp [hm]), if_neg hw]
        rw [e1 l hc]
        simp only [(listR_zero l).2 g.v, if_true, decide_true, Bool.not_true, cond_false, Option.bind_some]
        by_cases h0 : (act l).length = 0
        · have := act_ne g.v h0
          simp [h0, this, awake_true]
        · have hlen := length_act l
          have m1 := Int.tmod_lt_of_pos x.e0 (b := (((act l).length : Nat) : Int)) (by omega)
          have m2 := Int.lt_tmod_of_pos x.e0 (b := (((act l).length : Nat) : Int)) (by omega)
          obtain ⟨n, hn, hnl⟩ : ∃ n : Nat, (bif (decide ((Int.tmod x.e0 ((act l).length : Nat)) < 0)) then some (w64 (0 - (Int.tmod x.e0 ((act l).length : Nat)))) else some (Int.tmod x.e0 ((act l).length : Nat))) = some (n : Int) ∧ n < (act l).length := by
            by_cases hneg : (Int.tmod x.e0 ((act l).length : Nat)) < 0
            · refine ⟨(0 - (Int.tmod x.e0 ((act l).length : Nat))).toNat, ?_, by omega⟩
              rw [w64_eq (by omega) (by omega)]
              simp only [hneg, decide_true, cond_true, Option.some.injEq]
              omega
            · refine ⟨(Int.tmod x.e0 ((act l).length : Nat)).toNat, ?_, by omega⟩
              simp only [hneg, decide_false, cond_false, Option.some.injEq]
              omega
          obtain ⟨a, z, haz, ha, hr⟩ := mem_act (List.getElem_mem hnl)
          have hget : (act l)[n]? = some (a : Int) := by rw [List.getElem?_eq_getElem hnl, haz]
          obtain ⟨u, hu0, hu1, hu2, hu⟩ := unused_eq l (by omega)
          have gm := more_good g ha hr (by omega : 1 ≤ u) hu2 hu
          have hcm := chk_good.2 gm
          obtain ⟨b, hb1, hb2⟩ := act_more g.v ha hr (by omega : 1 ≤ u) hu
          have hml : (l ++ [new u z]).length = l.length + 1 := by simp
          obtain ⟨t2, _⟩ := Total_both s (by omega) (l ++ [new u z]) (by omega) ⟨x.e1, x.e2⟩
          rw [e1 _ hcm, more_sum g ha hr (by omega) hu2 hu _ (·.Lo), more_sum g ha hr (by omega) hu2 hu _ (·.Hi)] at t2
          have t3 := Active_eq (l ++ [new u z]) (by omega)
          rw [(listR_zero _).2 gm.v, if_pos rfl, hb1] at t3
          have hlast : getI (b ++ [(l.length : Int)]) (w64 ((((b ++ [(l.length : Int)]).length : Nat) : Int) - 1)) = some (l.length : Int) := by
            rw [w64_eq (by rw [List.length_append, List.length_singleton]; omega) (by rw [List.length_append, List.length_singleton]; omega)]
            have : (((b ++ [(l.length : Int)]).length : Nat) : Int) - 1 = (b.length : Nat) := by rw [List.length_append, List.length_singleton]; omega
            rw [this, getI_nat]
            simp
          have hbl : (((b ++ [(l.length : Int)]).length : Nat) : Int) = ((act l).length : Nat) := by rw [List.length_append, List.length_singleton, hb2]
          rw [hbl] at hlast
          have hz0 : ¬ (((act l).length : Nat) : Int) = 0 := by omega
          simp only [hz0, decide_false, cond_false, Option.bind_some, guardO_eq (p := (((act l).length : Nat) : Int) ≠ 0) hz0, hn, getI_nat, hget, ha, hu0, appO_eq (xs := ([] : List Tk)) (ys := l) (by simp; omega), List.nil_append,
            show (T_api_Ticket.mk u z.Scale z.At z.Gross z.Tare z.ID) = new u z from rfl, appO_eq (xs := l) (ys := [new u z]) (by simp; omega), t2, t3, decide_true, cond_true, Bool.not_true]
          simp only [hlast, Option.bind_some, hbl, decide_true, cond_true, awake_true]
    · have e1 : totR s l ⟨x.e1, x.e2⟩ = (⟨0, 0⟩, chkR 64 s l) := by unfold totR; rw [if_pos hc]
      rw [e1]
      simp [hc, awake_true]

end Go.Proofs.Ytchakbpjokemnaa
