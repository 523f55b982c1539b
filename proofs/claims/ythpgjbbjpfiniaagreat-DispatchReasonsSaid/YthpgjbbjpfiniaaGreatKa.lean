/- A small logic over the kit's walk: ghost memory, frames as lists of known slots, and what each operation asks. Nothing of the program is named here. -/
import Derived.WalkKit
import Derived.OrdersHeld
namespace Go.Proofs.YthpgjbbjpfiniaaGreat
open Go.RowKit
set_option linter.unusedSimpArgs false
set_option linter.unusedVariables false
abbrev Chunk := Nat × Obj
abbrev Seg := List Chunk
structure Gh where
  mem : Nat → Option Obj
  os : Os
  out : Array (Nat × ByteArray)
  tape : Nat → Question → Nat
structure Gh.le (μ μ' : Gh) : Prop where
  mem : ∀ b o, μ.mem b = some o → μ'.mem b = some o
  os : μ'.os = μ.os
  out : μ'.out = μ.out
  tape : μ'.tape = μ.tape
theorem Gh.le.refl (μ : Gh) : μ.le μ := ⟨fun _ _ h => h, rfl, rfl, rfl⟩
theorem Gh.le.trans {a b c : Gh} (h : a.le b) (k : b.le c) : a.le c :=
  ⟨fun x o hx => k.mem x o (h.mem x o hx), k.os.trans h.os, k.out.trans h.out, k.tape.trans h.tape⟩
structure Inv (w : World) (μ : Gh) (L : List Seg) : Prop where
  os : w.os = μ.os
  out : w.output = μ.out
  tape : w.tape = μ.tape
  mem : ∀ b o, μ.mem b = some o → w.heap[b]? = some o
  own : ∀ c ∈ L.flatten, w.heap[c.1]? = some c.2
  sep : ∀ c ∈ L.flatten, μ.mem c.1 = none
  nd : (L.flatten.map (·.1)).Nodup
theorem Inv.drew {w : World} {μ : Gh} {L : List Seg} (h : Inv w μ L) : Inv w.drew μ L :=
  ⟨h.os, h.out, h.tape, h.mem, h.own, h.sep, h.nd⟩
theorem lt_of_some {w : World} {b : Nat} {o : Obj} (h : w.heap[b]? = some o) : b < w.heap.size := by
  rcases Nat.lt_or_ge b w.heap.size with hlt | hge
  · exact hlt
  · rw [Array.getElem?_eq_none hge] at h; cases h
theorem Inv.alloc {w : World} {μ : Gh} {L : List Seg} (h : Inv w μ L) (o : Obj) : Inv (w.alloc o) μ ([(w.heap.size, o)] :: L) := by
  refine ⟨h.os, h.out, h.tape, fun b x hb => ?_, fun c hc => ?_, fun c hc => ?_, ?_⟩
  · have := h.mem b x hb
    rw [heap_alloc_old w o (lt_of_some this)]; exact this
  · simp only [List.flatten_cons, List.singleton_append, List.mem_cons] at hc
    rcases hc with rfl | hc
    · exact heap_alloc_new w o
    · have := h.own c hc
      rw [heap_alloc_old w o (lt_of_some this)]; exact this
  · simp only [List.flatten_cons, List.singleton_append, List.mem_cons] at hc
    rcases hc with rfl | hc
    · cases hm : μ.mem w.heap.size with
      | none => rfl
      | some x => have := lt_of_some (h.mem _ _ hm); omega
    · exact h.sep c hc
  · simp only [List.flatten_cons, List.singleton_append, List.map_cons, List.nodup_cons]
    refine ⟨fun hm => ?_, h.nd⟩
    obtain ⟨c, hc, he⟩ := List.mem_map.1 hm
    have := lt_of_some (h.own c hc)
    omega
theorem Inv.perm {w : World} {μ : Gh} {L L' : List Seg} (h : Inv w μ L) (hp : L.flatten.Perm L'.flatten) : Inv w μ L' :=
  ⟨h.os, h.out, h.tape, h.mem, fun c hc => h.own c (hp.mem_iff.2 hc), fun c hc => h.sep c (hp.mem_iff.2 hc), (hp.map _).nodup_iff.1 h.nd⟩
theorem Inv.sub {w : World} {μ : Gh} {L L' : List Seg} (h : Inv w μ L) (hp : L'.flatten.Sublist L.flatten) : Inv w μ L' :=
  ⟨h.os, h.out, h.tape, h.mem, fun c hc => h.own c (hp.subset hc), fun c hc => h.sep c (hp.subset hc), (hp.map _).nodup h.nd⟩
theorem Inv.drop {w : World} {μ : Gh} {L : List Seg} {s : Seg} (h : Inv w μ (s :: L)) : Inv w μ L :=
  h.sub (by simp [List.flatten_cons])
def Gh.add (μ : Gh) (s : Seg) : Gh := { μ with mem := fun b => match s.find? (fun c => c.1 == b) with | some c => some c.2 | none => μ.mem b }
theorem find_none {s : Seg} {b : Nat} (h : ∀ c ∈ s, c.1 ≠ b) : s.find? (fun c => c.1 == b) = none := by
  rw [List.find?_eq_none]; intro c hc; simpa using h c hc
theorem Gh.le_add {μ : Gh} {s : Seg} (h : ∀ c ∈ s, μ.mem c.1 = none) : μ.le (μ.add s) := by
  refine ⟨fun b o hb => ?_, rfl, rfl, rfl⟩
  show (match s.find? (fun c => c.1 == b) with | some c => some c.2 | none => μ.mem b) = some o
  rw [find_none fun c hc e => ?_]
  · exact hb
  · have := h c hc
    rw [e, hb] at this; cases this
theorem find_of_nodup {s : Seg} {c : Chunk} (hc : c ∈ s) (hn : (s.map (·.1)).Nodup) : s.find? (fun d => d.1 == c.1) = some c := by
  induction s with
  | nil => cases hc
  | cons d s ih =>
    simp only [List.map_cons, List.nodup_cons] at hn
    by_cases hd : d.1 = c.1
    · rcases List.mem_cons.1 hc with rfl | hc
      · simp
      · exact absurd (List.mem_map.2 ⟨c, hc, hd.symm⟩) hn.1
    · rcases List.mem_cons.1 hc with rfl | hc
      · exact absurd rfl hd
      · rw [List.find?_cons_of_neg (by simpa using hd)]; exact ih hc hn.2
theorem Gh.add_at {μ : Gh} {s : Seg} {c : Chunk} (hc : c ∈ s) (hn : (s.map (·.1)).Nodup) : (μ.add s).mem c.1 = some c.2 := by
  show (match s.find? (fun d => d.1 == c.1) with | some c => some c.2 | none => μ.mem c.1) = some c.2
  rw [find_of_nodup hc hn]
theorem Inv.freeze {w : World} {μ : Gh} {L : List Seg} {s : Seg} (h : Inv w μ (s :: L)) : μ.le (μ.add s) ∧ Inv w (μ.add s) L := by
  have hs : ∀ c ∈ s, c ∈ (s :: L).flatten := fun c hc => by simp [List.flatten_cons, hc]
  have hn := h.nd
  simp only [List.flatten_cons, List.map_append, List.nodup_append] at hn
  refine ⟨Gh.le_add fun c hc => h.sep c (hs c hc), h.os, h.out, h.tape, fun b o hb => ?_, fun c hc => h.own c (by simp [List.flatten_cons]; exact .inr (by simpa using hc)), fun c hc => ?_, hn.2.1⟩
  · change (match s.find? (fun c => c.1 == b) with | some c => some c.2 | none => μ.mem b) = some o at hb
    cases hf : s.find? (fun c => c.1 == b) with
    | none => rw [hf] at hb; exact h.mem b o hb
    | some c =>
      rw [hf] at hb
      have hc := List.mem_of_find?_eq_some hf
      have he : c.1 = b := by simpa using List.find?_some hf
      have := h.own c (hs c hc)
      rw [he] at this; rw [this]; exact hb
  · change (match s.find? (fun d => d.1 == c.1) with | some c => some c.2 | none => μ.mem c.1) = none
    rw [find_none fun d hd e => ?_]
    · exact h.sep c (by simp [List.flatten_cons]; exact .inr (by simpa using hc))
    · exact hn.2.2 d.1 (List.mem_map.2 ⟨d, hd, rfl⟩) c.1 (List.mem_map.2 ⟨c, hc, rfl⟩) e
theorem flatten_at {L : List Seg} {i j : Nat} {s : Seg} {c : Chunk} (hi : L[i]? = some s) (hj : s[j]? = some c) :
    ∃ A B, L.flatten = A ++ c :: B ∧ ∀ c', (L.set i (s.set j c')).flatten = A ++ c' :: B := by
  induction L generalizing i with
  | nil => simp at hi
  | cons t L ih =>
    cases i with
    | zero =>
      simp at hi; subst hi
      have hlt : j < t.length := by
        rcases Nat.lt_or_ge j t.length with h | h
        · exact h
        · rw [List.getElem?_eq_none h] at hj; cases hj
      refine ⟨t.take j, t.drop (j + 1) ++ L.flatten, ?_, fun c' => ?_⟩
      · have he : t[j] = c := by rw [List.getElem?_eq_getElem hlt] at hj; injection hj
        conv => lhs; rw [List.flatten_cons, ← List.take_append_drop j t, List.drop_eq_getElem_cons hlt, he]
        simp
      · simp [List.set_eq_take_append_cons_drop, hlt]
    | succ i =>
      simp at hi
      obtain ⟨A, B, h1, h2⟩ := ih hi
      exact ⟨t ++ A, B, by simp [h1], fun c' => by simp [h2]⟩
theorem Inv.upd {w w' : World} {μ : Gh} {L : List Seg} {i j : Nat} {s : Seg} {g : Nat} {o o' : Obj} (h : Inv w μ L) (hi : L[i]? = some s) (hj : s[j]? = some (g, o))
    (hos : w'.os = w.os) (hout : w'.output = w.output) (htape : w'.tape = w.tape) (hg : w'.heap[g]? = some o') (hk : ∀ k, k ≠ g → w'.heap[k]? = w.heap[k]?) :
    Inv w' μ (L.set i (s.set j (g, o'))) := by
  obtain ⟨A, B, h1, h2⟩ := flatten_at hi hj
  have hsep := h.sep
  have hown := h.own
  have hnd := h.nd
  rw [h1] at hsep hown hnd
  simp only [List.map_append, List.map_cons, List.nodup_append, List.nodup_cons] at hnd
  have hne : ∀ c, c ∈ A ∨ c ∈ B → c.1 ≠ g := by
    rintro c (hc | hc) e
    · exact hnd.2.2 c.1 (List.mem_map.2 ⟨c, hc, rfl⟩) g (by simp) e
    · exact hnd.2.1.1 (List.mem_map.2 ⟨c, hc, e⟩)
  have hmem : ∀ c, c ∈ A ++ (g, o') :: B → c = (g, o') ∨ c ∈ A ∨ c ∈ B := by
    intro c hc
    simp only [List.mem_append, List.mem_cons] at hc
    rcases hc with h | h | h
    · exact .inr (.inl h)
    · exact .inl h
    · exact .inr (.inr h)
  have hgm : μ.mem g = none := hsep (g, o) (by simp)
  refine ⟨hos.trans h.os, hout.trans h.out, htape.trans h.tape, fun b x hb => ?_, fun c hc => ?_, fun c hc => ?_, ?_⟩
  · rw [hk b (fun e => by rw [e, hgm] at hb; cases hb)]; exact h.mem b x hb
  · rw [h2] at hc
    rcases hmem c hc with rfl | hc
    · exact hg
    · rw [hk _ (hne c hc)]
      exact hown c (by rcases hc with hc | hc <;> simp [hc])
  · rw [h2] at hc
    rcases hmem c hc with rfl | hc
    · exact hgm
    · exact hsep c (by rcases hc with hc | hc <;> simp [hc])
  · rw [h2]
    simp only [List.map_append, List.map_cons, List.nodup_append, List.nodup_cons]
    exact hnd
abbrev Fr := List (Nat × Value)
def look : Fr → Nat → Option Value
  | [], _ => none
  | (s, v) :: r, t => bif Nat.beq s t then some v else look r t
theorem look_cons (p : Nat × Value) (r : Fr) (t : Nat) : look (p :: r) t = if p.1 = t then some p.2 else look r t := by
  obtain ⟨s, v⟩ := p
  rw [look]
  by_cases h : s = t
  · rw [if_pos h, h, Nat.beq_refl]; rfl
  · rw [if_neg h]
    cases hb : Nat.beq s t with
    | true => exact absurd (Nat.eq_of_beq_eq_true hb) h
    | false => rfl
structure NN where
  n : Nat
  ds : List Deferred
  rd : Option Nat
def fw (r : Option Nat) : Fence := { Fence.wide with round := r }
structure Agr (N : NN) (fr : Fr) (a : Act) : Prop where
  defers : a.defers = N.ds
  size : a.tmps.size = N.n
  get : ∀ t v, look fr t = some v → a.tmps.getD t undef = v
theorem Agr.put {N : NN} {fr : Fr} {a : Act} (h : Agr N fr a) {d : Nat} (hd : d < N.n) (v : Value) : Agr N ((d, v) :: fr) (a.put (some d) v) := by
  refine ⟨h.defers, by simp [Act.put, h.size], fun t u hu => ?_⟩
  simp only [look_cons] at hu
  by_cases hdt : d = t
  · subst hdt
    rw [if_pos rfl] at hu
    injection hu with hu
    simp [Act.put, hu, h.size, hd]
  · rw [if_neg hdt] at hu
    have := h.get t u hu
    simp only [Array.getD_eq_getD_getElem?] at this ⊢
    simpa [Act.put, hdt] using this
theorem Agr.sub {N : NN} {fr fr' : Fr} {a : Act} (h : Agr N fr a) (hs : ∀ t v, look fr' t = some v → look fr t = some v) : Agr N fr' a :=
  ⟨h.defers, h.size, fun t v hv => h.get t v (hs t v hv)⟩
def evT (o : Option Value) (k : Value → Prop) : Prop := match o with | some v => k v | none => False
def ev (fr : Fr) (x : Operand) (k : Value → Prop) : Prop := match x with
  | .tmp t => evT (look fr t) k
  | .const v => k v
  | .global g => k (.pointer (some ⟨g, 0, none⟩))
  | .func f => k (.func (.func f) #[] #[])
def evs (fr : Fr) (xs : List Operand) (k : List Value → Prop) : Prop := match xs with
  | [] => k []
  | x :: xs => ev fr x fun v => evs fr xs fun vs => k (v :: vs)
def evo (fr : Fr) (x : Option Operand) (k : Option Value → Prop) : Prop := match x with
  | none => k none
  | some x => ev fr x fun v => k (some v)
def evp (fr : Fr) (xs : List (Nat × Operand)) (k : List (Nat × Value) → Prop) : Prop := match xs with
  | [] => k []
  | x :: xs => ev fr x.2 fun v => evp fr xs fun vs => k ((x.1, v) :: vs)
section
variable {N : NN} {fr : Fr} {a : Act}
theorem ev_sound (h : Agr N fr a) {x : Operand} {k : Value → Prop} (hk : ev fr x k) : k (a.eval x) := by
  cases x with
  | tmp t =>
    simp only [ev] at hk
    cases hl : look fr t with
    | none => rw [hl] at hk; exact hk.elim
    | some v =>
      rw [hl] at hk
      have := h.get t v hl
      show k (a.tmps.getD t undef)
      rw [this]; exact hk
  | const v => exact hk
  | global g => exact hk
  | func f => exact hk
theorem evs_sound (h : Agr N fr a) {xs : List Operand} : ∀ {k : List Value → Prop}, evs fr xs k → k (xs.map a.eval) := by
  induction xs with
  | nil => intro k hk; exact hk
  | cons x xs ih => intro k hk; exact ih (k := fun vs => k (a.eval x :: vs)) (ev_sound h hk)
theorem evo_sound (h : Agr N fr a) {x : Option Operand} {k : Option Value → Prop} (hk : evo fr x k) : k (x.map a.eval) := by
  cases x with
  | none => exact hk
  | some x => exact ev_sound h (k := fun v => k (some v)) hk
theorem evp_sound (h : Agr N fr a) {xs : List (Nat × Operand)} : ∀ {k : List (Nat × Value) → Prop}, evp fr xs k → k (xs.map fun p => (p.1, a.eval p.2)) := by
  induction xs with
  | nil => intro k hk; exact hk
  | cons x xs ih => intro k hk; exact ih (k := fun vs => k ((x.1, a.eval x.2) :: vs)) (ev_sound h hk)
end
end Go.Proofs.YthpgjbbjpfiniaaGreat
