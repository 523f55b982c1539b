/- The machine's steps that need no proof, and that they may be taken. Nothing of the program is named here. -/
import Derived.Test.YthpgjbbjpfiniaaGreatMa
import Derived.Test.YthpgjbbjpfiniaaGreatGt
namespace Go.Proofs.YthpgjbbjpfiniaaGreat
open Go.RowKit
set_option linter.unusedSimpArgs false
set_option linter.unusedVariables false
abbrev Els := List (Addr × List Value)
def putO (n : Nat) (dst : Option Tmp) (v : Value) (fr : Fr) (k : Fr → Out) : Out := match dst with
  | none => k fr
  | some d => bifO (Nat.blt d n) (k ((d, v) :: fr))
def lookB : List (Nat × Bool) → Nat → Option Bool
  | [], _ => none
  | (s, v) :: r, t => bif Nat.beq s t then some v else lookB r t
def decO (kn : List (Nat × Bool)) (fr : Fr) (d : Nat) (a b : List Value) (k : Bool → List Value → List Value → Out) : Out := match look fr d with
  | some (.bool z) => (match lookB kn d with | some t => k t (.bool z :: a) (.bool t :: b) | none => .bad)
  | _ => .bad
def gdO (kn : List (Nat × Bool)) (all : List Oper) (fr : Fr) (g : Option (Nat × Bool)) (a b : List Value) (yes no : List Value → List Value → Out) : Out := match g with
  | none => yes a b
  | some (j, w) => match gslot all j with
    | some d => (match look fr d with
      | some (.bool z) => (match lookB kn d with
        | some true => (match w with | true => yes (.bool z :: a) (.bool true :: b) | false => no (.bool z :: a) (.bool true :: b))
        | some false => (match w with | true => no (.bool z :: a) (.bool false :: b) | false => yes (.bool z :: a) (.bool false :: b))
        | none => .bad)
      | some (.tuple _) => no a b
      | _ => .bad)
    | none => .bad
def nthS : List Seg → Nat → Option Seg
  | [], _ => none
  | s :: _, 0 => some s
  | _ :: r, n + 1 => nthS r n
def setS : List Seg → Nat → Seg → List Seg
  | [], _, _ => []
  | _ :: r, 0, t => t :: r
  | s :: r, n + 1, t => s :: setS r n t
def nthE : Els → Nat → Option (Addr × List Value)
  | [], _ => none
  | s :: _, 0 => some s
  | _ :: r, n + 1 => nthE r n
def valsK (i : TyI) (off : Nat) (cs : List Value) (k : Value → Out) : Out := match aggD i.u with
  | true => dropK off cs fun d => takeK i.size d fun vs => k (.agg ⟨vs⟩)
  | false => nthK off cs k
def loadO (T : TT) (els : Els) (L : List Seg) (t : TypeId) (v : Value) (h : Nat) (a b : List Value) (k : Value → List Value → List Value → Out) : Out := match v with
  | .pointer (some ad) => tyK T t fun i => (match Nat.blt h 64 with
    | true => (match ad with
      | ⟨g, off, none⟩ => (match nthS L h with
        | some ((g', .cells ⟨cs⟩ _ _) :: _) => valsK i off cs fun u => k u (.map (some g) :: a) (.map (some g') :: b)
        | _ => .bad)
      | _ => .bad)
    | false => (match nthE els (h / 64 - 1) with
      | some (ad', cs) => valsK i (h % 64) cs fun u => (match Nat.beq (h % 64) 0 with
        | true => k u (.pointer (some ad) :: a) (.pointer (some ad') :: b)
        | false => k u (.pointer (some ad) :: a) (.pointer (some (ad'.add (h % 64))) :: b))
      | none => .bad))
  | _ => .bad
def oneK : List Value → Bool
  | [] => true
  | v :: r => match v.oneCell' with | true => oneK r | false => false
def storeO (T : TT) (L : List Seg) (t : TypeId) (p v : Value) (h : Nat) (a b : List Value) (k : List Seg → List Value → List Value → Out) : Out := match p with
  | .pointer (some ⟨g, off, none⟩) => tyK T t fun i => cellsK v fun vs => bifO (Nat.beq vs.length i.size) (bifO (oneK vs) (bifO (Nat.blt 0 i.size) (match nthS L h with
    | some ((g', .cells ⟨cs⟩ e (0, 0)) :: r) => setK cs off vs fun cs' => k (setS L h ((g', .cells ⟨cs'⟩ e (0, 0)) :: r)) (.map (some g) :: a) (.map (some g') :: b)
    | _ => .bad)))
  | _ => .bad
def nz (b : Int) : Bool := match b with | .ofNat (_ + 1) => true | .negSucc _ => true | _ => false
def rdO (T : TT) (n : Nat) (kn : List (Nat × Bool)) (els : Els) (hs : List Nat) (fr : Fr) (L : List Seg) (op : Op) (dst : Option Tmp) (a b : List Value) (k : List Nat → Fr → List Value → List Value → Out) : Out := match op with
  | .load t x => (match hs with
    | h :: hs => evK fr x fun v => loadO T els L t v h a b fun u a b => putO n dst u fr fun fr => k hs fr a b
    | [] => .bad)
  | .pick (.tmp d) x y => decO kn fr d a b fun t a b => (match t with
    | true => evK fr x fun v => putO n dst v fr fun fr => k hs fr a b
    | false => evK fr y fun v => putO n dst v fr fun fr => k hs fr a b)
  | .binOp .quo t x y yt => (match hs with
    | _ :: hs => evK fr x fun u => evK fr y fun w => intK u w fun kd p q => bifO (nz q) (putO n dst (.int kd (kd.wrap (p.tdiv q))) fr fun fr => k hs fr a b)
    | [] => .bad)
  | .binOp .rem t x y yt => (match hs with
    | _ :: hs => evK fr x fun u => evK fr y fun w => intK u w fun kd p q => bifO (nz q) (putO n dst (.int kd (p.tmod q)) fr fun fr => k hs fr a b)
    | [] => .bad)
  | op => opV T fr op fun v => putO n dst v fr fun fr => k hs fr a b
def isLoop (c : Code) : Bool := match c with | .loop _ => true | _ => false
def codeO (kn : List (Nat × Bool)) (c : Code) (s : List MIt) (fr : Fr) (a b : List Value) (k : List MIt → List Value → List Value → Out) : Out := match c with
  | .skip => k s a b
  | .seq x y => k (.code x :: .code y :: s) a b
  | .region _ ⟨ops⟩ false => k (.ops ops ops :: s) a b
  | .cond (.tmp d) x y => decO kn fr d a b fun t a b => (match t with | true => k (.code x :: s) a b | false => k (.code y :: s) a b)
  | .cond (.const (.bool true)) x _ => k (.code x :: s) a b
  | .cond (.const (.bool false)) _ y => k (.code y :: s) a b
  | .block i c => (match isLoop c with | true => .bad | false => k (.code c :: .blk i :: s) a b)
  | .exit i => (match popTo i s with | some s' => k s' a b | none => .bad)
  | .scope c => k (.code c :: s) a b
  | .label _ => k s a b
  | _ => .bad
def elsAt (s : List MIt) (els : Els) : Els := match s with | .pln _ _ _ _ _ :: _ => [] | .plp _ _ _ _ _ _ _ :: _ => [] | _ => els
def stepO (T : TT) (n : Nat) (kn : List (Nat × Bool)) (els : Els) (hs : List Nat) (s : List MIt) (fr : Fr) (L : List Seg) (a b : List Value)
    (k : Els → List Nat → List MIt → Fr → List Seg → List Value → List Value → Out) : Out := match s with
  | .ops all (o :: r) :: s => gdO kn all fr o.guard a b
      (fun a b => match o.op with
        | .store t x y => (match hs with
          | h :: hs => evK fr x fun p => evK fr y fun v => storeO T L t p v h a b fun L a b => putO n o.dst undef fr fun fr => k [] hs (.ops all r :: s) fr L a b
          | [] => .bad)
        | op => rdO T n kn els hs fr L op o.dst a b fun hs fr a b => k els hs (.ops all r :: s) fr L a b)
      (fun a b => putO n o.dst undef fr fun fr => k els hs (.ops all r :: s) fr L a b)
  | .ops _ [] :: s => k (elsAt s els) hs s fr L a b
  | .blk _ :: s => k (elsAt s els) hs s fr L a b
  | .code c :: s => codeO kn c s fr a b fun s a b => k (elsAt s els) hs s fr L a b
  | .pln all l ((true, i) :: pl) μ0 keep :: s => (match nthOp all i with
    | some o => gdO kn all fr o.guard a b (fun a b => rdO T n kn els hs fr keep o.op o.dst a b fun hs fr a b => k els hs (.pln all (l.set i true) pl μ0 keep :: s) fr L a b)
        (fun a b => putO n o.dst undef fr fun fr => k els hs (.pln all (l.set i true) pl μ0 keep :: s) fr L a b)
    | none => .bad)
  | .pln all l ((false, i) :: pl) μ0 keep :: s => (match nthOp all i with
    | some o => gdO kn all fr o.guard a b (fun _ _ => .bad) (fun a b => putO n o.dst undef fr fun fr => k els hs (.pln all (l.set i true) pl μ0 keep :: s) fr L a b)
    | none => .bad)
  | .pln _ _ [] _ _ :: s => k [] hs s fr L a b
  | .plp all l ((true, i) :: pl) m l1 μ0 keep :: s => (match nthOp all i with
    | some o => gdO kn all fr o.guard a b (fun a b => rdO T n kn els hs fr keep o.op o.dst a b fun hs fr a b => k els hs (.plp all (l.set i true) pl m l1 μ0 keep :: s) fr L a b)
        (fun a b => putO n o.dst undef fr fun fr => k els hs (.plp all (l.set i true) pl m l1 μ0 keep :: s) fr L a b)
    | none => .bad)
  | _ => .bad
def runO (T : TT) (n : Nat) (kn : List (Nat × Bool)) : Nat → Els → List Nat → List MIt → Fr → List Seg → List Value → List Value → Out
  | 0, _, _, s, fr, L, a, b => .ok s fr L a b
  | m + 1, els, hs, s, fr, L, a, b => stepO T n kn els hs s fr L a b (runO T n kn m)
def cxM (s : List MIt) (μ : Gh) : Gh := match s with | .pln _ _ _ μ0 _ :: _ => μ0 | .plp _ _ _ _ _ μ0 _ :: _ => μ0 | _ => μ
def cxL (s : List MIt) (L : List Seg) : List Seg := match s with | .pln _ _ _ _ keep :: _ => keep | .plp _ _ _ _ _ _ keep :: _ => keep | _ => L
theorem ElsOk_at {μ : Gh} {L : List Seg} {els : Els} (h : ∀ p ∈ els, Cells μ L p.1 p.2) (s : List MIt) : ∀ p ∈ elsAt s els, Cells (cxM s μ) (cxL s L) p.1 p.2 := by
  cases s with
  | nil => exact h
  | cons i s => cases i <;> first | exact h | (intro p hp; cases hp)
def ElsOk (μ : Gh) (L : List Seg) (els : Els) : Prop := ∀ p ∈ els, Cells μ L p.1 p.2
section
variable {fr : Fr} {o : Out} {a b : List Value}
theorem putO_spec {N : NN} {dst : Option Tmp} {v : Value} {k : Fr → Out} (h : putO N.n dst v fr k = o) (ho : o ≠ .bad) : ∃ fr', k fr' = o ∧ ∀ kk : Fr → Prop, kk fr' → putK N dst v fr kk := by
  cases dst with
  | none => exact ⟨fr, h, fun kk hk => hk⟩
  | some d => obtain ⟨h1, h2⟩ := bifO_spec h ho; exact ⟨_, h2, fun kk hk => P_some h1 hk⟩
theorem decO_spec {kn : List (Nat × Bool)} {d : Nat} {k : Bool → List Value → List Value → Out} (h : decO kn fr d a b k = o) (ho : o ≠ .bad) : ∃ z t, look fr d = some (.bool z) ∧ k t (.bool z :: a) (.bool t :: b) = o := by
  unfold decO at h
  split at h
  · split at h
    · exact ⟨_, _, by assumption, h⟩
    · exact absurd h.symm ho
  · exact absurd h.symm ho
theorem bool_of {z t : Bool} (h : Value.bool z :: a = .bool t :: b) : z = t ∧ a = b := by
  injection h with h1 h2; injection h1 with h1; exact ⟨h1, h2⟩
theorem gdO_spec {kn : List (Nat × Bool)} {all : List Oper} {g : Option (Nat × Bool)} {yes no : List Value → List Value → Out} (h : gdO kn all fr g a b yes no = o) (ho : o ≠ .bad) :
    ∃ a' b', (a' = b' → a = b) ∧ ((yes a' b' = o ∧ ∀ y n : Prop, a' = b' → y → guardK all fr g y n) ∨ (no a' b' = o ∧ ∀ y n : Prop, a' = b' → n → guardK all fr g y n)) := by
  unfold gdO at h
  split at h
  · exact ⟨a, b, id, .inl ⟨h, fun y n _ hy => hy⟩⟩
  · rename_i j w
    split at h
    · rename_i d hd
      split at h
      · rename_i z hz
        split at h
        · refine ⟨.bool z :: a, .bool true :: b, fun e => (bool_of e).2, ?_⟩
          cases w with
          | true => exact .inl ⟨h, fun y n e hy => by simp only [guardK, hd, hz, (bool_of e).1]; exact hy⟩
          | false => exact .inr ⟨h, fun y n e hy => by simp only [guardK, hd, hz, (bool_of e).1]; exact hy⟩
        · refine ⟨.bool z :: a, .bool false :: b, fun e => (bool_of e).2, ?_⟩
          cases w with
          | true => exact .inr ⟨h, fun y n e hy => by simp only [guardK, hd, hz, (bool_of e).1]; exact hy⟩
          | false => exact .inl ⟨h, fun y n e hy => by simp only [guardK, hd, hz, (bool_of e).1]; exact hy⟩
        · exact absurd h.symm ho
      · rename_i hz
        exact ⟨a, b, id, .inr ⟨h, fun y n _ hy => by simp only [guardK, hd, hz]; exact hy⟩⟩
      · exact absurd h.symm ho
    · exact absurd h.symm ho
theorem nthS_eq : ∀ (L : List Seg) (i : Nat), nthS L i = L[i]?
  | [], i => by simp [nthS]
  | s :: r, 0 => by simp [nthS]
  | s :: r, i + 1 => by simp [nthS, nthS_eq r i]
theorem setS_eq : ∀ (L : List Seg) (i : Nat) (t : Seg), setS L i t = L.set i t
  | [], i, t => by simp [setS]
  | s :: r, 0, t => by simp [setS]
  | s :: r, i + 1, t => by simp [setS, setS_eq r i t]
theorem nthE_mem : ∀ {els : Els} {i : Nat} {p : Addr × List Value}, nthE els i = some p → p ∈ els
  | [], i, p, h => by cases h
  | s :: r, 0, p, h => by simp only [nthE, Option.some.injEq] at h; simp [h]
  | s :: r, i + 1, p, h => by simp [nthE_mem (els := r) h]
variable {T : TT} {P : Program} {μ : Gh} {L : List Seg}
theorem valsK_spec {i : TyI} {off : Nat} {cs : List Value} {k : Value → Out} (h : valsK i off cs k = o) (ho : o ≠ .bad) :
    ∃ u, k u = o ∧ ∀ {t : TypeId} {x : Operand} {ad : Addr} (kk : Value → Prop), evV fr x = some (.pointer (some ad)) → T t = some i → (∀ j v, (cs.drop off)[j]? = some v → Cell μ L (ad.add j) v) → kk u → vcR P T (.load t x) fr μ L kk := by
  unfold valsK at h
  split at h
  · rename_i hag
    have h1 := dropK_spec h ho
    obtain ⟨h2, h3⟩ := takeK_spec h1 ho
    refine ⟨_, h2, fun kk hx hT hc hk => R_loadA hx hT hag rfl (Ex.mk _ ⟨h3, fun j v hj => hc j v ?_⟩ hk)⟩
    rw [List.getElem?_take] at hj
    split at hj
    · exact hj
    · cases hj
  · rename_i hag
    obtain ⟨v, h1, h2⟩ := nthK_spec h ho
    refine ⟨v, h2, fun kk hx hT hc hk => R_load hx hT hag (Ex.mk v ?_ hk)⟩
    have := hc 0 v (by rw [List.getElem?_drop]; simpa using h1)
    rwa [Addr.add_zero'] at this
theorem map_of {g g' : Nat} (h : Value.map (some g) :: a = .map (some g') :: b) : g = g' ∧ a = b := by
  injection h with h1 h2; injection h1 with h1; injection h1 with h1; exact ⟨h1, h2⟩
theorem ptr_of {g g' : Addr} (h : Value.pointer (some g) :: a = .pointer (some g') :: b) : g = g' ∧ a = b := by
  injection h with h1 h2; injection h1 with h1; injection h1 with h1; exact ⟨h1, h2⟩
theorem loadO_spec {els : Els} {t : TypeId} {v : Value} {h : Nat} {x : Operand} {k : Value → List Value → List Value → Out} (hr : loadO T els L t v h a b k = o) (ho : o ≠ .bad) (hx : evV fr x = some v) (hel : ElsOk μ L els) :
    ∃ u a' b', (a' = b' → a = b) ∧ k u a' b' = o ∧ ∀ kk : Value → Prop, a' = b' → kk u → vcR P T (.load t x) fr μ L kk := by
  unfold loadO at hr
  split at hr
  · rename_i ad
    obtain ⟨i, hT, hr⟩ := tyK_spec hr ho
    split at hr
    · split at hr
      · rename_i g off
        split at hr
        · rename_i g' cs e f r hL
          rw [nthS_eq] at hL
          obtain ⟨u, h1, h2⟩ := valsK_spec (fr := fr) (T := T) (P := P) (μ := μ) (L := L) hr ho
          refine ⟨u, _, _, fun e => (map_of e).2, h1, fun kk e hk => h2 kk hx hT (fun j v hj => ?_) hk⟩
          obtain ⟨rfl, _⟩ := map_of e
          rw [addr_add]
          refine Cell.seg h 0 hL rfl ?_
          rw [List.getElem?_drop] at hj
          exact hj
        · exact absurd hr.symm ho
      · exact absurd hr.symm ho
    · split at hr
      · rename_i ad' cs he
        obtain ⟨u, h1, h2⟩ := valsK_spec (fr := fr) (T := T) (P := P) (μ := μ) (L := L) hr ho
        have hc : Cells μ L ad' cs := hel _ (nthE_mem he)
        split at h1
        · rename_i hz
          have hz := Nat.eq_of_beq_eq_true hz
          refine ⟨u, _, _, fun e => (ptr_of e).2, h1, fun kk e hk => h2 kk hx hT (fun j v hj => ?_) hk⟩
          obtain ⟨rfl, _⟩ := ptr_of e
          rw [hz] at hj
          exact hc j v (by simpa using hj)
        · refine ⟨u, _, _, fun e => (ptr_of e).2, h1, fun kk e hk => h2 kk hx hT (fun j v hj => ?_) hk⟩
          obtain ⟨rfl, _⟩ := ptr_of e
          rw [Addr.add_add']
          refine hc _ v ?_
          rw [List.getElem?_drop] at hj
          exact hj
      · exact absurd hr.symm ho
  · exact absurd hr.symm ho
theorem oneK_spec : ∀ {vs : List Value}, oneK vs = true → vs.all (·.oneCell') = true
  | [], _ => rfl
  | v :: r, h => by
    unfold oneK at h
    split at h
    · rename_i h1; simp only [List.all_cons, h1, oneK_spec h, Bool.and_self]
    · cases h
theorem storeO_spec {t : TypeId} {p v : Value} {h : Nat} {x y : Operand} {ty : TypeId} {k : List Seg → List Value → List Value → Out} (hr : storeO T L t p v h a b k = o) (ho : o ≠ .bad) (hx : evV fr x = some p) (hy : evV fr y = some v) :
    ∃ L' a' b', (a' = b' → a = b) ∧ k L' a' b' = o ∧ ∀ kk : Value → Gh → List Seg → Prop, a' = b' → kk undef μ L' → vcO P T (.store t x y) ty fr μ L kk := by
  unfold storeO at hr
  split at hr
  · rename_i g off
    obtain ⟨i, hT, hr⟩ := tyK_spec hr ho
    have hr := cellsK_spec hr ho
    obtain ⟨h1, hr⟩ := bifO_spec hr ho
    obtain ⟨h2, hr⟩ := bifO_spec hr ho
    obtain ⟨h3, hr⟩ := bifO_spec hr ho
    have h1 := Nat.eq_of_beq_eq_true h1
    have h3 : 0 < i.size := by simpa [Nat.blt_eq] using h3
    split at hr
    · rename_i g' cs e r hL
      rw [nthS_eq] at hL
      obtain ⟨h4, h5⟩ := setK_spec hr ho
      refine ⟨_, _, _, fun e => (map_of e).2, h4, fun kk e hk => ?_⟩
      obtain ⟨rfl, _⟩ := map_of e
      refine O_store hx hy hT (by simpa using h1) (oneK_spec h2) rfl (Ex.mk _ (StAt.seg h 0 hL rfl ?_) ?_)
      · have := h5 (by intro e; rw [e] at h1; simp at h1; omega)
        simpa using this
      · rw [setS_eq] at hk
        exact hk
    · exact absurd hr.symm ho
  · exact absurd hr.symm ho
theorem nz_spec {q : Int} (h : nz q = true) : q ≠ 0 := by
  cases q with
  | ofNat n =>
    cases n with
    | zero => cases h
    | succ n => exact fun e => Nat.succ_ne_zero n (Int.ofNat.inj e)
  | negSucc n => intro e; cases e
theorem rdO_spec {N : NN} {kn : List (Nat × Bool)} {els : Els} {hs : List Nat} {op : Op} {dst : Option Tmp} {k : List Nat → Fr → List Value → List Value → Out} (hr : rdO T N.n kn els hs fr L op dst a b k = o) (ho : o ≠ .bad) (hel : ElsOk μ L els) :
    ∃ hs' fr' a' b', (a' = b' → a = b) ∧ k hs' fr' a' b' = o ∧ isRd op = true ∧ ∀ kk : Fr → Prop, a' = b' → kk fr' → vcR P T op fr μ L fun v => putK N dst v fr kk := by
  unfold rdO at hr
  split at hr
  · split at hr
    · obtain ⟨v, h1, hr⟩ := evK_spec hr ho
      obtain ⟨u, a', b', h2, hr, h3⟩ := loadO_spec (P := P) (μ := μ) hr ho h1 hel
      obtain ⟨fr', h4, h5⟩ := putO_spec hr ho
      exact ⟨_, fr', a', b', h2, h4, rfl, fun kk e hk => h3 _ e (h5 kk hk)⟩
    · exact absurd hr.symm ho
  · obtain ⟨z, t, hz, hr⟩ := decO_spec hr ho
    cases t with
    | true =>
      obtain ⟨v, h1, hr⟩ := evK_spec hr ho
      obtain ⟨fr', h4, h5⟩ := putO_spec hr ho
      exact ⟨_, fr', _, _, fun e => (bool_of e).2, h4, rfl, fun kk e hk => R_pick_t (by rw [← (bool_of e).1]; exact hz) h1 (h5 kk hk)⟩
    | false =>
      obtain ⟨v, h1, hr⟩ := evK_spec hr ho
      obtain ⟨fr', h4, h5⟩ := putO_spec hr ho
      exact ⟨_, fr', _, _, fun e => (bool_of e).2, h4, rfl, fun kk e hk => R_pick_f (by rw [← (bool_of e).1]; exact hz) h1 (h5 kk hk)⟩
  · split at hr
    · obtain ⟨u, h1, hr⟩ := evK_spec hr ho
      obtain ⟨w, h2, hr⟩ := evK_spec hr ho
      obtain ⟨kd, p, q, e1_, e2_, hr2⟩ := intK_spec hr ho
      subst e1_ e2_
      obtain ⟨h3, hr3⟩ := bifO_spec hr2 ho
      obtain ⟨fr', h4, h5⟩ := putO_spec hr3 ho
      exact ⟨_, fr', _, _, id, h4, rfl, fun kk e hk => R_quo h1 h2 ⟨nz_spec h3, h5 kk hk⟩⟩
    · exact absurd hr.symm ho
  · split at hr
    · obtain ⟨u, h1, hr⟩ := evK_spec hr ho
      obtain ⟨w, h2, hr⟩ := evK_spec hr ho
      obtain ⟨kd, p, q, e1_, e2_, hr2⟩ := intK_spec hr ho
      subst e1_ e2_
      obtain ⟨h3, hr3⟩ := bifO_spec hr2 ho
      obtain ⟨fr', h4, h5⟩ := putO_spec hr3 ho
      exact ⟨_, fr', _, _, id, h4, rfl, fun kk e hk => R_rem h1 h2 ⟨nz_spec h3, h5 kk hk⟩⟩
    · exact absurd hr.symm ho
  · obtain ⟨v, h1, h2, h3⟩ := opV_spec (P := P) (μ := μ) (L := L) hr ho
    obtain ⟨fr', h4, h5⟩ := putO_spec h1 ho
    exact ⟨_, fr', _, _, id, h4, h2, fun kk _ hk => h3 _ (h5 kk hk)⟩
theorem codeO_spec {N : NN} {R : Kont} {kn : List (Nat × Bool)} (hT : TOk P T) {c : Code} {s : List MIt} {k : List MIt → List Value → List Value → Out} (hr : codeO kn c s fr a b k = o) (ho : o ≠ .bad) :
    ∃ s' a' b', (a' = b' → a = b) ∧ k s' a' b' = o ∧ (a' = b' → KS P N R s' fr μ L → KS P N R (.code c :: s) fr μ L) := by
  unfold codeO at hr
  split at hr
  · exact ⟨_, _, _, id, hr, fun _ h => WP.skip h⟩
  · exact ⟨_, _, _, id, hr, fun _ h => WP.seq h⟩
  · exact ⟨_, _, _, id, hr, fun _ h => WP.regionS h⟩
  · obtain ⟨z, t, hz, hr⟩ := decO_spec hr ho
    cases t with
    | true => exact ⟨_, _, _, fun e => (bool_of e).2, hr, fun e h => W_cond_t (by rw [← (bool_of e).1]; exact hz) h⟩
    | false => exact ⟨_, _, _, fun e => (bool_of e).2, hr, fun e h => W_cond_f (by rw [← (bool_of e).1]; exact hz) h⟩
  · exact ⟨_, _, _, id, hr, fun _ h => W_cond_t rfl h⟩
  · exact ⟨_, _, _, id, hr, fun _ h => W_cond_f rfl h⟩
  · split at hr
    · exact absurd hr.symm ho
    · exact ⟨_, _, _, id, hr, fun _ h => WP.block h⟩
  · split at hr
    · exact ⟨_, _, _, id, hr, fun _ h => WP.exit (popTo_sound (by assumption) h)⟩
    · exact absurd hr.symm ho
  · exact ⟨_, _, _, id, hr, fun _ h => WP.scope h⟩
  · exact ⟨_, _, _, id, hr, fun _ h => WP.label h⟩
  · exact absurd hr.symm ho
theorem runO_spec {N : NN} {R : Kont} {kn : List (Nat × Bool)} (hT : TOk P T) {s' : List MIt} {fr' : Fr} {L' : List Seg} {e1 e2 : List Value} : ∀ (m : Nat) (els : Els) (hs : List Nat) (s : List MIt) (fr : Fr) (L : List Seg) (a b : List Value),
    runO T N.n kn m els hs s fr L a b = .ok s' fr' L' e1 e2 → e1 = e2 → ElsOk (cxM s μ) (cxL s L) els → a = b ∧ (KS P N R s' fr' μ L' → KS P N R s fr μ L)
  | 0, els, hs, s, fr, L, a, b, h, e, _ => by
    injection h with h1 h2 h3 h4 h5
    subst h1 h2 h3 h4 h5
    exact ⟨e, id⟩
  | m + 1, els, hs, s, fr, L, a, b, h, e, hel => by
    have ih := fun els hs s fr L a b (h : runO T N.n kn m els hs s fr L a b = .ok s' fr' L' e1 e2) => runO_spec (R := R) hT m els hs s fr L a b h e
    have ho : Out.ok s' fr' L' e1 e2 ≠ .bad := by simp
    simp only [runO] at h
    unfold stepO at h
    split at h
    · rename_i all op r s
      obtain ⟨a', b', h1, h2⟩ := gdO_spec h ho
      rcases h2 with ⟨h2, h3⟩ | ⟨h2, h3⟩
      · split at h2
        · rename_i t x y hop
          split at h2
          · obtain ⟨p, h4, h2⟩ := evK_spec h2 ho
            obtain ⟨v, h5, h2⟩ := evK_spec h2 ho
            obtain ⟨L2, a2, b2, h6, h2, h7⟩ := storeO_spec (P := P) (μ := μ) (ty := op.type) h2 ho h4 h5
            obtain ⟨fr2, h8, h9⟩ := putO_spec h2 ho
            obtain ⟨h10, h11⟩ := ih _ _ _ _ _ _ _ h8 (fun p hp => by cases hp)
            refine ⟨h1 (h6 h10), fun hk => ?_⟩
            refine WPops.cons hT (h3 _ _ (h6 h10) ?_)
            rw [hop]
            exact h7 _ h10 (h9 _ (h11 hk))
          · exact absurd h2.symm ho
        · obtain ⟨hs2, fr2, a2, b2, h4, h5, h6, h7⟩ := rdO_spec (P := P) (μ := μ) h2 ho hel
          obtain ⟨h8, h9⟩ := ih _ _ _ _ _ _ _ h5 hel
          exact ⟨h1 (h4 h8), fun hk => WPops.cons hT (h3 _ _ (h4 h8) (O_read h6 (h7 _ h8 (h9 hk))))⟩
      · obtain ⟨fr2, h4, h5⟩ := putO_spec h2 ho
        obtain ⟨h6, h7⟩ := ih _ _ _ _ _ _ _ h4 hel
        exact ⟨h1 h6, fun hk => WPops.cons hT (h3 _ _ h6 (h5 _ (h7 hk)))⟩
    · obtain ⟨h1, h2⟩ := ih _ _ _ _ _ _ _ h (ElsOk_at hel _)
      exact ⟨h1, fun hk => WPops.nil (h2 hk)⟩
    · obtain ⟨h1, h2⟩ := ih _ _ _ _ _ _ _ h (ElsOk_at hel _)
      exact ⟨h1, h2⟩
    · obtain ⟨s2, a', b', h1, h2, h3⟩ := codeO_spec (R := R) (μ := μ) (L := L) hT h ho
      obtain ⟨h4, h5⟩ := ih _ _ _ _ _ _ _ h2 (ElsOk_at hel _)
      exact ⟨h1 h4, fun hk => h3 h4 (h5 hk)⟩
    · rename_i all l i pl μ0 keep s
      split at h
      · rename_i op hi
        obtain ⟨a', b', h1, h2⟩ := gdO_spec h ho
        rcases h2 with ⟨h2, h3⟩ | ⟨h2, h3⟩
        · obtain ⟨hs2, fr2, a2, b2, h4, h5, h6, h7⟩ := rdO_spec (P := P) (μ := μ0) h2 ho hel
          obtain ⟨h8, h9⟩ := ih _ _ _ _ _ _ _ h5 hel
          exact ⟨h1 (h4 h8), fun hk => WPpl.t hT hi (h3 _ _ (h4 h8) (h7 _ h8 (h9 hk)))⟩
        · obtain ⟨fr2, h4, h5⟩ := putO_spec h2 ho
          obtain ⟨h6, h7⟩ := ih _ _ _ _ _ _ _ h4 hel
          exact ⟨h1 h6, fun hk => WPpl.t hT hi (h3 _ _ h6 (h5 _ (h7 hk)))⟩
      · exact absurd h.symm ho
    · rename_i all l i pl μ0 keep s
      split at h
      · rename_i op hi
        obtain ⟨a', b', h1, h2⟩ := gdO_spec h ho
        rcases h2 with ⟨h2, h3⟩ | ⟨h2, h3⟩
        · exact absurd h2.symm ho
        · obtain ⟨fr2, h4, h5⟩ := putO_spec h2 ho
          obtain ⟨h6, h7⟩ := ih _ _ _ _ _ _ _ h4 hel
          exact ⟨h1 h6, fun hk => WPpl.f hT hi (h3 _ _ h6 (h5 _ (h7 hk)))⟩
      · exact absurd h.symm ho
    · obtain ⟨h1, h2⟩ := ih _ _ _ _ _ _ _ h (fun p hp => by cases hp)
      exact ⟨h1, fun hk => WPpl.nil (h2 hk)⟩
    · rename_i all l i pl m2 l1 μ0 keep s
      split at h
      · rename_i op hi
        obtain ⟨a', b', h1, h2⟩ := gdO_spec h ho
        rcases h2 with ⟨h2, h3⟩ | ⟨h2, h3⟩
        · obtain ⟨hs2, fr2, a2, b2, h4, h5, h6, h7⟩ := rdO_spec (P := P) (μ := μ0) h2 ho hel
          obtain ⟨h8, h9⟩ := ih _ _ _ _ _ _ _ h5 hel
          exact ⟨h1 (h4 h8), fun hk => WPpp.t hT hi (h3 _ _ (h4 h8) (h7 _ h8 (h9 hk)))⟩
        · obtain ⟨fr2, h4, h5⟩ := putO_spec h2 ho
          obtain ⟨h6, h7⟩ := ih _ _ _ _ _ _ _ h4 hel
          exact ⟨h1 h6, fun hk => WPpp.t hT hi (h3 _ _ h6 (h5 _ (h7 hk)))⟩
      · exact absurd h.symm ho
    · exact absurd h.symm ho
end
end Go.Proofs.YthpgjbbjpfiniaaGreat
