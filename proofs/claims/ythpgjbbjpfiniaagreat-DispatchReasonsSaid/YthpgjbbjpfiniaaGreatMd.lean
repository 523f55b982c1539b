/- The machine's rules for this program: a function's beginning and end, cuts, loops. -/
import Derived.Test.YthpgjbbjpfiniaaGreatMc
namespace Go.Proofs.YthpgjbbjpfiniaaGreat
open Go.RowKit
set_option linter.unusedSimpArgs false
set_option linter.unusedVariables false
def ixs : List Nat := [0, 1, 2, 3, 4, 5, 6, 7, 8, 9, 10, 11, 12, 13, 14, 15]
def argO : List Nat → List Value → (Fr → Out) → Out
  | _, [], k => k []
  | [], _ :: _, _ => .bad
  | i :: is, v :: r, k => argO is r fun f => k ((i, v) :: f)
def nfF : Fr → (Fr → Out) → Out
  | [], k => k []
  | (t, v) :: r, k => nfF r fun f => k ((t, v) :: f)
def nfL : Nat → List Seg → (List Seg → Out) → Out
  | 0, L, k => k L
  | _ + 1, [], k => k []
  | n + 1, s :: r, k => nfL n r fun l => k (s :: l)
def finO (vs : List Value) (a b : List Value) : Out := match vs with
  | [v] => .ok [] [(0, v)] [] a b
  | vs => .ok [] [(0, .tuple ⟨vs⟩)] [] a b
def resO (T : TT) (L : List Seg) (fr : Fr) : List ResultVar → List Nat → List Value → List Value → (List Value → List Value → List Value → Out) → Out
  | [], _, a, b, k => k [] a b
  | .tmp t :: r, hs, a, b, k => (match look fr t with | some v => resO T L fr r hs a b fun vs a b => k (v :: vs) a b | none => .bad)
  | .cell p t :: r, hs, a, b, k => (match look fr p, hs with | some v, h :: hs => loadO T [] L t v h a b fun u a b => resO T L fr r hs a b fun vs a b => k (u :: vs) a b | _, _ => .bad)
theorem argO_spec {o : Out} (ho : o ≠ .bad) : ∀ (m i : Nat) (args : List Value) (k : Fr → Out), argO (List.range' i m) args k = o → k ((args.zipIdx i).map fun p => (p.2, p.1)) = o
  | _, i, [], k, h => by cases ‹Nat› <;> simpa [argO] using h
  | 0, i, v :: r, k, h => absurd h.symm ho
  | m + 1, i, v :: r, k, h => by
    have := argO_spec ho m (i + 1) r _ (by simpa [List.range'_succ, argO] using h)
    simpa using this
theorem nfF_spec : ∀ (F : Fr) (k : Fr → Out), nfF F k = k F
  | [], k => rfl
  | (t, v) :: r, k => nfF_spec r _
theorem nfL_spec : ∀ (n : Nat) (L : List Seg) (k : List Seg → Out), nfL n L k = k L
  | 0, L, k => by cases L <;> rfl
  | n + 1, [], k => rfl
  | n + 1, s :: r, k => nfL_spec n r _
section
variable {o : Out} {T : TT} {fr : Fr} {μ : Gh} {L : List Seg}
theorem resO_spec : ∀ {rs : List ResultVar} {hs : List Nat} {a b : List Value} {k : List Value → List Value → List Value → Out} {e : List Value}, resO T L fr rs hs a b k = o → o ≠ .bad →
    ∃ vs a' b', (a' = b' → a = b) ∧ k vs a' b' = o ∧ ∀ kk : List Value → Prop, a' = b' → kk vs → resK T rs fr μ L kk
  | [], hs, a, b, k, e, h, ho => ⟨[], a, b, id, h, fun kk _ hk => hk⟩
  | .tmp t :: r, hs, a, b, k, e, h, ho => by
    unfold resO at h
    split at h
    · rename_i v hv
      obtain ⟨vs, a', b', h1, h2, h3⟩ := resO_spec (e := e) h ho
      exact ⟨v :: vs, a', b', h1, h2, fun kk e hk => S_tmp hv (h3 _ e hk)⟩
    · exact absurd h.symm ho
  | .cell p t :: r, hs, a, b, k, e, h, ho => by
    unfold resO at h
    split at h
    · rename_i v h0 hs hv
      have hx : evV fr (.tmp p) = some v := hv
      obtain ⟨u, a', b', h1, h2, h3⟩ := loadO_spec (P := default) (μ := μ) (fr := fr) (x := .tmp p) h ho hx (fun p hp => by cases hp)
      obtain ⟨vs, a2, b2, h4, h5, h6⟩ := resO_spec (e := e) h2 ho
      refine ⟨u :: vs, a2, b2, fun e => h1 (h4 e), h5, fun kk e hk => ?_⟩
      have h7 : ev fr (.tmp p) fun v => loadK T μ L t v fun u => resK T r fr μ L fun vs => kk (u :: vs) := h3 (fun u => resK T r fr μ L fun vs => kk (u :: vs)) (h4 e) (h6 _ e hk)
      exact h7
    · exact absurd h.symm ho
end
section
variable {N : NN} {R : Kont} {fr : Fr} {μ : Gh} {L : List Seg} {s s' : List MIt} {fr' : Fr} {L' : List Seg} {e : List Value} {dst : Option Tmp} {v : Value}
def RK (rs : List ResultVar) (Rv : Value → Gh → List Seg → Prop) : Kont := fun fr μ L => resK Tt rs fr μ L fun vs => Upd μ L (Rv (resV vs))
theorem FnS {f : FuncId} {fn : Func} {c : Code} {args : List Value} {n : Nat} {Rv : Value → Gh → List Seg → Prop} (hf : Tryz.prog.funcs[f]? = some fn) (hnm : (fn.name == "runtime.NumGoroutine") = false) (hb : fn.body = some c) (hn : fn.ntmps = n) (hl : Nat.ble args.length n = true)
    (ha : argO ixs args (fun F => .ok [] F [] [] []) = .ok [] fr [] [] []) (k : KS Tryz.prog ⟨n, [], none⟩ (RK fn.results.toList Rv) [.code c] fr μ L) : Fn Tryz.prog f args μ L Rv := by
  have e1 := argO_spec (by simp) 16 0 args _ (show argO (List.range' 0 16) args _ = _ from ha)
  injection e1 with _ e1 _ _ _
  subst e1
  refine Fn.of_body Tt_ok hf hnm hb hn (Nat.le_of_ble_eq_true hl) ?_
  intro a w ha hw
  refine Code.wpIn_mono (fun e a' w' hl => ?_) (k a w ha hw)
  cases e with
  | normal =>
    obtain ⟨f1, μ1, L1, h1, h2, h3, h4⟩ := hl
    obtain ⟨f2, μ2, L2, h5, h6, h7, h8⟩ := h4 a' w' h1 h3
    exact ⟨f2, μ2, L2, h5, h2.trans h6, h7, h8⟩
  | ret =>
    obtain ⟨f1, μ1, L1, h1, h2, h3, h4⟩ := hl
    obtain ⟨f2, μ2, L2, h5, h6, h7, h8⟩ := h4 a' w' h1 h3
    exact ⟨f2, μ2, L2, h5, h2.trans h6, h7, h8⟩
  | _ => exact hl
variable {rs : List ResultVar} {Rv : Value → Gh → List Seg → Prop}
def retB : List MIt → Bool
  | [] => true
  | .code .ret :: _ => true
  | .blk _ :: s => retB s
  | .ops _ [] :: s => retB s
  | _ => false
theorem KS.ret (h : R fr μ L) (s : List MIt) : retB s = true → KS Tryz.prog N R s fr μ L := by
  induction s with
  | nil => exact fun _ => KEn.done h
  | cons i s ih =>
    cases i with
    | code c => cases c <;> first | exact fun _ => WP.ret (KEn.done h) | exact fun hb => by cases hb
    | blk i => exact ih
    | ops all r =>
      cases r with
      | nil => exact fun hb => WPops.nil (ih hb)
      | cons o r => exact fun hb => by cases hb
    | pln => exact fun hb => by cases hb
    | plp => exact fun hb => by cases hb
    | cut => exact fun hb => by cases hb
theorem Rt (hs : List Nat) (hb : retB s = true) (h : resO Tt L fr rs hs [] [] finO = .ok [] [(0, v)] [] e e) (k : Upd μ L (Rv v)) : KS Tryz.prog N (RK rs Rv) s fr μ L := by
  refine KS.ret ?_ s hb
  unfold RK
  obtain ⟨vs, a', b', h1, h2, h3⟩ := resO_spec (μ := μ) (e := e) h (by simp)
  unfold finO at h2
  split at h2
  · injection h2 with _ h2 _ h4 h5
    injection h2 with h2 _
    injection h2 with _ h2
    subst h2 h4
    exact h3 _ h5.symm k
  · rename_i hn
    injection h2 with _ h2 _ h4 h5
    injection h2 with h2 _
    injection h2 with _ h2
    subst h2 h4
    refine h3 _ h5.symm ?_
    have : resV vs = .tuple vs.toArray := by
      match vs, hn with
      | [], _ => rfl
      | [v], hn => exact absurd rfl (hn v)
      | _ :: _ :: _, _ => rfl
    rw [this]; exact k
def nthG (L : List Seg) (i : Nat) : Option Seg := bif Nat.blt i 64 then nthS L i else none
theorem nthG_of {L : List Seg} {i : Nat} {s : Seg} (h : nthG L i = some s) : L[i]? = some s := by
  unfold nthG at h
  cases hb : Nat.blt i 64 with
  | true => rw [hb] at h; rw [← nthS_eq]; exact h
  | false => rw [hb] at h; cases h
def catS : List Nat → List Seg → Seg × List Seg
  | [], L => ([], L)
  | [i], L => match nthG L i with
    | some s => (s, setS L i [])
    | none => ([], L)
  | i :: j :: r, L => match nthG L i with
    | some s => (s ++ (catS (j :: r) (setS L i [])).1, (catS (j :: r) (setS L i [])).2)
    | none => catS (j :: r) L
def grpS : List (List Nat) → Nat → List Seg → List Seg
  | [], k, L => L.drop k
  | g :: r, k, L => (catS g L).1 :: grpS r k (catS g L).2
theorem catS_perm : ∀ (g : List Nat) (L : List Seg), L.flatten.Perm ((catS g L).1 ++ (catS g L).2.flatten)
  | [], L => by simp [catS]
  | [i], L => by
    unfold catS
    cases hi : nthG L i with
    | none => simp
    | some s =>
      have hi := nthG_of hi
      have h1 := set_nil_perm hi
      rw [← setS_eq] at h1
      simpa using h1
  | i :: j :: r, L => by
    unfold catS
    cases hi : nthG L i with
    | none => exact catS_perm (j :: r) L
    | some s =>
      simp only
      have hi := nthG_of hi
      have h1 := set_nil_perm hi
      rw [← setS_eq] at h1
      refine h1.trans ?_
      simp only [List.flatten_cons, List.append_assoc]
      exact (catS_perm (j :: r) _).append_left s
theorem SegSub.grp : ∀ (gs : List (List Nat)) (k : Nat) (L : List Seg), SegSub (grpS gs k L) L := by
  intro gs k L w μ h
  have key : ∀ (gs : List (List Nat)) (L : List Seg), ∃ M, L.flatten.Perm ((grpS gs k L).flatten ++ M) := by
    intro gs
    induction gs with
    | nil => intro L; exact ⟨(L.take k).flatten, by simp only [grpS]; conv => lhs; rw [← List.take_append_drop k L, List.flatten_append]
                                                    exact List.perm_append_comm⟩
    | cons g r ih =>
      intro L
      obtain ⟨M, hM⟩ := ih (catS g L).2
      refine ⟨M, (catS_perm g L).trans ?_⟩
      simp only [grpS, List.flatten_cons, List.append_assoc]
      exact hM.append_left _
  obtain ⟨M, hM⟩ := key gs L
  exact (h.perm (L' := [(grpS gs k L).flatten, M]) (by simpa using hM)).sub (by simp)
theorem Gp {L2 : List Seg} (gs : List (List Nat)) (k m : Nat) (hb : segB s = true) (hn : nfL m (grpS gs k L) (fun l => .ok [] [] l [] []) = .ok [] [] L2 [] []) (h : KS Tryz.prog N R s fr μ L2) : KS Tryz.prog N R s fr μ L := by
  rw [nfL_spec] at hn
  injection hn with _ _ hn _ _
  subst hn
  exact KS.seg (SegSub.grp gs k L) hb h
theorem Upd.gp {kk : Gh → List Seg → Prop} (gs : List (List Nat)) (k : Nat) (h : Upd μ (grpS gs k L) kk) : Upd μ L kk := fun w hw => h w (SegSub.grp gs k L w μ hw)
theorem Fn.gp {f : FuncId} {args : List Value} {Rv : Value → Gh → List Seg → Prop} {L2 : List Seg} (gs : List (List Nat)) (k m : Nat) (hn : nfL m (grpS gs k L) (fun l => .ok [] [] l [] []) = .ok [] [] L2 [] []) (h : Fn Tryz.prog f args μ L2 Rv) : Fn Tryz.prog f args μ L Rv := by
  rw [nfL_spec] at hn
  injection hn with _ _ hn _ _
  subst hn
  exact Fn.seg (SegSub.grp gs k L) h
def insS : List Seg → Nat → List Seg → List Seg
  | [], _, _ => []
  | _ :: r, 0, xs => xs ++ r
  | s :: r, n + 1, xs => s :: insS r n xs
theorem SegSub.ins {xs : List Seg} {so : Seg} (hx : xs.flatten = so) : ∀ {L : List Seg} {i : Nat}, nthS L i = some so → SegSub (insS L i xs) L := by
  intro L i hi w μ hw
  have key : ∀ {L : List Seg} {i : Nat}, nthS L i = some so → (insS L i xs).flatten = L.flatten := by
    intro L
    induction L with
    | nil => intro i h; cases h
    | cons s r ih =>
      intro i h
      cases i with
      | zero => simp only [nthS, Option.some.injEq] at h; subst h; simp [insS, hx]
      | succ i => simp only [insS, List.flatten_cons]; rw [ih (by simpa [nthS] using h)]
  exact hw.perm (by rw [key hi])
theorem In {xs : List Seg} {so : Seg} {L2 : List Seg} (hx : xs.flatten = so) (i m : Nat) (hb : segB s = true) (hi : nthS L i = some so) (hn : nfL m (insS L i xs) (fun l => .ok [] [] l [] []) = .ok [] [] L2 [] []) (h : KS Tryz.prog N R s fr μ L2) : KS Tryz.prog N R s fr μ L := by
  rw [nfL_spec] at hn
  injection hn with _ _ hn _ _
  subst hn
  exact KS.seg (SegSub.ins hx hi) hb h
def slotsF : Fr → List Nat
  | [] => []
  | (t, _) :: r => t :: slotsF r
theorem keepF_sub {fr : Fr} : ∀ {F : Fr}, keepF (slotsF F) fr = F → SubF F fr
  | [], _ => trivial
  | (t, v) :: r, h => by
    simp only [slotsF, keepF] at h
    split at h
    · rename_i u hu
      injection h with h1 h2
      injection h1 with _ h1
      subst h1
      exact ⟨hu, keepF_sub h2⟩
    ·
      exfalso
      have key : ∀ (ts : List Nat), (keepF ts fr).length ≤ ts.length := by
        intro ts
        induction ts with
        | nil => exact Nat.le_refl _
        | cons t ts ih =>
          simp only [keepF]
          split
          · simp only [List.length_cons]; omega
          · simp only [List.length_cons]; omega
      have h1 := key (slotsF r)
      have h2 : ∀ F : Fr, (slotsF F).length = F.length := by
        intro F
        induction F with
        | nil => rfl
        | cons p F ih => obtain ⟨t, v⟩ := p; simp only [slotsF, List.length_cons, ih]
      rw [h, h2] at h1
      simp only [List.length_cons] at h1
      omega
theorem fE {F fr : Fr} (h : keepF (slotsF F) fr = F) : SubFr F fr := SubFr.of (keepF_sub h)
theorem sE {M L : List Seg} (idx : List (Option Nat)) (n : Nat) (h : selS idx n L = M) : SegSub M L := by subst h; exact SegSub.sel L idx n
theorem s0 {L : List Seg} (n : Nat) : SegSub (selS [] n L) L := SegSub.sel L [] n
theorem Ug {kk : Gh → List Seg → Prop} (gs : List (List Nat)) (k : Nat) (h : kk μ (grpS gs k L)) : Upd μ L kk := fun w hw => ⟨μ, _, Gh.le.refl _, SegSub.grp gs k L w μ hw, h⟩
theorem SubFr.tr {F G fr : Fr} (h : SubFr F fr) (hg : keepF (slotsF G) F = G) : SubFr G fr := (fE hg).trans h
theorem SegSub.tr {A M B : List Seg} (h : SegSub M B) (hg : SegSub A M) : SegSub A B := hg.trans h
theorem Cd {c : Code} (h : WP Tryz.prog N c (KS Tryz.prog N R s) (BS Tryz.prog N R s) (KEn N R) fr μ L) : KS Tryz.prog N R (.code c :: s) fr μ L := h
def drB (ops : List Oper) (plan : List (Bool × Nat)) : Bool := Nat.beq plan.length ops.length && (Region.noSelect ops.toArray && (noDef ops && planOk ops plan (List.replicate ops.length false)))
theorem Dr {id : Nat} {ops : List Oper} (keep : List Seg) (hk : Kept keep L) (plan : List (Bool × Nat)) (hp : drB ops plan = true) (h : KS Tryz.prog N R (.pln ops (List.replicate ops.length false) plan μ keep :: s) fr μ L) : KS Tryz.prog N R (.code (.region id ops.toArray true) :: s) fr μ L := by
  unfold drB at hp
  simp only [Bool.and_eq_true] at hp
  exact WP.drawS wide keep hk plan (Nat.eq_of_beq_eq_true hp.1) hp.2.1 hp.2.2.1 hp.2.2.2 h
def delS : Nat → List Seg → List Seg
  | 0, L => match L with | [] => [] | _ :: r => r
  | n + 1, L => match L with | [] => [] | s :: r => s :: delS n r
def rmS : List Nat → List Seg → List Seg
  | [], L => L
  | i :: r, L => rmS r (delS i L)
theorem delS_sub : ∀ (n : Nat) (L : List Seg), ∀ x ∈ delS n L, x ∈ L
  | 0, [], x, h => h
  | 0, _ :: r, x, h => List.mem_cons_of_mem _ h
  | n + 1, [], x, h => h
  | n + 1, s :: r, x, h => by
    rcases List.mem_cons.1 h with rfl | h
    · exact List.mem_cons_self
    · exact List.mem_cons_of_mem _ (delS_sub n r x h)
theorem rmS_sub : ∀ (idx : List Nat) (L : List Seg), ∀ x ∈ rmS idx L, x ∈ L
  | [], L, x, h => h
  | i :: r, L, x, h => delS_sub i L x (rmS_sub r _ x h)
theorem Drk {id : Nat} {ops : List Oper} {keep : List Seg} (idx : List Nat) (m : Nat) (hn : nfL m (rmS idx L) (fun l => .ok [] [] l [] []) = .ok [] [] keep [] []) (plan : List (Bool × Nat)) (hp : drB ops plan = true)
    (h : KS Tryz.prog N R (.pln ops (List.replicate ops.length false) plan μ keep :: s) fr μ L) : KS Tryz.prog N R (.code (.region id ops.toArray true) :: s) fr μ L := by
  rw [nfL_spec] at hn
  injection hn with _ _ hn _ _
  exact Dr keep (Kept.of fun x hx => rmS_sub idx L x (by rw [hn]; exact hx)) plan hp h
def pickL : List Nat → Nat → List Seg → List Seg
  | [], n, L => L.drop n
  | i :: r, n, L => (nthS L i).getD [] :: pickL r n L
theorem Kp {keep : List Seg} (idx : List Nat) (n : Nat) (h : pickL idx n L = keep) : Kept keep L := by
  subst h
  induction idx with
  | nil =>
    intro c hc
    obtain ⟨x, h1, h2⟩ := List.mem_flatten.1 hc
    exact List.mem_flatten.2 ⟨x, List.mem_of_mem_drop h1, h2⟩
  | cons i r ih =>
    intro c hc
    simp only [pickL, List.flatten_cons, List.mem_append] at hc
    rcases hc with hc | hc
    · cases hi : nthS L i with
      | none => rw [hi] at hc; cases hc
      | some x =>
        rw [hi] at hc
        rw [nthS_eq] at hi
        exact List.mem_flatten.2 ⟨x, List.mem_of_getElem? hi, hc⟩
    · exact ih c hc
theorem Cut {ρ β : Type} {m : Option ρ} {f : ρ → Option β} {r : β} {c : Code} (h : Option.bind m f = some r) (M : Fr → List Seg → ρ → Kont) (h1 : ∀ o, m = some o → f o = some r → KS Tryz.prog N R (.code c :: .cut (M fr L o) :: s) fr μ L)
    (h2 : ∀ o fr' μ' L', f o = some r → μ.le μ' → M fr L o fr' μ' L' → KS Tryz.prog N R s fr' μ' L') : KS Tryz.prog N R (.code c :: s) fr μ L := by
  obtain ⟨o, ho, h⟩ := obind h
  exact WP.cutK (M fr L o) (h1 o ho h) fun fr' μ' L' hm hM => h2 o fr' μ' L' h hm hM
theorem Atn {F F' : Fr} {L2 L2' : List Seg} (n : Nat) (hF : SubFr F fr) (hs : SegSub L2 L) (hb : segB s = true) (hn : nfF F (fun f => nfL n L2 fun l => .ok [] f l [] []) = .ok [] F' L2' [] []) (h : KS Tryz.prog N R s F' μ L2') : KS Tryz.prog N R s fr μ L := by
  rw [nfF_spec, nfL_spec] at hn
  injection hn with _ h1 h2 _ _
  subst h1 h2
  exact Att hF hs hb h
def popC : List MIt → Option Kont
  | .cut M :: _ => some M
  | .blk _ :: s => popC s
  | .ops _ [] :: s => popC s
  | _ => none
theorem Ce {M : Kont} (hb : popC s = some M) (h : M fr μ L) : KS Tryz.prog N R s fr μ L := by
  induction s with
  | nil => cases hb
  | cons i s ih =>
    cases i with
    | code c => cases hb
    | blk i => exact ih hb
    | ops all r =>
      cases r with
      | nil => exact WPops.nil (ih hb)
      | cons o r => cases hb
    | pln => cases hb
    | plp => cases hb
    | cut M' => simp only [popC, Option.some.injEq] at hb; subst hb; exact h
theorem Lp {σ ρ : Type} {body : σ → Option (σ ⊕ ρ)} {n i : Nat} {s0 : σ} {o : ρ} {c : Code} (h : iter body n s0 = some o) (I : Fr → List Seg → σ → Kont) (h0 : I fr L s0 fr μ L)
    (round : ∀ st q fr' μ' L', μ.le μ' → I fr L st fr' μ' L' → body st = some q → (∀ r, q = .inr r → r = o) → KS Tryz.prog N R (.code c :: .cut (fun fr2 μ2 L2 => ∃ st', q = .inl st' ∧ I fr L st' fr2 μ2 L2) :: .blk i :: s) fr' μ' L') :
    KS Tryz.prog N R (.code (.block i (.loop c)) :: s) fr μ L :=
  WP.block (WP.iter h (I fr L) h0 round)
inductive OutC where
  | ok (o : Oper) (s : List MIt) (n : Nat) (vs : List Value)
  | bad
def clO (s : List MIt) (fr : Fr) : OutC := match hdS s fr with
  | some (o, s') => (match o.op with
    | .call ⟨.value f, args, _⟩ => (match evV fr f, evVs fr args.toList with
      | some (.func (.func g) ⟨fi⟩ ⟨ca⟩), some vs => .ok o s' g (fi ++ (vs ++ ca))
      | _, _ => .bad)
    | _ => .bad)
  | none => .bad
theorem Cl {o : Oper} {f : Nat} {args : List Value} (h : clO s fr = .ok o s' f args) (k : Fn Tryz.prog f args μ L fun v μ' L' => kpt s L' (putK N o.dst v fr fun f => KS Tryz.prog N R s' f μ' L')) : KS Tryz.prog N R s fr μ L := by
  unfold clO at h
  split at h
  · rename_i o1 s1 h1
    split at h
    · rename_i hop
      split at h
      · rename_i hf hv
        injection h with e1 e2 e3 e4
        subst e1 e2 e3 e4
        refine So h1 ?_
        rw [hop]
        exact O_call hf hv (by simp) k
      · cases h
    · cases h
  · cases h
def alO (s : List MIt) (fr : Fr) : OutC := match hdS s fr with
  | some (o, s') => (match o.op with
    | .alloc t => (match Tt t with | some i => (match i.zero.cells with | ⟨cs⟩ => .ok o s' t cs) | none => .bad)
    | .box t x => (match evV fr x with | some v => (match v.cells with | ⟨cs⟩ => .ok o s' t cs) | none => .bad)
    | _ => .bad)
  | none => .bad
theorem Al {o : Oper} {t : Nat} {cs : List Value} (h : alO s fr = .ok o s' t cs) (k : ∀ g, kpt s ([(g, .cells ⟨cs⟩ t)] :: L) (putK N o.dst (.pointer (some ⟨g, 0, none⟩)) fr fun f => KS Tryz.prog N R s' f μ ([(g, .cells ⟨cs⟩ t)] :: L))) : KS Tryz.prog N R s fr μ L := by
  unfold alO at h
  split at h
  · rename_i o1 s1 h1
    split at h
    · rename_i hop
      split at h
      · rename_i hT
        split at h
        rename_i hz
        injection h with e1 e2 e3 e4
        subst e1 e2 e3 e4
        refine So h1 ?_
        rw [hop]
        exact O_alloc hT hz k
      · cases h
    · rename_i hop
      split at h
      · rename_i hv
        split at h
        rename_i hz
        injection h with e1 e2 e3 e4
        subst e1 e2 e3 e4
        refine So h1 ?_
        rw [hop]
        exact O_box hv hz k
      · cases h
    · cases h
  · cases h
inductive OutI where
  | ok (o : Oper) (s : List MIt) (A : Option Addr) (len : Nat) (ix : Int) (sz : Nat)
  | bad
def ixO (s : List MIt) (fr : Fr) : OutI := match hdO s fr with
  | some (true, o, s') => (match o.op with
    | .indexAddr t x n => (match evV fr x, evV fr n, Tt t with
      | some (.slice A len _), some (.int _ ix), some i => (match i.u with
        | .slice e => (match Tt e with | some ⟨_, sz, _, _, _⟩ => .ok o s' A len ix sz | none => .bad)
        | _ => .bad)
      | _, _, _ => .bad)
    | _ => .bad)
  | _ => .bad
theorem Ix {α β : Type} {μ1 : Gh} {L1 : List Seg} {r : Rp α} {xs : List α} {ix : Int} {f : α → Option β} {res : β} {A : Option Addr} {o : Oper} {sz : Nat} (h : Option.bind (getI xs ix) f = some res) (hR : Rds r μ1 L1 A xs) (hi : ixO s fr = .ok o s' A xs.length ix sz) (hz : r.sz = sz)
    (k : ∀ x a cs, getI xs ix = some x → r.rep μ1 x cs → Cells μ1 L1 (a.add (ix.toNat * sz)) cs → A = some a → f x = some res → putK N o.dst (.pointer (some (a.add (ix.toNat * sz)))) fr fun f => KS Tryz.prog N R s' f μ L) : KS Tryz.prog N R s fr μ L := by
  subst hz
  obtain ⟨x, hx, hh⟩ := obind h
  obtain ⟨a, cs, hA, hr, _, hc⟩ := Rds.getI hR hx
  unfold ixO at hi
  split at hi
  · rename_i o1 s1 h1
    split at hi
    · rename_i hop
      split at hi
      · rename_i hx1 hn1 hT1
        split at hi
        · rename_i hu
          split at hi
          · rename_i hT2
            injection hi with e1 e2 e3 e4 e5 e6
            subst e1 e2 e3 e4 e5
            refine Rdo h1 (by rw [hop]; rfl) ?_
            rw [hop]
            refine R_iaG hx1 hn1 hT1 hu hT2 e6 ⟨(getI_lt hx).1, (getI_lt hx).2.1⟩ hA ?_
            exact k x a cs hx hr hc hA hh
          · cases hi
        · cases hi
      · cases hi
    · cases hi
  · cases hi
theorem IxN {α β : Type} {μ1 : Gh} {L1 : List Seg} {r : Rp α} {xs : List α} {ix : Int} {f : α → Option β} {res : β} {A : Option Addr} {o : Oper} {sz : Nat} {n : Nat} (hn : n = xs.length) (h : Option.bind (getI xs ix) f = some res) (hR : Rds r μ1 L1 A xs) (hi : ixO s fr = .ok o s' A n ix sz) (hz : r.sz = sz)
    (k : ∀ x a cs, getI xs ix = some x → r.rep μ1 x cs → Cells μ1 L1 (a.add (ix.toNat * sz)) cs → A = some a → f x = some res → putK N o.dst (.pointer (some (a.add (ix.toNat * sz)))) fr fun f => KS Tryz.prog N R s' f μ L) : KS Tryz.prog N R s fr μ L := by
  subst hn
  exact Ix h hR hi hz k
theorem IxA {α β : Type} {all rest : List Oper} {s1 : List MIt} {r : Rp α} {xs : List α} {ix : Int} {f : α → Option β} {res : β} {A : Option Addr} {o : Oper} {sz : Nat} (h : Option.bind (getI xs ix) f = some res) (hR : Rds r μ L A xs) (hi : ixO (.ops all rest :: s1) fr = .ok o s' A xs.length ix sz) (hz : r.sz = sz)
    (k : ∀ x a cs, getI xs ix = some x → r.rep μ x cs → Cells μ L (a.add (ix.toNat * sz)) cs → A = some a → f x = some res → putK N o.dst (.pointer (some (a.add (ix.toNat * sz)))) fr fun f => KS Tryz.prog N R s' f μ L) : KS Tryz.prog N R (.ops all rest :: s1) fr μ L := Ix h hR hi hz k
end
end Go.Proofs.YthpgjbbjpfiniaaGreat
