/- payment: a bill put into its place, for the printed walks. -/
import Derived.Test.YticcfpmehjcjcaaPa
import Derived.Test.YticcfpmehjcjcaaTas
namespace Go.Proofs.Yticcfpmehjcjcaa
open Go.RowKit
set_option linter.unusedSimpArgs false
set_option linter.unusedVariables false

def billOf (x : T_api_Open) : Bill := ⟨x.Bill, x.Due, x.Rest⟩
theorem place_eq (x : T_api_Open) (l : List T_api_Open) : ∀ k, place (billOf x) (l.map billOf) k = placeO x l k
  | 0 => rfl
  | k + 1 => by
    simp only [place, placeO, List.getElem?_map]
    cases l[k]? with
    | none => rfl
    | some y =>
      have ih := place_eq x l k
      have e : beforeB (billOf x) (billOf y) = befO x y := rfl
      simp only [Option.map_some, ih, e]
theorem flat_open {μ : Gh} : ∀ {xs : List T_api_Open} {css : List (List Value)}, All2 (r_api_Open.rep μ) xs css → css = (xs.map billOf).map Bill.cells
  | [], css, h => by
    have := h.1
    cases css with
    | nil => rfl
    | cons a b => simp at this
  | x :: xs, css, h => by
    cases css with
    | nil => have := h.1; simp at this
    | cons a b =>
      have h0 := h.2 0 x a rfl rfl
      have h1 : All2 (r_api_Open.rep μ) xs b := ⟨by have := h.1; simpa using this, fun i u v hu hv => h.2 (i + 1) u v (by simpa using hu) (by simpa using hv)⟩
      rw [flat_open h1, List.map_cons, List.map_cons]
      congr 1
theorem insertR {μ : Gh} {L : List Seg} {A : Option Addr} {c : Nat} {xs ys : List T_api_Open} {x : T_api_Open} (hr : Rds r_api_Open μ L A xs) (hz : insO xs x = some ys) {R : Value → Gh → List Seg → Prop}
    (hR : ∀ A' c' ch', Own r_api_Open 49 μ (.slice A' ys.length c') ys ch' → R (.slice A' ys.length c') μ (ch' :: L)) :
    Fn Try.prog 26 [.slice A xs.length c, .agg #[.int .i64 x.Bill, .int .i64 x.Due, .int .i64 x.Rest], .func (.func 27) #[] #[]] μ L R := by
  unfold insO at hz
  split at hz
  case isFalse => cases hz
  rename_i hb
  injection hz with hz
  obtain ⟨css, h1, h2⟩ := hr
  have hcss := flat_open h2
  rw [hcss] at h1
  have := insert_fn (c := c) (xs.map billOf) (billOf x) h1 (by simpa using hb) (R := R) fun v ch hv => ?_
  · rwa [List.length_map] at this
  · have e : insertB (xs.map billOf) (billOf x) = ys.map billOf := by
      rw [← hz]
      simp only [insertB, place_eq, List.length_map, List.map_append, List.map_cons, List.map_take, List.map_drop]
    rw [e] at hv
    have ho : Own r_api_Open 49 μ v ys ch := ⟨_, hv, by simp, fun i u w hu hw => by
      rw [List.getElem?_map, List.getElem?_map, hu] at hw
      simp only [Option.map_some, Option.some.injEq] at hw
      rw [← hw]; rfl⟩
    obtain ⟨A', c', rfl, _, _⟩ := ho.form
    exact hR A' c' ch ho

end Go.Proofs.Yticcfpmehjcjcaa
