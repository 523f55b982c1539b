/- What is asked of the types of this program. Made by a program of this repo. -/
import Derived.Test.YticcfpmehjcjcaaChecked
import Derived.Test.YticcfpmehjcjcaaKf
import Derived.KernelRfl
namespace Go.Proofs.Yticcfpmehjcjcaa

def TtL : List (Nat × TyI) := [
  (2, ⟨(Go.TypeDesc.int Go.IntKind.i64), 1, 8, (Go.Value.int Go.IntKind.i64 0), []⟩),
  (3, ⟨(Go.TypeDesc.int Go.IntKind.i64), 1, 8, (Go.Value.int Go.IntKind.i64 0), []⟩),
  (4, ⟨Go.TypeDesc.bool, 1, 1, (Go.Value.bool false), []⟩),
  (5, ⟨(Go.TypeDesc.int Go.IntKind.u8), 1, 1, (Go.Value.int Go.IntKind.u8 0), []⟩),
  (9, ⟨Go.TypeDesc.string, 1, 16, (Go.Value.string { data := #[] }), []⟩),
  (12, ⟨(Go.TypeDesc.int Go.IntKind.u64), 1, 8, (Go.Value.int Go.IntKind.u64 0), []⟩),
  (21, ⟨(Go.TypeDesc.int Go.IntKind.i32), 1, 4, (Go.Value.int Go.IntKind.i32 0), []⟩),
  (22, ⟨(Go.TypeDesc.slice 29), 1, 24, (Go.Value.slice none 0 0), []⟩),
  (23, ⟨(Go.TypeDesc.pointer 56), 1, 8, (Go.Value.pointer none), []⟩),
  (25, ⟨(Go.TypeDesc.pointer 58), 1, 8, (Go.Value.pointer none), []⟩),
  (28, ⟨(Go.TypeDesc.struct #[]), 4, 32, (Go.Value.agg #[(Go.Value.int Go.IntKind.i64 0), (Go.Value.int Go.IntKind.i64 0), (Go.Value.int Go.IntKind.i64 0), (Go.Value.int Go.IntKind.i64 0)]), [some (0, 1, false), some (1, 1, false), some (2, 1, false), some (3, 1, false)]⟩),
  (29, ⟨(Go.TypeDesc.struct #[]), 4, 32, (Go.Value.agg #[(Go.Value.int Go.IntKind.i64 0), (Go.Value.int Go.IntKind.i64 0), (Go.Value.int Go.IntKind.i64 0), (Go.Value.int Go.IntKind.i64 0)]), [some (0, 1, false), some (1, 1, false), some (2, 1, false), some (3, 1, false)]⟩),
  (30, ⟨(Go.TypeDesc.int Go.IntKind.i64), 1, 8, (Go.Value.int Go.IntKind.i64 0), []⟩),
  (32, ⟨(Go.TypeDesc.slice 49), 1, 24, (Go.Value.slice none 0 0), []⟩),
  (36, ⟨(Go.TypeDesc.slice 3), 1, 24, (Go.Value.slice none 0 0), []⟩),
  (48, ⟨(Go.TypeDesc.struct #[]), 3, 24, (Go.Value.agg #[(Go.Value.int Go.IntKind.i64 0), (Go.Value.int Go.IntKind.i64 0), (Go.Value.int Go.IntKind.i64 0)]), [some (0, 1, false), some (1, 1, false), some (2, 1, false)]⟩),
  (49, ⟨(Go.TypeDesc.struct #[]), 3, 24, (Go.Value.agg #[(Go.Value.int Go.IntKind.i64 0), (Go.Value.int Go.IntKind.i64 0), (Go.Value.int Go.IntKind.i64 0)]), [some (0, 1, false), some (1, 1, false), some (2, 1, false)]⟩),
  (51, ⟨(Go.TypeDesc.int Go.IntKind.u32), 1, 4, (Go.Value.int Go.IntKind.u32 0), []⟩),
  (54, ⟨(Go.TypeDesc.map 3 4), 1, 8, (Go.Value.map none), []⟩),
  (55, ⟨(Go.TypeDesc.struct #[]), 4, 48, (Go.Value.agg #[(Go.Value.slice none 0 0), (Go.Value.map none), (Go.Value.int Go.IntKind.i64 0), (Go.Value.int Go.IntKind.i64 0)]), [some (0, 1, false), some (1, 1, false), some (2, 1, false), some (3, 1, false)]⟩),
  (56, ⟨(Go.TypeDesc.struct #[]), 4, 48, (Go.Value.agg #[(Go.Value.slice none 0 0), (Go.Value.map none), (Go.Value.int Go.IntKind.i64 0), (Go.Value.int Go.IntKind.i64 0)]), [some (0, 1, false), some (1, 1, false), some (2, 1, false), some (3, 1, false)]⟩),
  (57, ⟨(Go.TypeDesc.struct #[]), 3, 40, (Go.Value.agg #[(Go.Value.slice none 0 0), (Go.Value.int Go.IntKind.i64 0), (Go.Value.int Go.IntKind.i64 0)]), [some (0, 1, false), some (1, 1, false), some (2, 1, false)]⟩),
  (58, ⟨(Go.TypeDesc.struct #[]), 3, 40, (Go.Value.agg #[(Go.Value.slice none 0 0), (Go.Value.int Go.IntKind.i64 0), (Go.Value.int Go.IntKind.i64 0)]), [some (0, 1, false), some (1, 1, false), some (2, 1, false)]⟩),
  (75, ⟨(Go.TypeDesc.pointer 5), 1, 8, (Go.Value.pointer none), []⟩)]

def Tt : TT := lookTy TtL

theorem Tt_ok : TOk Try.prog Tt := by
  refine TOk.ofList fun p hp => ?_
  simp only [TtL, List.mem_cons, List.not_mem_nil, or_false] at hp
  rcases hp with rfl | rfl | rfl | rfl | rfl | rfl | rfl | rfl | rfl | rfl | rfl | rfl | rfl | rfl | rfl | rfl | rfl | rfl | rfl | rfl | rfl | rfl | rfl | rfl <;> kernel_rfl

theorem wide : Try.prog.follows .mixedOrders = true := by kernel_rfl

end Go.Proofs.Yticcfpmehjcjcaa
