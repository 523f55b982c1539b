/- What is asked of the types of this program. Made by a program of this repo. -/
import Derived.Test.YtchakbpjokemnaaChecked
import Derived.Test.YtchakbpjokemnaaKf
import Derived.KernelRfl
namespace Go.Proofs.Ytchakbpjokemnaa

def TtL : List (Nat × TyI) := [
  (2, ⟨(Go.TypeDesc.int Go.IntKind.i64), 1, 8, (Go.Value.int Go.IntKind.i64 0), []⟩),
  (3, ⟨(Go.TypeDesc.int Go.IntKind.i64), 1, 8, (Go.Value.int Go.IntKind.i64 0), []⟩),
  (4, ⟨Go.TypeDesc.bool, 1, 1, (Go.Value.bool false), []⟩),
  (5, ⟨(Go.TypeDesc.int Go.IntKind.u8), 1, 1, (Go.Value.int Go.IntKind.u8 0), []⟩),
  (9, ⟨Go.TypeDesc.string, 1, 16, (Go.Value.string { data := #[] }), []⟩),
  (12, ⟨(Go.TypeDesc.int Go.IntKind.u64), 1, 8, (Go.Value.int Go.IntKind.u64 0), []⟩),
  (21, ⟨(Go.TypeDesc.int Go.IntKind.i32), 1, 4, (Go.Value.int Go.IntKind.i32 0), []⟩),
  (22, ⟨(Go.TypeDesc.slice 52), 1, 24, (Go.Value.slice none 0 0), []⟩),
  (23, ⟨(Go.TypeDesc.slice 29), 1, 24, (Go.Value.slice none 0 0), []⟩),
  (26, ⟨(Go.TypeDesc.int Go.IntKind.i64), 1, 8, (Go.Value.int Go.IntKind.i64 0), []⟩),
  (28, ⟨(Go.TypeDesc.struct #[]), 6, 48, (Go.Value.agg #[(Go.Value.int Go.IntKind.i64 0), (Go.Value.int Go.IntKind.i64 0), (Go.Value.int Go.IntKind.i64 0), (Go.Value.int Go.IntKind.i64 0), (Go.Value.int Go.IntKind.i64 0), (Go.Value.int Go.IntKind.i64 0)]), [some (0, 1, false), some (1, 1, false), some (2, 1, false), some (3, 1, false), some (4, 1, false), some (5, 1, false)]⟩),
  (29, ⟨(Go.TypeDesc.struct #[]), 6, 48, (Go.Value.agg #[(Go.Value.int Go.IntKind.i64 0), (Go.Value.int Go.IntKind.i64 0), (Go.Value.int Go.IntKind.i64 0), (Go.Value.int Go.IntKind.i64 0), (Go.Value.int Go.IntKind.i64 0), (Go.Value.int Go.IntKind.i64 0)]), [some (0, 1, false), some (1, 1, false), some (2, 1, false), some (3, 1, false), some (4, 1, false), some (5, 1, false)]⟩),
  (30, ⟨(Go.TypeDesc.struct #[]), 2, 16, (Go.Value.agg #[(Go.Value.int Go.IntKind.i64 0), (Go.Value.int Go.IntKind.i64 0)]), [some (0, 1, false), some (1, 1, false)]⟩),
  (31, ⟨(Go.TypeDesc.struct #[]), 2, 16, (Go.Value.agg #[(Go.Value.int Go.IntKind.i64 0), (Go.Value.int Go.IntKind.i64 0)]), [some (0, 1, false), some (1, 1, false)]⟩),
  (35, ⟨(Go.TypeDesc.slice 3), 1, 24, (Go.Value.slice none 0 0), []⟩),
  (41, ⟨(Go.TypeDesc.struct #[]), 2, 16, (Go.Value.agg #[(Go.Value.int Go.IntKind.i64 0), (Go.Value.int Go.IntKind.i64 0)]), [some (0, 1, false), some (1, 1, false)]⟩),
  (42, ⟨(Go.TypeDesc.struct #[]), 2, 16, (Go.Value.agg #[(Go.Value.int Go.IntKind.i64 0), (Go.Value.int Go.IntKind.i64 0)]), [some (0, 1, false), some (1, 1, false)]⟩),
  (46, ⟨(Go.TypeDesc.array 3 3), 3, 24, (Go.Value.agg #[(Go.Value.int Go.IntKind.i64 0), (Go.Value.int Go.IntKind.i64 0), (Go.Value.int Go.IntKind.i64 0)]), []⟩),
  (49, ⟨(Go.TypeDesc.array 2 3), 2, 16, (Go.Value.agg #[(Go.Value.int Go.IntKind.i64 0), (Go.Value.int Go.IntKind.i64 0)]), []⟩),
  (51, ⟨(Go.TypeDesc.struct #[]), 6, 48, (Go.Value.agg #[(Go.Value.int Go.IntKind.i64 0), (Go.Value.int Go.IntKind.i64 0), (Go.Value.int Go.IntKind.i64 0), (Go.Value.int Go.IntKind.i64 0), (Go.Value.int Go.IntKind.i64 0), (Go.Value.int Go.IntKind.i64 0)]), [some (0, 1, false), some (1, 1, false), some (2, 1, false), some (3, 1, false), some (4, 1, false), some (5, 1, false)]⟩),
  (52, ⟨(Go.TypeDesc.struct #[]), 6, 48, (Go.Value.agg #[(Go.Value.int Go.IntKind.i64 0), (Go.Value.int Go.IntKind.i64 0), (Go.Value.int Go.IntKind.i64 0), (Go.Value.int Go.IntKind.i64 0), (Go.Value.int Go.IntKind.i64 0), (Go.Value.int Go.IntKind.i64 0)]), [some (0, 1, false), some (1, 1, false), some (2, 1, false), some (3, 1, false), some (4, 1, false), some (5, 1, false)]⟩),
  (57, ⟨(Go.TypeDesc.map 3 3), 1, 8, (Go.Value.map none), []⟩),
  (70, ⟨(Go.TypeDesc.slice 31), 1, 24, (Go.Value.slice none 0 0), []⟩),
  (76, ⟨(Go.TypeDesc.map 3 4), 1, 8, (Go.Value.map none), []⟩),
  (90, ⟨(Go.TypeDesc.int Go.IntKind.u64), 1, 8, (Go.Value.int Go.IntKind.u64 0), []⟩),
  (93, ⟨(Go.TypeDesc.int Go.IntKind.i64), 1, 8, (Go.Value.int Go.IntKind.i64 0), []⟩),
  (101, ⟨(Go.TypeDesc.int Go.IntKind.u32), 1, 4, (Go.Value.int Go.IntKind.u32 0), []⟩),
  (103, ⟨(Go.TypeDesc.int Go.IntKind.u64), 1, 8, (Go.Value.int Go.IntKind.u64 0), []⟩),
  (105, ⟨(Go.TypeDesc.int Go.IntKind.u64), 1, 8, (Go.Value.int Go.IntKind.u64 0), []⟩),
  (109, ⟨(Go.TypeDesc.pointer 3), 1, 8, (Go.Value.pointer none), []⟩),
  (111, ⟨(Go.TypeDesc.pointer 105), 1, 8, (Go.Value.pointer none), []⟩),
  (124, ⟨(Go.TypeDesc.pointer 5), 1, 8, (Go.Value.pointer none), []⟩)]

def Tt : TT := lookTy TtL

theorem Tt_ok : TOk Try.prog Tt := by
  refine TOk.ofList fun p hp => ?_
  simp only [TtL, List.mem_cons, List.not_mem_nil, or_false] at hp
  rcases hp with rfl | rfl | rfl | rfl | rfl | rfl | rfl | rfl | rfl | rfl | rfl | rfl | rfl | rfl | rfl | rfl | rfl | rfl | rfl | rfl | rfl | rfl | rfl | rfl | rfl | rfl | rfl | rfl | rfl | rfl | rfl | rfl <;> kernel_rfl

theorem wide : Try.prog.follows .mixedOrders = true := by kernel_rfl

end Go.Proofs.Ytchakbpjokemnaa
