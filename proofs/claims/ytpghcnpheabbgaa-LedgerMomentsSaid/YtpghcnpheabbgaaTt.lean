/- What is asked of the types of this program. Made by a program of this repo. -/
import Derived.Test.YtpghcnpheabbgaaChecked
import Derived.Test.YtpghcnpheabbgaaKf
import Derived.KernelRfl
namespace Go.Proofs.Ytpghcnpheabbgaa

def TtL : List (Nat × TyI) := [
  (2, ⟨(Go.TypeDesc.int Go.IntKind.i64), 1, 8, (Go.Value.int Go.IntKind.i64 0), []⟩),
  (3, ⟨(Go.TypeDesc.int Go.IntKind.i64), 1, 8, (Go.Value.int Go.IntKind.i64 0), []⟩),
  (4, ⟨Go.TypeDesc.bool, 1, 1, (Go.Value.bool false), []⟩),
  (5, ⟨(Go.TypeDesc.int Go.IntKind.u8), 1, 1, (Go.Value.int Go.IntKind.u8 0), []⟩),
  (9, ⟨Go.TypeDesc.string, 1, 16, (Go.Value.string { data := #[] }), []⟩),
  (12, ⟨(Go.TypeDesc.int Go.IntKind.u64), 1, 8, (Go.Value.int Go.IntKind.u64 0), []⟩),
  (21, ⟨(Go.TypeDesc.int Go.IntKind.i32), 1, 4, (Go.Value.int Go.IntKind.i32 0), []⟩),
  (22, ⟨(Go.TypeDesc.slice 49), 1, 24, (Go.Value.slice none 0 0), []⟩),
  (23, ⟨(Go.TypeDesc.struct #[]), 3, 40, (Go.Value.agg #[(Go.Value.int Go.IntKind.i64 0), (Go.Value.int Go.IntKind.i64 0), (Go.Value.slice none 0 0)]), [some (0, 1, false), some (1, 1, false), some (2, 1, false)]⟩),
  (24, ⟨(Go.TypeDesc.struct #[]), 3, 40, (Go.Value.agg #[(Go.Value.int Go.IntKind.i64 0), (Go.Value.int Go.IntKind.i64 0), (Go.Value.slice none 0 0)]), [some (0, 1, false), some (1, 1, false), some (2, 1, false)]⟩),
  (26, ⟨(Go.TypeDesc.int Go.IntKind.i64), 1, 8, (Go.Value.int Go.IntKind.i64 0), []⟩),
  (29, ⟨(Go.TypeDesc.slice 24), 1, 24, (Go.Value.slice none 0 0), []⟩),
  (31, ⟨(Go.TypeDesc.pointer 60), 1, 8, (Go.Value.pointer none), []⟩),
  (38, ⟨(Go.TypeDesc.slice 3), 1, 24, (Go.Value.slice none 0 0), []⟩),
  (48, ⟨(Go.TypeDesc.struct #[]), 2, 16, (Go.Value.agg #[(Go.Value.int Go.IntKind.i64 0), (Go.Value.int Go.IntKind.i64 0)]), [some (0, 1, false), some (1, 1, false)]⟩),
  (49, ⟨(Go.TypeDesc.struct #[]), 2, 16, (Go.Value.agg #[(Go.Value.int Go.IntKind.i64 0), (Go.Value.int Go.IntKind.i64 0)]), [some (0, 1, false), some (1, 1, false)]⟩),
  (52, ⟨(Go.TypeDesc.int Go.IntKind.u64), 1, 8, (Go.Value.int Go.IntKind.u64 0), []⟩),
  (58, ⟨(Go.TypeDesc.map 3 3), 1, 8, (Go.Value.map none), []⟩),
  (59, ⟨(Go.TypeDesc.struct #[]), 2, 32, (Go.Value.agg #[(Go.Value.slice none 0 0), (Go.Value.map none)]), [some (0, 1, false), some (1, 1, false)]⟩),
  (60, ⟨(Go.TypeDesc.struct #[]), 2, 32, (Go.Value.agg #[(Go.Value.slice none 0 0), (Go.Value.map none)]), [some (0, 1, false), some (1, 1, false)]⟩),
  (76, ⟨(Go.TypeDesc.int Go.IntKind.u64), 1, 8, (Go.Value.int Go.IntKind.u64 0), []⟩),
  (78, ⟨(Go.TypeDesc.int Go.IntKind.i64), 1, 8, (Go.Value.int Go.IntKind.i64 0), []⟩),
  (87, ⟨(Go.TypeDesc.int Go.IntKind.u32), 1, 4, (Go.Value.int Go.IntKind.u32 0), []⟩),
  (89, ⟨(Go.TypeDesc.int Go.IntKind.u64), 1, 8, (Go.Value.int Go.IntKind.u64 0), []⟩),
  (93, ⟨(Go.TypeDesc.pointer 3), 1, 8, (Go.Value.pointer none), []⟩),
  (95, ⟨(Go.TypeDesc.pointer 89), 1, 8, (Go.Value.pointer none), []⟩),
  (108, ⟨(Go.TypeDesc.pointer 5), 1, 8, (Go.Value.pointer none), []⟩)]

def Tt : TT := lookTy TtL

theorem Tt_ok : TOk Try.prog Tt := by
  refine TOk.ofList fun p hp => ?_
  simp only [TtL, List.mem_cons, List.not_mem_nil, or_false] at hp
  rcases hp with rfl | rfl | rfl | rfl | rfl | rfl | rfl | rfl | rfl | rfl | rfl | rfl | rfl | rfl | rfl | rfl | rfl | rfl | rfl | rfl | rfl | rfl | rfl | rfl | rfl | rfl | rfl <;> kernel_rfl

theorem wide : Try.prog.follows .mixedOrders = true := by kernel_rfl

end Go.Proofs.Ytpghcnpheabbgaa
