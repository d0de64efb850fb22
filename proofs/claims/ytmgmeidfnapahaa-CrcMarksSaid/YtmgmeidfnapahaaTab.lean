/- The seat's types, as a table. Under no condition. -/
import Derived.Test.YtmgmeidfnapahaaProg
import Derived.KernelRfl
import Derived.Test.YtmgmeidfnapahaaCoreY
namespace Go.Proofs.Ytmgmeidfnapahaa.Mv
open Go Go.Proofs
def ty1 : TyI := ⟨TypeDesc.func #[] #[] false, 1, 8, [Value.nilFunc], false⟩
def ty2 : TyI := ⟨TypeDesc.int IntKind.i64, 1, 8, [Value.int IntKind.i64 0], false⟩
def ty3 : TyI := ⟨TypeDesc.int IntKind.i64, 1, 8, [Value.int IntKind.i64 0], false⟩
def ty4 : TyI := ⟨TypeDesc.bool, 1, 1, [Value.bool false], false⟩
def ty5 : TyI := ⟨TypeDesc.int IntKind.u8, 1, 1, [Value.int IntKind.u8 0], false⟩
def ty6 : TyI := ⟨TypeDesc.int IntKind.u8, 1, 1, [Value.int IntKind.u8 0], false⟩
def ty9 : TyI := ⟨TypeDesc.string, 1, 16, [Value.string ⟨#[]⟩], false⟩
def ty10 : TyI := ⟨TypeDesc.string, 1, 16, [Value.string ⟨#[]⟩], false⟩
def ty11 : TyI := ⟨TypeDesc.string, 1, 16, [Value.string ⟨#[]⟩], false⟩
def ty12 : TyI := ⟨TypeDesc.int IntKind.u64, 1, 8, [Value.int IntKind.u64 0], false⟩
def ty15 : TyI := ⟨TypeDesc.pointer 77, 1, 8, [Value.pointer none], false⟩
def ty16 : TyI := ⟨TypeDesc.pointer 80, 1, 8, [Value.pointer none], false⟩
def ty17 : TyI := ⟨TypeDesc.pointer 88, 1, 8, [Value.pointer none], false⟩
def ty21 : TyI := ⟨TypeDesc.int IntKind.i32, 1, 4, [Value.int IntKind.i32 0], false⟩
def ty22 : TyI := ⟨TypeDesc.slice 5, 1, 24, [Value.slice none 0 0], false⟩
def ty23 : TyI := ⟨TypeDesc.int IntKind.u32, 1, 4, [Value.int IntKind.u32 0], false⟩
def ty24 : TyI := ⟨TypeDesc.func #[] #[4] false, 1, 8, [Value.nilFunc], false⟩
def ty25 : TyI := ⟨TypeDesc.func #[22] #[23] false, 1, 8, [Value.nilFunc], false⟩
def ty26 : TyI := ⟨TypeDesc.func #[23, 22] #[23] false, 1, 8, [Value.nilFunc], false⟩
def ty27 : TyI := ⟨TypeDesc.func #[22, 23] #[4] false, 1, 8, [Value.nilFunc], false⟩
def ty28 : TyI := ⟨TypeDesc.func #[22, 22] #[4] false, 1, 8, [Value.nilFunc], false⟩
def ty29 : TyI := ⟨TypeDesc.func #[22] #[22] false, 1, 8, [Value.nilFunc], false⟩
def ty30 : TyI := ⟨TypeDesc.func #[22] #[4] false, 1, 8, [Value.nilFunc], false⟩
def ty31 : TyI := ⟨TypeDesc.int IntKind.u64, 1, 8, [Value.int IntKind.u64 0], false⟩
def ty32 : TyI := ⟨TypeDesc.func #[22, 5] #[22] false, 1, 8, [Value.nilFunc], false⟩
def ty33 : TyI := ⟨TypeDesc.func #[22, 34] #[22] false, 1, 8, [Value.nilFunc], false⟩
def ty34 : TyI := ⟨TypeDesc.int IntKind.u16, 1, 2, [Value.int IntKind.u16 0], false⟩
def ty35 : TyI := ⟨TypeDesc.func #[22, 23] #[22] false, 1, 8, [Value.nilFunc], false⟩
def ty36 : TyI := ⟨TypeDesc.func #[22, 31] #[22] false, 1, 8, [Value.nilFunc], false⟩
def ty37 : TyI := ⟨TypeDesc.func #[22, 9] #[22] false, 1, 8, [Value.nilFunc], false⟩
def ty38 : TyI := ⟨TypeDesc.func #[22, 31, 3] #[22] false, 1, 8, [Value.nilFunc], false⟩
def ty39 : TyI := ⟨TypeDesc.func #[22, 31, 9] #[4] false, 1, 8, [Value.nilFunc], false⟩
def ty40 : TyI := ⟨TypeDesc.func #[22, 3, 23] #[4] false, 1, 8, [Value.nilFunc], false⟩
def ty41 : TyI := ⟨TypeDesc.pointer 71, 1, 8, [Value.pointer none], false⟩
def ty42 : TyI := ⟨TypeDesc.func #[22] #[41] false, 1, 8, [Value.nilFunc], false⟩
def ty43 : TyI := ⟨TypeDesc.func #[] #[5] false, 1, 8, [Value.nilFunc], false⟩
def ty44 : TyI := ⟨TypeDesc.func #[] #[34] false, 1, 8, [Value.nilFunc], false⟩
def ty45 : TyI := ⟨TypeDesc.func #[] #[23] false, 1, 8, [Value.nilFunc], false⟩
def ty46 : TyI := ⟨TypeDesc.func #[] #[31] false, 1, 8, [Value.nilFunc], false⟩
def ty47 : TyI := ⟨TypeDesc.func #[3] #[9] false, 1, 8, [Value.nilFunc], false⟩
def ty48 : TyI := ⟨TypeDesc.int IntKind.i64, 1, 8, [Value.int IntKind.i64 0], false⟩
def ty49 : TyI := ⟨TypeDesc.func #[] #[48] false, 1, 8, [Value.nilFunc], false⟩
def ty50 : TyI := ⟨TypeDesc.func #[] #[3] false, 1, 8, [Value.nilFunc], false⟩
def ty51 : TyI := ⟨TypeDesc.slice 55, 1, 24, [Value.slice none 0 0], false⟩
def ty52 : TyI := ⟨TypeDesc.struct #[{ name := "B", type := 22, offset := 0, embedded := false, tag := "", pkgPath := "", byteOffset := 0 }, { name := "At", type := 3, offset := 1, embedded := false, tag := "", pkgPath := "", byteOffset := 24 }, { name := "E", type := 3, offset := 2, embedded := false, tag := "", pkgPath := "", byteOffset := 32 }], 3, 40, [Value.slice none 0 0, Value.int IntKind.i64 0, Value.int IntKind.i64 0], true⟩
def ty53 : TyI := ⟨TypeDesc.struct #[{ name := "B", type := 22, offset := 0, embedded := false, tag := "", pkgPath := "", byteOffset := 0 }, { name := "At", type := 3, offset := 1, embedded := false, tag := "", pkgPath := "", byteOffset := 24 }, { name := "E", type := 3, offset := 2, embedded := false, tag := "", pkgPath := "", byteOffset := 32 }], 3, 40, [Value.slice none 0 0, Value.int IntKind.i64 0, Value.int IntKind.i64 0], true⟩
def ty54 : TyI := ⟨TypeDesc.struct #[{ name := "Kind", type := 3, offset := 0, embedded := false, tag := "", pkgPath := "", byteOffset := 0 }, { name := "Most", type := 3, offset := 1, embedded := false, tag := "", pkgPath := "", byteOffset := 8 }], 2, 16, [Value.int IntKind.i64 0, Value.int IntKind.i64 0], true⟩
def ty55 : TyI := ⟨TypeDesc.struct #[{ name := "Kind", type := 3, offset := 0, embedded := false, tag := "", pkgPath := "", byteOffset := 0 }, { name := "Most", type := 3, offset := 1, embedded := false, tag := "", pkgPath := "", byteOffset := 8 }], 2, 16, [Value.int IntKind.i64 0, Value.int IntKind.i64 0], true⟩
def ty57 : TyI := ⟨TypeDesc.func #[3] #[31, 53] false, 1, 8, [Value.nilFunc], false⟩
def ty59 : TyI := ⟨TypeDesc.func #[3] #[9, 53] false, 1, 8, [Value.nilFunc], false⟩
def ty60 : TyI := ⟨TypeDesc.func #[48] #[] false, 1, 8, [Value.nilFunc], false⟩
def ty61 : TyI := ⟨TypeDesc.func #[22, 51] #[4] false, 1, 8, [Value.nilFunc], false⟩
def ty62 : TyI := ⟨TypeDesc.func #[22, 3, 51] #[4] false, 1, 8, [Value.nilFunc], false⟩
def ty63 : TyI := ⟨TypeDesc.func #[23, 5] #[23] false, 1, 8, [Value.nilFunc], false⟩
def ty64 : TyI := ⟨TypeDesc.func #[23] #[23] false, 1, 8, [Value.nilFunc], false⟩
def ty65 : TyI := ⟨TypeDesc.array 4 5, 4, 4, [Value.int IntKind.u8 0, Value.int IntKind.u8 0, Value.int IntKind.u8 0,   Value.int IntKind.u8 0], false⟩
def ty66 : TyI := ⟨TypeDesc.func #[23] #[65] false, 1, 8, [Value.nilFunc], false⟩
def ty67 : TyI := ⟨TypeDesc.func #[22, 5, 3] #[22] false, 1, 8, [Value.nilFunc], false⟩
def ty68 : TyI := ⟨TypeDesc.func #[22, 34, 3] #[22] false, 1, 8, [Value.nilFunc], false⟩
def ty69 : TyI := ⟨TypeDesc.func #[22, 23, 3] #[22] false, 1, 8, [Value.nilFunc], false⟩
def ty70 : TyI := ⟨TypeDesc.struct #[{ name := "b", type := 22, offset := 0, embedded := false, tag := "", pkgPath := "marcot/pack", byteOffset := 0 }, { name := "at", type := 3, offset := 1, embedded := false, tag := "", pkgPath := "marcot/pack", byteOffset := 24 }, { name := "e", type := 48, offset := 2, embedded := false, tag := "", pkgPath := "marcot/pack", byteOffset := 32 }], 3, 40, [Value.slice none 0 0, Value.int IntKind.i64 0, Value.int IntKind.i64 0], true⟩
def ty71 : TyI := ⟨TypeDesc.struct #[{ name := "b", type := 22, offset := 0, embedded := false, tag := "", pkgPath := "marcot/pack", byteOffset := 0 }, { name := "at", type := 3, offset := 1, embedded := false, tag := "", pkgPath := "marcot/pack", byteOffset := 24 }, { name := "e", type := 48, offset := 2, embedded := false, tag := "", pkgPath := "marcot/pack", byteOffset := 32 }], 3, 40, [Value.slice none 0 0, Value.int IntKind.i64 0, Value.int IntKind.i64 0], true⟩
def ty72 : TyI := ⟨TypeDesc.func #[3] #[31] false, 1, 8, [Value.nilFunc], false⟩
def ty73 : TyI := ⟨TypeDesc.int IntKind.u64, 1, 8, [Value.int IntKind.u64 0], false⟩
def ty74 : TyI := ⟨TypeDesc.func #[22, 3] #[22] false, 1, 8, [Value.nilFunc], false⟩
def ty75 : TyI := ⟨TypeDesc.func #[] #[9] false, 1, 8, [Value.nilFunc], false⟩
def ty78 : TyI := ⟨TypeDesc.array 0 16, 0, 0, [], false⟩
def ty81 : TyI := ⟨TypeDesc.int IntKind.u8, 1, 1, [Value.int IntKind.u8 0], false⟩
def ty82 : TyI := ⟨TypeDesc.int IntKind.u8, 1, 1, [Value.int IntKind.u8 0], false⟩
def ty83 : TyI := ⟨TypeDesc.func #[89, 89] #[4] false, 1, 8, [Value.nilFunc], false⟩
def ty84 : TyI := ⟨TypeDesc.pointer 5, 1, 8, [Value.pointer none], false⟩
def ty85 : TyI := ⟨TypeDesc.int IntKind.i32, 1, 4, [Value.int IntKind.i32 0], false⟩
def ty86 : TyI := ⟨TypeDesc.int IntKind.i32, 1, 4, [Value.int IntKind.i32 0], false⟩
def tab : Tab := [(1, ty1), (2, ty2), (3, ty3), (4, ty4), (5, ty5), (6, ty6), (9, ty9), (10, ty10), (11, ty11), (12, ty12), (15, ty15), (16, ty16), (17, ty17), (21, ty21), (22, ty22), (23, ty23), (24, ty24), (25, ty25), (26, ty26), (27, ty27), (28, ty28), (29, ty29), (30, ty30), (31, ty31), (32, ty32), (33, ty33), (34, ty34), (35, ty35), (36, ty36), (37, ty37), (38, ty38), (39, ty39), (40, ty40), (41, ty41), (42, ty42), (43, ty43), (44, ty44), (45, ty45), (46, ty46), (47, ty47), (48, ty48), (49, ty49), (50, ty50), (51, ty51), (52, ty52), (53, ty53), (54, ty54), (55, ty55), (57, ty57), (59, ty59), (60, ty60), (61, ty61), (62, ty62), (63, ty63), (64, ty64), (65, ty65), (66, ty66), (67, ty67), (68, ty68), (69, ty69), (70, ty70), (71, ty71), (72, ty72), (73, ty73), (74, ty74), (75, ty75), (78, ty78), (81, ty81), (82, ty82), (83, ty83), (84, ty84), (85, ty85), (86, ty86)]
theorem tyOk1 : TyOk Try.prog 1 ty1 := ⟨by kernel_rfl, ⟨Try.t1, by kernel_rfl, by kernel_rfl, by kernel_rfl, _, rfl, by kernel_rfl⟩, ⟨by kernel_rfl, by kernel_rfl⟩, fun h => absurd h (by decide)⟩
theorem tyOk2 : TyOk Try.prog 2 ty2 := ⟨by kernel_rfl, ⟨Try.t2, by kernel_rfl, by kernel_rfl, by kernel_rfl, _, rfl, by kernel_rfl⟩, ⟨by kernel_rfl, by kernel_rfl⟩, fun h => absurd h (by decide)⟩
theorem tyOk3 : TyOk Try.prog 3 ty3 := ⟨by kernel_rfl, ⟨Try.t3, by kernel_rfl, by kernel_rfl, by kernel_rfl, _, rfl, by kernel_rfl⟩, ⟨by kernel_rfl, by kernel_rfl⟩, fun h => absurd h (by decide)⟩
theorem tyOk4 : TyOk Try.prog 4 ty4 := ⟨by kernel_rfl, ⟨Try.t4, by kernel_rfl, by kernel_rfl, by kernel_rfl, _, rfl, by kernel_rfl⟩, ⟨by kernel_rfl, by kernel_rfl⟩, fun h => absurd h (by decide)⟩
theorem tyOk5 : TyOk Try.prog 5 ty5 := ⟨by kernel_rfl, ⟨Try.t5, by kernel_rfl, by kernel_rfl, by kernel_rfl, _, rfl, by kernel_rfl⟩, ⟨by kernel_rfl, by kernel_rfl⟩, fun h => absurd h (by decide)⟩
theorem tyOk6 : TyOk Try.prog 6 ty6 := ⟨by kernel_rfl, ⟨Try.t6, by kernel_rfl, by kernel_rfl, by kernel_rfl, _, rfl, by kernel_rfl⟩, ⟨by kernel_rfl, by kernel_rfl⟩, fun h => absurd h (by decide)⟩
theorem tyOk9 : TyOk Try.prog 9 ty9 := ⟨by kernel_rfl, ⟨Try.t9, by kernel_rfl, by kernel_rfl, by kernel_rfl, _, rfl, by kernel_rfl⟩, ⟨by kernel_rfl, by kernel_rfl⟩, fun h => absurd h (by decide)⟩
theorem tyOk10 : TyOk Try.prog 10 ty10 := ⟨by kernel_rfl, ⟨Try.t10, by kernel_rfl, by kernel_rfl, by kernel_rfl, _, rfl, by kernel_rfl⟩, ⟨by kernel_rfl, by kernel_rfl⟩, fun h => absurd h (by decide)⟩
theorem tyOk11 : TyOk Try.prog 11 ty11 := ⟨by kernel_rfl, ⟨Try.t11, by kernel_rfl, by kernel_rfl, by kernel_rfl, _, rfl, by kernel_rfl⟩, ⟨by kernel_rfl, by kernel_rfl⟩, fun h => absurd h (by decide)⟩
theorem tyOk12 : TyOk Try.prog 12 ty12 := ⟨by kernel_rfl, ⟨Try.t12, by kernel_rfl, by kernel_rfl, by kernel_rfl, _, rfl, by kernel_rfl⟩, ⟨by kernel_rfl, by kernel_rfl⟩, fun h => absurd h (by decide)⟩
theorem tyOk15 : TyOk Try.prog 15 ty15 := ⟨by kernel_rfl, ⟨Try.t15, by kernel_rfl, by kernel_rfl, by kernel_rfl, _, rfl, by kernel_rfl⟩, ⟨by kernel_rfl, by kernel_rfl⟩, fun h => absurd h (by decide)⟩
theorem tyOk16 : TyOk Try.prog 16 ty16 := ⟨by kernel_rfl, ⟨Try.t16, by kernel_rfl, by kernel_rfl, by kernel_rfl, _, rfl, by kernel_rfl⟩, ⟨by kernel_rfl, by kernel_rfl⟩, fun h => absurd h (by decide)⟩
theorem tyOk17 : TyOk Try.prog 17 ty17 := ⟨by kernel_rfl, ⟨Try.t17, by kernel_rfl, by kernel_rfl, by kernel_rfl, _, rfl, by kernel_rfl⟩, ⟨by kernel_rfl, by kernel_rfl⟩, fun h => absurd h (by decide)⟩
theorem tyOk21 : TyOk Try.prog 21 ty21 := ⟨by kernel_rfl, ⟨Try.t21, by kernel_rfl, by kernel_rfl, by kernel_rfl, _, rfl, by kernel_rfl⟩, ⟨by kernel_rfl, by kernel_rfl⟩, fun h => absurd h (by decide)⟩
theorem tyOk22 : TyOk Try.prog 22 ty22 := ⟨by kernel_rfl, ⟨Try.t22, by kernel_rfl, by kernel_rfl, by kernel_rfl, _, rfl, by kernel_rfl⟩, ⟨by kernel_rfl, by kernel_rfl⟩, fun h => absurd h (by decide)⟩
theorem tyOk23 : TyOk Try.prog 23 ty23 := ⟨by kernel_rfl, ⟨Try.t23, by kernel_rfl, by kernel_rfl, by kernel_rfl, _, rfl, by kernel_rfl⟩, ⟨by kernel_rfl, by kernel_rfl⟩, fun h => absurd h (by decide)⟩
theorem tyOk24 : TyOk Try.prog 24 ty24 := ⟨by kernel_rfl, ⟨Try.t24, by kernel_rfl, by kernel_rfl, by kernel_rfl, _, rfl, by kernel_rfl⟩, ⟨by kernel_rfl, by kernel_rfl⟩, fun h => absurd h (by decide)⟩
theorem tyOk25 : TyOk Try.prog 25 ty25 := ⟨by kernel_rfl, ⟨Try.t25, by kernel_rfl, by kernel_rfl, by kernel_rfl, _, rfl, by kernel_rfl⟩, ⟨by kernel_rfl, by kernel_rfl⟩, fun h => absurd h (by decide)⟩
theorem tyOk26 : TyOk Try.prog 26 ty26 := ⟨by kernel_rfl, ⟨Try.t26, by kernel_rfl, by kernel_rfl, by kernel_rfl, _, rfl, by kernel_rfl⟩, ⟨by kernel_rfl, by kernel_rfl⟩, fun h => absurd h (by decide)⟩
theorem tyOk27 : TyOk Try.prog 27 ty27 := ⟨by kernel_rfl, ⟨Try.t27, by kernel_rfl, by kernel_rfl, by kernel_rfl, _, rfl, by kernel_rfl⟩, ⟨by kernel_rfl, by kernel_rfl⟩, fun h => absurd h (by decide)⟩
theorem tyOk28 : TyOk Try.prog 28 ty28 := ⟨by kernel_rfl, ⟨Try.t28, by kernel_rfl, by kernel_rfl, by kernel_rfl, _, rfl, by kernel_rfl⟩, ⟨by kernel_rfl, by kernel_rfl⟩, fun h => absurd h (by decide)⟩
theorem tyOk29 : TyOk Try.prog 29 ty29 := ⟨by kernel_rfl, ⟨Try.t29, by kernel_rfl, by kernel_rfl, by kernel_rfl, _, rfl, by kernel_rfl⟩, ⟨by kernel_rfl, by kernel_rfl⟩, fun h => absurd h (by decide)⟩
theorem tyOk30 : TyOk Try.prog 30 ty30 := ⟨by kernel_rfl, ⟨Try.t30, by kernel_rfl, by kernel_rfl, by kernel_rfl, _, rfl, by kernel_rfl⟩, ⟨by kernel_rfl, by kernel_rfl⟩, fun h => absurd h (by decide)⟩
theorem tyOk31 : TyOk Try.prog 31 ty31 := ⟨by kernel_rfl, ⟨Try.t31, by kernel_rfl, by kernel_rfl, by kernel_rfl, _, rfl, by kernel_rfl⟩, ⟨by kernel_rfl, by kernel_rfl⟩, fun h => absurd h (by decide)⟩
theorem tyOk32 : TyOk Try.prog 32 ty32 := ⟨by kernel_rfl, ⟨Try.t32, by kernel_rfl, by kernel_rfl, by kernel_rfl, _, rfl, by kernel_rfl⟩, ⟨by kernel_rfl, by kernel_rfl⟩, fun h => absurd h (by decide)⟩
theorem tyOk33 : TyOk Try.prog 33 ty33 := ⟨by kernel_rfl, ⟨Try.t33, by kernel_rfl, by kernel_rfl, by kernel_rfl, _, rfl, by kernel_rfl⟩, ⟨by kernel_rfl, by kernel_rfl⟩, fun h => absurd h (by decide)⟩
theorem tyOk34 : TyOk Try.prog 34 ty34 := ⟨by kernel_rfl, ⟨Try.t34, by kernel_rfl, by kernel_rfl, by kernel_rfl, _, rfl, by kernel_rfl⟩, ⟨by kernel_rfl, by kernel_rfl⟩, fun h => absurd h (by decide)⟩
theorem tyOk35 : TyOk Try.prog 35 ty35 := ⟨by kernel_rfl, ⟨Try.t35, by kernel_rfl, by kernel_rfl, by kernel_rfl, _, rfl, by kernel_rfl⟩, ⟨by kernel_rfl, by kernel_rfl⟩, fun h => absurd h (by decide)⟩
theorem tyOk36 : TyOk Try.prog 36 ty36 := ⟨by kernel_rfl, ⟨Try.t36, by kernel_rfl, by kernel_rfl, by kernel_rfl, _, rfl, by kernel_rfl⟩, ⟨by kernel_rfl, by kernel_rfl⟩, fun h => absurd h (by decide)⟩
theorem tyOk37 : TyOk Try.prog 37 ty37 := ⟨by kernel_rfl, ⟨Try.t37, by kernel_rfl, by kernel_rfl, by kernel_rfl, _, rfl, by kernel_rfl⟩, ⟨by kernel_rfl, by kernel_rfl⟩, fun h => absurd h (by decide)⟩
theorem tyOk38 : TyOk Try.prog 38 ty38 := ⟨by kernel_rfl, ⟨Try.t38, by kernel_rfl, by kernel_rfl, by kernel_rfl, _, rfl, by kernel_rfl⟩, ⟨by kernel_rfl, by kernel_rfl⟩, fun h => absurd h (by decide)⟩
theorem tyOk39 : TyOk Try.prog 39 ty39 := ⟨by kernel_rfl, ⟨Try.t39, by kernel_rfl, by kernel_rfl, by kernel_rfl, _, rfl, by kernel_rfl⟩, ⟨by kernel_rfl, by kernel_rfl⟩, fun h => absurd h (by decide)⟩
theorem tyOk40 : TyOk Try.prog 40 ty40 := ⟨by kernel_rfl, ⟨Try.t40, by kernel_rfl, by kernel_rfl, by kernel_rfl, _, rfl, by kernel_rfl⟩, ⟨by kernel_rfl, by kernel_rfl⟩, fun h => absurd h (by decide)⟩
theorem tyOk41 : TyOk Try.prog 41 ty41 := ⟨by kernel_rfl, ⟨Try.t41, by kernel_rfl, by kernel_rfl, by kernel_rfl, _, rfl, by kernel_rfl⟩, ⟨by kernel_rfl, by kernel_rfl⟩, fun h => absurd h (by decide)⟩
theorem tyOk42 : TyOk Try.prog 42 ty42 := ⟨by kernel_rfl, ⟨Try.t42, by kernel_rfl, by kernel_rfl, by kernel_rfl, _, rfl, by kernel_rfl⟩, ⟨by kernel_rfl, by kernel_rfl⟩, fun h => absurd h (by decide)⟩
theorem tyOk43 : TyOk Try.prog 43 ty43 := ⟨by kernel_rfl, ⟨Try.t43, by kernel_rfl, by kernel_rfl, by kernel_rfl, _, rfl, by kernel_rfl⟩, ⟨by kernel_rfl, by kernel_rfl⟩, fun h => absurd h (by decide)⟩
theorem tyOk44 : TyOk Try.prog 44 ty44 := ⟨by kernel_rfl, ⟨Try.t44, by kernel_rfl, by kernel_rfl, by kernel_rfl, _, rfl, by kernel_rfl⟩, ⟨by kernel_rfl, by kernel_rfl⟩, fun h => absurd h (by decide)⟩
theorem tyOk45 : TyOk Try.prog 45 ty45 := ⟨by kernel_rfl, ⟨Try.t45, by kernel_rfl, by kernel_rfl, by kernel_rfl, _, rfl, by kernel_rfl⟩, ⟨by kernel_rfl, by kernel_rfl⟩, fun h => absurd h (by decide)⟩
theorem tyOk46 : TyOk Try.prog 46 ty46 := ⟨by kernel_rfl, ⟨Try.t46, by kernel_rfl, by kernel_rfl, by kernel_rfl, _, rfl, by kernel_rfl⟩, ⟨by kernel_rfl, by kernel_rfl⟩, fun h => absurd h (by decide)⟩
theorem tyOk47 : TyOk Try.prog 47 ty47 := ⟨by kernel_rfl, ⟨Try.t47, by kernel_rfl, by kernel_rfl, by kernel_rfl, _, rfl, by kernel_rfl⟩, ⟨by kernel_rfl, by kernel_rfl⟩, fun h => absurd h (by decide)⟩
theorem tyOk48 : TyOk Try.prog 48 ty48 := ⟨by kernel_rfl, ⟨Try.t48, by kernel_rfl, by kernel_rfl, by kernel_rfl, _, rfl, by kernel_rfl⟩, ⟨by kernel_rfl, by kernel_rfl⟩, fun h => absurd h (by decide)⟩
theorem tyOk49 : TyOk Try.prog 49 ty49 := ⟨by kernel_rfl, ⟨Try.t49, by kernel_rfl, by kernel_rfl, by kernel_rfl, _, rfl, by kernel_rfl⟩, ⟨by kernel_rfl, by kernel_rfl⟩, fun h => absurd h (by decide)⟩
theorem tyOk50 : TyOk Try.prog 50 ty50 := ⟨by kernel_rfl, ⟨Try.t50, by kernel_rfl, by kernel_rfl, by kernel_rfl, _, rfl, by kernel_rfl⟩, ⟨by kernel_rfl, by kernel_rfl⟩, fun h => absurd h (by decide)⟩
theorem tyOk51 : TyOk Try.prog 51 ty51 := ⟨by kernel_rfl, ⟨Try.t51, by kernel_rfl, by kernel_rfl, by kernel_rfl, _, rfl, by kernel_rfl⟩, ⟨by kernel_rfl, by kernel_rfl⟩, fun h => absurd h (by decide)⟩
theorem tyOk52 : TyOk Try.prog 52 ty52 := ⟨by kernel_rfl, ⟨Try.t52, by kernel_rfl, by kernel_rfl, by kernel_rfl, _, rfl, by kernel_rfl⟩, ⟨by kernel_rfl, by kernel_rfl⟩, fun _ => ⟨Try.stoodInHeld52, Try.eqGuardType52⟩⟩
theorem tyOk53 : TyOk Try.prog 53 ty53 := ⟨by kernel_rfl, ⟨Try.t53, by kernel_rfl, by kernel_rfl, by kernel_rfl, _, rfl, by kernel_rfl⟩, ⟨by kernel_rfl, by kernel_rfl⟩, fun _ => ⟨Try.stoodInHeld53, Try.eqGuardType53⟩⟩
theorem tyOk54 : TyOk Try.prog 54 ty54 := ⟨by kernel_rfl, ⟨Try.t54, by kernel_rfl, by kernel_rfl, by kernel_rfl, _, rfl, by kernel_rfl⟩, ⟨by kernel_rfl, by kernel_rfl⟩, fun _ => ⟨Try.stoodInHeld54, Try.eqGuardType54⟩⟩
theorem tyOk55 : TyOk Try.prog 55 ty55 := ⟨by kernel_rfl, ⟨Try.t55, by kernel_rfl, by kernel_rfl, by kernel_rfl, _, rfl, by kernel_rfl⟩, ⟨by kernel_rfl, by kernel_rfl⟩, fun _ => ⟨Try.stoodInHeld55, Try.eqGuardType55⟩⟩
theorem tyOk57 : TyOk Try.prog 57 ty57 := ⟨by kernel_rfl, ⟨Try.t57, by kernel_rfl, by kernel_rfl, by kernel_rfl, _, rfl, by kernel_rfl⟩, ⟨by kernel_rfl, by kernel_rfl⟩, fun h => absurd h (by decide)⟩
theorem tyOk59 : TyOk Try.prog 59 ty59 := ⟨by kernel_rfl, ⟨Try.t59, by kernel_rfl, by kernel_rfl, by kernel_rfl, _, rfl, by kernel_rfl⟩, ⟨by kernel_rfl, by kernel_rfl⟩, fun h => absurd h (by decide)⟩
theorem tyOk60 : TyOk Try.prog 60 ty60 := ⟨by kernel_rfl, ⟨Try.t60, by kernel_rfl, by kernel_rfl, by kernel_rfl, _, rfl, by kernel_rfl⟩, ⟨by kernel_rfl, by kernel_rfl⟩, fun h => absurd h (by decide)⟩
theorem tyOk61 : TyOk Try.prog 61 ty61 := ⟨by kernel_rfl, ⟨Try.t61, by kernel_rfl, by kernel_rfl, by kernel_rfl, _, rfl, by kernel_rfl⟩, ⟨by kernel_rfl, by kernel_rfl⟩, fun h => absurd h (by decide)⟩
theorem tyOk62 : TyOk Try.prog 62 ty62 := ⟨by kernel_rfl, ⟨Try.t62, by kernel_rfl, by kernel_rfl, by kernel_rfl, _, rfl, by kernel_rfl⟩, ⟨by kernel_rfl, by kernel_rfl⟩, fun h => absurd h (by decide)⟩
theorem tyOk63 : TyOk Try.prog 63 ty63 := ⟨by kernel_rfl, ⟨Try.t63, by kernel_rfl, by kernel_rfl, by kernel_rfl, _, rfl, by kernel_rfl⟩, ⟨by kernel_rfl, by kernel_rfl⟩, fun h => absurd h (by decide)⟩
theorem tyOk64 : TyOk Try.prog 64 ty64 := ⟨by kernel_rfl, ⟨Try.t64, by kernel_rfl, by kernel_rfl, by kernel_rfl, _, rfl, by kernel_rfl⟩, ⟨by kernel_rfl, by kernel_rfl⟩, fun h => absurd h (by decide)⟩
theorem tyOk65 : TyOk Try.prog 65 ty65 := ⟨by kernel_rfl, ⟨Try.t65, by kernel_rfl, by kernel_rfl, by kernel_rfl, _, rfl, by kernel_rfl⟩, ⟨by kernel_rfl, by kernel_rfl⟩, fun h => absurd h (by decide)⟩
theorem tyOk66 : TyOk Try.prog 66 ty66 := ⟨by kernel_rfl, ⟨Try.t66, by kernel_rfl, by kernel_rfl, by kernel_rfl, _, rfl, by kernel_rfl⟩, ⟨by kernel_rfl, by kernel_rfl⟩, fun h => absurd h (by decide)⟩
theorem tyOk67 : TyOk Try.prog 67 ty67 := ⟨by kernel_rfl, ⟨Try.t67, by kernel_rfl, by kernel_rfl, by kernel_rfl, _, rfl, by kernel_rfl⟩, ⟨by kernel_rfl, by kernel_rfl⟩, fun h => absurd h (by decide)⟩
theorem tyOk68 : TyOk Try.prog 68 ty68 := ⟨by kernel_rfl, ⟨Try.t68, by kernel_rfl, by kernel_rfl, by kernel_rfl, _, rfl, by kernel_rfl⟩, ⟨by kernel_rfl, by kernel_rfl⟩, fun h => absurd h (by decide)⟩
theorem tyOk69 : TyOk Try.prog 69 ty69 := ⟨by kernel_rfl, ⟨Try.t69, by kernel_rfl, by kernel_rfl, by kernel_rfl, _, rfl, by kernel_rfl⟩, ⟨by kernel_rfl, by kernel_rfl⟩, fun h => absurd h (by decide)⟩
theorem tyOk70 : TyOk Try.prog 70 ty70 := ⟨by kernel_rfl, ⟨Try.t70, by kernel_rfl, by kernel_rfl, by kernel_rfl, _, rfl, by kernel_rfl⟩, ⟨by kernel_rfl, by kernel_rfl⟩, fun _ => ⟨Try.stoodInHeld70, Try.eqGuardType70⟩⟩
theorem tyOk71 : TyOk Try.prog 71 ty71 := ⟨by kernel_rfl, ⟨Try.t71, by kernel_rfl, by kernel_rfl, by kernel_rfl, _, rfl, by kernel_rfl⟩, ⟨by kernel_rfl, by kernel_rfl⟩, fun _ => ⟨Try.stoodInHeld71, Try.eqGuardType71⟩⟩
theorem tyOk72 : TyOk Try.prog 72 ty72 := ⟨by kernel_rfl, ⟨Try.t72, by kernel_rfl, by kernel_rfl, by kernel_rfl, _, rfl, by kernel_rfl⟩, ⟨by kernel_rfl, by kernel_rfl⟩, fun h => absurd h (by decide)⟩
theorem tyOk73 : TyOk Try.prog 73 ty73 := ⟨by kernel_rfl, ⟨Try.t73, by kernel_rfl, by kernel_rfl, by kernel_rfl, _, rfl, by kernel_rfl⟩, ⟨by kernel_rfl, by kernel_rfl⟩, fun h => absurd h (by decide)⟩
theorem tyOk74 : TyOk Try.prog 74 ty74 := ⟨by kernel_rfl, ⟨Try.t74, by kernel_rfl, by kernel_rfl, by kernel_rfl, _, rfl, by kernel_rfl⟩, ⟨by kernel_rfl, by kernel_rfl⟩, fun h => absurd h (by decide)⟩
theorem tyOk75 : TyOk Try.prog 75 ty75 := ⟨by kernel_rfl, ⟨Try.t75, by kernel_rfl, by kernel_rfl, by kernel_rfl, _, rfl, by kernel_rfl⟩, ⟨by kernel_rfl, by kernel_rfl⟩, fun h => absurd h (by decide)⟩
theorem tyOk78 : TyOk Try.prog 78 ty78 := ⟨by kernel_rfl, ⟨Try.t78, by kernel_rfl, by kernel_rfl, by kernel_rfl, _, rfl, by kernel_rfl⟩, ⟨by kernel_rfl, by kernel_rfl⟩, fun h => absurd h (by decide)⟩
theorem tyOk81 : TyOk Try.prog 81 ty81 := ⟨by kernel_rfl, ⟨Try.t81, by kernel_rfl, by kernel_rfl, by kernel_rfl, _, rfl, by kernel_rfl⟩, ⟨by kernel_rfl, by kernel_rfl⟩, fun h => absurd h (by decide)⟩
theorem tyOk82 : TyOk Try.prog 82 ty82 := ⟨by kernel_rfl, ⟨Try.t82, by kernel_rfl, by kernel_rfl, by kernel_rfl, _, rfl, by kernel_rfl⟩, ⟨by kernel_rfl, by kernel_rfl⟩, fun h => absurd h (by decide)⟩
theorem tyOk83 : TyOk Try.prog 83 ty83 := ⟨by kernel_rfl, ⟨Try.t83, by kernel_rfl, by kernel_rfl, by kernel_rfl, _, rfl, by kernel_rfl⟩, ⟨by kernel_rfl, by kernel_rfl⟩, fun h => absurd h (by decide)⟩
theorem tyOk84 : TyOk Try.prog 84 ty84 := ⟨by kernel_rfl, ⟨Try.t84, by kernel_rfl, by kernel_rfl, by kernel_rfl, _, rfl, by kernel_rfl⟩, ⟨by kernel_rfl, by kernel_rfl⟩, fun h => absurd h (by decide)⟩
theorem tyOk85 : TyOk Try.prog 85 ty85 := ⟨by kernel_rfl, ⟨Try.t85, by kernel_rfl, by kernel_rfl, by kernel_rfl, _, rfl, by kernel_rfl⟩, ⟨by kernel_rfl, by kernel_rfl⟩, fun h => absurd h (by decide)⟩
theorem tyOk86 : TyOk Try.prog 86 ty86 := ⟨by kernel_rfl, ⟨Try.t86, by kernel_rfl, by kernel_rfl, by kernel_rfl, _, rfl, by kernel_rfl⟩, ⟨by kernel_rfl, by kernel_rfl⟩, fun h => absurd h (by decide)⟩
theorem tabOk : TabOk Try.prog tab := ⟨⟨tyOk1, tyOk2, tyOk3, tyOk4, tyOk5, tyOk6, tyOk9, tyOk10, tyOk11, tyOk12, tyOk15, tyOk16, tyOk17, tyOk21, tyOk22, tyOk23, tyOk24, tyOk25, tyOk26, tyOk27, tyOk28, tyOk29, tyOk30, tyOk31, tyOk32, tyOk33, tyOk34, tyOk35, tyOk36, tyOk37, tyOk38, tyOk39, tyOk40, tyOk41, tyOk42, tyOk43, tyOk44, tyOk45, tyOk46, tyOk47, tyOk48, tyOk49, tyOk50, tyOk51, tyOk52, tyOk53, tyOk54, tyOk55, tyOk57, tyOk59, tyOk60, tyOk61, tyOk62, tyOk63, tyOk64, tyOk65, tyOk66, tyOk67, tyOk68, tyOk69, tyOk70, tyOk71, tyOk72, tyOk73, tyOk74, tyOk75, tyOk78, tyOk81, tyOk82, tyOk83, tyOk84, tyOk85, tyOk86, trivial⟩, by kernel_rfl⟩
theorem mixed : Try.prog.follows .mixedOrders = true := by kernel_rfl
end Go.Proofs.Ytmgmeidfnapahaa.Mv
