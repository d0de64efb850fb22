/- The seat's types, as a table. Under no condition. -/
import Derived.Test.YtafbjkidgdpfoaaProg
import Derived.KernelRfl
import Derived.Test.YtafbjkidgdpfoaaCoreY
namespace Go.Proofs.Ytafbjkidgdpfoaa.Mv
open Go Go.Proofs
def ty1 : TyI := ⟨TypeDesc.func #[] #[] false, 1, 8, [Value.nilFunc], false⟩
def ty2 : TyI := ⟨TypeDesc.int IntKind.i64, 1, 8, [Value.int IntKind.i64 0], false⟩
def ty3 : TyI := ⟨TypeDesc.int IntKind.i64, 1, 8, [Value.int IntKind.i64 0], false⟩
def ty4 : TyI := ⟨TypeDesc.bool, 1, 1, [Value.bool false], false⟩
def ty5 : TyI := ⟨TypeDesc.int IntKind.u8, 1, 1, [Value.int IntKind.u8 0], false⟩
def ty6 : TyI := ⟨TypeDesc.int IntKind.u8, 1, 1, [Value.int IntKind.u8 0], false⟩
def ty9 : TyI := ⟨TypeDesc.string, 1, 16, [Value.string ⟨#[]⟩], false⟩
def ty10 : TyI := ⟨TypeDesc.string, 1, 16, [Value.string ⟨#[]⟩], false⟩
def ty11 : TyI := ⟨TypeDesc.string, 1, 16, [Value.string ⟨#[]⟩], false⟩
def ty12 : TyI := ⟨TypeDesc.int IntKind.u64, 1, 8, [Value.int IntKind.u64 0], false⟩
def ty15 : TyI := ⟨TypeDesc.pointer 55, 1, 8, [Value.pointer none], false⟩
def ty16 : TyI := ⟨TypeDesc.pointer 58, 1, 8, [Value.pointer none], false⟩
def ty17 : TyI := ⟨TypeDesc.pointer 68, 1, 8, [Value.pointer none], false⟩
def ty21 : TyI := ⟨TypeDesc.int IntKind.i32, 1, 4, [Value.int IntKind.i32 0], false⟩
def ty22 : TyI := ⟨TypeDesc.struct #[{ name := "Strip", type := 9, offset := 0, embedded := false, tag := "", pkgPath := "", byteOffset := 0 }, { name := "Add", type := 9, offset := 1, embedded := false, tag := "", pkgPath := "", byteOffset := 16 }], 2, 32, [Value.string ⟨#[]⟩, Value.string ⟨#[]⟩], true⟩
def ty23 : TyI := ⟨TypeDesc.struct #[{ name := "Strip", type := 9, offset := 0, embedded := false, tag := "", pkgPath := "", byteOffset := 0 }, { name := "Add", type := 9, offset := 1, embedded := false, tag := "", pkgPath := "", byteOffset := 16 }], 2, 32, [Value.string ⟨#[]⟩, Value.string ⟨#[]⟩], true⟩
def ty24 : TyI := ⟨TypeDesc.func #[23] #[4] false, 1, 8, [Value.nilFunc], false⟩
def ty25 : TyI := ⟨TypeDesc.func #[] #[4] false, 1, 8, [Value.nilFunc], false⟩
def ty27 : TyI := ⟨TypeDesc.func #[23, 23] #[23, 4] false, 1, 8, [Value.nilFunc], false⟩
def ty29 : TyI := ⟨TypeDesc.func #[23, 9] #[9, 4] false, 1, 8, [Value.nilFunc], false⟩
def ty30 : TyI := ⟨TypeDesc.func #[23, 23, 9] #[4] false, 1, 8, [Value.nilFunc], false⟩
def ty31 : TyI := ⟨TypeDesc.func #[23, 23, 23] #[4] false, 1, 8, [Value.nilFunc], false⟩
def ty32 : TyI := ⟨TypeDesc.func #[23, 9, 9] #[4] false, 1, 8, [Value.nilFunc], false⟩
def ty33 : TyI := ⟨TypeDesc.struct #[{ name := "Lo", type := 9, offset := 0, embedded := false, tag := "", pkgPath := "", byteOffset := 0 }, { name := "Hi", type := 9, offset := 1, embedded := false, tag := "", pkgPath := "", byteOffset := 16 }, { name := "End", type := 4, offset := 2, embedded := false, tag := "", pkgPath := "", byteOffset := 32 }], 3, 40, [Value.string ⟨#[]⟩, Value.string ⟨#[]⟩, Value.bool false], true⟩
def ty34 : TyI := ⟨TypeDesc.struct #[{ name := "Lo", type := 9, offset := 0, embedded := false, tag := "", pkgPath := "", byteOffset := 0 }, { name := "Hi", type := 9, offset := 1, embedded := false, tag := "", pkgPath := "", byteOffset := 16 }, { name := "End", type := 4, offset := 2, embedded := false, tag := "", pkgPath := "", byteOffset := 32 }], 3, 40, [Value.string ⟨#[]⟩, Value.string ⟨#[]⟩, Value.bool false], true⟩
def ty35 : TyI := ⟨TypeDesc.func #[34] #[4] false, 1, 8, [Value.nilFunc], false⟩
def ty36 : TyI := ⟨TypeDesc.func #[34] #[9] false, 1, 8, [Value.nilFunc], false⟩
def ty37 : TyI := ⟨TypeDesc.func #[34, 9] #[4] false, 1, 8, [Value.nilFunc], false⟩
def ty38 : TyI := ⟨TypeDesc.func #[9, 9] #[4] false, 1, 8, [Value.nilFunc], false⟩
def ty39 : TyI := ⟨TypeDesc.func #[9] #[9, 4] false, 1, 8, [Value.nilFunc], false⟩
def ty40 : TyI := ⟨TypeDesc.func #[9] #[9] false, 1, 8, [Value.nilFunc], false⟩
def ty41 : TyI := ⟨TypeDesc.func #[9, 9] #[9] false, 1, 8, [Value.nilFunc], false⟩
def ty42 : TyI := ⟨TypeDesc.func #[9] #[34] false, 1, 8, [Value.nilFunc], false⟩
def ty43 : TyI := ⟨TypeDesc.func #[34, 34] #[34] false, 1, 8, [Value.nilFunc], false⟩
def ty44 : TyI := ⟨TypeDesc.func #[34, 34, 9] #[4] false, 1, 8, [Value.nilFunc], false⟩
def ty45 : TyI := ⟨TypeDesc.func #[23, 34] #[34] false, 1, 8, [Value.nilFunc], false⟩
def ty46 : TyI := ⟨TypeDesc.func #[23] #[23] false, 1, 8, [Value.nilFunc], false⟩
def ty47 : TyI := ⟨TypeDesc.func #[23, 9, 34] #[4] false, 1, 8, [Value.nilFunc], false⟩
def ty48 : TyI := ⟨TypeDesc.func #[23, 34, 9] #[4] false, 1, 8, [Value.nilFunc], false⟩
def ty49 : TyI := ⟨TypeDesc.func #[9, 9] #[9, 4] false, 1, 8, [Value.nilFunc], false⟩
def ty50 : TyI := ⟨TypeDesc.slice 5, 1, 24, [Value.slice none 0 0], false⟩
def ty51 : TyI := ⟨TypeDesc.func #[] #[34] false, 1, 8, [Value.nilFunc], false⟩
def ty52 : TyI := ⟨TypeDesc.func #[34, 34] #[4] false, 1, 8, [Value.nilFunc], false⟩
def ty53 : TyI := ⟨TypeDesc.func #[] #[9] false, 1, 8, [Value.nilFunc], false⟩
def ty56 : TyI := ⟨TypeDesc.array 0 16, 0, 0, [], false⟩
def ty59 : TyI := ⟨TypeDesc.func #[] #[3] false, 1, 8, [Value.nilFunc], false⟩
def ty60 : TyI := ⟨TypeDesc.int IntKind.u32, 1, 4, [Value.int IntKind.u32 0], false⟩
def ty61 : TyI := ⟨TypeDesc.int IntKind.u8, 1, 1, [Value.int IntKind.u8 0], false⟩
def ty62 : TyI := ⟨TypeDesc.int IntKind.u8, 1, 1, [Value.int IntKind.u8 0], false⟩
def ty63 : TyI := ⟨TypeDesc.func #[69, 69] #[4] false, 1, 8, [Value.nilFunc], false⟩
def ty64 : TyI := ⟨TypeDesc.pointer 5, 1, 8, [Value.pointer none], false⟩
def ty65 : TyI := ⟨TypeDesc.int IntKind.i32, 1, 4, [Value.int IntKind.i32 0], false⟩
def ty66 : TyI := ⟨TypeDesc.int IntKind.i32, 1, 4, [Value.int IntKind.i32 0], false⟩
def tab : Tab := [(1, ty1), (2, ty2), (3, ty3), (4, ty4), (5, ty5), (6, ty6), (9, ty9), (10, ty10), (11, ty11), (12, ty12), (15, ty15), (16, ty16), (17, ty17), (21, ty21), (22, ty22), (23, ty23), (24, ty24), (25, ty25), (27, ty27), (29, ty29), (30, ty30), (31, ty31), (32, ty32), (33, ty33), (34, ty34), (35, ty35), (36, ty36), (37, ty37), (38, ty38), (39, ty39), (40, ty40), (41, ty41), (42, ty42), (43, ty43), (44, ty44), (45, ty45), (46, ty46), (47, ty47), (48, ty48), (49, ty49), (50, ty50), (51, ty51), (52, ty52), (53, ty53), (56, ty56), (59, ty59), (60, ty60), (61, ty61), (62, ty62), (63, ty63), (64, ty64), (65, ty65), (66, ty66)]
theorem tyOk1 : TyOk Try.prog 1 ty1 := ⟨by kernel_rfl, ⟨Try.t1, by kernel_rfl, by kernel_rfl, by kernel_rfl, _, rfl, by kernel_rfl⟩, ⟨by kernel_rfl, by kernel_rfl⟩, fun h => absurd h (by decide)⟩
theorem tyOk2 : TyOk Try.prog 2 ty2 := ⟨by kernel_rfl, ⟨Try.t2, by kernel_rfl, by kernel_rfl, by kernel_rfl, _, rfl, by kernel_rfl⟩, ⟨by kernel_rfl, by kernel_rfl⟩, fun h => absurd h (by decide)⟩
theorem tyOk3 : TyOk Try.prog 3 ty3 := ⟨by kernel_rfl, ⟨Try.t3, by kernel_rfl, by kernel_rfl, by kernel_rfl, _, rfl, by kernel_rfl⟩, ⟨by kernel_rfl, by kernel_rfl⟩, fun h => absurd h (by decide)⟩
theorem tyOk4 : TyOk Try.prog 4 ty4 := ⟨by kernel_rfl, ⟨Try.t4, by kernel_rfl, by kernel_rfl, by kernel_rfl, _, rfl, by kernel_rfl⟩, ⟨by kernel_rfl, by kernel_rfl⟩, fun h => absurd h (by decide)⟩
theorem tyOk5 : TyOk Try.prog 5 ty5 := ⟨by kernel_rfl, ⟨Try.t5, by kernel_rfl, by kernel_rfl, by kernel_rfl, _, rfl, by kernel_rfl⟩, ⟨by kernel_rfl, by kernel_rfl⟩, fun h => absurd h (by decide)⟩
theorem tyOk6 : TyOk Try.prog 6 ty6 := ⟨by kernel_rfl, ⟨Try.t6, by kernel_rfl, by kernel_rfl, by kernel_rfl, _, rfl, by kernel_rfl⟩, ⟨by kernel_rfl, by kernel_rfl⟩, fun h => absurd h (by decide)⟩
theorem tyOk9 : TyOk Try.prog 9 ty9 := ⟨by kernel_rfl, ⟨Try.t9, by kernel_rfl, by kernel_rfl, by kernel_rfl, _, rfl, by kernel_rfl⟩, ⟨by kernel_rfl, by kernel_rfl⟩, fun h => absurd h (by decide)⟩
theorem tyOk10 : TyOk Try.prog 10 ty10 := ⟨by kernel_rfl, ⟨Try.t10, by kernel_rfl, by kernel_rfl, by kernel_rfl, _, rfl, by kernel_rfl⟩, ⟨by kernel_rfl, by kernel_rfl⟩, fun h => absurd h (by decide)⟩
theorem tyOk11 : TyOk Try.prog 11 ty11 := ⟨by kernel_rfl, ⟨Try.t11, by kernel_rfl, by kernel_rfl, by kernel_rfl, _, rfl, by kernel_rfl⟩, ⟨by kernel_rfl, by kernel_rfl⟩, fun h => absurd h (by decide)⟩
theorem tyOk12 : TyOk Try.prog 12 ty12 := ⟨by kernel_rfl, ⟨Try.t12, by kernel_rfl, by kernel_rfl, by kernel_rfl, _, rfl, by kernel_rfl⟩, ⟨by kernel_rfl, by kernel_rfl⟩, fun h => absurd h (by decide)⟩
theorem tyOk15 : TyOk Try.prog 15 ty15 := ⟨by kernel_rfl, ⟨Try.t15, by kernel_rfl, by kernel_rfl, by kernel_rfl, _, rfl, by kernel_rfl⟩, ⟨by kernel_rfl, by kernel_rfl⟩, fun h => absurd h (by decide)⟩
theorem tyOk16 : TyOk Try.prog 16 ty16 := ⟨by kernel_rfl, ⟨Try.t16, by kernel_rfl, by kernel_rfl, by kernel_rfl, _, rfl, by kernel_rfl⟩, ⟨by kernel_rfl, by kernel_rfl⟩, fun h => absurd h (by decide)⟩
theorem tyOk17 : TyOk Try.prog 17 ty17 := ⟨by kernel_rfl, ⟨Try.t17, by kernel_rfl, by kernel_rfl, by kernel_rfl, _, rfl, by kernel_rfl⟩, ⟨by kernel_rfl, by kernel_rfl⟩, fun h => absurd h (by decide)⟩
theorem tyOk21 : TyOk Try.prog 21 ty21 := ⟨by kernel_rfl, ⟨Try.t21, by kernel_rfl, by kernel_rfl, by kernel_rfl, _, rfl, by kernel_rfl⟩, ⟨by kernel_rfl, by kernel_rfl⟩, fun h => absurd h (by decide)⟩
theorem tyOk22 : TyOk Try.prog 22 ty22 := ⟨by kernel_rfl, ⟨Try.t22, by kernel_rfl, by kernel_rfl, by kernel_rfl, _, rfl, by kernel_rfl⟩, ⟨by kernel_rfl, by kernel_rfl⟩, fun _ => ⟨Try.stoodInHeld22, Try.eqGuardType22⟩⟩
theorem tyOk23 : TyOk Try.prog 23 ty23 := ⟨by kernel_rfl, ⟨Try.t23, by kernel_rfl, by kernel_rfl, by kernel_rfl, _, rfl, by kernel_rfl⟩, ⟨by kernel_rfl, by kernel_rfl⟩, fun _ => ⟨Try.stoodInHeld23, Try.eqGuardType23⟩⟩
theorem tyOk24 : TyOk Try.prog 24 ty24 := ⟨by kernel_rfl, ⟨Try.t24, by kernel_rfl, by kernel_rfl, by kernel_rfl, _, rfl, by kernel_rfl⟩, ⟨by kernel_rfl, by kernel_rfl⟩, fun h => absurd h (by decide)⟩
theorem tyOk25 : TyOk Try.prog 25 ty25 := ⟨by kernel_rfl, ⟨Try.t25, by kernel_rfl, by kernel_rfl, by kernel_rfl, _, rfl, by kernel_rfl⟩, ⟨by kernel_rfl, by kernel_rfl⟩, fun h => absurd h (by decide)⟩
theorem tyOk27 : TyOk Try.prog 27 ty27 := ⟨by kernel_rfl, ⟨Try.t27, by kernel_rfl, by kernel_rfl, by kernel_rfl, _, rfl, by kernel_rfl⟩, ⟨by kernel_rfl, by kernel_rfl⟩, fun h => absurd h (by decide)⟩
theorem tyOk29 : TyOk Try.prog 29 ty29 := ⟨by kernel_rfl, ⟨Try.t29, by kernel_rfl, by kernel_rfl, by kernel_rfl, _, rfl, by kernel_rfl⟩, ⟨by kernel_rfl, by kernel_rfl⟩, fun h => absurd h (by decide)⟩
theorem tyOk30 : TyOk Try.prog 30 ty30 := ⟨by kernel_rfl, ⟨Try.t30, by kernel_rfl, by kernel_rfl, by kernel_rfl, _, rfl, by kernel_rfl⟩, ⟨by kernel_rfl, by kernel_rfl⟩, fun h => absurd h (by decide)⟩
theorem tyOk31 : TyOk Try.prog 31 ty31 := ⟨by kernel_rfl, ⟨Try.t31, by kernel_rfl, by kernel_rfl, by kernel_rfl, _, rfl, by kernel_rfl⟩, ⟨by kernel_rfl, by kernel_rfl⟩, fun h => absurd h (by decide)⟩
theorem tyOk32 : TyOk Try.prog 32 ty32 := ⟨by kernel_rfl, ⟨Try.t32, by kernel_rfl, by kernel_rfl, by kernel_rfl, _, rfl, by kernel_rfl⟩, ⟨by kernel_rfl, by kernel_rfl⟩, fun h => absurd h (by decide)⟩
theorem tyOk33 : TyOk Try.prog 33 ty33 := ⟨by kernel_rfl, ⟨Try.t33, by kernel_rfl, by kernel_rfl, by kernel_rfl, _, rfl, by kernel_rfl⟩, ⟨by kernel_rfl, by kernel_rfl⟩, fun _ => ⟨Try.stoodInHeld33, Try.eqGuardType33⟩⟩
theorem tyOk34 : TyOk Try.prog 34 ty34 := ⟨by kernel_rfl, ⟨Try.t34, by kernel_rfl, by kernel_rfl, by kernel_rfl, _, rfl, by kernel_rfl⟩, ⟨by kernel_rfl, by kernel_rfl⟩, fun _ => ⟨Try.stoodInHeld34, Try.eqGuardType34⟩⟩
theorem tyOk35 : TyOk Try.prog 35 ty35 := ⟨by kernel_rfl, ⟨Try.t35, by kernel_rfl, by kernel_rfl, by kernel_rfl, _, rfl, by kernel_rfl⟩, ⟨by kernel_rfl, by kernel_rfl⟩, fun h => absurd h (by decide)⟩
theorem tyOk36 : TyOk Try.prog 36 ty36 := ⟨by kernel_rfl, ⟨Try.t36, by kernel_rfl, by kernel_rfl, by kernel_rfl, _, rfl, by kernel_rfl⟩, ⟨by kernel_rfl, by kernel_rfl⟩, fun h => absurd h (by decide)⟩
theorem tyOk37 : TyOk Try.prog 37 ty37 := ⟨by kernel_rfl, ⟨Try.t37, by kernel_rfl, by kernel_rfl, by kernel_rfl, _, rfl, by kernel_rfl⟩, ⟨by kernel_rfl, by kernel_rfl⟩, fun h => absurd h (by decide)⟩
theorem tyOk38 : TyOk Try.prog 38 ty38 := ⟨by kernel_rfl, ⟨Try.t38, by kernel_rfl, by kernel_rfl, by kernel_rfl, _, rfl, by kernel_rfl⟩, ⟨by kernel_rfl, by kernel_rfl⟩, fun h => absurd h (by decide)⟩
theorem tyOk39 : TyOk Try.prog 39 ty39 := ⟨by kernel_rfl, ⟨Try.t39, by kernel_rfl, by kernel_rfl, by kernel_rfl, _, rfl, by kernel_rfl⟩, ⟨by kernel_rfl, by kernel_rfl⟩, fun h => absurd h (by decide)⟩
theorem tyOk40 : TyOk Try.prog 40 ty40 := ⟨by kernel_rfl, ⟨Try.t40, by kernel_rfl, by kernel_rfl, by kernel_rfl, _, rfl, by kernel_rfl⟩, ⟨by kernel_rfl, by kernel_rfl⟩, fun h => absurd h (by decide)⟩
theorem tyOk41 : TyOk Try.prog 41 ty41 := ⟨by kernel_rfl, ⟨Try.t41, by kernel_rfl, by kernel_rfl, by kernel_rfl, _, rfl, by kernel_rfl⟩, ⟨by kernel_rfl, by kernel_rfl⟩, fun h => absurd h (by decide)⟩
theorem tyOk42 : TyOk Try.prog 42 ty42 := ⟨by kernel_rfl, ⟨Try.t42, by kernel_rfl, by kernel_rfl, by kernel_rfl, _, rfl, by kernel_rfl⟩, ⟨by kernel_rfl, by kernel_rfl⟩, fun h => absurd h (by decide)⟩
theorem tyOk43 : TyOk Try.prog 43 ty43 := ⟨by kernel_rfl, ⟨Try.t43, by kernel_rfl, by kernel_rfl, by kernel_rfl, _, rfl, by kernel_rfl⟩, ⟨by kernel_rfl, by kernel_rfl⟩, fun h => absurd h (by decide)⟩
theorem tyOk44 : TyOk Try.prog 44 ty44 := ⟨by kernel_rfl, ⟨Try.t44, by kernel_rfl, by kernel_rfl, by kernel_rfl, _, rfl, by kernel_rfl⟩, ⟨by kernel_rfl, by kernel_rfl⟩, fun h => absurd h (by decide)⟩
theorem tyOk45 : TyOk Try.prog 45 ty45 := ⟨by kernel_rfl, ⟨Try.t45, by kernel_rfl, by kernel_rfl, by kernel_rfl, _, rfl, by kernel_rfl⟩, ⟨by kernel_rfl, by kernel_rfl⟩, fun h => absurd h (by decide)⟩
theorem tyOk46 : TyOk Try.prog 46 ty46 := ⟨by kernel_rfl, ⟨Try.t46, by kernel_rfl, by kernel_rfl, by kernel_rfl, _, rfl, by kernel_rfl⟩, ⟨by kernel_rfl, by kernel_rfl⟩, fun h => absurd h (by decide)⟩
theorem tyOk47 : TyOk Try.prog 47 ty47 := ⟨by kernel_rfl, ⟨Try.t47, by kernel_rfl, by kernel_rfl, by kernel_rfl, _, rfl, by kernel_rfl⟩, ⟨by kernel_rfl, by kernel_rfl⟩, fun h => absurd h (by decide)⟩
theorem tyOk48 : TyOk Try.prog 48 ty48 := ⟨by kernel_rfl, ⟨Try.t48, by kernel_rfl, by kernel_rfl, by kernel_rfl, _, rfl, by kernel_rfl⟩, ⟨by kernel_rfl, by kernel_rfl⟩, fun h => absurd h (by decide)⟩
theorem tyOk49 : TyOk Try.prog 49 ty49 := ⟨by kernel_rfl, ⟨Try.t49, by kernel_rfl, by kernel_rfl, by kernel_rfl, _, rfl, by kernel_rfl⟩, ⟨by kernel_rfl, by kernel_rfl⟩, fun h => absurd h (by decide)⟩
theorem tyOk50 : TyOk Try.prog 50 ty50 := ⟨by kernel_rfl, ⟨Try.t50, by kernel_rfl, by kernel_rfl, by kernel_rfl, _, rfl, by kernel_rfl⟩, ⟨by kernel_rfl, by kernel_rfl⟩, fun h => absurd h (by decide)⟩
theorem tyOk51 : TyOk Try.prog 51 ty51 := ⟨by kernel_rfl, ⟨Try.t51, by kernel_rfl, by kernel_rfl, by kernel_rfl, _, rfl, by kernel_rfl⟩, ⟨by kernel_rfl, by kernel_rfl⟩, fun h => absurd h (by decide)⟩
theorem tyOk52 : TyOk Try.prog 52 ty52 := ⟨by kernel_rfl, ⟨Try.t52, by kernel_rfl, by kernel_rfl, by kernel_rfl, _, rfl, by kernel_rfl⟩, ⟨by kernel_rfl, by kernel_rfl⟩, fun h => absurd h (by decide)⟩
theorem tyOk53 : TyOk Try.prog 53 ty53 := ⟨by kernel_rfl, ⟨Try.t53, by kernel_rfl, by kernel_rfl, by kernel_rfl, _, rfl, by kernel_rfl⟩, ⟨by kernel_rfl, by kernel_rfl⟩, fun h => absurd h (by decide)⟩
theorem tyOk56 : TyOk Try.prog 56 ty56 := ⟨by kernel_rfl, ⟨Try.t56, by kernel_rfl, by kernel_rfl, by kernel_rfl, _, rfl, by kernel_rfl⟩, ⟨by kernel_rfl, by kernel_rfl⟩, fun h => absurd h (by decide)⟩
theorem tyOk59 : TyOk Try.prog 59 ty59 := ⟨by kernel_rfl, ⟨Try.t59, by kernel_rfl, by kernel_rfl, by kernel_rfl, _, rfl, by kernel_rfl⟩, ⟨by kernel_rfl, by kernel_rfl⟩, fun h => absurd h (by decide)⟩
theorem tyOk60 : TyOk Try.prog 60 ty60 := ⟨by kernel_rfl, ⟨Try.t60, by kernel_rfl, by kernel_rfl, by kernel_rfl, _, rfl, by kernel_rfl⟩, ⟨by kernel_rfl, by kernel_rfl⟩, fun h => absurd h (by decide)⟩
theorem tyOk61 : TyOk Try.prog 61 ty61 := ⟨by kernel_rfl, ⟨Try.t61, by kernel_rfl, by kernel_rfl, by kernel_rfl, _, rfl, by kernel_rfl⟩, ⟨by kernel_rfl, by kernel_rfl⟩, fun h => absurd h (by decide)⟩
theorem tyOk62 : TyOk Try.prog 62 ty62 := ⟨by kernel_rfl, ⟨Try.t62, by kernel_rfl, by kernel_rfl, by kernel_rfl, _, rfl, by kernel_rfl⟩, ⟨by kernel_rfl, by kernel_rfl⟩, fun h => absurd h (by decide)⟩
theorem tyOk63 : TyOk Try.prog 63 ty63 := ⟨by kernel_rfl, ⟨Try.t63, by kernel_rfl, by kernel_rfl, by kernel_rfl, _, rfl, by kernel_rfl⟩, ⟨by kernel_rfl, by kernel_rfl⟩, fun h => absurd h (by decide)⟩
theorem tyOk64 : TyOk Try.prog 64 ty64 := ⟨by kernel_rfl, ⟨Try.t64, by kernel_rfl, by kernel_rfl, by kernel_rfl, _, rfl, by kernel_rfl⟩, ⟨by kernel_rfl, by kernel_rfl⟩, fun h => absurd h (by decide)⟩
theorem tyOk65 : TyOk Try.prog 65 ty65 := ⟨by kernel_rfl, ⟨Try.t65, by kernel_rfl, by kernel_rfl, by kernel_rfl, _, rfl, by kernel_rfl⟩, ⟨by kernel_rfl, by kernel_rfl⟩, fun h => absurd h (by decide)⟩
theorem tyOk66 : TyOk Try.prog 66 ty66 := ⟨by kernel_rfl, ⟨Try.t66, by kernel_rfl, by kernel_rfl, by kernel_rfl, _, rfl, by kernel_rfl⟩, ⟨by kernel_rfl, by kernel_rfl⟩, fun h => absurd h (by decide)⟩
theorem tabOk : TabOk Try.prog tab := ⟨⟨tyOk1, tyOk2, tyOk3, tyOk4, tyOk5, tyOk6, tyOk9, tyOk10, tyOk11, tyOk12, tyOk15, tyOk16, tyOk17, tyOk21, tyOk22, tyOk23, tyOk24, tyOk25, tyOk27, tyOk29, tyOk30, tyOk31, tyOk32, tyOk33, tyOk34, tyOk35, tyOk36, tyOk37, tyOk38, tyOk39, tyOk40, tyOk41, tyOk42, tyOk43, tyOk44, tyOk45, tyOk46, tyOk47, tyOk48, tyOk49, tyOk50, tyOk51, tyOk52, tyOk53, tyOk56, tyOk59, tyOk60, tyOk61, tyOk62, tyOk63, tyOk64, tyOk65, tyOk66, trivial⟩, by kernel_rfl⟩
theorem mixed : Try.prog.follows .mixedOrders = true := by kernel_rfl
end Go.Proofs.Ytafbjkidgdpfoaa.Mv
