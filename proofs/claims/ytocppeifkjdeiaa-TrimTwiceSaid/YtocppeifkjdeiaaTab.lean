/- The seat's types, as a table. Under no condition. -/
import Derived.Test.YtocppeifkjdeiaaProg
import Derived.KernelRfl
import Derived.Test.YtocppeifkjdeiaaCoreY
namespace Go.Proofs.Ytocppeifkjdeiaa.Mv
open Go Go.Proofs
def ty1 : TyI := ⟨TypeDesc.func #[] #[] false, 1, 8, [Value.nilFunc], false⟩
def ty2 : TyI := ⟨TypeDesc.int IntKind.i64, 1, 8, [Value.int IntKind.i64 0], false⟩
def ty3 : TyI := ⟨TypeDesc.int IntKind.i64, 1, 8, [Value.int IntKind.i64 0], false⟩
def ty4 : TyI := ⟨TypeDesc.bool, 1, 1, [Value.bool false], false⟩
def ty5 : TyI := ⟨TypeDesc.int IntKind.u8, 1, 1, [Value.int IntKind.u8 0], false⟩
def ty6 : TyI := ⟨TypeDesc.int IntKind.u8, 1, 1, [Value.int IntKind.u8 0], false⟩
def ty9 : TyI := ⟨TypeDesc.string, 1, 16, [Value.string ⟨#[]⟩], false⟩
def ty10 : TyI := ⟨TypeDesc.string, 1, 16, [Value.string ⟨#[]⟩], false⟩
def ty11 : TyI := ⟨TypeDesc.string, 1, 16, [Value.string ⟨#[]⟩], false⟩
def ty12 : TyI := ⟨TypeDesc.int IntKind.u64, 1, 8, [Value.int IntKind.u64 0], false⟩
def ty15 : TyI := ⟨TypeDesc.pointer 186, 1, 8, [Value.pointer none], false⟩
def ty16 : TyI := ⟨TypeDesc.pointer 189, 1, 8, [Value.pointer none], false⟩
def ty17 : TyI := ⟨TypeDesc.pointer 198, 1, 8, [Value.pointer none], false⟩
def ty21 : TyI := ⟨TypeDesc.int IntKind.i32, 1, 4, [Value.int IntKind.i32 0], false⟩
def ty22 : TyI := ⟨TypeDesc.slice 43, 1, 24, [Value.slice none 0 0], false⟩
def ty23 : TyI := ⟨TypeDesc.slice 9, 1, 24, [Value.slice none 0 0], false⟩
def ty24 : TyI := ⟨TypeDesc.slice 101, 1, 24, [Value.slice none 0 0], false⟩
def ty25 : TyI := ⟨TypeDesc.slice 104, 1, 24, [Value.slice none 0 0], false⟩
def ty26 : TyI := ⟨TypeDesc.struct #[{ name := "Leaf", type := 4, offset := 0, embedded := false, tag := "", pkgPath := "", byteOffset := 0 }, { name := "Pairs", type := 22, offset := 1, embedded := false, tag := "", pkgPath := "", byteOffset := 8 }, { name := "Pivots", type := 23, offset := 2, embedded := false, tag := "", pkgPath := "", byteOffset := 32 }, { name := "Kids", type := 24, offset := 3, embedded := false, tag := "", pkgPath := "", byteOffset := 56 }, { name := "Buffer", type := 25, offset := 4, embedded := false, tag := "", pkgPath := "", byteOffset := 80 }], 5, 104, [Value.bool false, Value.slice none 0 0, Value.slice none 0 0, Value.slice none 0 0, Value.slice none 0 0], true⟩
def ty27 : TyI := ⟨TypeDesc.struct #[{ name := "Leaf", type := 4, offset := 0, embedded := false, tag := "", pkgPath := "", byteOffset := 0 }, { name := "Pairs", type := 22, offset := 1, embedded := false, tag := "", pkgPath := "", byteOffset := 8 }, { name := "Pivots", type := 23, offset := 2, embedded := false, tag := "", pkgPath := "", byteOffset := 32 }, { name := "Kids", type := 24, offset := 3, embedded := false, tag := "", pkgPath := "", byteOffset := 56 }, { name := "Buffer", type := 25, offset := 4, embedded := false, tag := "", pkgPath := "", byteOffset := 80 }], 5, 104, [Value.bool false, Value.slice none 0 0, Value.slice none 0 0, Value.slice none 0 0, Value.slice none 0 0], true⟩
def ty28 : TyI := ⟨TypeDesc.struct #[{ name := "Lo", type := 9, offset := 0, embedded := false, tag := "", pkgPath := "", byteOffset := 0 }, { name := "Strip", type := 9, offset := 1, embedded := false, tag := "", pkgPath := "", byteOffset := 16 }, { name := "Node", type := 27, offset := 2, embedded := false, tag := "", pkgPath := "", byteOffset := 32 }], 7, 136, [Value.string ⟨#[]⟩, Value.string ⟨#[]⟩, Value.bool false,   Value.slice none 0 0, Value.slice none 0 0, Value.slice none 0 0, Value.slice none 0 0], true⟩
def ty29 : TyI := ⟨TypeDesc.struct #[{ name := "Lo", type := 9, offset := 0, embedded := false, tag := "", pkgPath := "", byteOffset := 0 }, { name := "Strip", type := 9, offset := 1, embedded := false, tag := "", pkgPath := "", byteOffset := 16 }, { name := "Node", type := 27, offset := 2, embedded := false, tag := "", pkgPath := "", byteOffset := 32 }], 7, 136, [Value.string ⟨#[]⟩, Value.string ⟨#[]⟩, Value.bool false,   Value.slice none 0 0, Value.slice none 0 0, Value.slice none 0 0, Value.slice none 0 0], true⟩
def ty30 : TyI := ⟨TypeDesc.struct #[{ name := "Lo", type := 9, offset := 0, embedded := false, tag := "", pkgPath := "", byteOffset := 0 }, { name := "Hi", type := 9, offset := 1, embedded := false, tag := "", pkgPath := "", byteOffset := 16 }, { name := "End", type := 4, offset := 2, embedded := false, tag := "", pkgPath := "", byteOffset := 32 }], 3, 40, [Value.string ⟨#[]⟩, Value.string ⟨#[]⟩, Value.bool false], true⟩
def ty31 : TyI := ⟨TypeDesc.struct #[{ name := "Lo", type := 9, offset := 0, embedded := false, tag := "", pkgPath := "", byteOffset := 0 }, { name := "Hi", type := 9, offset := 1, embedded := false, tag := "", pkgPath := "", byteOffset := 16 }, { name := "End", type := 4, offset := 2, embedded := false, tag := "", pkgPath := "", byteOffset := 32 }], 3, 40, [Value.string ⟨#[]⟩, Value.string ⟨#[]⟩, Value.bool false], true⟩
def ty32 : TyI := ⟨TypeDesc.func #[29] #[4] false, 1, 8, [Value.nilFunc], false⟩
def ty33 : TyI := ⟨TypeDesc.func #[31] #[4] false, 1, 8, [Value.nilFunc], false⟩
def ty34 : TyI := ⟨TypeDesc.func #[] #[4] false, 1, 8, [Value.nilFunc], false⟩
def ty35 : TyI := ⟨TypeDesc.int IntKind.i64, 1, 8, [Value.int IntKind.i64 0], false⟩
def ty37 : TyI := ⟨TypeDesc.func #[29, 29, 31] #[29, 35] false, 1, 8, [Value.nilFunc], false⟩
def ty39 : TyI := ⟨TypeDesc.func #[29, 29, 31] #[29, 3] false, 1, 8, [Value.nilFunc], false⟩
def ty40 : TyI := ⟨TypeDesc.func #[41, 41] #[4] false, 1, 8, [Value.nilFunc], false⟩
def ty41 : TyI := ⟨TypeDesc.slice 29, 1, 24, [Value.slice none 0 0], false⟩
def ty42 : TyI := ⟨TypeDesc.struct #[{ name := "Key", type := 9, offset := 0, embedded := false, tag := "", pkgPath := "", byteOffset := 0 }, { name := "Value", type := 9, offset := 1, embedded := false, tag := "", pkgPath := "", byteOffset := 16 }], 2, 32, [Value.string ⟨#[]⟩, Value.string ⟨#[]⟩], true⟩
def ty43 : TyI := ⟨TypeDesc.struct #[{ name := "Key", type := 9, offset := 0, embedded := false, tag := "", pkgPath := "", byteOffset := 0 }, { name := "Value", type := 9, offset := 1, embedded := false, tag := "", pkgPath := "", byteOffset := 16 }], 2, 32, [Value.string ⟨#[]⟩, Value.string ⟨#[]⟩], true⟩
def ty44 : TyI := ⟨TypeDesc.func #[9, 9] #[4] false, 1, 8, [Value.nilFunc], false⟩
def ty45 : TyI := ⟨TypeDesc.func #[27] #[3] false, 1, 8, [Value.nilFunc], false⟩
def ty46 : TyI := ⟨TypeDesc.int IntKind.u32, 1, 4, [Value.int IntKind.u32 0], false⟩
def ty47 : TyI := ⟨TypeDesc.int IntKind.u16, 1, 2, [Value.int IntKind.u16 0], false⟩
def ty48 : TyI := ⟨TypeDesc.struct #[{ name := "Kind", type := 5, offset := 0, embedded := false, tag := "", pkgPath := "", byteOffset := 0 }, { name := "Value", type := 9, offset := 1, embedded := false, tag := "", pkgPath := "", byteOffset := 8 }, { name := "Block", type := 46, offset := 2, embedded := false, tag := "", pkgPath := "", byteOffset := 24 }, { name := "Deep", type := 47, offset := 3, embedded := false, tag := "", pkgPath := "", byteOffset := 28 }, { name := "Key", type := 9, offset := 4, embedded := false, tag := "", pkgPath := "", byteOffset := 32 }], 5, 48, [Value.int IntKind.u8 0, Value.string ⟨#[]⟩, Value.int IntKind.u32 0,   Value.int IntKind.u16 0, Value.string ⟨#[]⟩], true⟩
def ty49 : TyI := ⟨TypeDesc.struct #[{ name := "Kind", type := 5, offset := 0, embedded := false, tag := "", pkgPath := "", byteOffset := 0 }, { name := "Value", type := 9, offset := 1, embedded := false, tag := "", pkgPath := "", byteOffset := 8 }, { name := "Block", type := 46, offset := 2, embedded := false, tag := "", pkgPath := "", byteOffset := 24 }, { name := "Deep", type := 47, offset := 3, embedded := false, tag := "", pkgPath := "", byteOffset := 28 }, { name := "Key", type := 9, offset := 4, embedded := false, tag := "", pkgPath := "", byteOffset := 32 }], 5, 48, [Value.int IntKind.u8 0, Value.string ⟨#[]⟩, Value.int IntKind.u32 0,   Value.int IntKind.u16 0, Value.string ⟨#[]⟩], true⟩
def ty50 : TyI := ⟨TypeDesc.func #[27, 9] #[49] false, 1, 8, [Value.nilFunc], false⟩
def ty51 : TyI := ⟨TypeDesc.func #[29, 29, 31, 3] #[4] false, 1, 8, [Value.nilFunc], false⟩
def ty52 : TyI := ⟨TypeDesc.func #[27] #[4] false, 1, 8, [Value.nilFunc], false⟩
def ty54 : TyI := ⟨TypeDesc.func #[27, 31, 9] #[27, 35] false, 1, 8, [Value.nilFunc], false⟩
def ty56 : TyI := ⟨TypeDesc.func #[27, 31, 9] #[27, 3] false, 1, 8, [Value.nilFunc], false⟩
def ty57 : TyI := ⟨TypeDesc.func #[27, 27] #[4] false, 1, 8, [Value.nilFunc], false⟩
def ty58 : TyI := ⟨TypeDesc.func #[27, 31, 9] #[4] false, 1, 8, [Value.nilFunc], false⟩
def ty59 : TyI := ⟨TypeDesc.func #[31, 9] #[4] false, 1, 8, [Value.nilFunc], false⟩
def ty60 : TyI := ⟨TypeDesc.func #[27, 31, 9, 9] #[4] false, 1, 8, [Value.nilFunc], false⟩
def ty61 : TyI := ⟨TypeDesc.func #[63, 31] #[31] false, 1, 8, [Value.nilFunc], false⟩
def ty62 : TyI := ⟨TypeDesc.struct #[{ name := "Strip", type := 9, offset := 0, embedded := false, tag := "", pkgPath := "", byteOffset := 0 }, { name := "Add", type := 9, offset := 1, embedded := false, tag := "", pkgPath := "", byteOffset := 16 }], 2, 32, [Value.string ⟨#[]⟩, Value.string ⟨#[]⟩], true⟩
def ty63 : TyI := ⟨TypeDesc.struct #[{ name := "Strip", type := 9, offset := 0, embedded := false, tag := "", pkgPath := "", byteOffset := 0 }, { name := "Add", type := 9, offset := 1, embedded := false, tag := "", pkgPath := "", byteOffset := 16 }], 2, 32, [Value.string ⟨#[]⟩, Value.string ⟨#[]⟩], true⟩
def ty64 : TyI := ⟨TypeDesc.func #[31, 31] #[4] false, 1, 8, [Value.nilFunc], false⟩
def ty65 : TyI := ⟨TypeDesc.func #[27, 31, 31, 9, 9] #[4] false, 1, 8, [Value.nilFunc], false⟩
def ty66 : TyI := ⟨TypeDesc.func #[63] #[4] false, 1, 8, [Value.nilFunc], false⟩
def ty68 : TyI := ⟨TypeDesc.func #[63, 9] #[63, 4] false, 1, 8, [Value.nilFunc], false⟩
def ty69 : TyI := ⟨TypeDesc.func #[63, 63] #[63, 4] false, 1, 8, [Value.nilFunc], false⟩
def ty71 : TyI := ⟨TypeDesc.func #[63, 9] #[9, 4] false, 1, 8, [Value.nilFunc], false⟩
def ty72 : TyI := ⟨TypeDesc.func #[63, 9, 9] #[4] false, 1, 8, [Value.nilFunc], false⟩
def ty73 : TyI := ⟨TypeDesc.func #[27] #[9, 4] false, 1, 8, [Value.nilFunc], false⟩
def ty74 : TyI := ⟨TypeDesc.func #[27, 31] #[29, 35] false, 1, 8, [Value.nilFunc], false⟩
def ty75 : TyI := ⟨TypeDesc.func #[27, 31] #[29, 3] false, 1, 8, [Value.nilFunc], false⟩
def ty77 : TyI := ⟨TypeDesc.func #[27, 31] #[41, 35] false, 1, 8, [Value.nilFunc], false⟩
def ty79 : TyI := ⟨TypeDesc.func #[27, 31] #[41, 3] false, 1, 8, [Value.nilFunc], false⟩
def ty80 : TyI := ⟨TypeDesc.func #[27, 31, 3, 3] #[41, 35] false, 1, 8, [Value.nilFunc], false⟩
def ty81 : TyI := ⟨TypeDesc.func #[27, 31, 3, 3] #[41, 3] false, 1, 8, [Value.nilFunc], false⟩
def ty82 : TyI := ⟨TypeDesc.func #[27, 31, 3, 3] #[4] false, 1, 8, [Value.nilFunc], false⟩
def ty83 : TyI := ⟨TypeDesc.func #[27, 31, 9, 3, 3] #[4] false, 1, 8, [Value.nilFunc], false⟩
def ty84 : TyI := ⟨TypeDesc.slice 120, 1, 24, [Value.slice none 0 0], false⟩
def ty85 : TyI := ⟨TypeDesc.func #[84] #[4] false, 1, 8, [Value.nilFunc], false⟩
def ty86 : TyI := ⟨TypeDesc.func #[84, 46, 9] #[9, 4] false, 1, 8, [Value.nilFunc], false⟩
def ty87 : TyI := ⟨TypeDesc.func #[84, 46] #[3] false, 1, 8, [Value.nilFunc], false⟩
def ty88 : TyI := ⟨TypeDesc.func #[84, 46, 9] #[4] false, 1, 8, [Value.nilFunc], false⟩
def ty89 : TyI := ⟨TypeDesc.func #[84, 46] #[4] false, 1, 8, [Value.nilFunc], false⟩
def ty90 : TyI := ⟨TypeDesc.func #[22, 22] #[4] false, 1, 8, [Value.nilFunc], false⟩
def ty91 : TyI := ⟨TypeDesc.func #[84, 46, 31, 3] #[22] false, 1, 8, [Value.nilFunc], false⟩
def ty92 : TyI := ⟨TypeDesc.func #[84, 46, 31, 3] #[4] false, 1, 8, [Value.nilFunc], false⟩
def ty93 : TyI := ⟨TypeDesc.func #[22] #[4] false, 1, 8, [Value.nilFunc], false⟩
def ty94 : TyI := ⟨TypeDesc.func #[22, 9] #[9, 4] false, 1, 8, [Value.nilFunc], false⟩
def ty95 : TyI := ⟨TypeDesc.func #[84, 46, 31, 9] #[4] false, 1, 8, [Value.nilFunc], false⟩
def ty96 : TyI := ⟨TypeDesc.func #[31, 31] #[31] false, 1, 8, [Value.nilFunc], false⟩
def ty97 : TyI := ⟨TypeDesc.func #[84, 46, 31, 9, 3] #[4] false, 1, 8, [Value.nilFunc], false⟩
def ty98 : TyI := ⟨TypeDesc.func #[27] #[35] false, 1, 8, [Value.nilFunc], false⟩
def ty99 : TyI := ⟨TypeDesc.func #[31] #[9] false, 1, 8, [Value.nilFunc], false⟩
def ty100 : TyI := ⟨TypeDesc.struct #[{ name := "Block", type := 46, offset := 0, embedded := false, tag := "", pkgPath := "", byteOffset := 0 }, { name := "Deep", type := 47, offset := 1, embedded := false, tag := "", pkgPath := "", byteOffset := 4 }, { name := "Lift", type := 63, offset := 2, embedded := false, tag := "", pkgPath := "", byteOffset := 8 }], 4, 40, [Value.int IntKind.u32 0, Value.int IntKind.u16 0, Value.string ⟨#[]⟩,   Value.string ⟨#[]⟩], true⟩
def ty101 : TyI := ⟨TypeDesc.struct #[{ name := "Block", type := 46, offset := 0, embedded := false, tag := "", pkgPath := "", byteOffset := 0 }, { name := "Deep", type := 47, offset := 1, embedded := false, tag := "", pkgPath := "", byteOffset := 4 }, { name := "Lift", type := 63, offset := 2, embedded := false, tag := "", pkgPath := "", byteOffset := 8 }], 4, 40, [Value.int IntKind.u32 0, Value.int IntKind.u16 0, Value.string ⟨#[]⟩,   Value.string ⟨#[]⟩], true⟩
def ty102 : TyI := ⟨TypeDesc.func #[104] #[4] false, 1, 8, [Value.nilFunc], false⟩
def ty103 : TyI := ⟨TypeDesc.struct #[{ name := "Kind", type := 5, offset := 0, embedded := false, tag := "", pkgPath := "", byteOffset := 0 }, { name := "Key", type := 9, offset := 1, embedded := false, tag := "", pkgPath := "", byteOffset := 8 }, { name := "Value", type := 9, offset := 2, embedded := false, tag := "", pkgPath := "", byteOffset := 24 }, { name := "Block", type := 46, offset := 3, embedded := false, tag := "", pkgPath := "", byteOffset := 40 }, { name := "Deep", type := 47, offset := 4, embedded := false, tag := "", pkgPath := "", byteOffset := 44 }, { name := "Add", type := 9, offset := 5, embedded := false, tag := "", pkgPath := "", byteOffset := 48 }], 6, 64, [Value.int IntKind.u8 0, Value.string ⟨#[]⟩,   Value.string ⟨#[]⟩, Value.int IntKind.u32 0, Value.int IntKind.u16 0,   Value.string ⟨#[]⟩], true⟩
def ty104 : TyI := ⟨TypeDesc.struct #[{ name := "Kind", type := 5, offset := 0, embedded := false, tag := "", pkgPath := "", byteOffset := 0 }, { name := "Key", type := 9, offset := 1, embedded := false, tag := "", pkgPath := "", byteOffset := 8 }, { name := "Value", type := 9, offset := 2, embedded := false, tag := "", pkgPath := "", byteOffset := 24 }, { name := "Block", type := 46, offset := 3, embedded := false, tag := "", pkgPath := "", byteOffset := 40 }, { name := "Deep", type := 47, offset := 4, embedded := false, tag := "", pkgPath := "", byteOffset := 44 }, { name := "Add", type := 9, offset := 5, embedded := false, tag := "", pkgPath := "", byteOffset := 48 }], 6, 64, [Value.int IntKind.u8 0, Value.string ⟨#[]⟩,   Value.string ⟨#[]⟩, Value.int IntKind.u32 0, Value.int IntKind.u16 0,   Value.string ⟨#[]⟩], true⟩
def ty105 : TyI := ⟨TypeDesc.func #[25] #[4] false, 1, 8, [Value.nilFunc], false⟩
def ty106 : TyI := ⟨TypeDesc.func #[9] #[31] false, 1, 8, [Value.nilFunc], false⟩
def ty107 : TyI := ⟨TypeDesc.func #[27, 31, 9] #[27] false, 1, 8, [Value.nilFunc], false⟩
def ty109 : TyI := ⟨TypeDesc.func #[27, 31, 9] #[27, 4] false, 1, 8, [Value.nilFunc], false⟩
def ty111 : TyI := ⟨TypeDesc.func #[25, 31, 9] #[25, 35] false, 1, 8, [Value.nilFunc], false⟩
def ty112 : TyI := ⟨TypeDesc.func #[27, 3] #[31] false, 1, 8, [Value.nilFunc], false⟩
def ty114 : TyI := ⟨TypeDesc.func #[25, 31, 9] #[25, 3] false, 1, 8, [Value.nilFunc], false⟩
def ty115 : TyI := ⟨TypeDesc.func #[25, 25] #[4] false, 1, 8, [Value.nilFunc], false⟩
def ty116 : TyI := ⟨TypeDesc.func #[9] #[9, 4] false, 1, 8, [Value.nilFunc], false⟩
def ty117 : TyI := ⟨TypeDesc.func #[9, 9] #[9] false, 1, 8, [Value.nilFunc], false⟩
def ty118 : TyI := ⟨TypeDesc.slice 31, 1, 24, [Value.slice none 0 0], false⟩
def ty119 : TyI := ⟨TypeDesc.struct #[{ name := "Block", type := 46, offset := 0, embedded := false, tag := "", pkgPath := "", byteOffset := 0 }, { name := "Node", type := 27, offset := 1, embedded := false, tag := "", pkgPath := "", byteOffset := 8 }], 6, 112, [Value.int IntKind.u32 0, Value.bool false, Value.slice none 0 0, Value.slice none 0 0,   Value.slice none 0 0, Value.slice none 0 0], true⟩
def ty120 : TyI := ⟨TypeDesc.struct #[{ name := "Block", type := 46, offset := 0, embedded := false, tag := "", pkgPath := "", byteOffset := 0 }, { name := "Node", type := 27, offset := 1, embedded := false, tag := "", pkgPath := "", byteOffset := 8 }], 6, 112, [Value.int IntKind.u32 0, Value.bool false, Value.slice none 0 0, Value.slice none 0 0,   Value.slice none 0 0, Value.slice none 0 0], true⟩
def ty121 : TyI := ⟨TypeDesc.func #[84, 46] #[27, 4] false, 1, 8, [Value.nilFunc], false⟩
def ty122 : TyI := ⟨TypeDesc.map 46 3, 1, 8, [Value.map none], false⟩
def ty123 : TyI := ⟨TypeDesc.func #[46] #[3] false, 1, 8, [Value.nilFunc], false⟩
def ty125 : TyI := ⟨TypeDesc.slice 46, 1, 24, [Value.slice none 0 0], false⟩
def ty126 : TyI := ⟨TypeDesc.func #[27] #[125] false, 1, 8, [Value.nilFunc], false⟩
def ty127 : TyI := ⟨TypeDesc.slice 130, 1, 24, [Value.slice none 0 0], false⟩
def ty128 : TyI := ⟨TypeDesc.func #[27] #[47] false, 1, 8, [Value.nilFunc], false⟩
def ty129 : TyI := ⟨TypeDesc.struct #[{ name := "Block", type := 46, offset := 0, embedded := false, tag := "", pkgPath := "", byteOffset := 0 }, { name := "N", type := 46, offset := 1, embedded := false, tag := "", pkgPath := "", byteOffset := 4 }], 2, 8, [Value.int IntKind.u32 0, Value.int IntKind.u32 0], true⟩
def ty130 : TyI := ⟨TypeDesc.struct #[{ name := "Block", type := 46, offset := 0, embedded := false, tag := "", pkgPath := "", byteOffset := 0 }, { name := "N", type := 46, offset := 1, embedded := false, tag := "", pkgPath := "", byteOffset := 4 }], 2, 8, [Value.int IntKind.u32 0, Value.int IntKind.u32 0], true⟩
def ty131 : TyI := ⟨TypeDesc.func #[153] #[] false, 1, 8, [Value.nilFunc], false⟩
def ty132 : TyI := ⟨TypeDesc.func #[153] #[] false, 1, 8, [Value.nilFunc], false⟩
def ty133 : TyI := ⟨TypeDesc.func #[84, 46, 31] #[132] false, 1, 8, [Value.nilFunc], false⟩
def ty134 : TyI := ⟨TypeDesc.func #[84, 46] #[22] false, 1, 8, [Value.nilFunc], false⟩
def ty135 : TyI := ⟨TypeDesc.func #[9, 9] #[9, 4] false, 1, 8, [Value.nilFunc], false⟩
def ty136 : TyI := ⟨TypeDesc.func #[25, 9] #[3] false, 1, 8, [Value.nilFunc], false⟩
def ty137 : TyI := ⟨TypeDesc.func #[27, 9] #[3] false, 1, 8, [Value.nilFunc], false⟩
def ty138 : TyI := ⟨TypeDesc.func #[46, 47, 63, 9] #[49] false, 1, 8, [Value.nilFunc], false⟩
def ty139 : TyI := ⟨TypeDesc.func #[104] #[31] false, 1, 8, [Value.nilFunc], false⟩
def ty141 : TyI := ⟨TypeDesc.func #[104, 9] #[104, 4] false, 1, 8, [Value.nilFunc], false⟩
def ty142 : TyI := ⟨TypeDesc.slice 5, 1, 24, [Value.slice none 0 0], false⟩
def ty143 : TyI := ⟨TypeDesc.func #[] #[31] false, 1, 8, [Value.nilFunc], false⟩
def ty144 : TyI := ⟨TypeDesc.map 46 47, 1, 8, [Value.map none], false⟩
def ty145 : TyI := ⟨TypeDesc.func #[84] #[144] false, 1, 8, [Value.nilFunc], false⟩
def ty146 : TyI := ⟨TypeDesc.func #[144, 46, 47] #[4] false, 1, 8, [Value.nilFunc], false⟩
def ty147 : TyI := ⟨TypeDesc.func #[27] #[27] false, 1, 8, [Value.nilFunc], false⟩
def ty148 : TyI := ⟨TypeDesc.func #[22, 9, 149] #[3, 4] false, 1, 8, [Value.nilFunc], false⟩
def ty149 : TyI := ⟨TypeDesc.func #[43, 9] #[3] false, 1, 8, [Value.nilFunc], false⟩
def ty150 : TyI := ⟨TypeDesc.func #[101, 9] #[49] false, 1, 8, [Value.nilFunc], false⟩
def ty151 : TyI := ⟨TypeDesc.func #[84, 46, 47] #[4] false, 1, 8, [Value.nilFunc], false⟩
def ty152 : TyI := ⟨TypeDesc.func #[25] #[125] false, 1, 8, [Value.nilFunc], false⟩
def ty153 : TyI := ⟨TypeDesc.func #[43] #[4] false, 1, 8, [Value.nilFunc], false⟩
def ty154 : TyI := ⟨TypeDesc.struct #[{ name := "l", type := 84, offset := 0, embedded := false, tag := "", pkgPath := "marcot/mean", byteOffset := 0 }, { name := "tell", type := 153, offset := 1, embedded := false, tag := "", pkgPath := "marcot/mean", byteOffset := 24 }], 2, 32, [Value.slice none 0 0, Value.nilFunc], true⟩
def ty155 : TyI := ⟨TypeDesc.struct #[{ name := "l", type := 84, offset := 0, embedded := false, tag := "", pkgPath := "marcot/mean", byteOffset := 0 }, { name := "tell", type := 153, offset := 1, embedded := false, tag := "", pkgPath := "marcot/mean", byteOffset := 24 }], 2, 32, [Value.slice none 0 0, Value.nilFunc], true⟩
def ty156 : TyI := ⟨TypeDesc.func #[46, 31] #[4] false, 1, 8, [Value.nilFunc], false⟩
def ty157 : TyI := ⟨TypeDesc.func #[22, 22, 63, 31] #[22] false, 1, 8, [Value.nilFunc], false⟩
def ty158 : TyI := ⟨TypeDesc.func #[22, 9] #[22] false, 1, 8, [Value.nilFunc], false⟩
def ty160 : TyI := ⟨TypeDesc.func #[22, 25] #[22, 3] false, 1, 8, [Value.nilFunc], false⟩
def ty161 : TyI := ⟨TypeDesc.func #[9] #[4] false, 1, 8, [Value.nilFunc], false⟩
def ty162 : TyI := ⟨TypeDesc.func #[25, 102] #[4] false, 1, 8, [Value.nilFunc], false⟩
def ty163 : TyI := ⟨TypeDesc.func #[104, 9] #[4] false, 1, 8, [Value.nilFunc], false⟩
def ty164 : TyI := ⟨TypeDesc.func #[9] #[9] false, 1, 8, [Value.nilFunc], false⟩
def ty166 : TyI := ⟨TypeDesc.func #[22] #[22] false, 1, 8, [Value.nilFunc], false⟩
def ty167 : TyI := ⟨TypeDesc.func #[23] #[23] false, 1, 8, [Value.nilFunc], false⟩
def ty168 : TyI := ⟨TypeDesc.func #[24] #[24] false, 1, 8, [Value.nilFunc], false⟩
def ty169 : TyI := ⟨TypeDesc.func #[25] #[25] false, 1, 8, [Value.nilFunc], false⟩
def ty170 : TyI := ⟨TypeDesc.int IntKind.u64, 1, 8, [Value.int IntKind.u64 0], false⟩
def ty171 : TyI := ⟨TypeDesc.func #[179] #[] false, 1, 8, [Value.nilFunc], false⟩
def ty172 : TyI := ⟨TypeDesc.func #[179] #[] false, 1, 8, [Value.nilFunc], false⟩
def ty173 : TyI := ⟨TypeDesc.func #[25] #[172] false, 1, 8, [Value.nilFunc], false⟩
def ty174 : TyI := ⟨TypeDesc.func #[3, 175] #[3] false, 1, 8, [Value.nilFunc], false⟩
def ty175 : TyI := ⟨TypeDesc.func #[3] #[4] false, 1, 8, [Value.nilFunc], false⟩
def ty176 : TyI := ⟨TypeDesc.func #[27, 25, 31] #[4] false, 1, 8, [Value.nilFunc], false⟩
def ty177 : TyI := ⟨TypeDesc.func #[22, 43] #[22] false, 1, 8, [Value.nilFunc], false⟩
def ty178 : TyI := ⟨TypeDesc.func #[25, 102] #[3] false, 1, 8, [Value.nilFunc], false⟩
def ty179 : TyI := ⟨TypeDesc.func #[3, 104] #[4] false, 1, 8, [Value.nilFunc], false⟩
def ty180 : TyI := ⟨TypeDesc.func #[27, 31] #[4] false, 1, 8, [Value.nilFunc], false⟩
def ty181 : TyI := ⟨TypeDesc.func #[104, 31] #[4] false, 1, 8, [Value.nilFunc], false⟩
def ty182 : TyI := ⟨TypeDesc.func #[46, 63, 31] #[4] false, 1, 8, [Value.nilFunc], false⟩
def ty183 : TyI := ⟨TypeDesc.func #[63] #[63] false, 1, 8, [Value.nilFunc], false⟩
def ty184 : TyI := ⟨TypeDesc.func #[] #[9] false, 1, 8, [Value.nilFunc], false⟩
def ty187 : TyI := ⟨TypeDesc.array 0 16, 0, 0, [], false⟩
def ty190 : TyI := ⟨TypeDesc.func #[] #[3] false, 1, 8, [Value.nilFunc], false⟩
def ty191 : TyI := ⟨TypeDesc.int IntKind.u8, 1, 1, [Value.int IntKind.u8 0], false⟩
def ty192 : TyI := ⟨TypeDesc.int IntKind.u8, 1, 1, [Value.int IntKind.u8 0], false⟩
def ty193 : TyI := ⟨TypeDesc.func #[199, 199] #[4] false, 1, 8, [Value.nilFunc], false⟩
def ty194 : TyI := ⟨TypeDesc.pointer 5, 1, 8, [Value.pointer none], false⟩
def ty195 : TyI := ⟨TypeDesc.int IntKind.i32, 1, 4, [Value.int IntKind.i32 0], false⟩
def ty196 : TyI := ⟨TypeDesc.int IntKind.i32, 1, 4, [Value.int IntKind.i32 0], false⟩
def tab : Tab := [(1, ty1), (2, ty2), (3, ty3), (4, ty4), (5, ty5), (6, ty6), (9, ty9), (10, ty10), (11, ty11), (12, ty12), (15, ty15), (16, ty16), (17, ty17), (21, ty21), (22, ty22), (23, ty23), (24, ty24), (25, ty25), (26, ty26), (27, ty27), (28, ty28), (29, ty29), (30, ty30), (31, ty31), (32, ty32), (33, ty33), (34, ty34), (35, ty35), (37, ty37), (39, ty39), (40, ty40), (41, ty41), (42, ty42), (43, ty43), (44, ty44), (45, ty45), (46, ty46), (47, ty47), (48, ty48), (49, ty49), (50, ty50), (51, ty51), (52, ty52), (54, ty54), (56, ty56), (57, ty57), (58, ty58), (59, ty59), (60, ty60), (61, ty61), (62, ty62), (63, ty63), (64, ty64), (65, ty65), (66, ty66), (68, ty68), (69, ty69), (71, ty71), (72, ty72), (73, ty73), (74, ty74), (75, ty75), (77, ty77), (79, ty79), (80, ty80), (81, ty81), (82, ty82), (83, ty83), (84, ty84), (85, ty85), (86, ty86), (87, ty87), (88, ty88), (89, ty89), (90, ty90), (91, ty91), (92, ty92), (93, ty93), (94, ty94), (95, ty95), (96, ty96), (97, ty97), (98, ty98), (99, ty99), (100, ty100), (101, ty101), (102, ty102), (103, ty103), (104, ty104), (105, ty105), (106, ty106), (107, ty107), (109, ty109), (111, ty111), (112, ty112), (114, ty114), (115, ty115), (116, ty116), (117, ty117), (118, ty118), (119, ty119), (120, ty120), (121, ty121), (122, ty122), (123, ty123), (125, ty125), (126, ty126), (127, ty127), (128, ty128), (129, ty129), (130, ty130), (131, ty131), (132, ty132), (133, ty133), (134, ty134), (135, ty135), (136, ty136), (137, ty137), (138, ty138), (139, ty139), (141, ty141), (142, ty142), (143, ty143), (144, ty144), (145, ty145), (146, ty146), (147, ty147), (148, ty148), (149, ty149), (150, ty150), (151, ty151), (152, ty152), (153, ty153), (154, ty154), (155, ty155), (156, ty156), (157, ty157), (158, ty158), (160, ty160), (161, ty161), (162, ty162), (163, ty163), (164, ty164), (166, ty166), (167, ty167), (168, ty168), (169, ty169), (170, ty170), (171, ty171), (172, ty172), (173, ty173), (174, ty174), (175, ty175), (176, ty176), (177, ty177), (178, ty178), (179, ty179), (180, ty180), (181, ty181), (182, ty182), (183, ty183), (184, ty184), (187, ty187), (190, ty190), (191, ty191), (192, ty192), (193, ty193), (194, ty194), (195, ty195), (196, ty196)]
theorem tyOk1 : TyOk Try.prog 1 ty1 := ⟨by kernel_rfl, ⟨Try.t1, by kernel_rfl, by kernel_rfl, by kernel_rfl, _, rfl, by kernel_rfl⟩, ⟨by kernel_rfl, by kernel_rfl⟩, fun h => absurd h (by decide)⟩
theorem tyOk2 : TyOk Try.prog 2 ty2 := ⟨by kernel_rfl, ⟨Try.t2, by kernel_rfl, by kernel_rfl, by kernel_rfl, _, rfl, by kernel_rfl⟩, ⟨by kernel_rfl, by kernel_rfl⟩, fun h => absurd h (by decide)⟩
theorem tyOk3 : TyOk Try.prog 3 ty3 := ⟨by kernel_rfl, ⟨Try.t3, by kernel_rfl, by kernel_rfl, by kernel_rfl, _, rfl, by kernel_rfl⟩, ⟨by kernel_rfl, by kernel_rfl⟩, fun h => absurd h (by decide)⟩
theorem tyOk4 : TyOk Try.prog 4 ty4 := ⟨by kernel_rfl, ⟨Try.t4, by kernel_rfl, by kernel_rfl, by kernel_rfl, _, rfl, by kernel_rfl⟩, ⟨by kernel_rfl, by kernel_rfl⟩, fun h => absurd h (by decide)⟩
theorem tyOk5 : TyOk Try.prog 5 ty5 := ⟨by kernel_rfl, ⟨Try.t5, by kernel_rfl, by kernel_rfl, by kernel_rfl, _, rfl, by kernel_rfl⟩, ⟨by kernel_rfl, by kernel_rfl⟩, fun h => absurd h (by decide)⟩
theorem tyOk6 : TyOk Try.prog 6 ty6 := ⟨by kernel_rfl, ⟨Try.t6, by kernel_rfl, by kernel_rfl, by kernel_rfl, _, rfl, by kernel_rfl⟩, ⟨by kernel_rfl, by kernel_rfl⟩, fun h => absurd h (by decide)⟩
theorem tyOk9 : TyOk Try.prog 9 ty9 := ⟨by kernel_rfl, ⟨Try.t9, by kernel_rfl, by kernel_rfl, by kernel_rfl, _, rfl, by kernel_rfl⟩, ⟨by kernel_rfl, by kernel_rfl⟩, fun h => absurd h (by decide)⟩
theorem tyOk10 : TyOk Try.prog 10 ty10 := ⟨by kernel_rfl, ⟨Try.t10, by kernel_rfl, by kernel_rfl, by kernel_rfl, _, rfl, by kernel_rfl⟩, ⟨by kernel_rfl, by kernel_rfl⟩, fun h => absurd h (by decide)⟩
theorem tyOk11 : TyOk Try.prog 11 ty11 := ⟨by kernel_rfl, ⟨Try.t11, by kernel_rfl, by kernel_rfl, by kernel_rfl, _, rfl, by kernel_rfl⟩, ⟨by kernel_rfl, by kernel_rfl⟩, fun h => absurd h (by decide)⟩
theorem tyOk12 : TyOk Try.prog 12 ty12 := ⟨by kernel_rfl, ⟨Try.t12, by kernel_rfl, by kernel_rfl, by kernel_rfl, _, rfl, by kernel_rfl⟩, ⟨by kernel_rfl, by kernel_rfl⟩, fun h => absurd h (by decide)⟩
theorem tyOk15 : TyOk Try.prog 15 ty15 := ⟨by kernel_rfl, ⟨Try.t15, by kernel_rfl, by kernel_rfl, by kernel_rfl, _, rfl, by kernel_rfl⟩, ⟨by kernel_rfl, by kernel_rfl⟩, fun h => absurd h (by decide)⟩
theorem tyOk16 : TyOk Try.prog 16 ty16 := ⟨by kernel_rfl, ⟨Try.t16, by kernel_rfl, by kernel_rfl, by kernel_rfl, _, rfl, by kernel_rfl⟩, ⟨by kernel_rfl, by kernel_rfl⟩, fun h => absurd h (by decide)⟩
theorem tyOk17 : TyOk Try.prog 17 ty17 := ⟨by kernel_rfl, ⟨Try.t17, by kernel_rfl, by kernel_rfl, by kernel_rfl, _, rfl, by kernel_rfl⟩, ⟨by kernel_rfl, by kernel_rfl⟩, fun h => absurd h (by decide)⟩
theorem tyOk21 : TyOk Try.prog 21 ty21 := ⟨by kernel_rfl, ⟨Try.t21, by kernel_rfl, by kernel_rfl, by kernel_rfl, _, rfl, by kernel_rfl⟩, ⟨by kernel_rfl, by kernel_rfl⟩, fun h => absurd h (by decide)⟩
theorem tyOk22 : TyOk Try.prog 22 ty22 := ⟨by kernel_rfl, ⟨Try.t22, by kernel_rfl, by kernel_rfl, by kernel_rfl, _, rfl, by kernel_rfl⟩, ⟨by kernel_rfl, by kernel_rfl⟩, fun h => absurd h (by decide)⟩
theorem tyOk23 : TyOk Try.prog 23 ty23 := ⟨by kernel_rfl, ⟨Try.t23, by kernel_rfl, by kernel_rfl, by kernel_rfl, _, rfl, by kernel_rfl⟩, ⟨by kernel_rfl, by kernel_rfl⟩, fun h => absurd h (by decide)⟩
theorem tyOk24 : TyOk Try.prog 24 ty24 := ⟨by kernel_rfl, ⟨Try.t24, by kernel_rfl, by kernel_rfl, by kernel_rfl, _, rfl, by kernel_rfl⟩, ⟨by kernel_rfl, by kernel_rfl⟩, fun h => absurd h (by decide)⟩
theorem tyOk25 : TyOk Try.prog 25 ty25 := ⟨by kernel_rfl, ⟨Try.t25, by kernel_rfl, by kernel_rfl, by kernel_rfl, _, rfl, by kernel_rfl⟩, ⟨by kernel_rfl, by kernel_rfl⟩, fun h => absurd h (by decide)⟩
theorem tyOk26 : TyOk Try.prog 26 ty26 := ⟨by kernel_rfl, ⟨Try.t26, by kernel_rfl, by kernel_rfl, by kernel_rfl, _, rfl, by kernel_rfl⟩, ⟨by kernel_rfl, by kernel_rfl⟩, fun _ => ⟨Try.stoodInHeld26, Try.eqGuardType26⟩⟩
theorem tyOk27 : TyOk Try.prog 27 ty27 := ⟨by kernel_rfl, ⟨Try.t27, by kernel_rfl, by kernel_rfl, by kernel_rfl, _, rfl, by kernel_rfl⟩, ⟨by kernel_rfl, by kernel_rfl⟩, fun _ => ⟨Try.stoodInHeld27, Try.eqGuardType27⟩⟩
theorem tyOk28 : TyOk Try.prog 28 ty28 := ⟨by kernel_rfl, ⟨Try.t28, by kernel_rfl, by kernel_rfl, by kernel_rfl, _, rfl, by kernel_rfl⟩, ⟨by kernel_rfl, by kernel_rfl⟩, fun _ => ⟨Try.stoodInHeld28, Try.eqGuardType28⟩⟩
theorem tyOk29 : TyOk Try.prog 29 ty29 := ⟨by kernel_rfl, ⟨Try.t29, by kernel_rfl, by kernel_rfl, by kernel_rfl, _, rfl, by kernel_rfl⟩, ⟨by kernel_rfl, by kernel_rfl⟩, fun _ => ⟨Try.stoodInHeld29, Try.eqGuardType29⟩⟩
theorem tyOk30 : TyOk Try.prog 30 ty30 := ⟨by kernel_rfl, ⟨Try.t30, by kernel_rfl, by kernel_rfl, by kernel_rfl, _, rfl, by kernel_rfl⟩, ⟨by kernel_rfl, by kernel_rfl⟩, fun _ => ⟨Try.stoodInHeld30, Try.eqGuardType30⟩⟩
theorem tyOk31 : TyOk Try.prog 31 ty31 := ⟨by kernel_rfl, ⟨Try.t31, by kernel_rfl, by kernel_rfl, by kernel_rfl, _, rfl, by kernel_rfl⟩, ⟨by kernel_rfl, by kernel_rfl⟩, fun _ => ⟨Try.stoodInHeld31, Try.eqGuardType31⟩⟩
theorem tyOk32 : TyOk Try.prog 32 ty32 := ⟨by kernel_rfl, ⟨Try.t32, by kernel_rfl, by kernel_rfl, by kernel_rfl, _, rfl, by kernel_rfl⟩, ⟨by kernel_rfl, by kernel_rfl⟩, fun h => absurd h (by decide)⟩
theorem tyOk33 : TyOk Try.prog 33 ty33 := ⟨by kernel_rfl, ⟨Try.t33, by kernel_rfl, by kernel_rfl, by kernel_rfl, _, rfl, by kernel_rfl⟩, ⟨by kernel_rfl, by kernel_rfl⟩, fun h => absurd h (by decide)⟩
theorem tyOk34 : TyOk Try.prog 34 ty34 := ⟨by kernel_rfl, ⟨Try.t34, by kernel_rfl, by kernel_rfl, by kernel_rfl, _, rfl, by kernel_rfl⟩, ⟨by kernel_rfl, by kernel_rfl⟩, fun h => absurd h (by decide)⟩
theorem tyOk35 : TyOk Try.prog 35 ty35 := ⟨by kernel_rfl, ⟨Try.t35, by kernel_rfl, by kernel_rfl, by kernel_rfl, _, rfl, by kernel_rfl⟩, ⟨by kernel_rfl, by kernel_rfl⟩, fun h => absurd h (by decide)⟩
theorem tyOk37 : TyOk Try.prog 37 ty37 := ⟨by kernel_rfl, ⟨Try.t37, by kernel_rfl, by kernel_rfl, by kernel_rfl, _, rfl, by kernel_rfl⟩, ⟨by kernel_rfl, by kernel_rfl⟩, fun h => absurd h (by decide)⟩
theorem tyOk39 : TyOk Try.prog 39 ty39 := ⟨by kernel_rfl, ⟨Try.t39, by kernel_rfl, by kernel_rfl, by kernel_rfl, _, rfl, by kernel_rfl⟩, ⟨by kernel_rfl, by kernel_rfl⟩, fun h => absurd h (by decide)⟩
theorem tyOk40 : TyOk Try.prog 40 ty40 := ⟨by kernel_rfl, ⟨Try.t40, by kernel_rfl, by kernel_rfl, by kernel_rfl, _, rfl, by kernel_rfl⟩, ⟨by kernel_rfl, by kernel_rfl⟩, fun h => absurd h (by decide)⟩
theorem tyOk41 : TyOk Try.prog 41 ty41 := ⟨by kernel_rfl, ⟨Try.t41, by kernel_rfl, by kernel_rfl, by kernel_rfl, _, rfl, by kernel_rfl⟩, ⟨by kernel_rfl, by kernel_rfl⟩, fun h => absurd h (by decide)⟩
theorem tyOk42 : TyOk Try.prog 42 ty42 := ⟨by kernel_rfl, ⟨Try.t42, by kernel_rfl, by kernel_rfl, by kernel_rfl, _, rfl, by kernel_rfl⟩, ⟨by kernel_rfl, by kernel_rfl⟩, fun _ => ⟨Try.stoodInHeld42, Try.eqGuardType42⟩⟩
theorem tyOk43 : TyOk Try.prog 43 ty43 := ⟨by kernel_rfl, ⟨Try.t43, by kernel_rfl, by kernel_rfl, by kernel_rfl, _, rfl, by kernel_rfl⟩, ⟨by kernel_rfl, by kernel_rfl⟩, fun _ => ⟨Try.stoodInHeld43, Try.eqGuardType43⟩⟩
theorem tyOk44 : TyOk Try.prog 44 ty44 := ⟨by kernel_rfl, ⟨Try.t44, by kernel_rfl, by kernel_rfl, by kernel_rfl, _, rfl, by kernel_rfl⟩, ⟨by kernel_rfl, by kernel_rfl⟩, fun h => absurd h (by decide)⟩
theorem tyOk45 : TyOk Try.prog 45 ty45 := ⟨by kernel_rfl, ⟨Try.t45, by kernel_rfl, by kernel_rfl, by kernel_rfl, _, rfl, by kernel_rfl⟩, ⟨by kernel_rfl, by kernel_rfl⟩, fun h => absurd h (by decide)⟩
theorem tyOk46 : TyOk Try.prog 46 ty46 := ⟨by kernel_rfl, ⟨Try.t46, by kernel_rfl, by kernel_rfl, by kernel_rfl, _, rfl, by kernel_rfl⟩, ⟨by kernel_rfl, by kernel_rfl⟩, fun h => absurd h (by decide)⟩
theorem tyOk47 : TyOk Try.prog 47 ty47 := ⟨by kernel_rfl, ⟨Try.t47, by kernel_rfl, by kernel_rfl, by kernel_rfl, _, rfl, by kernel_rfl⟩, ⟨by kernel_rfl, by kernel_rfl⟩, fun h => absurd h (by decide)⟩
theorem tyOk48 : TyOk Try.prog 48 ty48 := ⟨by kernel_rfl, ⟨Try.t48, by kernel_rfl, by kernel_rfl, by kernel_rfl, _, rfl, by kernel_rfl⟩, ⟨by kernel_rfl, by kernel_rfl⟩, fun _ => ⟨Try.stoodInHeld48, Try.eqGuardType48⟩⟩
theorem tyOk49 : TyOk Try.prog 49 ty49 := ⟨by kernel_rfl, ⟨Try.t49, by kernel_rfl, by kernel_rfl, by kernel_rfl, _, rfl, by kernel_rfl⟩, ⟨by kernel_rfl, by kernel_rfl⟩, fun _ => ⟨Try.stoodInHeld49, Try.eqGuardType49⟩⟩
theorem tyOk50 : TyOk Try.prog 50 ty50 := ⟨by kernel_rfl, ⟨Try.t50, by kernel_rfl, by kernel_rfl, by kernel_rfl, _, rfl, by kernel_rfl⟩, ⟨by kernel_rfl, by kernel_rfl⟩, fun h => absurd h (by decide)⟩
theorem tyOk51 : TyOk Try.prog 51 ty51 := ⟨by kernel_rfl, ⟨Try.t51, by kernel_rfl, by kernel_rfl, by kernel_rfl, _, rfl, by kernel_rfl⟩, ⟨by kernel_rfl, by kernel_rfl⟩, fun h => absurd h (by decide)⟩
theorem tyOk52 : TyOk Try.prog 52 ty52 := ⟨by kernel_rfl, ⟨Try.t52, by kernel_rfl, by kernel_rfl, by kernel_rfl, _, rfl, by kernel_rfl⟩, ⟨by kernel_rfl, by kernel_rfl⟩, fun h => absurd h (by decide)⟩
theorem tyOk54 : TyOk Try.prog 54 ty54 := ⟨by kernel_rfl, ⟨Try.t54, by kernel_rfl, by kernel_rfl, by kernel_rfl, _, rfl, by kernel_rfl⟩, ⟨by kernel_rfl, by kernel_rfl⟩, fun h => absurd h (by decide)⟩
theorem tyOk56 : TyOk Try.prog 56 ty56 := ⟨by kernel_rfl, ⟨Try.t56, by kernel_rfl, by kernel_rfl, by kernel_rfl, _, rfl, by kernel_rfl⟩, ⟨by kernel_rfl, by kernel_rfl⟩, fun h => absurd h (by decide)⟩
theorem tyOk57 : TyOk Try.prog 57 ty57 := ⟨by kernel_rfl, ⟨Try.t57, by kernel_rfl, by kernel_rfl, by kernel_rfl, _, rfl, by kernel_rfl⟩, ⟨by kernel_rfl, by kernel_rfl⟩, fun h => absurd h (by decide)⟩
theorem tyOk58 : TyOk Try.prog 58 ty58 := ⟨by kernel_rfl, ⟨Try.t58, by kernel_rfl, by kernel_rfl, by kernel_rfl, _, rfl, by kernel_rfl⟩, ⟨by kernel_rfl, by kernel_rfl⟩, fun h => absurd h (by decide)⟩
theorem tyOk59 : TyOk Try.prog 59 ty59 := ⟨by kernel_rfl, ⟨Try.t59, by kernel_rfl, by kernel_rfl, by kernel_rfl, _, rfl, by kernel_rfl⟩, ⟨by kernel_rfl, by kernel_rfl⟩, fun h => absurd h (by decide)⟩
theorem tyOk60 : TyOk Try.prog 60 ty60 := ⟨by kernel_rfl, ⟨Try.t60, by kernel_rfl, by kernel_rfl, by kernel_rfl, _, rfl, by kernel_rfl⟩, ⟨by kernel_rfl, by kernel_rfl⟩, fun h => absurd h (by decide)⟩
theorem tyOk61 : TyOk Try.prog 61 ty61 := ⟨by kernel_rfl, ⟨Try.t61, by kernel_rfl, by kernel_rfl, by kernel_rfl, _, rfl, by kernel_rfl⟩, ⟨by kernel_rfl, by kernel_rfl⟩, fun h => absurd h (by decide)⟩
theorem tyOk62 : TyOk Try.prog 62 ty62 := ⟨by kernel_rfl, ⟨Try.t62, by kernel_rfl, by kernel_rfl, by kernel_rfl, _, rfl, by kernel_rfl⟩, ⟨by kernel_rfl, by kernel_rfl⟩, fun _ => ⟨Try.stoodInHeld62, Try.eqGuardType62⟩⟩
theorem tyOk63 : TyOk Try.prog 63 ty63 := ⟨by kernel_rfl, ⟨Try.t63, by kernel_rfl, by kernel_rfl, by kernel_rfl, _, rfl, by kernel_rfl⟩, ⟨by kernel_rfl, by kernel_rfl⟩, fun _ => ⟨Try.stoodInHeld63, Try.eqGuardType63⟩⟩
theorem tyOk64 : TyOk Try.prog 64 ty64 := ⟨by kernel_rfl, ⟨Try.t64, by kernel_rfl, by kernel_rfl, by kernel_rfl, _, rfl, by kernel_rfl⟩, ⟨by kernel_rfl, by kernel_rfl⟩, fun h => absurd h (by decide)⟩
theorem tyOk65 : TyOk Try.prog 65 ty65 := ⟨by kernel_rfl, ⟨Try.t65, by kernel_rfl, by kernel_rfl, by kernel_rfl, _, rfl, by kernel_rfl⟩, ⟨by kernel_rfl, by kernel_rfl⟩, fun h => absurd h (by decide)⟩
theorem tyOk66 : TyOk Try.prog 66 ty66 := ⟨by kernel_rfl, ⟨Try.t66, by kernel_rfl, by kernel_rfl, by kernel_rfl, _, rfl, by kernel_rfl⟩, ⟨by kernel_rfl, by kernel_rfl⟩, fun h => absurd h (by decide)⟩
theorem tyOk68 : TyOk Try.prog 68 ty68 := ⟨by kernel_rfl, ⟨Try.t68, by kernel_rfl, by kernel_rfl, by kernel_rfl, _, rfl, by kernel_rfl⟩, ⟨by kernel_rfl, by kernel_rfl⟩, fun h => absurd h (by decide)⟩
theorem tyOk69 : TyOk Try.prog 69 ty69 := ⟨by kernel_rfl, ⟨Try.t69, by kernel_rfl, by kernel_rfl, by kernel_rfl, _, rfl, by kernel_rfl⟩, ⟨by kernel_rfl, by kernel_rfl⟩, fun h => absurd h (by decide)⟩
theorem tyOk71 : TyOk Try.prog 71 ty71 := ⟨by kernel_rfl, ⟨Try.t71, by kernel_rfl, by kernel_rfl, by kernel_rfl, _, rfl, by kernel_rfl⟩, ⟨by kernel_rfl, by kernel_rfl⟩, fun h => absurd h (by decide)⟩
theorem tyOk72 : TyOk Try.prog 72 ty72 := ⟨by kernel_rfl, ⟨Try.t72, by kernel_rfl, by kernel_rfl, by kernel_rfl, _, rfl, by kernel_rfl⟩, ⟨by kernel_rfl, by kernel_rfl⟩, fun h => absurd h (by decide)⟩
theorem tyOk73 : TyOk Try.prog 73 ty73 := ⟨by kernel_rfl, ⟨Try.t73, by kernel_rfl, by kernel_rfl, by kernel_rfl, _, rfl, by kernel_rfl⟩, ⟨by kernel_rfl, by kernel_rfl⟩, fun h => absurd h (by decide)⟩
theorem tyOk74 : TyOk Try.prog 74 ty74 := ⟨by kernel_rfl, ⟨Try.t74, by kernel_rfl, by kernel_rfl, by kernel_rfl, _, rfl, by kernel_rfl⟩, ⟨by kernel_rfl, by kernel_rfl⟩, fun h => absurd h (by decide)⟩
theorem tyOk75 : TyOk Try.prog 75 ty75 := ⟨by kernel_rfl, ⟨Try.t75, by kernel_rfl, by kernel_rfl, by kernel_rfl, _, rfl, by kernel_rfl⟩, ⟨by kernel_rfl, by kernel_rfl⟩, fun h => absurd h (by decide)⟩
theorem tyOk77 : TyOk Try.prog 77 ty77 := ⟨by kernel_rfl, ⟨Try.t77, by kernel_rfl, by kernel_rfl, by kernel_rfl, _, rfl, by kernel_rfl⟩, ⟨by kernel_rfl, by kernel_rfl⟩, fun h => absurd h (by decide)⟩
theorem tyOk79 : TyOk Try.prog 79 ty79 := ⟨by kernel_rfl, ⟨Try.t79, by kernel_rfl, by kernel_rfl, by kernel_rfl, _, rfl, by kernel_rfl⟩, ⟨by kernel_rfl, by kernel_rfl⟩, fun h => absurd h (by decide)⟩
theorem tyOk80 : TyOk Try.prog 80 ty80 := ⟨by kernel_rfl, ⟨Try.t80, by kernel_rfl, by kernel_rfl, by kernel_rfl, _, rfl, by kernel_rfl⟩, ⟨by kernel_rfl, by kernel_rfl⟩, fun h => absurd h (by decide)⟩
theorem tyOk81 : TyOk Try.prog 81 ty81 := ⟨by kernel_rfl, ⟨Try.t81, by kernel_rfl, by kernel_rfl, by kernel_rfl, _, rfl, by kernel_rfl⟩, ⟨by kernel_rfl, by kernel_rfl⟩, fun h => absurd h (by decide)⟩
theorem tyOk82 : TyOk Try.prog 82 ty82 := ⟨by kernel_rfl, ⟨Try.t82, by kernel_rfl, by kernel_rfl, by kernel_rfl, _, rfl, by kernel_rfl⟩, ⟨by kernel_rfl, by kernel_rfl⟩, fun h => absurd h (by decide)⟩
theorem tyOk83 : TyOk Try.prog 83 ty83 := ⟨by kernel_rfl, ⟨Try.t83, by kernel_rfl, by kernel_rfl, by kernel_rfl, _, rfl, by kernel_rfl⟩, ⟨by kernel_rfl, by kernel_rfl⟩, fun h => absurd h (by decide)⟩
theorem tyOk84 : TyOk Try.prog 84 ty84 := ⟨by kernel_rfl, ⟨Try.t84, by kernel_rfl, by kernel_rfl, by kernel_rfl, _, rfl, by kernel_rfl⟩, ⟨by kernel_rfl, by kernel_rfl⟩, fun h => absurd h (by decide)⟩
theorem tyOk85 : TyOk Try.prog 85 ty85 := ⟨by kernel_rfl, ⟨Try.t85, by kernel_rfl, by kernel_rfl, by kernel_rfl, _, rfl, by kernel_rfl⟩, ⟨by kernel_rfl, by kernel_rfl⟩, fun h => absurd h (by decide)⟩
theorem tyOk86 : TyOk Try.prog 86 ty86 := ⟨by kernel_rfl, ⟨Try.t86, by kernel_rfl, by kernel_rfl, by kernel_rfl, _, rfl, by kernel_rfl⟩, ⟨by kernel_rfl, by kernel_rfl⟩, fun h => absurd h (by decide)⟩
theorem tyOk87 : TyOk Try.prog 87 ty87 := ⟨by kernel_rfl, ⟨Try.t87, by kernel_rfl, by kernel_rfl, by kernel_rfl, _, rfl, by kernel_rfl⟩, ⟨by kernel_rfl, by kernel_rfl⟩, fun h => absurd h (by decide)⟩
theorem tyOk88 : TyOk Try.prog 88 ty88 := ⟨by kernel_rfl, ⟨Try.t88, by kernel_rfl, by kernel_rfl, by kernel_rfl, _, rfl, by kernel_rfl⟩, ⟨by kernel_rfl, by kernel_rfl⟩, fun h => absurd h (by decide)⟩
theorem tyOk89 : TyOk Try.prog 89 ty89 := ⟨by kernel_rfl, ⟨Try.t89, by kernel_rfl, by kernel_rfl, by kernel_rfl, _, rfl, by kernel_rfl⟩, ⟨by kernel_rfl, by kernel_rfl⟩, fun h => absurd h (by decide)⟩
theorem tyOk90 : TyOk Try.prog 90 ty90 := ⟨by kernel_rfl, ⟨Try.t90, by kernel_rfl, by kernel_rfl, by kernel_rfl, _, rfl, by kernel_rfl⟩, ⟨by kernel_rfl, by kernel_rfl⟩, fun h => absurd h (by decide)⟩
theorem tyOk91 : TyOk Try.prog 91 ty91 := ⟨by kernel_rfl, ⟨Try.t91, by kernel_rfl, by kernel_rfl, by kernel_rfl, _, rfl, by kernel_rfl⟩, ⟨by kernel_rfl, by kernel_rfl⟩, fun h => absurd h (by decide)⟩
theorem tyOk92 : TyOk Try.prog 92 ty92 := ⟨by kernel_rfl, ⟨Try.t92, by kernel_rfl, by kernel_rfl, by kernel_rfl, _, rfl, by kernel_rfl⟩, ⟨by kernel_rfl, by kernel_rfl⟩, fun h => absurd h (by decide)⟩
theorem tyOk93 : TyOk Try.prog 93 ty93 := ⟨by kernel_rfl, ⟨Try.t93, by kernel_rfl, by kernel_rfl, by kernel_rfl, _, rfl, by kernel_rfl⟩, ⟨by kernel_rfl, by kernel_rfl⟩, fun h => absurd h (by decide)⟩
theorem tyOk94 : TyOk Try.prog 94 ty94 := ⟨by kernel_rfl, ⟨Try.t94, by kernel_rfl, by kernel_rfl, by kernel_rfl, _, rfl, by kernel_rfl⟩, ⟨by kernel_rfl, by kernel_rfl⟩, fun h => absurd h (by decide)⟩
theorem tyOk95 : TyOk Try.prog 95 ty95 := ⟨by kernel_rfl, ⟨Try.t95, by kernel_rfl, by kernel_rfl, by kernel_rfl, _, rfl, by kernel_rfl⟩, ⟨by kernel_rfl, by kernel_rfl⟩, fun h => absurd h (by decide)⟩
theorem tyOk96 : TyOk Try.prog 96 ty96 := ⟨by kernel_rfl, ⟨Try.t96, by kernel_rfl, by kernel_rfl, by kernel_rfl, _, rfl, by kernel_rfl⟩, ⟨by kernel_rfl, by kernel_rfl⟩, fun h => absurd h (by decide)⟩
theorem tyOk97 : TyOk Try.prog 97 ty97 := ⟨by kernel_rfl, ⟨Try.t97, by kernel_rfl, by kernel_rfl, by kernel_rfl, _, rfl, by kernel_rfl⟩, ⟨by kernel_rfl, by kernel_rfl⟩, fun h => absurd h (by decide)⟩
theorem tyOk98 : TyOk Try.prog 98 ty98 := ⟨by kernel_rfl, ⟨Try.t98, by kernel_rfl, by kernel_rfl, by kernel_rfl, _, rfl, by kernel_rfl⟩, ⟨by kernel_rfl, by kernel_rfl⟩, fun h => absurd h (by decide)⟩
theorem tyOk99 : TyOk Try.prog 99 ty99 := ⟨by kernel_rfl, ⟨Try.t99, by kernel_rfl, by kernel_rfl, by kernel_rfl, _, rfl, by kernel_rfl⟩, ⟨by kernel_rfl, by kernel_rfl⟩, fun h => absurd h (by decide)⟩
theorem tyOk100 : TyOk Try.prog 100 ty100 := ⟨by kernel_rfl, ⟨Try.t100, by kernel_rfl, by kernel_rfl, by kernel_rfl, _, rfl, by kernel_rfl⟩, ⟨by kernel_rfl, by kernel_rfl⟩, fun _ => ⟨Try.stoodInHeld100, Try.eqGuardType100⟩⟩
theorem tyOk101 : TyOk Try.prog 101 ty101 := ⟨by kernel_rfl, ⟨Try.t101, by kernel_rfl, by kernel_rfl, by kernel_rfl, _, rfl, by kernel_rfl⟩, ⟨by kernel_rfl, by kernel_rfl⟩, fun _ => ⟨Try.stoodInHeld101, Try.eqGuardType101⟩⟩
theorem tyOk102 : TyOk Try.prog 102 ty102 := ⟨by kernel_rfl, ⟨Try.t102, by kernel_rfl, by kernel_rfl, by kernel_rfl, _, rfl, by kernel_rfl⟩, ⟨by kernel_rfl, by kernel_rfl⟩, fun h => absurd h (by decide)⟩
theorem tyOk103 : TyOk Try.prog 103 ty103 := ⟨by kernel_rfl, ⟨Try.t103, by kernel_rfl, by kernel_rfl, by kernel_rfl, _, rfl, by kernel_rfl⟩, ⟨by kernel_rfl, by kernel_rfl⟩, fun _ => ⟨Try.stoodInHeld103, Try.eqGuardType103⟩⟩
theorem tyOk104 : TyOk Try.prog 104 ty104 := ⟨by kernel_rfl, ⟨Try.t104, by kernel_rfl, by kernel_rfl, by kernel_rfl, _, rfl, by kernel_rfl⟩, ⟨by kernel_rfl, by kernel_rfl⟩, fun _ => ⟨Try.stoodInHeld104, Try.eqGuardType104⟩⟩
theorem tyOk105 : TyOk Try.prog 105 ty105 := ⟨by kernel_rfl, ⟨Try.t105, by kernel_rfl, by kernel_rfl, by kernel_rfl, _, rfl, by kernel_rfl⟩, ⟨by kernel_rfl, by kernel_rfl⟩, fun h => absurd h (by decide)⟩
theorem tyOk106 : TyOk Try.prog 106 ty106 := ⟨by kernel_rfl, ⟨Try.t106, by kernel_rfl, by kernel_rfl, by kernel_rfl, _, rfl, by kernel_rfl⟩, ⟨by kernel_rfl, by kernel_rfl⟩, fun h => absurd h (by decide)⟩
theorem tyOk107 : TyOk Try.prog 107 ty107 := ⟨by kernel_rfl, ⟨Try.t107, by kernel_rfl, by kernel_rfl, by kernel_rfl, _, rfl, by kernel_rfl⟩, ⟨by kernel_rfl, by kernel_rfl⟩, fun h => absurd h (by decide)⟩
theorem tyOk109 : TyOk Try.prog 109 ty109 := ⟨by kernel_rfl, ⟨Try.t109, by kernel_rfl, by kernel_rfl, by kernel_rfl, _, rfl, by kernel_rfl⟩, ⟨by kernel_rfl, by kernel_rfl⟩, fun h => absurd h (by decide)⟩
theorem tyOk111 : TyOk Try.prog 111 ty111 := ⟨by kernel_rfl, ⟨Try.t111, by kernel_rfl, by kernel_rfl, by kernel_rfl, _, rfl, by kernel_rfl⟩, ⟨by kernel_rfl, by kernel_rfl⟩, fun h => absurd h (by decide)⟩
theorem tyOk112 : TyOk Try.prog 112 ty112 := ⟨by kernel_rfl, ⟨Try.t112, by kernel_rfl, by kernel_rfl, by kernel_rfl, _, rfl, by kernel_rfl⟩, ⟨by kernel_rfl, by kernel_rfl⟩, fun h => absurd h (by decide)⟩
theorem tyOk114 : TyOk Try.prog 114 ty114 := ⟨by kernel_rfl, ⟨Try.t114, by kernel_rfl, by kernel_rfl, by kernel_rfl, _, rfl, by kernel_rfl⟩, ⟨by kernel_rfl, by kernel_rfl⟩, fun h => absurd h (by decide)⟩
theorem tyOk115 : TyOk Try.prog 115 ty115 := ⟨by kernel_rfl, ⟨Try.t115, by kernel_rfl, by kernel_rfl, by kernel_rfl, _, rfl, by kernel_rfl⟩, ⟨by kernel_rfl, by kernel_rfl⟩, fun h => absurd h (by decide)⟩
theorem tyOk116 : TyOk Try.prog 116 ty116 := ⟨by kernel_rfl, ⟨Try.t116, by kernel_rfl, by kernel_rfl, by kernel_rfl, _, rfl, by kernel_rfl⟩, ⟨by kernel_rfl, by kernel_rfl⟩, fun h => absurd h (by decide)⟩
theorem tyOk117 : TyOk Try.prog 117 ty117 := ⟨by kernel_rfl, ⟨Try.t117, by kernel_rfl, by kernel_rfl, by kernel_rfl, _, rfl, by kernel_rfl⟩, ⟨by kernel_rfl, by kernel_rfl⟩, fun h => absurd h (by decide)⟩
theorem tyOk118 : TyOk Try.prog 118 ty118 := ⟨by kernel_rfl, ⟨Try.t118, by kernel_rfl, by kernel_rfl, by kernel_rfl, _, rfl, by kernel_rfl⟩, ⟨by kernel_rfl, by kernel_rfl⟩, fun h => absurd h (by decide)⟩
theorem tyOk119 : TyOk Try.prog 119 ty119 := ⟨by kernel_rfl, ⟨Try.t119, by kernel_rfl, by kernel_rfl, by kernel_rfl, _, rfl, by kernel_rfl⟩, ⟨by kernel_rfl, by kernel_rfl⟩, fun _ => ⟨Try.stoodInHeld119, Try.eqGuardType119⟩⟩
theorem tyOk120 : TyOk Try.prog 120 ty120 := ⟨by kernel_rfl, ⟨Try.t120, by kernel_rfl, by kernel_rfl, by kernel_rfl, _, rfl, by kernel_rfl⟩, ⟨by kernel_rfl, by kernel_rfl⟩, fun _ => ⟨Try.stoodInHeld120, Try.eqGuardType120⟩⟩
theorem tyOk121 : TyOk Try.prog 121 ty121 := ⟨by kernel_rfl, ⟨Try.t121, by kernel_rfl, by kernel_rfl, by kernel_rfl, _, rfl, by kernel_rfl⟩, ⟨by kernel_rfl, by kernel_rfl⟩, fun h => absurd h (by decide)⟩
theorem tyOk122 : TyOk Try.prog 122 ty122 := ⟨by kernel_rfl, ⟨Try.t122, by kernel_rfl, by kernel_rfl, by kernel_rfl, _, rfl, by kernel_rfl⟩, ⟨by kernel_rfl, by kernel_rfl⟩, fun h => absurd h (by decide)⟩
theorem tyOk123 : TyOk Try.prog 123 ty123 := ⟨by kernel_rfl, ⟨Try.t123, by kernel_rfl, by kernel_rfl, by kernel_rfl, _, rfl, by kernel_rfl⟩, ⟨by kernel_rfl, by kernel_rfl⟩, fun h => absurd h (by decide)⟩
theorem tyOk125 : TyOk Try.prog 125 ty125 := ⟨by kernel_rfl, ⟨Try.t125, by kernel_rfl, by kernel_rfl, by kernel_rfl, _, rfl, by kernel_rfl⟩, ⟨by kernel_rfl, by kernel_rfl⟩, fun h => absurd h (by decide)⟩
theorem tyOk126 : TyOk Try.prog 126 ty126 := ⟨by kernel_rfl, ⟨Try.t126, by kernel_rfl, by kernel_rfl, by kernel_rfl, _, rfl, by kernel_rfl⟩, ⟨by kernel_rfl, by kernel_rfl⟩, fun h => absurd h (by decide)⟩
theorem tyOk127 : TyOk Try.prog 127 ty127 := ⟨by kernel_rfl, ⟨Try.t127, by kernel_rfl, by kernel_rfl, by kernel_rfl, _, rfl, by kernel_rfl⟩, ⟨by kernel_rfl, by kernel_rfl⟩, fun h => absurd h (by decide)⟩
theorem tyOk128 : TyOk Try.prog 128 ty128 := ⟨by kernel_rfl, ⟨Try.t128, by kernel_rfl, by kernel_rfl, by kernel_rfl, _, rfl, by kernel_rfl⟩, ⟨by kernel_rfl, by kernel_rfl⟩, fun h => absurd h (by decide)⟩
theorem tyOk129 : TyOk Try.prog 129 ty129 := ⟨by kernel_rfl, ⟨Try.t129, by kernel_rfl, by kernel_rfl, by kernel_rfl, _, rfl, by kernel_rfl⟩, ⟨by kernel_rfl, by kernel_rfl⟩, fun _ => ⟨Try.stoodInHeld129, Try.eqGuardType129⟩⟩
theorem tyOk130 : TyOk Try.prog 130 ty130 := ⟨by kernel_rfl, ⟨Try.t130, by kernel_rfl, by kernel_rfl, by kernel_rfl, _, rfl, by kernel_rfl⟩, ⟨by kernel_rfl, by kernel_rfl⟩, fun _ => ⟨Try.stoodInHeld130, Try.eqGuardType130⟩⟩
theorem tyOk131 : TyOk Try.prog 131 ty131 := ⟨by kernel_rfl, ⟨Try.t131, by kernel_rfl, by kernel_rfl, by kernel_rfl, _, rfl, by kernel_rfl⟩, ⟨by kernel_rfl, by kernel_rfl⟩, fun h => absurd h (by decide)⟩
theorem tyOk132 : TyOk Try.prog 132 ty132 := ⟨by kernel_rfl, ⟨Try.t132, by kernel_rfl, by kernel_rfl, by kernel_rfl, _, rfl, by kernel_rfl⟩, ⟨by kernel_rfl, by kernel_rfl⟩, fun h => absurd h (by decide)⟩
theorem tyOk133 : TyOk Try.prog 133 ty133 := ⟨by kernel_rfl, ⟨Try.t133, by kernel_rfl, by kernel_rfl, by kernel_rfl, _, rfl, by kernel_rfl⟩, ⟨by kernel_rfl, by kernel_rfl⟩, fun h => absurd h (by decide)⟩
theorem tyOk134 : TyOk Try.prog 134 ty134 := ⟨by kernel_rfl, ⟨Try.t134, by kernel_rfl, by kernel_rfl, by kernel_rfl, _, rfl, by kernel_rfl⟩, ⟨by kernel_rfl, by kernel_rfl⟩, fun h => absurd h (by decide)⟩
theorem tyOk135 : TyOk Try.prog 135 ty135 := ⟨by kernel_rfl, ⟨Try.t135, by kernel_rfl, by kernel_rfl, by kernel_rfl, _, rfl, by kernel_rfl⟩, ⟨by kernel_rfl, by kernel_rfl⟩, fun h => absurd h (by decide)⟩
theorem tyOk136 : TyOk Try.prog 136 ty136 := ⟨by kernel_rfl, ⟨Try.t136, by kernel_rfl, by kernel_rfl, by kernel_rfl, _, rfl, by kernel_rfl⟩, ⟨by kernel_rfl, by kernel_rfl⟩, fun h => absurd h (by decide)⟩
theorem tyOk137 : TyOk Try.prog 137 ty137 := ⟨by kernel_rfl, ⟨Try.t137, by kernel_rfl, by kernel_rfl, by kernel_rfl, _, rfl, by kernel_rfl⟩, ⟨by kernel_rfl, by kernel_rfl⟩, fun h => absurd h (by decide)⟩
theorem tyOk138 : TyOk Try.prog 138 ty138 := ⟨by kernel_rfl, ⟨Try.t138, by kernel_rfl, by kernel_rfl, by kernel_rfl, _, rfl, by kernel_rfl⟩, ⟨by kernel_rfl, by kernel_rfl⟩, fun h => absurd h (by decide)⟩
theorem tyOk139 : TyOk Try.prog 139 ty139 := ⟨by kernel_rfl, ⟨Try.t139, by kernel_rfl, by kernel_rfl, by kernel_rfl, _, rfl, by kernel_rfl⟩, ⟨by kernel_rfl, by kernel_rfl⟩, fun h => absurd h (by decide)⟩
theorem tyOk141 : TyOk Try.prog 141 ty141 := ⟨by kernel_rfl, ⟨Try.t141, by kernel_rfl, by kernel_rfl, by kernel_rfl, _, rfl, by kernel_rfl⟩, ⟨by kernel_rfl, by kernel_rfl⟩, fun h => absurd h (by decide)⟩
theorem tyOk142 : TyOk Try.prog 142 ty142 := ⟨by kernel_rfl, ⟨Try.t142, by kernel_rfl, by kernel_rfl, by kernel_rfl, _, rfl, by kernel_rfl⟩, ⟨by kernel_rfl, by kernel_rfl⟩, fun h => absurd h (by decide)⟩
theorem tyOk143 : TyOk Try.prog 143 ty143 := ⟨by kernel_rfl, ⟨Try.t143, by kernel_rfl, by kernel_rfl, by kernel_rfl, _, rfl, by kernel_rfl⟩, ⟨by kernel_rfl, by kernel_rfl⟩, fun h => absurd h (by decide)⟩
theorem tyOk144 : TyOk Try.prog 144 ty144 := ⟨by kernel_rfl, ⟨Try.t144, by kernel_rfl, by kernel_rfl, by kernel_rfl, _, rfl, by kernel_rfl⟩, ⟨by kernel_rfl, by kernel_rfl⟩, fun h => absurd h (by decide)⟩
theorem tyOk145 : TyOk Try.prog 145 ty145 := ⟨by kernel_rfl, ⟨Try.t145, by kernel_rfl, by kernel_rfl, by kernel_rfl, _, rfl, by kernel_rfl⟩, ⟨by kernel_rfl, by kernel_rfl⟩, fun h => absurd h (by decide)⟩
theorem tyOk146 : TyOk Try.prog 146 ty146 := ⟨by kernel_rfl, ⟨Try.t146, by kernel_rfl, by kernel_rfl, by kernel_rfl, _, rfl, by kernel_rfl⟩, ⟨by kernel_rfl, by kernel_rfl⟩, fun h => absurd h (by decide)⟩
theorem tyOk147 : TyOk Try.prog 147 ty147 := ⟨by kernel_rfl, ⟨Try.t147, by kernel_rfl, by kernel_rfl, by kernel_rfl, _, rfl, by kernel_rfl⟩, ⟨by kernel_rfl, by kernel_rfl⟩, fun h => absurd h (by decide)⟩
theorem tyOk148 : TyOk Try.prog 148 ty148 := ⟨by kernel_rfl, ⟨Try.t148, by kernel_rfl, by kernel_rfl, by kernel_rfl, _, rfl, by kernel_rfl⟩, ⟨by kernel_rfl, by kernel_rfl⟩, fun h => absurd h (by decide)⟩
theorem tyOk149 : TyOk Try.prog 149 ty149 := ⟨by kernel_rfl, ⟨Try.t149, by kernel_rfl, by kernel_rfl, by kernel_rfl, _, rfl, by kernel_rfl⟩, ⟨by kernel_rfl, by kernel_rfl⟩, fun h => absurd h (by decide)⟩
theorem tyOk150 : TyOk Try.prog 150 ty150 := ⟨by kernel_rfl, ⟨Try.t150, by kernel_rfl, by kernel_rfl, by kernel_rfl, _, rfl, by kernel_rfl⟩, ⟨by kernel_rfl, by kernel_rfl⟩, fun h => absurd h (by decide)⟩
theorem tyOk151 : TyOk Try.prog 151 ty151 := ⟨by kernel_rfl, ⟨Try.t151, by kernel_rfl, by kernel_rfl, by kernel_rfl, _, rfl, by kernel_rfl⟩, ⟨by kernel_rfl, by kernel_rfl⟩, fun h => absurd h (by decide)⟩
theorem tyOk152 : TyOk Try.prog 152 ty152 := ⟨by kernel_rfl, ⟨Try.t152, by kernel_rfl, by kernel_rfl, by kernel_rfl, _, rfl, by kernel_rfl⟩, ⟨by kernel_rfl, by kernel_rfl⟩, fun h => absurd h (by decide)⟩
theorem tyOk153 : TyOk Try.prog 153 ty153 := ⟨by kernel_rfl, ⟨Try.t153, by kernel_rfl, by kernel_rfl, by kernel_rfl, _, rfl, by kernel_rfl⟩, ⟨by kernel_rfl, by kernel_rfl⟩, fun h => absurd h (by decide)⟩
theorem tyOk154 : TyOk Try.prog 154 ty154 := ⟨by kernel_rfl, ⟨Try.t154, by kernel_rfl, by kernel_rfl, by kernel_rfl, _, rfl, by kernel_rfl⟩, ⟨by kernel_rfl, by kernel_rfl⟩, fun _ => ⟨Try.stoodInHeld154, Try.eqGuardType154⟩⟩
theorem tyOk155 : TyOk Try.prog 155 ty155 := ⟨by kernel_rfl, ⟨Try.t155, by kernel_rfl, by kernel_rfl, by kernel_rfl, _, rfl, by kernel_rfl⟩, ⟨by kernel_rfl, by kernel_rfl⟩, fun _ => ⟨Try.stoodInHeld155, Try.eqGuardType155⟩⟩
theorem tyOk156 : TyOk Try.prog 156 ty156 := ⟨by kernel_rfl, ⟨Try.t156, by kernel_rfl, by kernel_rfl, by kernel_rfl, _, rfl, by kernel_rfl⟩, ⟨by kernel_rfl, by kernel_rfl⟩, fun h => absurd h (by decide)⟩
theorem tyOk157 : TyOk Try.prog 157 ty157 := ⟨by kernel_rfl, ⟨Try.t157, by kernel_rfl, by kernel_rfl, by kernel_rfl, _, rfl, by kernel_rfl⟩, ⟨by kernel_rfl, by kernel_rfl⟩, fun h => absurd h (by decide)⟩
theorem tyOk158 : TyOk Try.prog 158 ty158 := ⟨by kernel_rfl, ⟨Try.t158, by kernel_rfl, by kernel_rfl, by kernel_rfl, _, rfl, by kernel_rfl⟩, ⟨by kernel_rfl, by kernel_rfl⟩, fun h => absurd h (by decide)⟩
theorem tyOk160 : TyOk Try.prog 160 ty160 := ⟨by kernel_rfl, ⟨Try.t160, by kernel_rfl, by kernel_rfl, by kernel_rfl, _, rfl, by kernel_rfl⟩, ⟨by kernel_rfl, by kernel_rfl⟩, fun h => absurd h (by decide)⟩
theorem tyOk161 : TyOk Try.prog 161 ty161 := ⟨by kernel_rfl, ⟨Try.t161, by kernel_rfl, by kernel_rfl, by kernel_rfl, _, rfl, by kernel_rfl⟩, ⟨by kernel_rfl, by kernel_rfl⟩, fun h => absurd h (by decide)⟩
theorem tyOk162 : TyOk Try.prog 162 ty162 := ⟨by kernel_rfl, ⟨Try.t162, by kernel_rfl, by kernel_rfl, by kernel_rfl, _, rfl, by kernel_rfl⟩, ⟨by kernel_rfl, by kernel_rfl⟩, fun h => absurd h (by decide)⟩
theorem tyOk163 : TyOk Try.prog 163 ty163 := ⟨by kernel_rfl, ⟨Try.t163, by kernel_rfl, by kernel_rfl, by kernel_rfl, _, rfl, by kernel_rfl⟩, ⟨by kernel_rfl, by kernel_rfl⟩, fun h => absurd h (by decide)⟩
theorem tyOk164 : TyOk Try.prog 164 ty164 := ⟨by kernel_rfl, ⟨Try.t164, by kernel_rfl, by kernel_rfl, by kernel_rfl, _, rfl, by kernel_rfl⟩, ⟨by kernel_rfl, by kernel_rfl⟩, fun h => absurd h (by decide)⟩
theorem tyOk166 : TyOk Try.prog 166 ty166 := ⟨by kernel_rfl, ⟨Try.t166, by kernel_rfl, by kernel_rfl, by kernel_rfl, _, rfl, by kernel_rfl⟩, ⟨by kernel_rfl, by kernel_rfl⟩, fun h => absurd h (by decide)⟩
theorem tyOk167 : TyOk Try.prog 167 ty167 := ⟨by kernel_rfl, ⟨Try.t167, by kernel_rfl, by kernel_rfl, by kernel_rfl, _, rfl, by kernel_rfl⟩, ⟨by kernel_rfl, by kernel_rfl⟩, fun h => absurd h (by decide)⟩
theorem tyOk168 : TyOk Try.prog 168 ty168 := ⟨by kernel_rfl, ⟨Try.t168, by kernel_rfl, by kernel_rfl, by kernel_rfl, _, rfl, by kernel_rfl⟩, ⟨by kernel_rfl, by kernel_rfl⟩, fun h => absurd h (by decide)⟩
theorem tyOk169 : TyOk Try.prog 169 ty169 := ⟨by kernel_rfl, ⟨Try.t169, by kernel_rfl, by kernel_rfl, by kernel_rfl, _, rfl, by kernel_rfl⟩, ⟨by kernel_rfl, by kernel_rfl⟩, fun h => absurd h (by decide)⟩
theorem tyOk170 : TyOk Try.prog 170 ty170 := ⟨by kernel_rfl, ⟨Try.t170, by kernel_rfl, by kernel_rfl, by kernel_rfl, _, rfl, by kernel_rfl⟩, ⟨by kernel_rfl, by kernel_rfl⟩, fun h => absurd h (by decide)⟩
theorem tyOk171 : TyOk Try.prog 171 ty171 := ⟨by kernel_rfl, ⟨Try.t171, by kernel_rfl, by kernel_rfl, by kernel_rfl, _, rfl, by kernel_rfl⟩, ⟨by kernel_rfl, by kernel_rfl⟩, fun h => absurd h (by decide)⟩
theorem tyOk172 : TyOk Try.prog 172 ty172 := ⟨by kernel_rfl, ⟨Try.t172, by kernel_rfl, by kernel_rfl, by kernel_rfl, _, rfl, by kernel_rfl⟩, ⟨by kernel_rfl, by kernel_rfl⟩, fun h => absurd h (by decide)⟩
theorem tyOk173 : TyOk Try.prog 173 ty173 := ⟨by kernel_rfl, ⟨Try.t173, by kernel_rfl, by kernel_rfl, by kernel_rfl, _, rfl, by kernel_rfl⟩, ⟨by kernel_rfl, by kernel_rfl⟩, fun h => absurd h (by decide)⟩
theorem tyOk174 : TyOk Try.prog 174 ty174 := ⟨by kernel_rfl, ⟨Try.t174, by kernel_rfl, by kernel_rfl, by kernel_rfl, _, rfl, by kernel_rfl⟩, ⟨by kernel_rfl, by kernel_rfl⟩, fun h => absurd h (by decide)⟩
theorem tyOk175 : TyOk Try.prog 175 ty175 := ⟨by kernel_rfl, ⟨Try.t175, by kernel_rfl, by kernel_rfl, by kernel_rfl, _, rfl, by kernel_rfl⟩, ⟨by kernel_rfl, by kernel_rfl⟩, fun h => absurd h (by decide)⟩
theorem tyOk176 : TyOk Try.prog 176 ty176 := ⟨by kernel_rfl, ⟨Try.t176, by kernel_rfl, by kernel_rfl, by kernel_rfl, _, rfl, by kernel_rfl⟩, ⟨by kernel_rfl, by kernel_rfl⟩, fun h => absurd h (by decide)⟩
theorem tyOk177 : TyOk Try.prog 177 ty177 := ⟨by kernel_rfl, ⟨Try.t177, by kernel_rfl, by kernel_rfl, by kernel_rfl, _, rfl, by kernel_rfl⟩, ⟨by kernel_rfl, by kernel_rfl⟩, fun h => absurd h (by decide)⟩
theorem tyOk178 : TyOk Try.prog 178 ty178 := ⟨by kernel_rfl, ⟨Try.t178, by kernel_rfl, by kernel_rfl, by kernel_rfl, _, rfl, by kernel_rfl⟩, ⟨by kernel_rfl, by kernel_rfl⟩, fun h => absurd h (by decide)⟩
theorem tyOk179 : TyOk Try.prog 179 ty179 := ⟨by kernel_rfl, ⟨Try.t179, by kernel_rfl, by kernel_rfl, by kernel_rfl, _, rfl, by kernel_rfl⟩, ⟨by kernel_rfl, by kernel_rfl⟩, fun h => absurd h (by decide)⟩
theorem tyOk180 : TyOk Try.prog 180 ty180 := ⟨by kernel_rfl, ⟨Try.t180, by kernel_rfl, by kernel_rfl, by kernel_rfl, _, rfl, by kernel_rfl⟩, ⟨by kernel_rfl, by kernel_rfl⟩, fun h => absurd h (by decide)⟩
theorem tyOk181 : TyOk Try.prog 181 ty181 := ⟨by kernel_rfl, ⟨Try.t181, by kernel_rfl, by kernel_rfl, by kernel_rfl, _, rfl, by kernel_rfl⟩, ⟨by kernel_rfl, by kernel_rfl⟩, fun h => absurd h (by decide)⟩
theorem tyOk182 : TyOk Try.prog 182 ty182 := ⟨by kernel_rfl, ⟨Try.t182, by kernel_rfl, by kernel_rfl, by kernel_rfl, _, rfl, by kernel_rfl⟩, ⟨by kernel_rfl, by kernel_rfl⟩, fun h => absurd h (by decide)⟩
theorem tyOk183 : TyOk Try.prog 183 ty183 := ⟨by kernel_rfl, ⟨Try.t183, by kernel_rfl, by kernel_rfl, by kernel_rfl, _, rfl, by kernel_rfl⟩, ⟨by kernel_rfl, by kernel_rfl⟩, fun h => absurd h (by decide)⟩
theorem tyOk184 : TyOk Try.prog 184 ty184 := ⟨by kernel_rfl, ⟨Try.t184, by kernel_rfl, by kernel_rfl, by kernel_rfl, _, rfl, by kernel_rfl⟩, ⟨by kernel_rfl, by kernel_rfl⟩, fun h => absurd h (by decide)⟩
theorem tyOk187 : TyOk Try.prog 187 ty187 := ⟨by kernel_rfl, ⟨Try.t187, by kernel_rfl, by kernel_rfl, by kernel_rfl, _, rfl, by kernel_rfl⟩, ⟨by kernel_rfl, by kernel_rfl⟩, fun h => absurd h (by decide)⟩
theorem tyOk190 : TyOk Try.prog 190 ty190 := ⟨by kernel_rfl, ⟨Try.t190, by kernel_rfl, by kernel_rfl, by kernel_rfl, _, rfl, by kernel_rfl⟩, ⟨by kernel_rfl, by kernel_rfl⟩, fun h => absurd h (by decide)⟩
theorem tyOk191 : TyOk Try.prog 191 ty191 := ⟨by kernel_rfl, ⟨Try.t191, by kernel_rfl, by kernel_rfl, by kernel_rfl, _, rfl, by kernel_rfl⟩, ⟨by kernel_rfl, by kernel_rfl⟩, fun h => absurd h (by decide)⟩
theorem tyOk192 : TyOk Try.prog 192 ty192 := ⟨by kernel_rfl, ⟨Try.t192, by kernel_rfl, by kernel_rfl, by kernel_rfl, _, rfl, by kernel_rfl⟩, ⟨by kernel_rfl, by kernel_rfl⟩, fun h => absurd h (by decide)⟩
theorem tyOk193 : TyOk Try.prog 193 ty193 := ⟨by kernel_rfl, ⟨Try.t193, by kernel_rfl, by kernel_rfl, by kernel_rfl, _, rfl, by kernel_rfl⟩, ⟨by kernel_rfl, by kernel_rfl⟩, fun h => absurd h (by decide)⟩
theorem tyOk194 : TyOk Try.prog 194 ty194 := ⟨by kernel_rfl, ⟨Try.t194, by kernel_rfl, by kernel_rfl, by kernel_rfl, _, rfl, by kernel_rfl⟩, ⟨by kernel_rfl, by kernel_rfl⟩, fun h => absurd h (by decide)⟩
theorem tyOk195 : TyOk Try.prog 195 ty195 := ⟨by kernel_rfl, ⟨Try.t195, by kernel_rfl, by kernel_rfl, by kernel_rfl, _, rfl, by kernel_rfl⟩, ⟨by kernel_rfl, by kernel_rfl⟩, fun h => absurd h (by decide)⟩
theorem tyOk196 : TyOk Try.prog 196 ty196 := ⟨by kernel_rfl, ⟨Try.t196, by kernel_rfl, by kernel_rfl, by kernel_rfl, _, rfl, by kernel_rfl⟩, ⟨by kernel_rfl, by kernel_rfl⟩, fun h => absurd h (by decide)⟩
theorem tabOk : TabOk Try.prog tab := ⟨⟨tyOk1, tyOk2, tyOk3, tyOk4, tyOk5, tyOk6, tyOk9, tyOk10, tyOk11, tyOk12, tyOk15, tyOk16, tyOk17, tyOk21, tyOk22, tyOk23, tyOk24, tyOk25, tyOk26, tyOk27, tyOk28, tyOk29, tyOk30, tyOk31, tyOk32, tyOk33, tyOk34, tyOk35, tyOk37, tyOk39, tyOk40, tyOk41, tyOk42, tyOk43, tyOk44, tyOk45, tyOk46, tyOk47, tyOk48, tyOk49, tyOk50, tyOk51, tyOk52, tyOk54, tyOk56, tyOk57, tyOk58, tyOk59, tyOk60, tyOk61, tyOk62, tyOk63, tyOk64, tyOk65, tyOk66, tyOk68, tyOk69, tyOk71, tyOk72, tyOk73, tyOk74, tyOk75, tyOk77, tyOk79, tyOk80, tyOk81, tyOk82, tyOk83, tyOk84, tyOk85, tyOk86, tyOk87, tyOk88, tyOk89, tyOk90, tyOk91, tyOk92, tyOk93, tyOk94, tyOk95, tyOk96, tyOk97, tyOk98, tyOk99, tyOk100, tyOk101, tyOk102, tyOk103, tyOk104, tyOk105, tyOk106, tyOk107, tyOk109, tyOk111, tyOk112, tyOk114, tyOk115, tyOk116, tyOk117, tyOk118, tyOk119, tyOk120, tyOk121, tyOk122, tyOk123, tyOk125, tyOk126, tyOk127, tyOk128, tyOk129, tyOk130, tyOk131, tyOk132, tyOk133, tyOk134, tyOk135, tyOk136, tyOk137, tyOk138, tyOk139, tyOk141, tyOk142, tyOk143, tyOk144, tyOk145, tyOk146, tyOk147, tyOk148, tyOk149, tyOk150, tyOk151, tyOk152, tyOk153, tyOk154, tyOk155, tyOk156, tyOk157, tyOk158, tyOk160, tyOk161, tyOk162, tyOk163, tyOk164, tyOk166, tyOk167, tyOk168, tyOk169, tyOk170, tyOk171, tyOk172, tyOk173, tyOk174, tyOk175, tyOk176, tyOk177, tyOk178, tyOk179, tyOk180, tyOk181, tyOk182, tyOk183, tyOk184, tyOk187, tyOk190, tyOk191, tyOk192, tyOk193, tyOk194, tyOk195, tyOk196, trivial⟩, by kernel_rfl⟩
theorem mixed : Try.prog.follows .mixedOrders = true := by kernel_rfl
end Go.Proofs.Ytocppeifkjdeiaa.Mv
