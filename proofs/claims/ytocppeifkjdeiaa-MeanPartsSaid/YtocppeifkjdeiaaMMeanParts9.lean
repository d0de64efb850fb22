/- What the statement MeanParts needs, part 9. Under no condition. -/
import Derived.Test.YtocppeifkjdeiaaProg
import Derived.KernelRfl
import Derived.Test.YtocppeifkjdeiaaMMeanParts8
/- The seat's types, asL a table. Under no condition. -/
namespace Go.Proofs.Ytocppeifkjdeiaa.Mv
open Go Go.Proofs
def ty1 : TyI := ⟨TypeDesc.func #[] #[] false, 1, 8, [Value.nilFunc], false⟩
def ty2 : TyI := ⟨TypeDesc.int IntKind.i64, 1, 8, [Value.int IntKind.i64 0], false⟩
def ty3 : TyI := ⟨TypeDesc.int IntKind.i64, 1, 8, [Value.int IntKind.i64 0], false⟩
def ty4 : TyI := ⟨TypeDesc.bool, 1, 1, [Value.bool false], false⟩
def ty5 : TyI := ⟨TypeDesc.int IntKind.u8, 1, 1, [Value.int IntKind.u8 0], false⟩
def ty6 : TyI := ⟨TypeDesc.int IntKind.u8, 1, 1, [Value.int IntKind.u8 0], false⟩
def ty9 : TyI := ⟨TypeDesc.string, 1, 16, [Value.string ⟨#[]⟩], false⟩
def ty10 : TyI := ⟨TypeDesc.string, 1, 16, [Value.string ⟨#[]⟩], false⟩
def ty11 : TyI := ⟨TypeDesc.string, 1, 16, [Value.string ⟨#[]⟩], false⟩
def ty12 : TyI := ⟨TypeDesc.int IntKind.u64, 1, 8, [Value.int IntKind.u64 0], false⟩
def ty15 : TyI := ⟨TypeDesc.pointer 186, 1, 8, [Value.pointer none], false⟩
def ty16 : TyI := ⟨TypeDesc.pointer 189, 1, 8, [Value.pointer none], false⟩
def ty17 : TyI := ⟨TypeDesc.pointer 198, 1, 8, [Value.pointer none], false⟩
def ty21 : TyI := ⟨TypeDesc.int IntKind.i32, 1, 4, [Value.int IntKind.i32 0], false⟩
def ty22 : TyI := ⟨TypeDesc.slice 43, 1, 24, [Value.slice none 0 0], false⟩
def ty23 : TyI := ⟨TypeDesc.slice 9, 1, 24, [Value.slice none 0 0], false⟩
def ty24 : TyI := ⟨TypeDesc.slice 101, 1, 24, [Value.slice none 0 0], false⟩
def ty25 : TyI := ⟨TypeDesc.slice 104, 1, 24, [Value.slice none 0 0], false⟩
def ty26 : TyI := ⟨TypeDesc.struct #[{ name := "Leaf", type := 4, offset := 0, embedded := false, tag := "", pkgPath := "", byteOffset := 0 }, { name := "Pairs", type := 22, offset := 1, embedded := false, tag := "", pkgPath := "", byteOffset := 8 }, { name := "Pivots", type := 23, offset := 2, embedded := false, tag := "", pkgPath := "", byteOffset := 32 }, { name := "Kids", type := 24, offset := 3, embedded := false, tag := "", pkgPath := "", byteOffset := 56 }, { name := "Buffer", type := 25, offset := 4, embedded := false, tag := "", pkgPath := "", byteOffset := 80 }], 5, 104, [Value.bool false, Value.slice none 0 0, Value.slice none 0 0, Value.slice none 0 0, Value.slice none 0 0], true⟩
def ty27 : TyI := ⟨TypeDesc.struct #[{ name := "Leaf", type := 4, offset := 0, embedded := false, tag := "", pkgPath := "", byteOffset := 0 }, { name := "Pairs", type := 22, offset := 1, embedded := false, tag := "", pkgPath := "", byteOffset := 8 }, { name := "Pivots", type := 23, offset := 2, embedded := false, tag := "", pkgPath := "", byteOffset := 32 }, { name := "Kids", type := 24, offset := 3, embedded := false, tag := "", pkgPath := "", byteOffset := 56 }, { name := "Buffer", type := 25, offset := 4, embedded := false, tag := "", pkgPath := "", byteOffset := 80 }], 5, 104, [Value.bool false, Value.slice none 0 0, Value.slice none 0 0, Value.slice none 0 0, Value.slice none 0 0], true⟩
def ty28 : TyI := ⟨TypeDesc.struct #[{ name := "Lo", type := 9, offset := 0, embedded := false, tag := "", pkgPath := "", byteOffset := 0 }, { name := "Strip", type := 9, offset := 1, embedded := false, tag := "", pkgPath := "", byteOffset := 16 }, { name := "Node", type := 27, offset := 2, embedded := false, tag := "", pkgPath := "", byteOffset := 32 }], 7, 136, [Value.string ⟨#[]⟩, Value.string ⟨#[]⟩, Value.bool false,   Value.slice none 0 0, Value.slice none 0 0, Value.slice none 0 0, Value.slice none 0 0], true⟩
def ty29 : TyI := ⟨TypeDesc.struct #[{ name := "Lo", type := 9, offset := 0, embedded := false, tag := "", pkgPath := "", byteOffset := 0 }, { name := "Strip", type := 9, offset := 1, embedded := false, tag := "", pkgPath := "", byteOffset := 16 }, { name := "Node", type := 27, offset := 2, embedded := false, tag := "", pkgPath := "", byteOffset := 32 }], 7, 136, [Value.string ⟨#[]⟩, Value.string ⟨#[]⟩, Value.bool false,   Value.slice none 0 0, Value.slice none 0 0, Value.slice none 0 0, Value.slice none 0 0], true⟩
def ty30 : TyI := ⟨TypeDesc.struct #[{ name := "Lo", type := 9, offset := 0, embedded := false, tag := "", pkgPath := "", byteOffset := 0 }, { name := "Hi", type := 9, offset := 1, embedded := false, tag := "", pkgPath := "", byteOffset := 16 }, { name := "End", type := 4, offset := 2, embedded := false, tag := "", pkgPath := "", byteOffset := 32 }], 3, 40, [Value.string ⟨#[]⟩, Value.string ⟨#[]⟩, Value.bool false], true⟩
def ty31 : TyI := ⟨TypeDesc.struct #[{ name := "Lo", type := 9, offset := 0, embedded := false, tag := "", pkgPath := "", byteOffset := 0 }, { name := "Hi", type := 9, offset := 1, embedded := false, tag := "", pkgPath := "", byteOffset := 16 }, { name := "End", type := 4, offset := 2, embedded := false, tag := "", pkgPath := "", byteOffset := 32 }], 3, 40, [Value.string ⟨#[]⟩, Value.string ⟨#[]⟩, Value.bool false], true⟩
def ty32 : TyI := ⟨TypeDesc.func #[29] #[4] false, 1, 8, [Value.nilFunc], false⟩
def ty33 : TyI := ⟨TypeDesc.func #[31] #[4] false, 1, 8, [Value.nilFunc], false⟩
def ty34 : TyI := ⟨TypeDesc.func #[] #[4] false, 1, 8, [Value.nilFunc], false⟩
def ty35 : TyI := ⟨TypeDesc.int IntKind.i64, 1, 8, [Value.int IntKind.i64 0], false⟩
def ty37 : TyI := ⟨TypeDesc.func #[29, 29, 31] #[29, 35] false, 1, 8, [Value.nilFunc], false⟩
def ty39 : TyI := ⟨TypeDesc.func #[29, 29, 31] #[29, 3] false, 1, 8, [Value.nilFunc], false⟩
def ty40 : TyI := ⟨TypeDesc.func #[41, 41] #[4] false, 1, 8, [Value.nilFunc], false⟩
def ty41 : TyI := ⟨TypeDesc.slice 29, 1, 24, [Value.slice none 0 0], false⟩
def ty42 : TyI := ⟨TypeDesc.struct #[{ name := "Key", type := 9, offset := 0, embedded := false, tag := "", pkgPath := "", byteOffset := 0 }, { name := "Value", type := 9, offset := 1, embedded := false, tag := "", pkgPath := "", byteOffset := 16 }], 2, 32, [Value.string ⟨#[]⟩, Value.string ⟨#[]⟩], true⟩
def ty43 : TyI := ⟨TypeDesc.struct #[{ name := "Key", type := 9, offset := 0, embedded := false, tag := "", pkgPath := "", byteOffset := 0 }, { name := "Value", type := 9, offset := 1, embedded := false, tag := "", pkgPath := "", byteOffset := 16 }], 2, 32, [Value.string ⟨#[]⟩, Value.string ⟨#[]⟩], true⟩
def ty44 : TyI := ⟨TypeDesc.func #[9, 9] #[4] false, 1, 8, [Value.nilFunc], false⟩
def ty45 : TyI := ⟨TypeDesc.func #[27] #[3] false, 1, 8, [Value.nilFunc], false⟩
def ty46 : TyI := ⟨TypeDesc.int IntKind.u32, 1, 4, [Value.int IntKind.u32 0], false⟩
def ty47 : TyI := ⟨TypeDesc.int IntKind.u16, 1, 2, [Value.int IntKind.u16 0], false⟩
def ty48 : TyI := ⟨TypeDesc.struct #[{ name := "Kind", type := 5, offset := 0, embedded := false, tag := "", pkgPath := "", byteOffset := 0 }, { name := "Value", type := 9, offset := 1, embedded := false, tag := "", pkgPath := "", byteOffset := 8 }, { name := "Block", type := 46, offset := 2, embedded := false, tag := "", pkgPath := "", byteOffset := 24 }, { name := "Deep", type := 47, offset := 3, embedded := false, tag := "", pkgPath := "", byteOffset := 28 }, { name := "Key", type := 9, offset := 4, embedded := false, tag := "", pkgPath := "", byteOffset := 32 }], 5, 48, [Value.int IntKind.u8 0, Value.string ⟨#[]⟩, Value.int IntKind.u32 0,   Value.int IntKind.u16 0, Value.string ⟨#[]⟩], true⟩
def ty49 : TyI := ⟨TypeDesc.struct #[{ name := "Kind", type := 5, offset := 0, embedded := false, tag := "", pkgPath := "", byteOffset := 0 }, { name := "Value", type := 9, offset := 1, embedded := false, tag := "", pkgPath := "", byteOffset := 8 }, { name := "Block", type := 46, offset := 2, embedded := false, tag := "", pkgPath := "", byteOffset := 24 }, { name := "Deep", type := 47, offset := 3, embedded := false, tag := "", pkgPath := "", byteOffset := 28 }, { name := "Key", type := 9, offset := 4, embedded := false, tag := "", pkgPath := "", byteOffset := 32 }], 5, 48, [Value.int IntKind.u8 0, Value.string ⟨#[]⟩, Value.int IntKind.u32 0,   Value.int IntKind.u16 0, Value.string ⟨#[]⟩], true⟩
def ty50 : TyI := ⟨TypeDesc.func #[27, 9] #[49] false, 1, 8, [Value.nilFunc], false⟩
def ty51 : TyI := ⟨TypeDesc.func #[29, 29, 31, 3] #[4] false, 1, 8, [Value.nilFunc], false⟩
def ty52 : TyI := ⟨TypeDesc.func #[27] #[4] false, 1, 8, [Value.nilFunc], false⟩
def ty54 : TyI := ⟨TypeDesc.func #[27, 31, 9] #[27, 35] false, 1, 8, [Value.nilFunc], false⟩
def ty56 : TyI := ⟨TypeDesc.func #[27, 31, 9] #[27, 3] false, 1, 8, [Value.nilFunc], false⟩
def ty57 : TyI := ⟨TypeDesc.func #[27, 27] #[4] false, 1, 8, [Value.nilFunc], false⟩
def ty58 : TyI := ⟨TypeDesc.func #[27, 31, 9] #[4] false, 1, 8, [Value.nilFunc], false⟩
def ty59 : TyI := ⟨TypeDesc.func #[31, 9] #[4] false, 1, 8, [Value.nilFunc], false⟩
def ty60 : TyI := ⟨TypeDesc.func #[27, 31, 9, 9] #[4] false, 1, 8, [Value.nilFunc], false⟩
def ty61 : TyI := ⟨TypeDesc.func #[63, 31] #[31] false, 1, 8, [Value.nilFunc], false⟩
def ty62 : TyI := ⟨TypeDesc.struct #[{ name := "Strip", type := 9, offset := 0, embedded := false, tag := "", pkgPath := "", byteOffset := 0 }, { name := "Add", type := 9, offset := 1, embedded := false, tag := "", pkgPath := "", byteOffset := 16 }], 2, 32, [Value.string ⟨#[]⟩, Value.string ⟨#[]⟩], true⟩
def ty63 : TyI := ⟨TypeDesc.struct #[{ name := "Strip", type := 9, offset := 0, embedded := false, tag := "", pkgPath := "", byteOffset := 0 }, { name := "Add", type := 9, offset := 1, embedded := false, tag := "", pkgPath := "", byteOffset := 16 }], 2, 32, [Value.string ⟨#[]⟩, Value.string ⟨#[]⟩], true⟩
def ty64 : TyI := ⟨TypeDesc.func #[31, 31] #[4] false, 1, 8, [Value.nilFunc], false⟩
def ty65 : TyI := ⟨TypeDesc.func #[27, 31, 31, 9, 9] #[4] false, 1, 8, [Value.nilFunc], false⟩
def ty66 : TyI := ⟨TypeDesc.func #[63] #[4] false, 1, 8, [Value.nilFunc], false⟩
def ty68 : TyI := ⟨TypeDesc.func #[63, 9] #[63, 4] false, 1, 8, [Value.nilFunc], false⟩
def ty69 : TyI := ⟨TypeDesc.func #[63, 63] #[63, 4] false, 1, 8, [Value.nilFunc], false⟩
def ty71 : TyI := ⟨TypeDesc.func #[63, 9] #[9, 4] false, 1, 8, [Value.nilFunc], false⟩
def ty72 : TyI := ⟨TypeDesc.func #[63, 9, 9] #[4] false, 1, 8, [Value.nilFunc], false⟩
def ty73 : TyI := ⟨TypeDesc.func #[27] #[9, 4] false, 1, 8, [Value.nilFunc], false⟩
def ty74 : TyI := ⟨TypeDesc.func #[27, 31] #[29, 35] false, 1, 8, [Value.nilFunc], false⟩
def ty75 : TyI := ⟨TypeDesc.func #[27, 31] #[29, 3] false, 1, 8, [Value.nilFunc], false⟩
def ty77 : TyI := ⟨TypeDesc.func #[27, 31] #[41, 35] false, 1, 8, [Value.nilFunc], false⟩
def ty79 : TyI := ⟨TypeDesc.func #[27, 31] #[41, 3] false, 1, 8, [Value.nilFunc], false⟩
def ty80 : TyI := ⟨TypeDesc.func #[27, 31, 3, 3] #[41, 35] false, 1, 8, [Value.nilFunc], false⟩
def ty81 : TyI := ⟨TypeDesc.func #[27, 31, 3, 3] #[41, 3] false, 1, 8, [Value.nilFunc], false⟩
def ty82 : TyI := ⟨TypeDesc.func #[27, 31, 3, 3] #[4] false, 1, 8, [Value.nilFunc], false⟩
def ty83 : TyI := ⟨TypeDesc.func #[27, 31, 9, 3, 3] #[4] false, 1, 8, [Value.nilFunc], false⟩
def ty84 : TyI := ⟨TypeDesc.slice 120, 1, 24, [Value.slice none 0 0], false⟩
def ty85 : TyI := ⟨TypeDesc.func #[84] #[4] false, 1, 8, [Value.nilFunc], false⟩
def ty86 : TyI := ⟨TypeDesc.func #[84, 46, 9] #[9, 4] false, 1, 8, [Value.nilFunc], false⟩
def ty87 : TyI := ⟨TypeDesc.func #[84, 46] #[3] false, 1, 8, [Value.nilFunc], false⟩
def ty88 : TyI := ⟨TypeDesc.func #[84, 46, 9] #[4] false, 1, 8, [Value.nilFunc], false⟩
def ty89 : TyI := ⟨TypeDesc.func #[84, 46] #[4] false, 1, 8, [Value.nilFunc], false⟩
def ty90 : TyI := ⟨TypeDesc.func #[22, 22] #[4] false, 1, 8, [Value.nilFunc], false⟩
def ty91 : TyI := ⟨TypeDesc.func #[84, 46, 31, 3] #[22] false, 1, 8, [Value.nilFunc], false⟩
def ty92 : TyI := ⟨TypeDesc.func #[84, 46, 31, 3] #[4] false, 1, 8, [Value.nilFunc], false⟩
def ty93 : TyI := ⟨TypeDesc.func #[22] #[4] false, 1, 8, [Value.nilFunc], false⟩
def ty94 : TyI := ⟨TypeDesc.func #[22, 9] #[9, 4] false, 1, 8, [Value.nilFunc], false⟩
def ty95 : TyI := ⟨TypeDesc.func #[84, 46, 31, 9] #[4] false, 1, 8, [Value.nilFunc], false⟩
def ty96 : TyI := ⟨TypeDesc.func #[31, 31] #[31] false, 1, 8, [Value.nilFunc], false⟩
def ty97 : TyI := ⟨TypeDesc.func #[84, 46, 31, 9, 3] #[4] false, 1, 8, [Value.nilFunc], false⟩
def ty98 : TyI := ⟨TypeDesc.func #[27] #[35] false, 1, 8, [Value.nilFunc], false⟩
def ty99 : TyI := ⟨TypeDesc.func #[31] #[9] false, 1, 8, [Value.nilFunc], false⟩
def ty100 : TyI := ⟨TypeDesc.struct #[{ name := "Block", type := 46, offset := 0, embedded := false, tag := "", pkgPath := "", byteOffset := 0 }, { name := "Deep", type := 47, offset := 1, embedded := false, tag := "", pkgPath := "", byteOffset := 4 }, { name := "Lift", type := 63, offset := 2, embedded := false, tag := "", pkgPath := "", byteOffset := 8 }], 4, 40, [Value.int IntKind.u32 0, Value.int IntKind.u16 0, Value.string ⟨#[]⟩,   Value.string ⟨#[]⟩], true⟩
def ty101 : TyI := ⟨TypeDesc.struct #[{ name := "Block", type := 46, offset := 0, embedded := false, tag := "", pkgPath := "", byteOffset := 0 }, { name := "Deep", type := 47, offset := 1, embedded := false, tag := "", pkgPath := "", byteOffset := 4 }, { name := "Lift", type := 63, offset := 2, embedded := false, tag := "", pkgPath := "", byteOffset := 8 }], 4, 40, [Value.int IntKind.u32 0, Value.int IntKind.u16 0, Value.string ⟨#[]⟩,   Value.string ⟨#[]⟩], true⟩
def ty102 : TyI := ⟨TypeDesc.func #[104] #[4] false, 1, 8, [Value.nilFunc], false⟩
def ty103 : TyI := ⟨TypeDesc.struct #[{ name := "Kind", type := 5, offset := 0, embedded := false, tag := "", pkgPath := "", byteOffset := 0 }, { name := "Key", type := 9, offset := 1, embedded := false, tag := "", pkgPath := "", byteOffset := 8 }, { name := "Value", type := 9, offset := 2, embedded := false, tag := "", pkgPath := "", byteOffset := 24 }, { name := "Block", type := 46, offset := 3, embedded := false, tag := "", pkgPath := "", byteOffset := 40 }, { name := "Deep", type := 47, offset := 4, embedded := false, tag := "", pkgPath := "", byteOffset := 44 }, { name := "Add", type := 9, offset := 5, embedded := false, tag := "", pkgPath := "", byteOffset := 48 }], 6, 64, [Value.int IntKind.u8 0, Value.string ⟨#[]⟩,   Value.string ⟨#[]⟩, Value.int IntKind.u32 0, Value.int IntKind.u16 0,   Value.string ⟨#[]⟩], true⟩
def ty104 : TyI := ⟨TypeDesc.struct #[{ name := "Kind", type := 5, offset := 0, embedded := false, tag := "", pkgPath := "", byteOffset := 0 }, { name := "Key", type := 9, offset := 1, embedded := false, tag := "", pkgPath := "", byteOffset := 8 }, { name := "Value", type := 9, offset := 2, embedded := false, tag := "", pkgPath := "", byteOffset := 24 }, { name := "Block", type := 46, offset := 3, embedded := false, tag := "", pkgPath := "", byteOffset := 40 }, { name := "Deep", type := 47, offset := 4, embedded := false, tag := "", pkgPath := "", byteOffset := 44 }, { name := "Add", type := 9, offset := 5, embedded := false, tag := "", pkgPath := "", byteOffset := 48 }], 6, 64, [Value.int IntKind.u8 0, Value.string ⟨#[]⟩,   Value.string ⟨#[]⟩, Value.int IntKind.u32 0, Value.int IntKind.u16 0,   Value.string ⟨#[]⟩], true⟩
def ty105 : TyI := ⟨TypeDesc.func #[25] #[4] false, 1, 8, [Value.nilFunc], false⟩
def ty106 : TyI := ⟨TypeDesc.func #[9] #[31] false, 1, 8, [Value.nilFunc], false⟩
def ty107 : TyI := ⟨TypeDesc.func #[27, 31, 9] #[27] false, 1, 8, [Value.nilFunc], false⟩
def ty109 : TyI := ⟨TypeDesc.func #[27, 31, 9] #[27, 4] false, 1, 8, [Value.nilFunc], false⟩
def ty111 : TyI := ⟨TypeDesc.func #[25, 31, 9] #[25, 35] false, 1, 8, [Value.nilFunc], false⟩
def ty112 : TyI := ⟨TypeDesc.func #[27, 3] #[31] false, 1, 8, [Value.nilFunc], false⟩
def ty114 : TyI := ⟨TypeDesc.func #[25, 31, 9] #[25, 3] false, 1, 8, [Value.nilFunc], false⟩
def ty115 : TyI := ⟨TypeDesc.func #[25, 25] #[4] false, 1, 8, [Value.nilFunc], false⟩
def ty116 : TyI := ⟨TypeDesc.func #[9] #[9, 4] false, 1, 8, [Value.nilFunc], false⟩
def ty117 : TyI := ⟨TypeDesc.func #[9, 9] #[9] false, 1, 8, [Value.nilFunc], false⟩
def ty118 : TyI := ⟨TypeDesc.slice 31, 1, 24, [Value.slice none 0 0], false⟩
def ty119 : TyI := ⟨TypeDesc.struct #[{ name := "Block", type := 46, offset := 0, embedded := false, tag := "", pkgPath := "", byteOffset := 0 }, { name := "Node", type := 27, offset := 1, embedded := false, tag := "", pkgPath := "", byteOffset := 8 }], 6, 112, [Value.int IntKind.u32 0, Value.bool false, Value.slice none 0 0, Value.slice none 0 0,   Value.slice none 0 0, Value.slice none 0 0], true⟩
def ty120 : TyI := ⟨TypeDesc.struct #[{ name := "Block", type := 46, offset := 0, embedded := false, tag := "", pkgPath := "", byteOffset := 0 }, { name := "Node", type := 27, offset := 1, embedded := false, tag := "", pkgPath := "", byteOffset := 8 }], 6, 112, [Value.int IntKind.u32 0, Value.bool false, Value.slice none 0 0, Value.slice none 0 0,   Value.slice none 0 0, Value.slice none 0 0], true⟩
def ty121 : TyI := ⟨TypeDesc.func #[84, 46] #[27, 4] false, 1, 8, [Value.nilFunc], false⟩
def ty122 : TyI := ⟨TypeDesc.map 46 3, 1, 8, [Value.map none], false⟩
def ty123 : TyI := ⟨TypeDesc.func #[46] #[3] false, 1, 8, [Value.nilFunc], false⟩
def ty125 : TyI := ⟨TypeDesc.slice 46, 1, 24, [Value.slice none 0 0], false⟩
def ty126 : TyI := ⟨TypeDesc.func #[27] #[125] false, 1, 8, [Value.nilFunc], false⟩
def ty127 : TyI := ⟨TypeDesc.slice 130, 1, 24, [Value.slice none 0 0], false⟩
def ty128 : TyI := ⟨TypeDesc.func #[27] #[47] false, 1, 8, [Value.nilFunc], false⟩
def ty129 : TyI := ⟨TypeDesc.struct #[{ name := "Block", type := 46, offset := 0, embedded := false, tag := "", pkgPath := "", byteOffset := 0 }, { name := "N", type := 46, offset := 1, embedded := false, tag := "", pkgPath := "", byteOffset := 4 }], 2, 8, [Value.int IntKind.u32 0, Value.int IntKind.u32 0], true⟩
def ty130 : TyI := ⟨TypeDesc.struct #[{ name := "Block", type := 46, offset := 0, embedded := false, tag := "", pkgPath := "", byteOffset := 0 }, { name := "N", type := 46, offset := 1, embedded := false, tag := "", pkgPath := "", byteOffset := 4 }], 2, 8, [Value.int IntKind.u32 0, Value.int IntKind.u32 0], true⟩
def ty131 : TyI := ⟨TypeDesc.func #[153] #[] false, 1, 8, [Value.nilFunc], false⟩
def ty132 : TyI := ⟨TypeDesc.func #[153] #[] false, 1, 8, [Value.nilFunc], false⟩
def ty133 : TyI := ⟨TypeDesc.func #[84, 46, 31] #[132] false, 1, 8, [Value.nilFunc], false⟩
def ty134 : TyI := ⟨TypeDesc.func #[84, 46] #[22] false, 1, 8, [Value.nilFunc], false⟩
def ty135 : TyI := ⟨TypeDesc.func #[9, 9] #[9, 4] false, 1, 8, [Value.nilFunc], false⟩
def ty136 : TyI := ⟨TypeDesc.func #[25, 9] #[3] false, 1, 8, [Value.nilFunc], false⟩
def ty137 : TyI := ⟨TypeDesc.func #[27, 9] #[3] false, 1, 8, [Value.nilFunc], false⟩
def ty138 : TyI := ⟨TypeDesc.func #[46, 47, 63, 9] #[49] false, 1, 8, [Value.nilFunc], false⟩
def ty139 : TyI := ⟨TypeDesc.func #[104] #[31] false, 1, 8, [Value.nilFunc], false⟩
def ty141 : TyI := ⟨TypeDesc.func #[104, 9] #[104, 4] false, 1, 8, [Value.nilFunc], false⟩
def ty142 : TyI := ⟨TypeDesc.slice 5, 1, 24, [Value.slice none 0 0], false⟩
def ty143 : TyI := ⟨TypeDesc.func #[] #[31] false, 1, 8, [Value.nilFunc], false⟩
def ty144 : TyI := ⟨TypeDesc.map 46 47, 1, 8, [Value.map none], false⟩
def ty145 : TyI := ⟨TypeDesc.func #[84] #[144] false, 1, 8, [Value.nilFunc], false⟩
def ty146 : TyI := ⟨TypeDesc.func #[144, 46, 47] #[4] false, 1, 8, [Value.nilFunc], false⟩
def ty147 : TyI := ⟨TypeDesc.func #[27] #[27] false, 1, 8, [Value.nilFunc], false⟩
def ty148 : TyI := ⟨TypeDesc.func #[22, 9, 149] #[3, 4] false, 1, 8, [Value.nilFunc], false⟩
def ty149 : TyI := ⟨TypeDesc.func #[43, 9] #[3] false, 1, 8, [Value.nilFunc], false⟩
def ty150 : TyI := ⟨TypeDesc.func #[101, 9] #[49] false, 1, 8, [Value.nilFunc], false⟩
def ty151 : TyI := ⟨TypeDesc.func #[84, 46, 47] #[4] false, 1, 8, [Value.nilFunc], false⟩
def ty152 : TyI := ⟨TypeDesc.func #[25] #[125] false, 1, 8, [Value.nilFunc], false⟩
def ty153 : TyI := ⟨TypeDesc.func #[43] #[4] false, 1, 8, [Value.nilFunc], false⟩
def ty154 : TyI := ⟨TypeDesc.struct #[{ name := "l", type := 84, offset := 0, embedded := false, tag := "", pkgPath := "marcot/mean", byteOffset := 0 }, { name := "tell", type := 153, offset := 1, embedded := false, tag := "", pkgPath := "marcot/mean", byteOffset := 24 }], 2, 32, [Value.slice none 0 0, Value.nilFunc], true⟩
def ty155 : TyI := ⟨TypeDesc.struct #[{ name := "l", type := 84, offset := 0, embedded := false, tag := "", pkgPath := "marcot/mean", byteOffset := 0 }, { name := "tell", type := 153, offset := 1, embedded := false, tag := "", pkgPath := "marcot/mean", byteOffset := 24 }], 2, 32, [Value.slice none 0 0, Value.nilFunc], true⟩
def ty156 : TyI := ⟨TypeDesc.func #[46, 31] #[4] false, 1, 8, [Value.nilFunc], false⟩
def ty157 : TyI := ⟨TypeDesc.func #[22, 22, 63, 31] #[22] false, 1, 8, [Value.nilFunc], false⟩
def ty158 : TyI := ⟨TypeDesc.func #[22, 9] #[22] false, 1, 8, [Value.nilFunc], false⟩
def ty160 : TyI := ⟨TypeDesc.func #[22, 25] #[22, 3] false, 1, 8, [Value.nilFunc], false⟩
def ty161 : TyI := ⟨TypeDesc.func #[9] #[4] false, 1, 8, [Value.nilFunc], false⟩
def ty162 : TyI := ⟨TypeDesc.func #[25, 102] #[4] false, 1, 8, [Value.nilFunc], false⟩
def ty163 : TyI := ⟨TypeDesc.func #[104, 9] #[4] false, 1, 8, [Value.nilFunc], false⟩
def ty164 : TyI := ⟨TypeDesc.func #[9] #[9] false, 1, 8, [Value.nilFunc], false⟩
def ty166 : TyI := ⟨TypeDesc.func #[22] #[22] false, 1, 8, [Value.nilFunc], false⟩
def ty167 : TyI := ⟨TypeDesc.func #[23] #[23] false, 1, 8, [Value.nilFunc], false⟩
def ty168 : TyI := ⟨TypeDesc.func #[24] #[24] false, 1, 8, [Value.nilFunc], false⟩
def ty169 : TyI := ⟨TypeDesc.func #[25] #[25] false, 1, 8, [Value.nilFunc], false⟩
def ty170 : TyI := ⟨TypeDesc.int IntKind.u64, 1, 8, [Value.int IntKind.u64 0], false⟩
def ty171 : TyI := ⟨TypeDesc.func #[179] #[] false, 1, 8, [Value.nilFunc], false⟩
def ty172 : TyI := ⟨TypeDesc.func #[179] #[] false, 1, 8, [Value.nilFunc], false⟩
def ty173 : TyI := ⟨TypeDesc.func #[25] #[172] false, 1, 8, [Value.nilFunc], false⟩
def ty174 : TyI := ⟨TypeDesc.func #[3, 175] #[3] false, 1, 8, [Value.nilFunc], false⟩
def ty175 : TyI := ⟨TypeDesc.func #[3] #[4] false, 1, 8, [Value.nilFunc], false⟩
def ty176 : TyI := ⟨TypeDesc.func #[27, 25, 31] #[4] false, 1, 8, [Value.nilFunc], false⟩
def ty177 : TyI := ⟨TypeDesc.func #[22, 43] #[22] false, 1, 8, [Value.nilFunc], false⟩
def ty178 : TyI := ⟨TypeDesc.func #[25, 102] #[3] false, 1, 8, [Value.nilFunc], false⟩
def ty179 : TyI := ⟨TypeDesc.func #[3, 104] #[4] false, 1, 8, [Value.nilFunc], false⟩
def ty180 : TyI := ⟨TypeDesc.func #[27, 31] #[4] false, 1, 8, [Value.nilFunc], false⟩
def ty181 : TyI := ⟨TypeDesc.func #[104, 31] #[4] false, 1, 8, [Value.nilFunc], false⟩
def ty182 : TyI := ⟨TypeDesc.func #[46, 63, 31] #[4] false, 1, 8, [Value.nilFunc], false⟩
def ty183 : TyI := ⟨TypeDesc.func #[63] #[63] false, 1, 8, [Value.nilFunc], false⟩
def ty184 : TyI := ⟨TypeDesc.func #[] #[9] false, 1, 8, [Value.nilFunc], false⟩
def ty187 : TyI := ⟨TypeDesc.array 0 16, 0, 0, [], false⟩
def ty190 : TyI := ⟨TypeDesc.func #[] #[3] false, 1, 8, [Value.nilFunc], false⟩
def ty191 : TyI := ⟨TypeDesc.int IntKind.u8, 1, 1, [Value.int IntKind.u8 0], false⟩
def ty192 : TyI := ⟨TypeDesc.int IntKind.u8, 1, 1, [Value.int IntKind.u8 0], false⟩
def ty193 : TyI := ⟨TypeDesc.func #[199, 199] #[4] false, 1, 8, [Value.nilFunc], false⟩
def ty194 : TyI := ⟨TypeDesc.pointer 5, 1, 8, [Value.pointer none], false⟩
def ty195 : TyI := ⟨TypeDesc.int IntKind.i32, 1, 4, [Value.int IntKind.i32 0], false⟩
def ty196 : TyI := ⟨TypeDesc.int IntKind.i32, 1, 4, [Value.int IntKind.i32 0], false⟩
def tab : Tab := [(1, ty1), (2, ty2), (3, ty3), (4, ty4), (5, ty5), (6, ty6), (9, ty9), (10, ty10), (11, ty11), (12, ty12), (15, ty15), (16, ty16), (17, ty17), (21, ty21), (22, ty22), (23, ty23), (24, ty24), (25, ty25), (26, ty26), (27, ty27), (28, ty28), (29, ty29), (30, ty30), (31, ty31), (32, ty32), (33, ty33), (34, ty34), (35, ty35), (37, ty37), (39, ty39), (40, ty40), (41, ty41), (42, ty42), (43, ty43), (44, ty44), (45, ty45), (46, ty46), (47, ty47), (48, ty48), (49, ty49), (50, ty50), (51, ty51), (52, ty52), (54, ty54), (56, ty56), (57, ty57), (58, ty58), (59, ty59), (60, ty60), (61, ty61), (62, ty62), (63, ty63), (64, ty64), (65, ty65), (66, ty66), (68, ty68), (69, ty69), (71, ty71), (72, ty72), (73, ty73), (74, ty74), (75, ty75), (77, ty77), (79, ty79), (80, ty80), (81, ty81), (82, ty82), (83, ty83), (84, ty84), (85, ty85), (86, ty86), (87, ty87), (88, ty88), (89, ty89), (90, ty90), (91, ty91), (92, ty92), (93, ty93), (94, ty94), (95, ty95), (96, ty96), (97, ty97), (98, ty98), (99, ty99), (100, ty100), (101, ty101), (102, ty102), (103, ty103), (104, ty104), (105, ty105), (106, ty106), (107, ty107), (109, ty109), (111, ty111), (112, ty112), (114, ty114), (115, ty115), (116, ty116), (117, ty117), (118, ty118), (119, ty119), (120, ty120), (121, ty121), (122, ty122), (123, ty123), (125, ty125), (126, ty126), (127, ty127), (128, ty128), (129, ty129), (130, ty130), (131, ty131), (132, ty132), (133, ty133), (134, ty134), (135, ty135), (136, ty136), (137, ty137), (138, ty138), (139, ty139), (141, ty141), (142, ty142), (143, ty143), (144, ty144), (145, ty145), (146, ty146), (147, ty147), (148, ty148), (149, ty149), (150, ty150), (151, ty151), (152, ty152), (153, ty153), (154, ty154), (155, ty155), (156, ty156), (157, ty157), (158, ty158), (160, ty160), (161, ty161), (162, ty162), (163, ty163), (164, ty164), (166, ty166), (167, ty167), (168, ty168), (169, ty169), (170, ty170), (171, ty171), (172, ty172), (173, ty173), (174, ty174), (175, ty175), (176, ty176), (177, ty177), (178, ty178), (179, ty179), (180, ty180), (181, ty181), (182, ty182), (183, ty183), (184, ty184), (187, ty187), (190, ty190), (191, ty191), (192, ty192), (193, ty193), (194, ty194), (195, ty195), (196, ty196)]
theorem tyOk1 : TyOk Try.prog 1 ty1 := ⟨by kernel_rfl, ⟨Try.t1, by kernel_rfl, by kernel_rfl, by kernel_rfl, _, rfl, by kernel_rfl⟩, ⟨by kernel_rfl, by kernel_rfl⟩, fun h => absurd h (by decide)⟩
theorem tyOk2 : TyOk Try.prog 2 ty2 := ⟨by kernel_rfl, ⟨Try.t2, by kernel_rfl, by kernel_rfl, by kernel_rfl, _, rfl, by kernel_rfl⟩, ⟨by kernel_rfl, by kernel_rfl⟩, fun h => absurd h (by decide)⟩
theorem tyOk3 : TyOk Try.prog 3 ty3 := ⟨by kernel_rfl, ⟨Try.t3, by kernel_rfl, by kernel_rfl, by kernel_rfl, _, rfl, by kernel_rfl⟩, ⟨by kernel_rfl, by kernel_rfl⟩, fun h => absurd h (by decide)⟩
theorem tyOk4 : TyOk Try.prog 4 ty4 := ⟨by kernel_rfl, ⟨Try.t4, by kernel_rfl, by kernel_rfl, by kernel_rfl, _, rfl, by kernel_rfl⟩, ⟨by kernel_rfl, by kernel_rfl⟩, fun h => absurd h (by decide)⟩
theorem tyOk5 : TyOk Try.prog 5 ty5 := ⟨by kernel_rfl, ⟨Try.t5, by kernel_rfl, by kernel_rfl, by kernel_rfl, _, rfl, by kernel_rfl⟩, ⟨by kernel_rfl, by kernel_rfl⟩, fun h => absurd h (by decide)⟩
theorem tyOk6 : TyOk Try.prog 6 ty6 := ⟨by kernel_rfl, ⟨Try.t6, by kernel_rfl, by kernel_rfl, by kernel_rfl, _, rfl, by kernel_rfl⟩, ⟨by kernel_rfl, by kernel_rfl⟩, fun h => absurd h (by decide)⟩
theorem tyOk9 : TyOk Try.prog 9 ty9 := ⟨by kernel_rfl, ⟨Try.t9, by kernel_rfl, by kernel_rfl, by kernel_rfl, _, rfl, by kernel_rfl⟩, ⟨by kernel_rfl, by kernel_rfl⟩, fun h => absurd h (by decide)⟩
theorem tyOk10 : TyOk Try.prog 10 ty10 := ⟨by kernel_rfl, ⟨Try.t10, by kernel_rfl, by kernel_rfl, by kernel_rfl, _, rfl, by kernel_rfl⟩, ⟨by kernel_rfl, by kernel_rfl⟩, fun h => absurd h (by decide)⟩
theorem tyOk11 : TyOk Try.prog 11 ty11 := ⟨by kernel_rfl, ⟨Try.t11, by kernel_rfl, by kernel_rfl, by kernel_rfl, _, rfl, by kernel_rfl⟩, ⟨by kernel_rfl, by kernel_rfl⟩, fun h => absurd h (by decide)⟩
theorem tyOk12 : TyOk Try.prog 12 ty12 := ⟨by kernel_rfl, ⟨Try.t12, by kernel_rfl, by kernel_rfl, by kernel_rfl, _, rfl, by kernel_rfl⟩, ⟨by kernel_rfl, by kernel_rfl⟩, fun h => absurd h (by decide)⟩
theorem tyOk15 : TyOk Try.prog 15 ty15 := ⟨by kernel_rfl, ⟨Try.t15, by kernel_rfl, by kernel_rfl, by kernel_rfl, _, rfl, by kernel_rfl⟩, ⟨by kernel_rfl, by kernel_rfl⟩, fun h => absurd h (by decide)⟩
theorem tyOk16 : TyOk Try.prog 16 ty16 := ⟨by kernel_rfl, ⟨Try.t16, by kernel_rfl, by kernel_rfl, by kernel_rfl, _, rfl, by kernel_rfl⟩, ⟨by kernel_rfl, by kernel_rfl⟩, fun h => absurd h (by decide)⟩
theorem tyOk17 : TyOk Try.prog 17 ty17 := ⟨by kernel_rfl, ⟨Try.t17, by kernel_rfl, by kernel_rfl, by kernel_rfl, _, rfl, by kernel_rfl⟩, ⟨by kernel_rfl, by kernel_rfl⟩, fun h => absurd h (by decide)⟩
theorem tyOk21 : TyOk Try.prog 21 ty21 := ⟨by kernel_rfl, ⟨Try.t21, by kernel_rfl, by kernel_rfl, by kernel_rfl, _, rfl, by kernel_rfl⟩, ⟨by kernel_rfl, by kernel_rfl⟩, fun h => absurd h (by decide)⟩
theorem tyOk22 : TyOk Try.prog 22 ty22 := ⟨by kernel_rfl, ⟨Try.t22, by kernel_rfl, by kernel_rfl, by kernel_rfl, _, rfl, by kernel_rfl⟩, ⟨by kernel_rfl, by kernel_rfl⟩, fun h => absurd h (by decide)⟩
theorem tyOk23 : TyOk Try.prog 23 ty23 := ⟨by kernel_rfl, ⟨Try.t23, by kernel_rfl, by kernel_rfl, by kernel_rfl, _, rfl, by kernel_rfl⟩, ⟨by kernel_rfl, by kernel_rfl⟩, fun h => absurd h (by decide)⟩
theorem tyOk24 : TyOk Try.prog 24 ty24 := ⟨by kernel_rfl, ⟨Try.t24, by kernel_rfl, by kernel_rfl, by kernel_rfl, _, rfl, by kernel_rfl⟩, ⟨by kernel_rfl, by kernel_rfl⟩, fun h => absurd h (by decide)⟩
theorem tyOk25 : TyOk Try.prog 25 ty25 := ⟨by kernel_rfl, ⟨Try.t25, by kernel_rfl, by kernel_rfl, by kernel_rfl, _, rfl, by kernel_rfl⟩, ⟨by kernel_rfl, by kernel_rfl⟩, fun h => absurd h (by decide)⟩
theorem tyOk26 : TyOk Try.prog 26 ty26 := ⟨by kernel_rfl, ⟨Try.t26, by kernel_rfl, by kernel_rfl, by kernel_rfl, _, rfl, by kernel_rfl⟩, ⟨by kernel_rfl, by kernel_rfl⟩, fun _ => ⟨Try.stoodInHeld26, Try.eqGuardType26⟩⟩
theorem tyOk27 : TyOk Try.prog 27 ty27 := ⟨by kernel_rfl, ⟨Try.t27, by kernel_rfl, by kernel_rfl, by kernel_rfl, _, rfl, by kernel_rfl⟩, ⟨by kernel_rfl, by kernel_rfl⟩, fun _ => ⟨Try.stoodInHeld27, Try.eqGuardType27⟩⟩
theorem tyOk28 : TyOk Try.prog 28 ty28 := ⟨by kernel_rfl, ⟨Try.t28, by kernel_rfl, by kernel_rfl, by kernel_rfl, _, rfl, by kernel_rfl⟩, ⟨by kernel_rfl, by kernel_rfl⟩, fun _ => ⟨Try.stoodInHeld28, Try.eqGuardType28⟩⟩
theorem tyOk29 : TyOk Try.prog 29 ty29 := ⟨by kernel_rfl, ⟨Try.t29, by kernel_rfl, by kernel_rfl, by kernel_rfl, _, rfl, by kernel_rfl⟩, ⟨by kernel_rfl, by kernel_rfl⟩, fun _ => ⟨Try.stoodInHeld29, Try.eqGuardType29⟩⟩
theorem tyOk30 : TyOk Try.prog 30 ty30 := ⟨by kernel_rfl, ⟨Try.t30, by kernel_rfl, by kernel_rfl, by kernel_rfl, _, rfl, by kernel_rfl⟩, ⟨by kernel_rfl, by kernel_rfl⟩, fun _ => ⟨Try.stoodInHeld30, Try.eqGuardType30⟩⟩
theorem tyOk31 : TyOk Try.prog 31 ty31 := ⟨by kernel_rfl, ⟨Try.t31, by kernel_rfl, by kernel_rfl, by kernel_rfl, _, rfl, by kernel_rfl⟩, ⟨by kernel_rfl, by kernel_rfl⟩, fun _ => ⟨Try.stoodInHeld31, Try.eqGuardType31⟩⟩
theorem tyOk32 : TyOk Try.prog 32 ty32 := ⟨by kernel_rfl, ⟨Try.t32, by kernel_rfl, by kernel_rfl, by kernel_rfl, _, rfl, by kernel_rfl⟩, ⟨by kernel_rfl, by kernel_rfl⟩, fun h => absurd h (by decide)⟩
theorem tyOk33 : TyOk Try.prog 33 ty33 := ⟨by kernel_rfl, ⟨Try.t33, by kernel_rfl, by kernel_rfl, by kernel_rfl, _, rfl, by kernel_rfl⟩, ⟨by kernel_rfl, by kernel_rfl⟩, fun h => absurd h (by decide)⟩
theorem tyOk34 : TyOk Try.prog 34 ty34 := ⟨by kernel_rfl, ⟨Try.t34, by kernel_rfl, by kernel_rfl, by kernel_rfl, _, rfl, by kernel_rfl⟩, ⟨by kernel_rfl, by kernel_rfl⟩, fun h => absurd h (by decide)⟩
theorem tyOk35 : TyOk Try.prog 35 ty35 := ⟨by kernel_rfl, ⟨Try.t35, by kernel_rfl, by kernel_rfl, by kernel_rfl, _, rfl, by kernel_rfl⟩, ⟨by kernel_rfl, by kernel_rfl⟩, fun h => absurd h (by decide)⟩
theorem tyOk37 : TyOk Try.prog 37 ty37 := ⟨by kernel_rfl, ⟨Try.t37, by kernel_rfl, by kernel_rfl, by kernel_rfl, _, rfl, by kernel_rfl⟩, ⟨by kernel_rfl, by kernel_rfl⟩, fun h => absurd h (by decide)⟩
theorem tyOk39 : TyOk Try.prog 39 ty39 := ⟨by kernel_rfl, ⟨Try.t39, by kernel_rfl, by kernel_rfl, by kernel_rfl, _, rfl, by kernel_rfl⟩, ⟨by kernel_rfl, by kernel_rfl⟩, fun h => absurd h (by decide)⟩
theorem tyOk40 : TyOk Try.prog 40 ty40 := ⟨by kernel_rfl, ⟨Try.t40, by kernel_rfl, by kernel_rfl, by kernel_rfl, _, rfl, by kernel_rfl⟩, ⟨by kernel_rfl, by kernel_rfl⟩, fun h => absurd h (by decide)⟩
theorem tyOk41 : TyOk Try.prog 41 ty41 := ⟨by kernel_rfl, ⟨Try.t41, by kernel_rfl, by kernel_rfl, by kernel_rfl, _, rfl, by kernel_rfl⟩, ⟨by kernel_rfl, by kernel_rfl⟩, fun h => absurd h (by decide)⟩
theorem tyOk42 : TyOk Try.prog 42 ty42 := ⟨by kernel_rfl, ⟨Try.t42, by kernel_rfl, by kernel_rfl, by kernel_rfl, _, rfl, by kernel_rfl⟩, ⟨by kernel_rfl, by kernel_rfl⟩, fun _ => ⟨Try.stoodInHeld42, Try.eqGuardType42⟩⟩
theorem tyOk43 : TyOk Try.prog 43 ty43 := ⟨by kernel_rfl, ⟨Try.t43, by kernel_rfl, by kernel_rfl, by kernel_rfl, _, rfl, by kernel_rfl⟩, ⟨by kernel_rfl, by kernel_rfl⟩, fun _ => ⟨Try.stoodInHeld43, Try.eqGuardType43⟩⟩
theorem tyOk44 : TyOk Try.prog 44 ty44 := ⟨by kernel_rfl, ⟨Try.t44, by kernel_rfl, by kernel_rfl, by kernel_rfl, _, rfl, by kernel_rfl⟩, ⟨by kernel_rfl, by kernel_rfl⟩, fun h => absurd h (by decide)⟩
theorem tyOk45 : TyOk Try.prog 45 ty45 := ⟨by kernel_rfl, ⟨Try.t45, by kernel_rfl, by kernel_rfl, by kernel_rfl, _, rfl, by kernel_rfl⟩, ⟨by kernel_rfl, by kernel_rfl⟩, fun h => absurd h (by decide)⟩
theorem tyOk46 : TyOk Try.prog 46 ty46 := ⟨by kernel_rfl, ⟨Try.t46, by kernel_rfl, by kernel_rfl, by kernel_rfl, _, rfl, by kernel_rfl⟩, ⟨by kernel_rfl, by kernel_rfl⟩, fun h => absurd h (by decide)⟩
theorem tyOk47 : TyOk Try.prog 47 ty47 := ⟨by kernel_rfl, ⟨Try.t47, by kernel_rfl, by kernel_rfl, by kernel_rfl, _, rfl, by kernel_rfl⟩, ⟨by kernel_rfl, by kernel_rfl⟩, fun h => absurd h (by decide)⟩
theorem tyOk48 : TyOk Try.prog 48 ty48 := ⟨by kernel_rfl, ⟨Try.t48, by kernel_rfl, by kernel_rfl, by kernel_rfl, _, rfl, by kernel_rfl⟩, ⟨by kernel_rfl, by kernel_rfl⟩, fun _ => ⟨Try.stoodInHeld48, Try.eqGuardType48⟩⟩
theorem tyOk49 : TyOk Try.prog 49 ty49 := ⟨by kernel_rfl, ⟨Try.t49, by kernel_rfl, by kernel_rfl, by kernel_rfl, _, rfl, by kernel_rfl⟩, ⟨by kernel_rfl, by kernel_rfl⟩, fun _ => ⟨Try.stoodInHeld49, Try.eqGuardType49⟩⟩
theorem tyOk50 : TyOk Try.prog 50 ty50 := ⟨by kernel_rfl, ⟨Try.t50, by kernel_rfl, by kernel_rfl, by kernel_rfl, _, rfl, by kernel_rfl⟩, ⟨by kernel_rfl, by kernel_rfl⟩, fun h => absurd h (by decide)⟩
theorem tyOk51 : TyOk Try.prog 51 ty51 := ⟨by kernel_rfl, ⟨Try.t51, by kernel_rfl, by kernel_rfl, by kernel_rfl, _, rfl, by kernel_rfl⟩, ⟨by kernel_rfl, by kernel_rfl⟩, fun h => absurd h (by decide)⟩
theorem tyOk52 : TyOk Try.prog 52 ty52 := ⟨by kernel_rfl, ⟨Try.t52, by kernel_rfl, by kernel_rfl, by kernel_rfl, _, rfl, by kernel_rfl⟩, ⟨by kernel_rfl, by kernel_rfl⟩, fun h => absurd h (by decide)⟩
theorem tyOk54 : TyOk Try.prog 54 ty54 := ⟨by kernel_rfl, ⟨Try.t54, by kernel_rfl, by kernel_rfl, by kernel_rfl, _, rfl, by kernel_rfl⟩, ⟨by kernel_rfl, by kernel_rfl⟩, fun h => absurd h (by decide)⟩
theorem tyOk56 : TyOk Try.prog 56 ty56 := ⟨by kernel_rfl, ⟨Try.t56, by kernel_rfl, by kernel_rfl, by kernel_rfl, _, rfl, by kernel_rfl⟩, ⟨by kernel_rfl, by kernel_rfl⟩, fun h => absurd h (by decide)⟩
theorem tyOk57 : TyOk Try.prog 57 ty57 := ⟨by kernel_rfl, ⟨Try.t57, by kernel_rfl, by kernel_rfl, by kernel_rfl, _, rfl, by kernel_rfl⟩, ⟨by kernel_rfl, by kernel_rfl⟩, fun h => absurd h (by decide)⟩
theorem tyOk58 : TyOk Try.prog 58 ty58 := ⟨by kernel_rfl, ⟨Try.t58, by kernel_rfl, by kernel_rfl, by kernel_rfl, _, rfl, by kernel_rfl⟩, ⟨by kernel_rfl, by kernel_rfl⟩, fun h => absurd h (by decide)⟩
theorem tyOk59 : TyOk Try.prog 59 ty59 := ⟨by kernel_rfl, ⟨Try.t59, by kernel_rfl, by kernel_rfl, by kernel_rfl, _, rfl, by kernel_rfl⟩, ⟨by kernel_rfl, by kernel_rfl⟩, fun h => absurd h (by decide)⟩
theorem tyOk60 : TyOk Try.prog 60 ty60 := ⟨by kernel_rfl, ⟨Try.t60, by kernel_rfl, by kernel_rfl, by kernel_rfl, _, rfl, by kernel_rfl⟩, ⟨by kernel_rfl, by kernel_rfl⟩, fun h => absurd h (by decide)⟩
theorem tyOk61 : TyOk Try.prog 61 ty61 := ⟨by kernel_rfl, ⟨Try.t61, by kernel_rfl, by kernel_rfl, by kernel_rfl, _, rfl, by kernel_rfl⟩, ⟨by kernel_rfl, by kernel_rfl⟩, fun h => absurd h (by decide)⟩
theorem tyOk62 : TyOk Try.prog 62 ty62 := ⟨by kernel_rfl, ⟨Try.t62, by kernel_rfl, by kernel_rfl, by kernel_rfl, _, rfl, by kernel_rfl⟩, ⟨by kernel_rfl, by kernel_rfl⟩, fun _ => ⟨Try.stoodInHeld62, Try.eqGuardType62⟩⟩
theorem tyOk63 : TyOk Try.prog 63 ty63 := ⟨by kernel_rfl, ⟨Try.t63, by kernel_rfl, by kernel_rfl, by kernel_rfl, _, rfl, by kernel_rfl⟩, ⟨by kernel_rfl, by kernel_rfl⟩, fun _ => ⟨Try.stoodInHeld63, Try.eqGuardType63⟩⟩
theorem tyOk64 : TyOk Try.prog 64 ty64 := ⟨by kernel_rfl, ⟨Try.t64, by kernel_rfl, by kernel_rfl, by kernel_rfl, _, rfl, by kernel_rfl⟩, ⟨by kernel_rfl, by kernel_rfl⟩, fun h => absurd h (by decide)⟩
theorem tyOk65 : TyOk Try.prog 65 ty65 := ⟨by kernel_rfl, ⟨Try.t65, by kernel_rfl, by kernel_rfl, by kernel_rfl, _, rfl, by kernel_rfl⟩, ⟨by kernel_rfl, by kernel_rfl⟩, fun h => absurd h (by decide)⟩
theorem tyOk66 : TyOk Try.prog 66 ty66 := ⟨by kernel_rfl, ⟨Try.t66, by kernel_rfl, by kernel_rfl, by kernel_rfl, _, rfl, by kernel_rfl⟩, ⟨by kernel_rfl, by kernel_rfl⟩, fun h => absurd h (by decide)⟩
theorem tyOk68 : TyOk Try.prog 68 ty68 := ⟨by kernel_rfl, ⟨Try.t68, by kernel_rfl, by kernel_rfl, by kernel_rfl, _, rfl, by kernel_rfl⟩, ⟨by kernel_rfl, by kernel_rfl⟩, fun h => absurd h (by decide)⟩
theorem tyOk69 : TyOk Try.prog 69 ty69 := ⟨by kernel_rfl, ⟨Try.t69, by kernel_rfl, by kernel_rfl, by kernel_rfl, _, rfl, by kernel_rfl⟩, ⟨by kernel_rfl, by kernel_rfl⟩, fun h => absurd h (by decide)⟩
theorem tyOk71 : TyOk Try.prog 71 ty71 := ⟨by kernel_rfl, ⟨Try.t71, by kernel_rfl, by kernel_rfl, by kernel_rfl, _, rfl, by kernel_rfl⟩, ⟨by kernel_rfl, by kernel_rfl⟩, fun h => absurd h (by decide)⟩
theorem tyOk72 : TyOk Try.prog 72 ty72 := ⟨by kernel_rfl, ⟨Try.t72, by kernel_rfl, by kernel_rfl, by kernel_rfl, _, rfl, by kernel_rfl⟩, ⟨by kernel_rfl, by kernel_rfl⟩, fun h => absurd h (by decide)⟩
theorem tyOk73 : TyOk Try.prog 73 ty73 := ⟨by kernel_rfl, ⟨Try.t73, by kernel_rfl, by kernel_rfl, by kernel_rfl, _, rfl, by kernel_rfl⟩, ⟨by kernel_rfl, by kernel_rfl⟩, fun h => absurd h (by decide)⟩
theorem tyOk74 : TyOk Try.prog 74 ty74 := ⟨by kernel_rfl, ⟨Try.t74, by kernel_rfl, by kernel_rfl, by kernel_rfl, _, rfl, by kernel_rfl⟩, ⟨by kernel_rfl, by kernel_rfl⟩, fun h => absurd h (by decide)⟩
theorem tyOk75 : TyOk Try.prog 75 ty75 := ⟨by kernel_rfl, ⟨Try.t75, by kernel_rfl, by kernel_rfl, by kernel_rfl, _, rfl, by kernel_rfl⟩, ⟨by kernel_rfl, by kernel_rfl⟩, fun h => absurd h (by decide)⟩
theorem tyOk77 : TyOk Try.prog 77 ty77 := ⟨by kernel_rfl, ⟨Try.t77, by kernel_rfl, by kernel_rfl, by kernel_rfl, _, rfl, by kernel_rfl⟩, ⟨by kernel_rfl, by kernel_rfl⟩, fun h => absurd h (by decide)⟩
theorem tyOk79 : TyOk Try.prog 79 ty79 := ⟨by kernel_rfl, ⟨Try.t79, by kernel_rfl, by kernel_rfl, by kernel_rfl, _, rfl, by kernel_rfl⟩, ⟨by kernel_rfl, by kernel_rfl⟩, fun h => absurd h (by decide)⟩
theorem tyOk80 : TyOk Try.prog 80 ty80 := ⟨by kernel_rfl, ⟨Try.t80, by kernel_rfl, by kernel_rfl, by kernel_rfl, _, rfl, by kernel_rfl⟩, ⟨by kernel_rfl, by kernel_rfl⟩, fun h => absurd h (by decide)⟩
theorem tyOk81 : TyOk Try.prog 81 ty81 := ⟨by kernel_rfl, ⟨Try.t81, by kernel_rfl, by kernel_rfl, by kernel_rfl, _, rfl, by kernel_rfl⟩, ⟨by kernel_rfl, by kernel_rfl⟩, fun h => absurd h (by decide)⟩
theorem tyOk82 : TyOk Try.prog 82 ty82 := ⟨by kernel_rfl, ⟨Try.t82, by kernel_rfl, by kernel_rfl, by kernel_rfl, _, rfl, by kernel_rfl⟩, ⟨by kernel_rfl, by kernel_rfl⟩, fun h => absurd h (by decide)⟩
theorem tyOk83 : TyOk Try.prog 83 ty83 := ⟨by kernel_rfl, ⟨Try.t83, by kernel_rfl, by kernel_rfl, by kernel_rfl, _, rfl, by kernel_rfl⟩, ⟨by kernel_rfl, by kernel_rfl⟩, fun h => absurd h (by decide)⟩
theorem tyOk84 : TyOk Try.prog 84 ty84 := ⟨by kernel_rfl, ⟨Try.t84, by kernel_rfl, by kernel_rfl, by kernel_rfl, _, rfl, by kernel_rfl⟩, ⟨by kernel_rfl, by kernel_rfl⟩, fun h => absurd h (by decide)⟩
theorem tyOk85 : TyOk Try.prog 85 ty85 := ⟨by kernel_rfl, ⟨Try.t85, by kernel_rfl, by kernel_rfl, by kernel_rfl, _, rfl, by kernel_rfl⟩, ⟨by kernel_rfl, by kernel_rfl⟩, fun h => absurd h (by decide)⟩
theorem tyOk86 : TyOk Try.prog 86 ty86 := ⟨by kernel_rfl, ⟨Try.t86, by kernel_rfl, by kernel_rfl, by kernel_rfl, _, rfl, by kernel_rfl⟩, ⟨by kernel_rfl, by kernel_rfl⟩, fun h => absurd h (by decide)⟩
theorem tyOk87 : TyOk Try.prog 87 ty87 := ⟨by kernel_rfl, ⟨Try.t87, by kernel_rfl, by kernel_rfl, by kernel_rfl, _, rfl, by kernel_rfl⟩, ⟨by kernel_rfl, by kernel_rfl⟩, fun h => absurd h (by decide)⟩
theorem tyOk88 : TyOk Try.prog 88 ty88 := ⟨by kernel_rfl, ⟨Try.t88, by kernel_rfl, by kernel_rfl, by kernel_rfl, _, rfl, by kernel_rfl⟩, ⟨by kernel_rfl, by kernel_rfl⟩, fun h => absurd h (by decide)⟩
theorem tyOk89 : TyOk Try.prog 89 ty89 := ⟨by kernel_rfl, ⟨Try.t89, by kernel_rfl, by kernel_rfl, by kernel_rfl, _, rfl, by kernel_rfl⟩, ⟨by kernel_rfl, by kernel_rfl⟩, fun h => absurd h (by decide)⟩
theorem tyOk90 : TyOk Try.prog 90 ty90 := ⟨by kernel_rfl, ⟨Try.t90, by kernel_rfl, by kernel_rfl, by kernel_rfl, _, rfl, by kernel_rfl⟩, ⟨by kernel_rfl, by kernel_rfl⟩, fun h => absurd h (by decide)⟩
theorem tyOk91 : TyOk Try.prog 91 ty91 := ⟨by kernel_rfl, ⟨Try.t91, by kernel_rfl, by kernel_rfl, by kernel_rfl, _, rfl, by kernel_rfl⟩, ⟨by kernel_rfl, by kernel_rfl⟩, fun h => absurd h (by decide)⟩
theorem tyOk92 : TyOk Try.prog 92 ty92 := ⟨by kernel_rfl, ⟨Try.t92, by kernel_rfl, by kernel_rfl, by kernel_rfl, _, rfl, by kernel_rfl⟩, ⟨by kernel_rfl, by kernel_rfl⟩, fun h => absurd h (by decide)⟩
theorem tyOk93 : TyOk Try.prog 93 ty93 := ⟨by kernel_rfl, ⟨Try.t93, by kernel_rfl, by kernel_rfl, by kernel_rfl, _, rfl, by kernel_rfl⟩, ⟨by kernel_rfl, by kernel_rfl⟩, fun h => absurd h (by decide)⟩
theorem tyOk94 : TyOk Try.prog 94 ty94 := ⟨by kernel_rfl, ⟨Try.t94, by kernel_rfl, by kernel_rfl, by kernel_rfl, _, rfl, by kernel_rfl⟩, ⟨by kernel_rfl, by kernel_rfl⟩, fun h => absurd h (by decide)⟩
theorem tyOk95 : TyOk Try.prog 95 ty95 := ⟨by kernel_rfl, ⟨Try.t95, by kernel_rfl, by kernel_rfl, by kernel_rfl, _, rfl, by kernel_rfl⟩, ⟨by kernel_rfl, by kernel_rfl⟩, fun h => absurd h (by decide)⟩
theorem tyOk96 : TyOk Try.prog 96 ty96 := ⟨by kernel_rfl, ⟨Try.t96, by kernel_rfl, by kernel_rfl, by kernel_rfl, _, rfl, by kernel_rfl⟩, ⟨by kernel_rfl, by kernel_rfl⟩, fun h => absurd h (by decide)⟩
theorem tyOk97 : TyOk Try.prog 97 ty97 := ⟨by kernel_rfl, ⟨Try.t97, by kernel_rfl, by kernel_rfl, by kernel_rfl, _, rfl, by kernel_rfl⟩, ⟨by kernel_rfl, by kernel_rfl⟩, fun h => absurd h (by decide)⟩
theorem tyOk98 : TyOk Try.prog 98 ty98 := ⟨by kernel_rfl, ⟨Try.t98, by kernel_rfl, by kernel_rfl, by kernel_rfl, _, rfl, by kernel_rfl⟩, ⟨by kernel_rfl, by kernel_rfl⟩, fun h => absurd h (by decide)⟩
theorem tyOk99 : TyOk Try.prog 99 ty99 := ⟨by kernel_rfl, ⟨Try.t99, by kernel_rfl, by kernel_rfl, by kernel_rfl, _, rfl, by kernel_rfl⟩, ⟨by kernel_rfl, by kernel_rfl⟩, fun h => absurd h (by decide)⟩
theorem tyOk100 : TyOk Try.prog 100 ty100 := ⟨by kernel_rfl, ⟨Try.t100, by kernel_rfl, by kernel_rfl, by kernel_rfl, _, rfl, by kernel_rfl⟩, ⟨by kernel_rfl, by kernel_rfl⟩, fun _ => ⟨Try.stoodInHeld100, Try.eqGuardType100⟩⟩
theorem tyOk101 : TyOk Try.prog 101 ty101 := ⟨by kernel_rfl, ⟨Try.t101, by kernel_rfl, by kernel_rfl, by kernel_rfl, _, rfl, by kernel_rfl⟩, ⟨by kernel_rfl, by kernel_rfl⟩, fun _ => ⟨Try.stoodInHeld101, Try.eqGuardType101⟩⟩
theorem tyOk102 : TyOk Try.prog 102 ty102 := ⟨by kernel_rfl, ⟨Try.t102, by kernel_rfl, by kernel_rfl, by kernel_rfl, _, rfl, by kernel_rfl⟩, ⟨by kernel_rfl, by kernel_rfl⟩, fun h => absurd h (by decide)⟩
theorem tyOk103 : TyOk Try.prog 103 ty103 := ⟨by kernel_rfl, ⟨Try.t103, by kernel_rfl, by kernel_rfl, by kernel_rfl, _, rfl, by kernel_rfl⟩, ⟨by kernel_rfl, by kernel_rfl⟩, fun _ => ⟨Try.stoodInHeld103, Try.eqGuardType103⟩⟩
theorem tyOk104 : TyOk Try.prog 104 ty104 := ⟨by kernel_rfl, ⟨Try.t104, by kernel_rfl, by kernel_rfl, by kernel_rfl, _, rfl, by kernel_rfl⟩, ⟨by kernel_rfl, by kernel_rfl⟩, fun _ => ⟨Try.stoodInHeld104, Try.eqGuardType104⟩⟩
theorem tyOk105 : TyOk Try.prog 105 ty105 := ⟨by kernel_rfl, ⟨Try.t105, by kernel_rfl, by kernel_rfl, by kernel_rfl, _, rfl, by kernel_rfl⟩, ⟨by kernel_rfl, by kernel_rfl⟩, fun h => absurd h (by decide)⟩
theorem tyOk106 : TyOk Try.prog 106 ty106 := ⟨by kernel_rfl, ⟨Try.t106, by kernel_rfl, by kernel_rfl, by kernel_rfl, _, rfl, by kernel_rfl⟩, ⟨by kernel_rfl, by kernel_rfl⟩, fun h => absurd h (by decide)⟩
theorem tyOk107 : TyOk Try.prog 107 ty107 := ⟨by kernel_rfl, ⟨Try.t107, by kernel_rfl, by kernel_rfl, by kernel_rfl, _, rfl, by kernel_rfl⟩, ⟨by kernel_rfl, by kernel_rfl⟩, fun h => absurd h (by decide)⟩
theorem tyOk109 : TyOk Try.prog 109 ty109 := ⟨by kernel_rfl, ⟨Try.t109, by kernel_rfl, by kernel_rfl, by kernel_rfl, _, rfl, by kernel_rfl⟩, ⟨by kernel_rfl, by kernel_rfl⟩, fun h => absurd h (by decide)⟩
theorem tyOk111 : TyOk Try.prog 111 ty111 := ⟨by kernel_rfl, ⟨Try.t111, by kernel_rfl, by kernel_rfl, by kernel_rfl, _, rfl, by kernel_rfl⟩, ⟨by kernel_rfl, by kernel_rfl⟩, fun h => absurd h (by decide)⟩
theorem tyOk112 : TyOk Try.prog 112 ty112 := ⟨by kernel_rfl, ⟨Try.t112, by kernel_rfl, by kernel_rfl, by kernel_rfl, _, rfl, by kernel_rfl⟩, ⟨by kernel_rfl, by kernel_rfl⟩, fun h => absurd h (by decide)⟩
theorem tyOk114 : TyOk Try.prog 114 ty114 := ⟨by kernel_rfl, ⟨Try.t114, by kernel_rfl, by kernel_rfl, by kernel_rfl, _, rfl, by kernel_rfl⟩, ⟨by kernel_rfl, by kernel_rfl⟩, fun h => absurd h (by decide)⟩
theorem tyOk115 : TyOk Try.prog 115 ty115 := ⟨by kernel_rfl, ⟨Try.t115, by kernel_rfl, by kernel_rfl, by kernel_rfl, _, rfl, by kernel_rfl⟩, ⟨by kernel_rfl, by kernel_rfl⟩, fun h => absurd h (by decide)⟩
theorem tyOk116 : TyOk Try.prog 116 ty116 := ⟨by kernel_rfl, ⟨Try.t116, by kernel_rfl, by kernel_rfl, by kernel_rfl, _, rfl, by kernel_rfl⟩, ⟨by kernel_rfl, by kernel_rfl⟩, fun h => absurd h (by decide)⟩
theorem tyOk117 : TyOk Try.prog 117 ty117 := ⟨by kernel_rfl, ⟨Try.t117, by kernel_rfl, by kernel_rfl, by kernel_rfl, _, rfl, by kernel_rfl⟩, ⟨by kernel_rfl, by kernel_rfl⟩, fun h => absurd h (by decide)⟩
theorem tyOk118 : TyOk Try.prog 118 ty118 := ⟨by kernel_rfl, ⟨Try.t118, by kernel_rfl, by kernel_rfl, by kernel_rfl, _, rfl, by kernel_rfl⟩, ⟨by kernel_rfl, by kernel_rfl⟩, fun h => absurd h (by decide)⟩
theorem tyOk119 : TyOk Try.prog 119 ty119 := ⟨by kernel_rfl, ⟨Try.t119, by kernel_rfl, by kernel_rfl, by kernel_rfl, _, rfl, by kernel_rfl⟩, ⟨by kernel_rfl, by kernel_rfl⟩, fun _ => ⟨Try.stoodInHeld119, Try.eqGuardType119⟩⟩
theorem tyOk120 : TyOk Try.prog 120 ty120 := ⟨by kernel_rfl, ⟨Try.t120, by kernel_rfl, by kernel_rfl, by kernel_rfl, _, rfl, by kernel_rfl⟩, ⟨by kernel_rfl, by kernel_rfl⟩, fun _ => ⟨Try.stoodInHeld120, Try.eqGuardType120⟩⟩
theorem tyOk121 : TyOk Try.prog 121 ty121 := ⟨by kernel_rfl, ⟨Try.t121, by kernel_rfl, by kernel_rfl, by kernel_rfl, _, rfl, by kernel_rfl⟩, ⟨by kernel_rfl, by kernel_rfl⟩, fun h => absurd h (by decide)⟩
theorem tyOk122 : TyOk Try.prog 122 ty122 := ⟨by kernel_rfl, ⟨Try.t122, by kernel_rfl, by kernel_rfl, by kernel_rfl, _, rfl, by kernel_rfl⟩, ⟨by kernel_rfl, by kernel_rfl⟩, fun h => absurd h (by decide)⟩
theorem tyOk123 : TyOk Try.prog 123 ty123 := ⟨by kernel_rfl, ⟨Try.t123, by kernel_rfl, by kernel_rfl, by kernel_rfl, _, rfl, by kernel_rfl⟩, ⟨by kernel_rfl, by kernel_rfl⟩, fun h => absurd h (by decide)⟩
theorem tyOk125 : TyOk Try.prog 125 ty125 := ⟨by kernel_rfl, ⟨Try.t125, by kernel_rfl, by kernel_rfl, by kernel_rfl, _, rfl, by kernel_rfl⟩, ⟨by kernel_rfl, by kernel_rfl⟩, fun h => absurd h (by decide)⟩
theorem tyOk126 : TyOk Try.prog 126 ty126 := ⟨by kernel_rfl, ⟨Try.t126, by kernel_rfl, by kernel_rfl, by kernel_rfl, _, rfl, by kernel_rfl⟩, ⟨by kernel_rfl, by kernel_rfl⟩, fun h => absurd h (by decide)⟩
theorem tyOk127 : TyOk Try.prog 127 ty127 := ⟨by kernel_rfl, ⟨Try.t127, by kernel_rfl, by kernel_rfl, by kernel_rfl, _, rfl, by kernel_rfl⟩, ⟨by kernel_rfl, by kernel_rfl⟩, fun h => absurd h (by decide)⟩
theorem tyOk128 : TyOk Try.prog 128 ty128 := ⟨by kernel_rfl, ⟨Try.t128, by kernel_rfl, by kernel_rfl, by kernel_rfl, _, rfl, by kernel_rfl⟩, ⟨by kernel_rfl, by kernel_rfl⟩, fun h => absurd h (by decide)⟩
theorem tyOk129 : TyOk Try.prog 129 ty129 := ⟨by kernel_rfl, ⟨Try.t129, by kernel_rfl, by kernel_rfl, by kernel_rfl, _, rfl, by kernel_rfl⟩, ⟨by kernel_rfl, by kernel_rfl⟩, fun _ => ⟨Try.stoodInHeld129, Try.eqGuardType129⟩⟩
theorem tyOk130 : TyOk Try.prog 130 ty130 := ⟨by kernel_rfl, ⟨Try.t130, by kernel_rfl, by kernel_rfl, by kernel_rfl, _, rfl, by kernel_rfl⟩, ⟨by kernel_rfl, by kernel_rfl⟩, fun _ => ⟨Try.stoodInHeld130, Try.eqGuardType130⟩⟩
theorem tyOk131 : TyOk Try.prog 131 ty131 := ⟨by kernel_rfl, ⟨Try.t131, by kernel_rfl, by kernel_rfl, by kernel_rfl, _, rfl, by kernel_rfl⟩, ⟨by kernel_rfl, by kernel_rfl⟩, fun h => absurd h (by decide)⟩
theorem tyOk132 : TyOk Try.prog 132 ty132 := ⟨by kernel_rfl, ⟨Try.t132, by kernel_rfl, by kernel_rfl, by kernel_rfl, _, rfl, by kernel_rfl⟩, ⟨by kernel_rfl, by kernel_rfl⟩, fun h => absurd h (by decide)⟩
theorem tyOk133 : TyOk Try.prog 133 ty133 := ⟨by kernel_rfl, ⟨Try.t133, by kernel_rfl, by kernel_rfl, by kernel_rfl, _, rfl, by kernel_rfl⟩, ⟨by kernel_rfl, by kernel_rfl⟩, fun h => absurd h (by decide)⟩
theorem tyOk134 : TyOk Try.prog 134 ty134 := ⟨by kernel_rfl, ⟨Try.t134, by kernel_rfl, by kernel_rfl, by kernel_rfl, _, rfl, by kernel_rfl⟩, ⟨by kernel_rfl, by kernel_rfl⟩, fun h => absurd h (by decide)⟩
theorem tyOk135 : TyOk Try.prog 135 ty135 := ⟨by kernel_rfl, ⟨Try.t135, by kernel_rfl, by kernel_rfl, by kernel_rfl, _, rfl, by kernel_rfl⟩, ⟨by kernel_rfl, by kernel_rfl⟩, fun h => absurd h (by decide)⟩
theorem tyOk136 : TyOk Try.prog 136 ty136 := ⟨by kernel_rfl, ⟨Try.t136, by kernel_rfl, by kernel_rfl, by kernel_rfl, _, rfl, by kernel_rfl⟩, ⟨by kernel_rfl, by kernel_rfl⟩, fun h => absurd h (by decide)⟩
theorem tyOk137 : TyOk Try.prog 137 ty137 := ⟨by kernel_rfl, ⟨Try.t137, by kernel_rfl, by kernel_rfl, by kernel_rfl, _, rfl, by kernel_rfl⟩, ⟨by kernel_rfl, by kernel_rfl⟩, fun h => absurd h (by decide)⟩
theorem tyOk138 : TyOk Try.prog 138 ty138 := ⟨by kernel_rfl, ⟨Try.t138, by kernel_rfl, by kernel_rfl, by kernel_rfl, _, rfl, by kernel_rfl⟩, ⟨by kernel_rfl, by kernel_rfl⟩, fun h => absurd h (by decide)⟩
theorem tyOk139 : TyOk Try.prog 139 ty139 := ⟨by kernel_rfl, ⟨Try.t139, by kernel_rfl, by kernel_rfl, by kernel_rfl, _, rfl, by kernel_rfl⟩, ⟨by kernel_rfl, by kernel_rfl⟩, fun h => absurd h (by decide)⟩
theorem tyOk141 : TyOk Try.prog 141 ty141 := ⟨by kernel_rfl, ⟨Try.t141, by kernel_rfl, by kernel_rfl, by kernel_rfl, _, rfl, by kernel_rfl⟩, ⟨by kernel_rfl, by kernel_rfl⟩, fun h => absurd h (by decide)⟩
theorem tyOk142 : TyOk Try.prog 142 ty142 := ⟨by kernel_rfl, ⟨Try.t142, by kernel_rfl, by kernel_rfl, by kernel_rfl, _, rfl, by kernel_rfl⟩, ⟨by kernel_rfl, by kernel_rfl⟩, fun h => absurd h (by decide)⟩
theorem tyOk143 : TyOk Try.prog 143 ty143 := ⟨by kernel_rfl, ⟨Try.t143, by kernel_rfl, by kernel_rfl, by kernel_rfl, _, rfl, by kernel_rfl⟩, ⟨by kernel_rfl, by kernel_rfl⟩, fun h => absurd h (by decide)⟩
theorem tyOk144 : TyOk Try.prog 144 ty144 := ⟨by kernel_rfl, ⟨Try.t144, by kernel_rfl, by kernel_rfl, by kernel_rfl, _, rfl, by kernel_rfl⟩, ⟨by kernel_rfl, by kernel_rfl⟩, fun h => absurd h (by decide)⟩
theorem tyOk145 : TyOk Try.prog 145 ty145 := ⟨by kernel_rfl, ⟨Try.t145, by kernel_rfl, by kernel_rfl, by kernel_rfl, _, rfl, by kernel_rfl⟩, ⟨by kernel_rfl, by kernel_rfl⟩, fun h => absurd h (by decide)⟩
theorem tyOk146 : TyOk Try.prog 146 ty146 := ⟨by kernel_rfl, ⟨Try.t146, by kernel_rfl, by kernel_rfl, by kernel_rfl, _, rfl, by kernel_rfl⟩, ⟨by kernel_rfl, by kernel_rfl⟩, fun h => absurd h (by decide)⟩
theorem tyOk147 : TyOk Try.prog 147 ty147 := ⟨by kernel_rfl, ⟨Try.t147, by kernel_rfl, by kernel_rfl, by kernel_rfl, _, rfl, by kernel_rfl⟩, ⟨by kernel_rfl, by kernel_rfl⟩, fun h => absurd h (by decide)⟩
theorem tyOk148 : TyOk Try.prog 148 ty148 := ⟨by kernel_rfl, ⟨Try.t148, by kernel_rfl, by kernel_rfl, by kernel_rfl, _, rfl, by kernel_rfl⟩, ⟨by kernel_rfl, by kernel_rfl⟩, fun h => absurd h (by decide)⟩
theorem tyOk149 : TyOk Try.prog 149 ty149 := ⟨by kernel_rfl, ⟨Try.t149, by kernel_rfl, by kernel_rfl, by kernel_rfl, _, rfl, by kernel_rfl⟩, ⟨by kernel_rfl, by kernel_rfl⟩, fun h => absurd h (by decide)⟩
theorem tyOk150 : TyOk Try.prog 150 ty150 := ⟨by kernel_rfl, ⟨Try.t150, by kernel_rfl, by kernel_rfl, by kernel_rfl, _, rfl, by kernel_rfl⟩, ⟨by kernel_rfl, by kernel_rfl⟩, fun h => absurd h (by decide)⟩
theorem tyOk151 : TyOk Try.prog 151 ty151 := ⟨by kernel_rfl, ⟨Try.t151, by kernel_rfl, by kernel_rfl, by kernel_rfl, _, rfl, by kernel_rfl⟩, ⟨by kernel_rfl, by kernel_rfl⟩, fun h => absurd h (by decide)⟩
theorem tyOk152 : TyOk Try.prog 152 ty152 := ⟨by kernel_rfl, ⟨Try.t152, by kernel_rfl, by kernel_rfl, by kernel_rfl, _, rfl, by kernel_rfl⟩, ⟨by kernel_rfl, by kernel_rfl⟩, fun h => absurd h (by decide)⟩
theorem tyOk153 : TyOk Try.prog 153 ty153 := ⟨by kernel_rfl, ⟨Try.t153, by kernel_rfl, by kernel_rfl, by kernel_rfl, _, rfl, by kernel_rfl⟩, ⟨by kernel_rfl, by kernel_rfl⟩, fun h => absurd h (by decide)⟩
theorem tyOk154 : TyOk Try.prog 154 ty154 := ⟨by kernel_rfl, ⟨Try.t154, by kernel_rfl, by kernel_rfl, by kernel_rfl, _, rfl, by kernel_rfl⟩, ⟨by kernel_rfl, by kernel_rfl⟩, fun _ => ⟨Try.stoodInHeld154, Try.eqGuardType154⟩⟩
theorem tyOk155 : TyOk Try.prog 155 ty155 := ⟨by kernel_rfl, ⟨Try.t155, by kernel_rfl, by kernel_rfl, by kernel_rfl, _, rfl, by kernel_rfl⟩, ⟨by kernel_rfl, by kernel_rfl⟩, fun _ => ⟨Try.stoodInHeld155, Try.eqGuardType155⟩⟩
theorem tyOk156 : TyOk Try.prog 156 ty156 := ⟨by kernel_rfl, ⟨Try.t156, by kernel_rfl, by kernel_rfl, by kernel_rfl, _, rfl, by kernel_rfl⟩, ⟨by kernel_rfl, by kernel_rfl⟩, fun h => absurd h (by decide)⟩
theorem tyOk157 : TyOk Try.prog 157 ty157 := ⟨by kernel_rfl, ⟨Try.t157, by kernel_rfl, by kernel_rfl, by kernel_rfl, _, rfl, by kernel_rfl⟩, ⟨by kernel_rfl, by kernel_rfl⟩, fun h => absurd h (by decide)⟩
theorem tyOk158 : TyOk Try.prog 158 ty158 := ⟨by kernel_rfl, ⟨Try.t158, by kernel_rfl, by kernel_rfl, by kernel_rfl, _, rfl, by kernel_rfl⟩, ⟨by kernel_rfl, by kernel_rfl⟩, fun h => absurd h (by decide)⟩
theorem tyOk160 : TyOk Try.prog 160 ty160 := ⟨by kernel_rfl, ⟨Try.t160, by kernel_rfl, by kernel_rfl, by kernel_rfl, _, rfl, by kernel_rfl⟩, ⟨by kernel_rfl, by kernel_rfl⟩, fun h => absurd h (by decide)⟩
theorem tyOk161 : TyOk Try.prog 161 ty161 := ⟨by kernel_rfl, ⟨Try.t161, by kernel_rfl, by kernel_rfl, by kernel_rfl, _, rfl, by kernel_rfl⟩, ⟨by kernel_rfl, by kernel_rfl⟩, fun h => absurd h (by decide)⟩
theorem tyOk162 : TyOk Try.prog 162 ty162 := ⟨by kernel_rfl, ⟨Try.t162, by kernel_rfl, by kernel_rfl, by kernel_rfl, _, rfl, by kernel_rfl⟩, ⟨by kernel_rfl, by kernel_rfl⟩, fun h => absurd h (by decide)⟩
theorem tyOk163 : TyOk Try.prog 163 ty163 := ⟨by kernel_rfl, ⟨Try.t163, by kernel_rfl, by kernel_rfl, by kernel_rfl, _, rfl, by kernel_rfl⟩, ⟨by kernel_rfl, by kernel_rfl⟩, fun h => absurd h (by decide)⟩
theorem tyOk164 : TyOk Try.prog 164 ty164 := ⟨by kernel_rfl, ⟨Try.t164, by kernel_rfl, by kernel_rfl, by kernel_rfl, _, rfl, by kernel_rfl⟩, ⟨by kernel_rfl, by kernel_rfl⟩, fun h => absurd h (by decide)⟩
theorem tyOk166 : TyOk Try.prog 166 ty166 := ⟨by kernel_rfl, ⟨Try.t166, by kernel_rfl, by kernel_rfl, by kernel_rfl, _, rfl, by kernel_rfl⟩, ⟨by kernel_rfl, by kernel_rfl⟩, fun h => absurd h (by decide)⟩
theorem tyOk167 : TyOk Try.prog 167 ty167 := ⟨by kernel_rfl, ⟨Try.t167, by kernel_rfl, by kernel_rfl, by kernel_rfl, _, rfl, by kernel_rfl⟩, ⟨by kernel_rfl, by kernel_rfl⟩, fun h => absurd h (by decide)⟩
theorem tyOk168 : TyOk Try.prog 168 ty168 := ⟨by kernel_rfl, ⟨Try.t168, by kernel_rfl, by kernel_rfl, by kernel_rfl, _, rfl, by kernel_rfl⟩, ⟨by kernel_rfl, by kernel_rfl⟩, fun h => absurd h (by decide)⟩
theorem tyOk169 : TyOk Try.prog 169 ty169 := ⟨by kernel_rfl, ⟨Try.t169, by kernel_rfl, by kernel_rfl, by kernel_rfl, _, rfl, by kernel_rfl⟩, ⟨by kernel_rfl, by kernel_rfl⟩, fun h => absurd h (by decide)⟩
theorem tyOk170 : TyOk Try.prog 170 ty170 := ⟨by kernel_rfl, ⟨Try.t170, by kernel_rfl, by kernel_rfl, by kernel_rfl, _, rfl, by kernel_rfl⟩, ⟨by kernel_rfl, by kernel_rfl⟩, fun h => absurd h (by decide)⟩
theorem tyOk171 : TyOk Try.prog 171 ty171 := ⟨by kernel_rfl, ⟨Try.t171, by kernel_rfl, by kernel_rfl, by kernel_rfl, _, rfl, by kernel_rfl⟩, ⟨by kernel_rfl, by kernel_rfl⟩, fun h => absurd h (by decide)⟩
theorem tyOk172 : TyOk Try.prog 172 ty172 := ⟨by kernel_rfl, ⟨Try.t172, by kernel_rfl, by kernel_rfl, by kernel_rfl, _, rfl, by kernel_rfl⟩, ⟨by kernel_rfl, by kernel_rfl⟩, fun h => absurd h (by decide)⟩
theorem tyOk173 : TyOk Try.prog 173 ty173 := ⟨by kernel_rfl, ⟨Try.t173, by kernel_rfl, by kernel_rfl, by kernel_rfl, _, rfl, by kernel_rfl⟩, ⟨by kernel_rfl, by kernel_rfl⟩, fun h => absurd h (by decide)⟩
theorem tyOk174 : TyOk Try.prog 174 ty174 := ⟨by kernel_rfl, ⟨Try.t174, by kernel_rfl, by kernel_rfl, by kernel_rfl, _, rfl, by kernel_rfl⟩, ⟨by kernel_rfl, by kernel_rfl⟩, fun h => absurd h (by decide)⟩
theorem tyOk175 : TyOk Try.prog 175 ty175 := ⟨by kernel_rfl, ⟨Try.t175, by kernel_rfl, by kernel_rfl, by kernel_rfl, _, rfl, by kernel_rfl⟩, ⟨by kernel_rfl, by kernel_rfl⟩, fun h => absurd h (by decide)⟩
theorem tyOk176 : TyOk Try.prog 176 ty176 := ⟨by kernel_rfl, ⟨Try.t176, by kernel_rfl, by kernel_rfl, by kernel_rfl, _, rfl, by kernel_rfl⟩, ⟨by kernel_rfl, by kernel_rfl⟩, fun h => absurd h (by decide)⟩
theorem tyOk177 : TyOk Try.prog 177 ty177 := ⟨by kernel_rfl, ⟨Try.t177, by kernel_rfl, by kernel_rfl, by kernel_rfl, _, rfl, by kernel_rfl⟩, ⟨by kernel_rfl, by kernel_rfl⟩, fun h => absurd h (by decide)⟩
theorem tyOk178 : TyOk Try.prog 178 ty178 := ⟨by kernel_rfl, ⟨Try.t178, by kernel_rfl, by kernel_rfl, by kernel_rfl, _, rfl, by kernel_rfl⟩, ⟨by kernel_rfl, by kernel_rfl⟩, fun h => absurd h (by decide)⟩
theorem tyOk179 : TyOk Try.prog 179 ty179 := ⟨by kernel_rfl, ⟨Try.t179, by kernel_rfl, by kernel_rfl, by kernel_rfl, _, rfl, by kernel_rfl⟩, ⟨by kernel_rfl, by kernel_rfl⟩, fun h => absurd h (by decide)⟩
theorem tyOk180 : TyOk Try.prog 180 ty180 := ⟨by kernel_rfl, ⟨Try.t180, by kernel_rfl, by kernel_rfl, by kernel_rfl, _, rfl, by kernel_rfl⟩, ⟨by kernel_rfl, by kernel_rfl⟩, fun h => absurd h (by decide)⟩
theorem tyOk181 : TyOk Try.prog 181 ty181 := ⟨by kernel_rfl, ⟨Try.t181, by kernel_rfl, by kernel_rfl, by kernel_rfl, _, rfl, by kernel_rfl⟩, ⟨by kernel_rfl, by kernel_rfl⟩, fun h => absurd h (by decide)⟩
theorem tyOk182 : TyOk Try.prog 182 ty182 := ⟨by kernel_rfl, ⟨Try.t182, by kernel_rfl, by kernel_rfl, by kernel_rfl, _, rfl, by kernel_rfl⟩, ⟨by kernel_rfl, by kernel_rfl⟩, fun h => absurd h (by decide)⟩
theorem tyOk183 : TyOk Try.prog 183 ty183 := ⟨by kernel_rfl, ⟨Try.t183, by kernel_rfl, by kernel_rfl, by kernel_rfl, _, rfl, by kernel_rfl⟩, ⟨by kernel_rfl, by kernel_rfl⟩, fun h => absurd h (by decide)⟩
theorem tyOk184 : TyOk Try.prog 184 ty184 := ⟨by kernel_rfl, ⟨Try.t184, by kernel_rfl, by kernel_rfl, by kernel_rfl, _, rfl, by kernel_rfl⟩, ⟨by kernel_rfl, by kernel_rfl⟩, fun h => absurd h (by decide)⟩
theorem tyOk187 : TyOk Try.prog 187 ty187 := ⟨by kernel_rfl, ⟨Try.t187, by kernel_rfl, by kernel_rfl, by kernel_rfl, _, rfl, by kernel_rfl⟩, ⟨by kernel_rfl, by kernel_rfl⟩, fun h => absurd h (by decide)⟩
theorem tyOk190 : TyOk Try.prog 190 ty190 := ⟨by kernel_rfl, ⟨Try.t190, by kernel_rfl, by kernel_rfl, by kernel_rfl, _, rfl, by kernel_rfl⟩, ⟨by kernel_rfl, by kernel_rfl⟩, fun h => absurd h (by decide)⟩
theorem tyOk191 : TyOk Try.prog 191 ty191 := ⟨by kernel_rfl, ⟨Try.t191, by kernel_rfl, by kernel_rfl, by kernel_rfl, _, rfl, by kernel_rfl⟩, ⟨by kernel_rfl, by kernel_rfl⟩, fun h => absurd h (by decide)⟩
theorem tyOk192 : TyOk Try.prog 192 ty192 := ⟨by kernel_rfl, ⟨Try.t192, by kernel_rfl, by kernel_rfl, by kernel_rfl, _, rfl, by kernel_rfl⟩, ⟨by kernel_rfl, by kernel_rfl⟩, fun h => absurd h (by decide)⟩
theorem tyOk193 : TyOk Try.prog 193 ty193 := ⟨by kernel_rfl, ⟨Try.t193, by kernel_rfl, by kernel_rfl, by kernel_rfl, _, rfl, by kernel_rfl⟩, ⟨by kernel_rfl, by kernel_rfl⟩, fun h => absurd h (by decide)⟩
theorem tyOk194 : TyOk Try.prog 194 ty194 := ⟨by kernel_rfl, ⟨Try.t194, by kernel_rfl, by kernel_rfl, by kernel_rfl, _, rfl, by kernel_rfl⟩, ⟨by kernel_rfl, by kernel_rfl⟩, fun h => absurd h (by decide)⟩
theorem tyOk195 : TyOk Try.prog 195 ty195 := ⟨by kernel_rfl, ⟨Try.t195, by kernel_rfl, by kernel_rfl, by kernel_rfl, _, rfl, by kernel_rfl⟩, ⟨by kernel_rfl, by kernel_rfl⟩, fun h => absurd h (by decide)⟩
theorem tyOk196 : TyOk Try.prog 196 ty196 := ⟨by kernel_rfl, ⟨Try.t196, by kernel_rfl, by kernel_rfl, by kernel_rfl, _, rfl, by kernel_rfl⟩, ⟨by kernel_rfl, by kernel_rfl⟩, fun h => absurd h (by decide)⟩
theorem tabOk : TabOk Try.prog tab := ⟨⟨tyOk1, tyOk2, tyOk3, tyOk4, tyOk5, tyOk6, tyOk9, tyOk10, tyOk11, tyOk12, tyOk15, tyOk16, tyOk17, tyOk21, tyOk22, tyOk23, tyOk24, tyOk25, tyOk26, tyOk27, tyOk28, tyOk29, tyOk30, tyOk31, tyOk32, tyOk33, tyOk34, tyOk35, tyOk37, tyOk39, tyOk40, tyOk41, tyOk42, tyOk43, tyOk44, tyOk45, tyOk46, tyOk47, tyOk48, tyOk49, tyOk50, tyOk51, tyOk52, tyOk54, tyOk56, tyOk57, tyOk58, tyOk59, tyOk60, tyOk61, tyOk62, tyOk63, tyOk64, tyOk65, tyOk66, tyOk68, tyOk69, tyOk71, tyOk72, tyOk73, tyOk74, tyOk75, tyOk77, tyOk79, tyOk80, tyOk81, tyOk82, tyOk83, tyOk84, tyOk85, tyOk86, tyOk87, tyOk88, tyOk89, tyOk90, tyOk91, tyOk92, tyOk93, tyOk94, tyOk95, tyOk96, tyOk97, tyOk98, tyOk99, tyOk100, tyOk101, tyOk102, tyOk103, tyOk104, tyOk105, tyOk106, tyOk107, tyOk109, tyOk111, tyOk112, tyOk114, tyOk115, tyOk116, tyOk117, tyOk118, tyOk119, tyOk120, tyOk121, tyOk122, tyOk123, tyOk125, tyOk126, tyOk127, tyOk128, tyOk129, tyOk130, tyOk131, tyOk132, tyOk133, tyOk134, tyOk135, tyOk136, tyOk137, tyOk138, tyOk139, tyOk141, tyOk142, tyOk143, tyOk144, tyOk145, tyOk146, tyOk147, tyOk148, tyOk149, tyOk150, tyOk151, tyOk152, tyOk153, tyOk154, tyOk155, tyOk156, tyOk157, tyOk158, tyOk160, tyOk161, tyOk162, tyOk163, tyOk164, tyOk166, tyOk167, tyOk168, tyOk169, tyOk170, tyOk171, tyOk172, tyOk173, tyOk174, tyOk175, tyOk176, tyOk177, tyOk178, tyOk179, tyOk180, tyOk181, tyOk182, tyOk183, tyOk184, tyOk187, tyOk190, tyOk191, tyOk192, tyOk193, tyOk194, tyOk195, tyOk196, trivial⟩, by kernel_rfl⟩
theorem mixed : Try.prog.follows .mixedOrders = true := by kernel_rfl
end Go.Proofs.Ytocppeifkjdeiaa.Mv

/- A machine for proofs, steps that show by themselves what they need. Under no condition. -/
namespace Go.Proofs.Ytocppeifkjdeiaa.Mv
open Go
set_option linter.unusedSimpArgs false
set_option linter.unusedVariables false
theorem sd {p : Prop} (h : p := by first | exact rfl | decide | omega | assumption | (simp only [BS_len, List.length_map, List.length_take, List.length_drop, List.length_append, List.length_cons, List.length_nil, List.length_set]; omega) | (refine ⟨rfl, ?_⟩; first | omega | (simp only [BS_len, List.length_map, List.length_take, List.length_drop, List.length_append, List.length_cons, List.length_nil, List.length_set]; omega)) | (simp only [BS_len, List.length_map, List.length_take, List.length_drop, List.length_append, List.length_cons, List.length_nil, List.length_set] at *; omega)) : p := h
section
variable {P : Program} {tab : Tab} {N : Nat} {D : St → Prop} {F : Fx P tab N D} {ops : Array Oper} {k : List It} {l : List Oper} {T : List (Nat × AV)} {B : List (Nat × Ob)}
  {d ty : Nat} {pos : String} {after : Array Edge} {op : Op} {acc : List Rec} {tg : List Nat}
  {t u : TypeId} {i j iu : TyI} {e : TypeId} {x y : Operand} {rows ys : List (List AV)} {l' : List UInt8}
theorem AO.sBox {cs : List AV} (hc : Wf ((⟨T, B⟩ : St).val x).cells cs := by (repeat constructor); done) (hfit : (fitsIn ((⟨T, B⟩ : St).val x).cells.length ((⟨T, B⟩ : St).val x) && ((⟨T, B⟩ : St).val x).cells.all AV.leaf) = true := by exact rfl) (hf : (⟨T, B⟩ : St).freeB d = true := by exact rfl) (h : AO F ops k l ⟨(d, .ptr d 0) :: T, (d, .bx cs) :: B⟩) : AO F ops k (⟨some d, .box t x, ty, pos, after, none⟩ :: l) ⟨T, B⟩ :=
  AO.box hc hfit hf h
theorem AO.sAlloc {cs : List AV} (hi : look tab t = some i := by exact rfl) (hc : Wf (i.zero.map ofVal) cs := by (repeat constructor); done) (hf : (⟨T, B⟩ : St).freeB d = true := by exact rfl) (h : AO F ops k l ⟨(d, .ptr d 0) :: T, (d, .bx cs) :: B⟩) : AO F ops k (⟨some d, .alloc t, ty, pos, after, none⟩ :: l) ⟨T, B⟩ :=
  AO.alloc hi hc hf h
theorem AR.sAlloc {cs : List AV} (hi : look tab t = some i := by exact rfl) (hc : Wf (i.zero.map ofVal) cs := by (repeat constructor); done) (hf : (⟨T, B⟩ : St).freeB d = true := by exact rfl) (ht : LE (tagsAt ⟨T, B⟩ ⟨some d, .alloc t, ty, pos, after, none⟩) tg := by (repeat (first | exact LE.nil | apply LE.cons)); done) (h : AR F ops k l ⟨(d, .ptr d 0) :: T, (d, .bx cs) :: B⟩ (⟨tg, ⟨[(d, .ptr d 0)], [(d, .bx cs)], [d]⟩⟩ :: acc)) : AR F ops k (⟨some d, .alloc t, ty, pos, after, none⟩ :: l) ⟨T, B⟩ acc :=
  AR.alloc hi hc hf ht h
theorem AO.sStore {g off : Nat} {cs cs' : List AV} (hi : look tab t = some i := by exact rfl) (hx : (⟨T, B⟩ : St).val x = .ptr g off := by exact rfl) (hg : (⟨T, B⟩ : St).ob g = .bx cs := by exact rfl) (hc : Wf (splice cs off ((⟨T, B⟩ : St).val y).cells) cs' := by (repeat constructor); done) (hfit : (fitsIn i.size ((⟨T, B⟩ : St).val y) && ((⟨T, B⟩ : St).val y).cells.all AV.leaf && decide (off + i.size ≤ cs.length)) = true := by exact rfl) (h : AO F ops k l ⟨T, (g, .bx cs') :: B⟩) : AO F ops k (⟨none, .store t x y, ty, pos, after, none⟩ :: l) ⟨T, B⟩ :=
  AO.store hi hx hg hc hfit h
theorem AR.sStore {g off : Nat} {cs cs' : List AV} (hi : look tab t = some i := by exact rfl) (hx : (⟨T, B⟩ : St).val x = .ptr g off := by exact rfl) (hg : (⟨T, B⟩ : St).ob g = .bx cs := by exact rfl) (hc : Wf (splice cs off ((⟨T, B⟩ : St).val y).cells) cs' := by (repeat constructor); done) (hfit : (fitsIn i.size ((⟨T, B⟩ : St).val y) && ((⟨T, B⟩ : St).val y).cells.all AV.leaf && decide (off + i.size ≤ cs.length)) = true := by exact rfl) (ht : LE (tagsAt ⟨T, B⟩ ⟨none, .store t x y, ty, pos, after, none⟩) tg := by (repeat (first | exact LE.nil | apply LE.cons)); done) (h : AR F ops k l ⟨T, (g, .bx cs') :: B⟩ (⟨tg, ⟨[], [(g, .bx cs')], []⟩⟩ :: acc)) : AR F ops k (⟨none, .store t x y, ty, pos, after, none⟩ :: l) ⟨T, B⟩ acc :=
  AR.store hi hx hg hc hfit ht h
theorem AO.sStB {g off : Nat} {b : UInt8} {n : Int} (hi : look tab t = some i := by exact rfl) (hs : i.size = 1 := by exact rfl) (hx : (⟨T, B⟩ : St).val x = .ptr g off := by exact rfl) (hg : (⟨T, B⟩ : St).ob g = .bx (cellsB l') := by exact rfl) (hy : (⟨T, B⟩ : St).val y = .i .u8 n := by exact rfl) (hn : n = (b.toNat : Int) := by first | exact rfl | exact xorW _ _ | exact wrapB _) (ho : off < l'.length := by first | exact rfl | decide | omega | assumption | (simp only [BS_len, List.length_map, List.length_take, List.length_drop, List.length_append, List.length_cons, List.length_nil, List.length_set]; omega) | (refine ⟨rfl, ?_⟩; first | omega | (simp only [BS_len, List.length_map, List.length_take, List.length_drop, List.length_append, List.length_cons, List.length_nil, List.length_set]; omega)) | (simp only [BS_len, List.length_map, List.length_take, List.length_drop, List.length_append, List.length_cons, List.length_nil, List.length_set] at *; omega)) (h : AO F ops k l ⟨T, (g, .bx (cellsB (l'.set off b))) :: B⟩) : AO F ops k (⟨none, .store t x y, ty, pos, after, none⟩ :: l) ⟨T, B⟩ :=
  AO.storeB hi hs hx hg hy hn ho h
theorem AO.sAdd {a b : Int} {z : TypeId} (hx : (⟨T, B⟩ : St).val x = .i .i64 a := by exact rfl) (hy : (⟨T, B⟩ : St).val y = .i .i64 b := by exact rfl) (hr : -9223372036854775808 ≤ a + b ∧ a + b ≤ 9223372036854775807 := by first | exact rfl | decide | omega | assumption | (simp only [BS_len, List.length_map, List.length_take, List.length_drop, List.length_append, List.length_cons, List.length_nil, List.length_set]; omega) | (refine ⟨rfl, ?_⟩; first | omega | (simp only [BS_len, List.length_map, List.length_take, List.length_drop, List.length_append, List.length_cons, List.length_nil, List.length_set]; omega)) | (simp only [BS_len, List.length_map, List.length_take, List.length_drop, List.length_append, List.length_cons, List.length_nil, List.length_set] at *; omega)) (h : AO F ops k l ⟨(d, .i .i64 (a + b)) :: T, B⟩) : AO F ops k (⟨some d, .binOp .add t x y z, ty, pos, after, none⟩ :: l) ⟨T, B⟩ :=
  AO.add hx hy hr h
theorem AO.sSub {a b : Int} {z : TypeId} (hx : (⟨T, B⟩ : St).val x = .i .i64 a := by exact rfl) (hy : (⟨T, B⟩ : St).val y = .i .i64 b := by exact rfl) (hr : -9223372036854775808 ≤ a - b ∧ a - b ≤ 9223372036854775807 := by first | exact rfl | decide | omega | assumption | (simp only [BS_len, List.length_map, List.length_take, List.length_drop, List.length_append, List.length_cons, List.length_nil, List.length_set]; omega) | (refine ⟨rfl, ?_⟩; first | omega | (simp only [BS_len, List.length_map, List.length_take, List.length_drop, List.length_append, List.length_cons, List.length_nil, List.length_set]; omega)) | (simp only [BS_len, List.length_map, List.length_take, List.length_drop, List.length_append, List.length_cons, List.length_nil, List.length_set] at *; omega)) (h : AO F ops k l ⟨(d, .i .i64 (a - b)) :: T, B⟩) : AO F ops k (⟨some d, .binOp .sub t x y z, ty, pos, after, none⟩ :: l) ⟨T, B⟩ :=
  AO.sub hx hy hr h
theorem AR.sSub {a b : Int} {z : TypeId} (hx : (⟨T, B⟩ : St).val x = .i .i64 a := by exact rfl) (hy : (⟨T, B⟩ : St).val y = .i .i64 b := by exact rfl) (hr : -9223372036854775808 ≤ a - b ∧ a - b ≤ 9223372036854775807 := by first | exact rfl | decide | omega | assumption | (simp only [BS_len, List.length_map, List.length_take, List.length_drop, List.length_append, List.length_cons, List.length_nil, List.length_set]; omega) | (refine ⟨rfl, ?_⟩; first | omega | (simp only [BS_len, List.length_map, List.length_take, List.length_drop, List.length_append, List.length_cons, List.length_nil, List.length_set]; omega)) | (simp only [BS_len, List.length_map, List.length_take, List.length_drop, List.length_append, List.length_cons, List.length_nil, List.length_set] at *; omega)) (ht : LE (tagsAt ⟨T, B⟩ ⟨some d, .binOp .sub t x y z, ty, pos, after, none⟩) tg := by (repeat (first | exact LE.nil | apply LE.cons)); done) (h : AR F ops k l ⟨(d, .i .i64 (a - b)) :: T, B⟩ (⟨tg, ⟨[(d, .i .i64 (a - b))], [], []⟩⟩ :: acc)) : AR F ops k (⟨some d, .binOp .sub t x y z, ty, pos, after, none⟩ :: l) ⟨T, B⟩ acc :=
  AR.sub hx hy hr ht h
theorem AO.sBytes {l1 : List UInt8} {ie : TyI} {t' : TypeId} (hi : look tab t = some i := by exact rfl) (hj : look tab t' = some j := by exact rfl) (hx : (⟨T, B⟩ : St).val x = .s l1 := by exact rfl) (h1 : i.d = .string := by exact rfl) (h2 : j.d = .slice e := by exact rfl) (h3 : look tab e = some ie := by exact rfl) (h4 : ie.d = .int .u8 := by exact rfl) (hl : l1.length ≤ 137438953472 := by first | exact rfl | decide | omega | assumption | (simp only [BS_len, List.length_map, List.length_take, List.length_drop, List.length_append, List.length_cons, List.length_nil, List.length_set]; omega) | (refine ⟨rfl, ?_⟩; first | omega | (simp only [BS_len, List.length_map, List.length_take, List.length_drop, List.length_append, List.length_cons, List.length_nil, List.length_set]; omega)) | (simp only [BS_len, List.length_map, List.length_take, List.length_drop, List.length_append, List.length_cons, List.length_nil, List.length_set] at *; omega)) (hf : (⟨T, B⟩ : St).freeB d = true := by exact rfl) (h : AO F ops k l ⟨(d, .bsl d 0 l1.length 1) :: T, (d, .bx (cellsB l1)) :: B⟩) : AO F ops k (⟨some d, .convert t t' x, ty, pos, after, none⟩ :: l) ⟨T, B⟩ :=
  AO.bytes hi hj hx h1 h2 h3 h4 hl hf h
theorem AO.sStr {ie : TyI} {t' : TypeId} {g off n : Nat} (hi : look tab t = some i := by exact rfl) (hj : look tab t' = some j := by exact rfl) (hx : (⟨T, B⟩ : St).val x = .bsl g off n 1 := by exact rfl) (hg : (⟨T, B⟩ : St).ob g = .bx (cellsB l') := by exact rfl) (h1 : i.d = .slice e := by exact rfl) (h2 : j.d = .string := by exact rfl) (h3 : look tab e = some ie := by exact rfl) (h4 : ie.d = .int .u8 := by exact rfl) (hn : off + n ≤ l'.length := by first | exact rfl | decide | omega | assumption | (simp only [BS_len, List.length_map, List.length_take, List.length_drop, List.length_append, List.length_cons, List.length_nil, List.length_set]; omega) | (refine ⟨rfl, ?_⟩; first | omega | (simp only [BS_len, List.length_map, List.length_take, List.length_drop, List.length_append, List.length_cons, List.length_nil, List.length_set]; omega)) | (simp only [BS_len, List.length_map, List.length_take, List.length_drop, List.length_append, List.length_cons, List.length_nil, List.length_set] at *; omega)) (h : AO F ops k l ⟨(d, .s ((l'.drop off).take n)) :: T, B⟩) : AO F ops k (⟨some d, .convert t t' x, ty, pos, after, none⟩ :: l) ⟨T, B⟩ :=
  AO.str hi hj hx hg h1 h2 h3 h4 hn h
theorem AO.sP {v v' : AV} (hp : pop tab ⟨T, B⟩ op = some v := by exact rfl) (hv : Wh v v' := by (repeat constructor); done) (h : AO F ops k l ⟨(d, v') :: T, B⟩) : AO F ops k (⟨some d, op, ty, pos, after, none⟩ :: l) ⟨T, B⟩ :=
  AO.p hp hv h
theorem AR.sP {v v' : AV} (hp : pop tab ⟨T, B⟩ op = some v := by exact rfl) (hv : Wh v v' := by (repeat constructor); done) (ht : LE (tagsAt ⟨T, B⟩ ⟨some d, op, ty, pos, after, none⟩) tg := by (repeat (first | exact LE.nil | apply LE.cons)); done) (h : AR F ops k l ⟨(d, v') :: T, B⟩ (⟨tg, ⟨[(d, v')], [], []⟩⟩ :: acc)) : AR F ops k (⟨some d, op, ty, pos, after, none⟩ :: l) ⟨T, B⟩ acc :=
  AR.p hp hv ht h
theorem AO.sPi {v v' : AV} {p : Prop} [Decidable p] (hp : pop tab ⟨T, B⟩ op = if p then some v else none := by exact rfl) (hv : Wh v v' := by (repeat constructor); done) (hq : p := by first | exact rfl | decide | omega | assumption | (simp only [BS_len, List.length_map, List.length_take, List.length_drop, List.length_append, List.length_cons, List.length_nil, List.length_set]; omega) | (refine ⟨rfl, ?_⟩; first | omega | (simp only [BS_len, List.length_map, List.length_take, List.length_drop, List.length_append, List.length_cons, List.length_nil, List.length_set]; omega)) | (simp only [BS_len, List.length_map, List.length_take, List.length_drop, List.length_append, List.length_cons, List.length_nil, List.length_set] at *; omega)) (h : AO F ops k l ⟨(d, v') :: T, B⟩) : AO F ops k (⟨some d, op, ty, pos, after, none⟩ :: l) ⟨T, B⟩ :=
  AO.pi hp hv hq h
theorem AO.sLoadB {g off : Nat} (hi : look tab t = some i := by exact rfl) (ha : i.agg = false := by exact rfl) (hx : (⟨T, B⟩ : St).val x = .ptr g off := by exact rfl) (hg : (⟨T, B⟩ : St).ob g = .bx (cellsB l') := by exact rfl) (ho : off < l'.length := by first | exact rfl | decide | omega | assumption | (simp only [BS_len, List.length_map, List.length_take, List.length_drop, List.length_append, List.length_cons, List.length_nil, List.length_set]; omega) | (refine ⟨rfl, ?_⟩; first | omega | (simp only [BS_len, List.length_map, List.length_take, List.length_drop, List.length_append, List.length_cons, List.length_nil, List.length_set]; omega)) | (simp only [BS_len, List.length_map, List.length_take, List.length_drop, List.length_append, List.length_cons, List.length_nil, List.length_set] at *; omega)) (h : AO F ops k l ⟨(d, .i .u8 ((l'.getD off 0).toNat : Int)) :: T, B⟩) : AO F ops k (⟨some d, .load t x, ty, pos, after, none⟩ :: l) ⟨T, B⟩ :=
  AO.loadB hi ha hx hg ho h
theorem AO.sBuildT {ps : Array (Nat × Operand)} {len : Nat} {b : List UInt8} (hi : look tab t = some i := by exact rfl) (hd : i.d = .slice e := by exact rfl) (hj : look tab e = some j := by exact rfl) (h1 : ps.toList.map (·.1) = List.range len := by exact rfl) (h2 : ps.toList.all (fun p => fitsIn j.size ((⟨T, B⟩ : St).val p.2) && ((⟨T, B⟩ : St).val p.2).cells.all AV.shut) = true := by exact rfl) (h3 : (decide (len * j.size ≤ 16777216) && decide (0 < j.size)) = true := by exact rfl) (hr : Wr (ps.toList.map fun p => ((⟨T, B⟩ : St).val p.2).cells.map AV.close) rows := by (repeat (first | exact Wr.nil | (apply Wr.cons; focus ((repeat constructor); done)))); done) (hs : TB rows b := by (repeat (first | exact TB.nil | apply TB.app | exact TB.bs | apply TB.one | apply TB.wrap | (apply TB.lit; focus (decide)))); done) (hf : (⟨T, B⟩ : St).freeB d = true := by exact rfl) (h : AO F ops k l ⟨(d, .gr d e j.size (BS b)) :: T, (d, .gw (BS b).length) :: B⟩) : AO F ops k (⟨some d, .buildSlice t len ps, ty, pos, after, none⟩ :: l) ⟨T, B⟩ :=
  AO.buildT hi hd hj h1 h2 h3 hr hs hf h
theorem AO.sBuildS {ps : Array (Nat × Operand)} {len : Nat} (hi : look tab t = some i := by exact rfl) (hd : i.d = .slice e := by exact rfl) (hj : look tab e = some j := by exact rfl) (h1 : ps.toList.map (·.1) = List.range len := by exact rfl) (h2 : ps.toList.all (fun p => fitsIn j.size ((⟨T, B⟩ : St).val p.2) && ((⟨T, B⟩ : St).val p.2).cells.all AV.shut) = true := by exact rfl) (h3 : (decide (len * j.size ≤ 16777216) && decide (0 < j.size)) = true := by exact rfl) (hr : Wr (ps.toList.map fun p => ((⟨T, B⟩ : St).val p.2).cells.map AV.close) rows := by (repeat (first | exact Wr.nil | (apply Wr.cons; focus ((repeat constructor); done)))); done) (hf : (⟨T, B⟩ : St).freeB d = true := by exact rfl) (h : AO F ops k l ⟨(d, .gr d e j.size rows) :: T, (d, .gw rows.length) :: B⟩) : AO F ops k (⟨some d, .buildSlice t len ps, ty, pos, after, none⟩ :: l) ⟨T, B⟩ :=
  AO.buildS hi hd hj h1 h2 h3 hr hf h
theorem AO.sGrow {g n : Nat} (hi : look tab t = some i := by exact rfl) (hd : i.d = .slice e := by exact rfl) (hj : look tab e = some j := by exact rfl) (hu : look tab u = some iu := by exact rfl) (hiu : isApp iu = true := by exact rfl) (hx : (⟨T, B⟩ : St).val x = .gr g e j.size rows := by exact rfl) (hg : (⟨T, B⟩ : St).ob g = .gw n := by exact rfl) (hn : n = rows.length := by exact rfl) (hy : Ap j.size ((⟨T, B⟩ : St).val y) ys := by first | exact Ap.gr | exact Ap.s rfl | exact Ap.sh | exact Ap.nil) (hz : (decide (0 < j.size) && decide (0 < j.bytes) && decide (j.bytes ≤ 1024)) = true := by exact rfl) (hb : rows.length + ys.length ≤ 137438953472 := by first | exact rfl | decide | omega | assumption | (simp only [BS_len, List.length_map, List.length_take, List.length_drop, List.length_append, List.length_cons, List.length_nil, List.length_set]; omega) | (refine ⟨rfl, ?_⟩; first | omega | (simp only [BS_len, List.length_map, List.length_take, List.length_drop, List.length_append, List.length_cons, List.length_nil, List.length_set]; omega)) | (simp only [BS_len, List.length_map, List.length_take, List.length_drop, List.length_append, List.length_cons, List.length_nil, List.length_set] at *; omega)) (h : AO F ops k l ⟨(d, .gr g e j.size (rows ++ ys)) :: T, (g, .gw (rows ++ ys).length) :: B⟩) : AO F ops k (⟨some d, .call { callee := .builtin .append, args := #[x, y], argTypes := #[t, u] }, ty, pos, after, none⟩ :: l) ⟨T, B⟩ :=
  AO.grow hi hd hj hu hiu hx hg hn hy hz hb h
theorem AO.sIxN {α : Type} [Inhabited α] {f : α → List AV} {ls : List α} {kk : IntKind} {m : Nat} {v : AV} (hi : look tab t = some i := by exact rfl) (hd : i.d = .slice e := by exact rfl) (hj : look tab e = some j := by exact rfl) (hv : (⟨T, B⟩ : St).val x = v := by exact rfl) (hr : rowsOf v = some (j.size, ls.map f) := by exact rfl) (hb : (match v with | .bsl .. => false | _ => true) = true := by exact rfl) (hy : (⟨T, B⟩ : St).val y = .i kk (m : Int) := by exact rfl) (hm : m < ls.length := by first | exact rfl | decide | omega | assumption | (simp only [BS_len, List.length_map, List.length_take, List.length_drop, List.length_append, List.length_cons, List.length_nil, List.length_set]; omega) | (refine ⟨rfl, ?_⟩; first | omega | (simp only [BS_len, List.length_map, List.length_take, List.length_drop, List.length_append, List.length_cons, List.length_nil, List.length_set]; omega)) | (simp only [BS_len, List.length_map, List.length_take, List.length_drop, List.length_append, List.length_cons, List.length_nil, List.length_set] at *; omega)) (h : AO F ops k l ⟨(d, .pel (f (ls.getD m default))) :: T, B⟩) : AO F ops k (⟨some d, .indexAddr t x y, ty, pos, after, none⟩ :: l) ⟨T, B⟩ :=
  AO.ixN hi hd hj hv hr hb hy hm h
theorem AR.sIxN {α : Type} [Inhabited α] {f : α → List AV} {ls : List α} {kk : IntKind} {m : Nat} {v : AV} (hi : look tab t = some i := by exact rfl) (hd : i.d = .slice e := by exact rfl) (hj : look tab e = some j := by exact rfl) (hv : (⟨T, B⟩ : St).val x = v := by exact rfl) (hr : rowsOf v = some (j.size, ls.map f) := by exact rfl) (hb : (match v with | .bsl .. => false | _ => true) = true := by exact rfl) (hy : (⟨T, B⟩ : St).val y = .i kk (m : Int) := by exact rfl) (hm : m < ls.length := by first | exact rfl | decide | omega | assumption | (simp only [BS_len, List.length_map, List.length_take, List.length_drop, List.length_append, List.length_cons, List.length_nil, List.length_set]; omega) | (refine ⟨rfl, ?_⟩; first | omega | (simp only [BS_len, List.length_map, List.length_take, List.length_drop, List.length_append, List.length_cons, List.length_nil, List.length_set]; omega)) | (simp only [BS_len, List.length_map, List.length_take, List.length_drop, List.length_append, List.length_cons, List.length_nil, List.length_set] at *; omega)) (ht : LE (tagsAt ⟨T, B⟩ ⟨some d, .indexAddr t x y, ty, pos, after, none⟩) tg := by (repeat (first | exact LE.nil | apply LE.cons)); done) (h : AR F ops k l ⟨(d, .pel (f (ls.getD m default))) :: T, B⟩ (⟨tg, ⟨[(d, .pel (f (ls.getD m default)))], [], []⟩⟩ :: acc)) : AR F ops k (⟨some d, .indexAddr t x y, ty, pos, after, none⟩ :: l) ⟨T, B⟩ acc :=
  AR.ixN hi hd hj hv hr hb hy hm ht h
theorem AO.sIx {α : Type} [Inhabited α] {f : α → List AV} {ls : List α} {kk : IntKind} {m : Int} {v : AV} (hi : look tab t = some i := by exact rfl) (hd : i.d = .slice e := by exact rfl) (hj : look tab e = some j := by exact rfl) (hv : (⟨T, B⟩ : St).val x = v := by exact rfl) (hr : rowsOf v = some (j.size, ls.map f) := by exact rfl) (hb : (match v with | .bsl .. => false | _ => true) = true := by exact rfl) (hy : (⟨T, B⟩ : St).val y = .i kk m := by exact rfl) (hm : 0 ≤ m ∧ m < (ls.length : Int) := by first | exact rfl | decide | omega | assumption | (simp only [BS_len, List.length_map, List.length_take, List.length_drop, List.length_append, List.length_cons, List.length_nil, List.length_set]; omega) | (refine ⟨rfl, ?_⟩; first | omega | (simp only [BS_len, List.length_map, List.length_take, List.length_drop, List.length_append, List.length_cons, List.length_nil, List.length_set]; omega)) | (simp only [BS_len, List.length_map, List.length_take, List.length_drop, List.length_append, List.length_cons, List.length_nil, List.length_set] at *; omega)) (h : AO F ops k l ⟨(d, .pel (f (ls.getD m.toNat default))) :: T, B⟩) : AO F ops k (⟨some d, .indexAddr t x y, ty, pos, after, none⟩ :: l) ⟨T, B⟩ :=
  AO.ix hi hd hj hv hr hb hy hm h
theorem AR.sIx {α : Type} [Inhabited α] {f : α → List AV} {ls : List α} {kk : IntKind} {m : Int} {v : AV} (hi : look tab t = some i := by exact rfl) (hd : i.d = .slice e := by exact rfl) (hj : look tab e = some j := by exact rfl) (hv : (⟨T, B⟩ : St).val x = v := by exact rfl) (hr : rowsOf v = some (j.size, ls.map f) := by exact rfl) (hb : (match v with | .bsl .. => false | _ => true) = true := by exact rfl) (hy : (⟨T, B⟩ : St).val y = .i kk m := by exact rfl) (hm : 0 ≤ m ∧ m < (ls.length : Int) := by first | exact rfl | decide | omega | assumption | (simp only [BS_len, List.length_map, List.length_take, List.length_drop, List.length_append, List.length_cons, List.length_nil, List.length_set]; omega) | (refine ⟨rfl, ?_⟩; first | omega | (simp only [BS_len, List.length_map, List.length_take, List.length_drop, List.length_append, List.length_cons, List.length_nil, List.length_set]; omega)) | (simp only [BS_len, List.length_map, List.length_take, List.length_drop, List.length_append, List.length_cons, List.length_nil, List.length_set] at *; omega)) (ht : LE (tagsAt ⟨T, B⟩ ⟨some d, .indexAddr t x y, ty, pos, after, none⟩) tg := by (repeat (first | exact LE.nil | apply LE.cons)); done) (h : AR F ops k l ⟨(d, .pel (f (ls.getD m.toNat default))) :: T, B⟩ (⟨tg, ⟨[(d, .pel (f (ls.getD m.toNat default)))], [], []⟩⟩ :: acc)) : AR F ops k (⟨some d, .indexAddr t x y, ty, pos, after, none⟩ :: l) ⟨T, B⟩ acc :=
  AR.ix hi hd hj hv hr hb hy hm ht h
theorem AO.sSl {v v' : AV} {p : Prop} [Decidable p] {lo hi : Option Operand} (hp : pop tab ⟨T, B⟩ (.slice t x lo hi none) = if p then some v else none := by exact rfl) (hv : Sv v v' := by first | exact Sv.bd | exact Sv.btd | exact Sv.bt | exact Sv.md | exact Sv.mtd | exact Sv.mt | exact Sv.s | exact Sv.sh) (hq : p := by first | exact rfl | decide | omega | assumption | (simp only [BS_len, List.length_map, List.length_take, List.length_drop, List.length_append, List.length_cons, List.length_nil, List.length_set]; omega) | (refine ⟨rfl, ?_⟩; first | omega | (simp only [BS_len, List.length_map, List.length_take, List.length_drop, List.length_append, List.length_cons, List.length_nil, List.length_set]; omega)) | (simp only [BS_len, List.length_map, List.length_take, List.length_drop, List.length_append, List.length_cons, List.length_nil, List.length_set] at *; omega)) (h : AO F ops k l ⟨(d, v') :: T, B⟩) : AO F ops k (⟨some d, .slice t x lo hi none, ty, pos, after, none⟩ :: l) ⟨T, B⟩ :=
  AO.sl hp hv hq h
theorem AR.sSl {v v' : AV} {p : Prop} [Decidable p] {lo hi : Option Operand} (hp : pop tab ⟨T, B⟩ (.slice t x lo hi none) = if p then some v else none := by exact rfl) (hv : Sv v v' := by first | exact Sv.bd | exact Sv.btd | exact Sv.bt | exact Sv.md | exact Sv.mtd | exact Sv.mt | exact Sv.s | exact Sv.sh) (hq : p := by first | exact rfl | decide | omega | assumption | (simp only [BS_len, List.length_map, List.length_take, List.length_drop, List.length_append, List.length_cons, List.length_nil, List.length_set]; omega) | (refine ⟨rfl, ?_⟩; first | omega | (simp only [BS_len, List.length_map, List.length_take, List.length_drop, List.length_append, List.length_cons, List.length_nil, List.length_set]; omega)) | (simp only [BS_len, List.length_map, List.length_take, List.length_drop, List.length_append, List.length_cons, List.length_nil, List.length_set] at *; omega)) (ht : LE (tagsAt ⟨T, B⟩ ⟨some d, .slice t x lo hi none, ty, pos, after, none⟩) tg := by (repeat (first | exact LE.nil | apply LE.cons)); done) (h : AR F ops k l ⟨(d, v') :: T, B⟩ (⟨tg, ⟨[(d, v')], [], []⟩⟩ :: acc)) : AR F ops k (⟨some d, .slice t x lo hi none, ty, pos, after, none⟩ :: l) ⟨T, B⟩ acc :=
  AR.sl hp hv hq ht h
theorem AO.sCall {fx : Operand} {xs : Array Operand} {ts : Array TypeId} {f : FuncId} {caps args asL : List AV} {res : AV} (hc : (⟨T, B⟩ : St).val fx = .clo f caps := by exact rfl) (ha : Wf (xs.toList.map (⟨T, B⟩ : St).val ++ caps) asL := by (repeat constructor); done) (hl : LeL asL args := by (repeat (first | exact LeL.nil | (refine LeL.cons (Le.refl _) ?_) | (refine LeL.cons Le.gr ?_) | (refine LeL.cons Le.nil ?_) | (refine LeL.cons Le.shc ?_))); done) (hg : Good P f args [] res []) (hr : res.refs = [] := by exact rfl) (h : AO F ops k l ⟨(d, res) :: T, B⟩) : AO F ops k (⟨some d, .call { callee := .value fx, args := xs, argTypes := ts }, ty, pos, after, none⟩ :: l) ⟨T, B⟩ :=
  AO.call hc ha hg hl hr h
theorem AR.sCall {fx : Operand} {xs : Array Operand} {ts : Array TypeId} {f : FuncId} {caps args asL : List AV} {res : AV} (hc : (⟨T, B⟩ : St).val fx = .clo f caps := by exact rfl) (ha : Wf (xs.toList.map (⟨T, B⟩ : St).val ++ caps) asL := by (repeat constructor); done) (hl : LeL asL args := by (repeat (first | exact LeL.nil | (refine LeL.cons (Le.refl _) ?_) | (refine LeL.cons Le.gr ?_) | (refine LeL.cons Le.nil ?_) | (refine LeL.cons Le.shc ?_))); done) (hg : Good P f args [] res []) (hr : res.refs = [] := by exact rfl) (ht : LE (tagsAt ⟨T, B⟩ ⟨some d, .call { callee := .value fx, args := xs, argTypes := ts }, ty, pos, after, none⟩) tg := by (repeat (first | exact LE.nil | apply LE.cons)); done) (h : AR F ops k l ⟨(d, res) :: T, B⟩ (⟨tg, ⟨[(d, res)], [], []⟩⟩ :: acc)) : AR F ops k (⟨some d, .call { callee := .value fx, args := xs, argTypes := ts }, ty, pos, after, none⟩ :: l) ⟨T, B⟩ acc :=
  AR.call hc ha hg hl hr ht h
theorem AO.sCall1 {fx : Operand} {xs : Array Operand} {ts : Array TypeId} {f : FuncId} {caps args asL : List AV} {res : AV} {ob : Ob} (hc : (⟨T, B⟩ : St).val fx = .clo f caps := by exact rfl) (ha : Wf (xs.toList.map (⟨T, B⟩ : St).val ++ caps) asL := by (repeat constructor); done) (hl : LeL asL args := by (repeat (first | exact LeL.nil | (refine LeL.cons (Le.refl _) ?_) | (refine LeL.cons Le.gr ?_) | (refine LeL.cons Le.nil ?_) | (refine LeL.cons Le.shc ?_))); done) (hg : Good P f args [] res [(d, ob)]) (hr : (res.refs.all (· == d)) = true := by exact rfl) (hb : ob.refs = [] := by first | exact rfl | exact cellsB_refs _) (hf : (⟨T, B⟩ : St).freeB d = true := by exact rfl) (h : AO F ops k l ⟨(d, res) :: T, (d, ob) :: B⟩) : AO F ops k (⟨some d, .call { callee := .value fx, args := xs, argTypes := ts }, ty, pos, after, none⟩ :: l) ⟨T, B⟩ :=
  AO.call1 hc ha hg hl hr hb hf h
theorem AO.sgt {g : Nat × Bool} {q : Bool} (hw : wants ops ⟨T, B⟩ ⟨some d, op, ty, pos, after, some g⟩ = some (q == true) := by exact rfl) (h1 : q = true → AO F ops k (⟨some d, op, ty, pos, after, none⟩ :: l) ⟨T, B⟩) (h2 : q = false → AO F ops k l ⟨(d, .u) :: T, B⟩) : AO F ops k (⟨some d, op, ty, pos, after, some g⟩ :: l) ⟨T, B⟩ :=
  AO.gt hw h1 h2
theorem AO.sgf {g : Nat × Bool} {q : Bool} (hw : wants ops ⟨T, B⟩ ⟨some d, op, ty, pos, after, some g⟩ = some (q == false) := by exact rfl) (h1 : q = false → AO F ops k (⟨some d, op, ty, pos, after, none⟩ :: l) ⟨T, B⟩) (h2 : q = true → AO F ops k l ⟨(d, .u) :: T, B⟩) : AO F ops k (⟨some d, op, ty, pos, after, some g⟩ :: l) ⟨T, B⟩ :=
  AO.gf hw h1 h2
theorem AO.sgs {g : Nat × Bool} (hw : wants ops ⟨T, B⟩ ⟨some d, op, ty, pos, after, some g⟩ = some false := by exact rfl) (h : AO F ops k l ⟨(d, .u) :: T, B⟩) : AO F ops k (⟨some d, op, ty, pos, after, some g⟩ :: l) ⟨T, B⟩ :=
  AO.gs hw h
theorem AR.sgt {g : Nat × Bool} {q : Bool} (hw : wants ops ⟨T, B⟩ ⟨some d, op, ty, pos, after, some g⟩ = some (q == true) := by exact rfl) (ht : LE (tagsAt ⟨T, B⟩ ⟨some d, op, ty, pos, after, some g⟩) tg := by (repeat (first | exact LE.nil | apply LE.cons)); done) (h1 : q = true → AR F ops k (⟨some d, op, ty, pos, after, none⟩ :: l) ⟨T, B⟩ acc) (h2 : q = false → AR F ops k l ⟨(d, .u) :: T, B⟩ (⟨tg, ⟨[(d, .u)], [], []⟩⟩ :: acc)) : AR F ops k (⟨some d, op, ty, pos, after, some g⟩ :: l) ⟨T, B⟩ acc :=
  AR.gt hw ht h1 h2
theorem AR.sgf {g : Nat × Bool} {q : Bool} (hw : wants ops ⟨T, B⟩ ⟨some d, op, ty, pos, after, some g⟩ = some (q == false) := by exact rfl) (ht : LE (tagsAt ⟨T, B⟩ ⟨some d, op, ty, pos, after, some g⟩) tg := by (repeat (first | exact LE.nil | apply LE.cons)); done) (h1 : q = false → AR F ops k (⟨some d, op, ty, pos, after, none⟩ :: l) ⟨T, B⟩ acc) (h2 : q = true → AR F ops k l ⟨(d, .u) :: T, B⟩ (⟨tg, ⟨[(d, .u)], [], []⟩⟩ :: acc)) : AR F ops k (⟨some d, op, ty, pos, after, some g⟩ :: l) ⟨T, B⟩ acc :=
  AR.gf hw ht h1 h2
theorem AR.sgs {g : Nat × Bool} (hw : wants ops ⟨T, B⟩ ⟨some d, op, ty, pos, after, some g⟩ = some false := by exact rfl) (ht : LE (tagsAt ⟨T, B⟩ ⟨some d, op, ty, pos, after, some g⟩) tg := by (repeat (first | exact LE.nil | apply LE.cons)); done) (h : AR F ops k l ⟨(d, .u) :: T, B⟩ (⟨tg, ⟨[(d, .u)], [], []⟩⟩ :: acc)) : AR F ops k (⟨some d, op, ty, pos, after, some g⟩ :: l) ⟨T, B⟩ acc :=
  AR.gs hw ht h
theorem AW.sR {id : Nat} {l : List Oper} {st : St} (hok : l.all (okOper N) = true := by kernel_rfl) (h : AO F l.toArray k l st) : AW F (.c (.region id l.toArray false) :: k) st := AW.r hok h
theorem AW.sRd {id : Nat} {l : List Oper} {st : St} (hok : l.all (okOper N) = true := by kernel_rfl) (h : AR F l.toArray k l st []) : AW F (.c (.region id l.toArray true) :: k) st := AW.rd hok h
theorem AW.sC {st : St} {c1 c2 : Code} {b : Bool} (hx : st.val x = .b b := by exact rfl) (hN : okOp N x = true := by exact rfl) (h1 : b = true → AW F (.c c1 :: k) st) (h2 : b = false → AW F (.c c2 :: k) st) : AW F (.c (.cond x c1 c2) :: k) st := AW.cond hx hN h1 h2
theorem AW.sE {id : Nat} {st : St} {k' : List It} (hp : popTo id k = some k' := by exact rfl) (h : AW F k' st) : AW F (.c (.exit id) :: k) st := AW.exit hp h
theorem AR.sNil {st : St} (hb : backB 0 ops.toList = true := by kernel_rfl) (hn : niB ops (Region.before ops).toList ops.toList acc.reverse ops.toList acc.reverse 0 = true := by kernel_rfl) (h : AW F k st) : AR F ops k [] st acc := AR.nil hb hn h
end
end Go.Proofs.Ytocppeifkjdeiaa.Mv

/- Keys, ranges, lifts: the plain theory. Under no condition. -/
namespace Go.Proofs.Ytocppeifkjdeiaa.Mv
open Go Go.Proofs
set_option linter.unusedSimpArgs false
set_option linter.unusedVariables false
set_option maxRecDepth 10000
set_option maxHeartbeats 4000000

abbrev L := List UInt8
/-- Does it begin so? -/
def hp (k p : L) : Bool := p.isPrefixOf k
def cutS (k p : L) : L := if hp k p then k.drop p.length else k
def upS (s a k : L) : L := if hp k s then a ++ k.drop s.length else []
def great2 (a b : L) : Bool := decide (300 < a.length) || decide (300 < b.length)
def awakeS : Bool := true

theorem hp_iff {k p : L} : hp k p = true ↔ k.take p.length = p := by
  rw [hp, List.isPrefixOf_iff_prefix, List.prefix_iff_eq_take]
  exact ⟨Eq.symm, Eq.symm⟩
theorem hp_len {k p : L} (h : hp k p = true) : p.length ≤ k.length := by
  rw [hp, List.isPrefixOf_iff_prefix] at h; exact h.length_le
theorem cutS_len (k p : L) : (cutS k p).length ≤ k.length := by
  unfold cutS; split <;> simp

def joinOk (s1 a1 s2 a2 : L) : Bool := hp a1 s2 || hp s2 a1
def joinS (s1 a1 s2 a2 : L) : L := if hp a1 s2 then s1 else if hp s2 a1 then s1 ++ s2.drop a1.length else []
def joinA (s1 a1 s2 a2 : L) : L := if hp a1 s2 then a2 ++ a1.drop s2.length else if hp s2 a1 then a2 else []
theorem hp_pre {k p : L} : hp k p = true ↔ ∃ t, k = p ++ t := by
  rw [hp, List.isPrefixOf_iff_prefix]
  exact ⟨fun ⟨t, h⟩ => ⟨t, h.symm⟩, fun ⟨t, h⟩ => ⟨t, h.symm⟩⟩
theorem hp_app (p t : L) : hp (p ++ t) p = true := hp_pre.2 ⟨t, rfl⟩
theorem hp_app2 (p t m : L) : hp (p ++ t) (p ++ m) = hp t m := by
  rw [Bool.eq_iff_iff, hp, hp, List.isPrefixOf_iff_prefix, List.isPrefixOf_iff_prefix, List.prefix_append_right_inj]
theorem upS_app (p a t : L) : upS p a (p ++ t) = a ++ t := by simp [upS, hp_app]
theorem upS_len (s a k : L) : (upS s a k).length ≤ a.length + k.length := by
  unfold upS; split <;> simp
theorem hp_trans {a b c : L} (h1 : hp a b = true) (h2 : hp b c = true) : hp a c = true := by
  obtain ⟨x, rfl⟩ := hp_pre.1 h1
  obtain ⟨y, rfl⟩ := hp_pre.1 h2
  rw [List.append_assoc]; exact hp_app _ _
def three (p : Bool) (S1 A1 S2 A2 : L) : Bool × L × L := if p = true then (joinOk S1 A1 S2 A2, joinS S1 A1 S2 A2, joinA S1 A1 S2 A2) else (false, [], [])
theorem blt_app (p x y : L) : Op.bytesLess (p ++ x) (p ++ y) = Op.bytesLess x y := by
  induction p with
  | nil => rfl
  | cons c p ih => simp [Op.bytesLess, ih]
theorem upS_back {s a k : L} (h : hp k s = true) : hp (upS s a k) a = true ∧ upS a s (upS s a k) = k := by
  obtain ⟨t, rfl⟩ := hp_pre.1 h
  rw [upS_app]
  exact ⟨hp_app _ _, upS_app _ _ _⟩
theorem upS_blt {s a k k' : L} (h : hp k s = true) (h' : hp k' s = true) : Op.bytesLess (upS s a k) (upS s a k') = Op.bytesLess k k' := by
  obtain ⟨t, rfl⟩ := hp_pre.1 h
  obtain ⟨t', rfl⟩ := hp_pre.1 h'
  rw [upS_app, upS_app, blt_app, blt_app]
/-- Without the greatest bytes behind. -/
def core (p : L) : L := (p.reverse.dropWhile (· == 255)).reverse
def succS (p : L) : L := if core p = [] then [] else (core p).dropLast ++ [(core p).getLastD 0 + 1]
def succOk (p : L) : Bool := !(core p).isEmpty
theorem core_snoc (p : L) (c : UInt8) : core (p ++ [c]) = if c = 255 then core p else p ++ [c] := by
  simp only [core, List.reverse_append, List.reverse_cons, List.reverse_nil, List.nil_append, List.cons_append, List.dropWhile_cons]
  split
  · rename_i h; simp at h; simp [h]
  · rename_i h; simp at h; simp [h]
theorem core_nil : core [] = [] := rfl
theorem take_succ' {p : L} {n : Nat} (h : n < p.length) : p.take (n + 1) = p.take n ++ [p.getD n 0] := by
  rw [List.take_add_one, List.getD, List.getElem?_eq_getElem h]; rfl

theorem succ_last {p : L} {n : Nat} (hn : n ≤ p.length) (h0 : 0 < n) (h : ¬ ((p.getD (n - 1) 0).toNat : Int) = 255) : core (p.take n) = p.take n := by
  obtain ⟨m, rfl⟩ : ∃ m, n = m + 1 := ⟨n - 1, by omega⟩
  rw [take_succ' (by omega), core_snoc, if_neg]
  intro e
  apply h
  simp only [Nat.add_sub_cancel]
  rw [e]; rfl
theorem succ_less {p : L} {n : Nat} (hn : n ≤ p.length) (h0 : 0 < n) (h : ((p.getD (n - 1) 0).toNat : Int) = 255) : core (p.take n) = core (p.take (n - 1)) := by
  obtain ⟨m, rfl⟩ : ∃ m, n = m + 1 := ⟨n - 1, by omega⟩
  rw [take_succ' (by omega), core_snoc, if_pos]
  · rfl
  · apply UInt8.toNat_inj.1
    simp only [Nat.add_sub_cancel] at h
    have : (255 : UInt8).toNat = 255 := rfl
    omega
theorem succ_set {p : L} {n : Nat} (hn : n ≤ p.length) (h0 : 0 < n) (h : core p = p.take n) : succS p = ((p.take n).set (n - 1) ((p.take n).getD (n - 1) 0 + 1)) ∧ succOk p = true := by
  have hl : (p.take n).length = n := by simp; omega
  have hne : p.take n ≠ [] := by intro e; rw [e] at hl; simp at hl; omega
  refine ⟨?_, by simp [succOk, h, hne]⟩
  unfold succS
  rw [h, if_neg hne]
  generalize p.take n = q at *
  have e : q = q.dropLast ++ [q.getLastD 0] := by
    rw [List.getLastD_eq_getLast?, List.getLast?_eq_some_getLast hne]
    exact (List.dropLast_concat_getLast hne).symm
  have hd : q.dropLast.length = n - 1 := by simp [hl]
  have hg : q.getD (n - 1) 0 = q.getLastD 0 := by
    conv => lhs; rw [e]
    rw [List.getD, List.getElem?_append_right (by omega), hd]
    simp
  rw [hg]
  conv => rhs; rw [e]
  rw [List.set_append_right _ _ (by omega), hd]
  simp
/-! ### ranges -/
def lt (a b : L) : Bool := Op.bytesLess a b
def inR (lo hi : L) (e : Bool) (k : L) : Bool := !lt k lo && (!e || lt k hi)
def emR (lo hi : L) (e : Bool) : Bool := e && !lt lo hi
theorem lt_irrefl (a : L) : lt a a = false := by
  induction a with
  | nil => rfl
  | cons c a ih => simp only [lt] at ih ⊢; simp [Op.bytesLess, ih]
theorem lt_trans {a b c : L} (h1 : lt a b = true) (h2 : lt b c = true) : lt a c = true := by
  induction a generalizing b c with
  | nil =>
    cases c with
    | nil => cases b <;> simp [lt, Op.bytesLess] at h2
    | cons => rfl
  | cons x a ih =>
    cases b with
    | nil => simp [lt, Op.bytesLess] at h1
    | cons y b =>
      cases c with
      | nil => simp [lt, Op.bytesLess] at h2
      | cons z c =>
        simp only [lt, Op.bytesLess, Bool.or_eq_true, decide_eq_true_eq, Bool.and_eq_true, beq_iff_eq] at h1 h2 ⊢
        rcases h1 with h1 | ⟨rfl, h1⟩
        · rcases h2 with h2 | ⟨rfl, h2⟩
          · exact .inl (UInt8.lt_trans h1 h2)
          · exact .inl h1
        · rcases h2 with h2 | ⟨rfl, h2⟩
          · exact .inl h2
          · exact .inr ⟨rfl, ih h1 h2⟩
theorem lt_total (a b : L) : lt a b = true ∨ a = b ∨ lt b a = true := by
  induction a generalizing b with
  | nil => cases b with
    | nil => exact .inr (.inl rfl)
    | cons => exact .inl rfl
  | cons x a ih =>
    cases b with
    | nil => exact .inr (.inr rfl)
    | cons y b =>
      simp only [lt, Op.bytesLess, Bool.or_eq_true, decide_eq_true_eq, Bool.and_eq_true, beq_iff_eq]
      rcases (show x < y ∨ x = y ∨ y < x by
        rcases Nat.lt_trichotomy x.toNat y.toNat with h | h | h
        · exact .inl (UInt8.lt_iff_toNat_lt.2 h)
        · exact .inr (.inl (UInt8.toNat_inj.1 h))
        · exact .inr (.inr (UInt8.lt_iff_toNat_lt.2 h))) with h | h | h
      · exact .inl (.inl h)
      · subst h
        rcases ih b with h | h | h
        · exact .inl (.inr ⟨rfl, h⟩)
        · exact .inr (.inl (by rw [h]))
        · exact .inr (.inr (.inr ⟨rfl, h⟩))
      · exact .inr (.inr (.inl h))
theorem le_iff (a b : L) : (Op.bytesLess a b || a == b) = !lt b a := by
  rcases lt_total a b with h | h | h
  · cases h2 : lt b a with
    | false => simp only [lt] at h; simp [h]
    | true => have := lt_trans h h2; rw [lt_irrefl] at this; cases this
  · subst h; simp [lt_irrefl]
  · have h1 : lt a b = false := by
      cases h2 : lt a b with
      | false => rfl
      | true => have := lt_trans h h2; rw [lt_irrefl] at this; cases this
    have h3 : (a == b) = false := by
      cases h2 : a == b with
      | false => rfl
      | true => rw [beq_iff_eq.1 h2, lt_irrefl] at h; cases h
    simp only [lt] at h1
    simp [h, h1, h3]

def comS : L → L → L
  | x :: a, y :: b => if x = y then x :: comS a b else []
  | _, _ => []
def betS (a b : L) : L := if lt a b = true then b.take ((comS a b).length + 1) else []
def wiS (lo hi : L) (e : Bool) (p : L) : Bool := hp lo p && (!succOk p || (e && !lt (succS p) hi))
/-- The greatest number of bytes that all begin with. -/
def undN (lo hi : L) (e : Bool) : Nat → Nat
  | 0 => 0
  | n + 1 => if wiS lo hi e (lo.take (n + 1)) = true then n + 1 else undN lo hi e n
def undS (lo hi : L) (e : Bool) : L := if emR lo hi e = true then [] else lo.take (undN lo hi e lo.length)
theorem lt_asymm {a b : L} (h : lt a b = true) : lt b a = false := by
  cases h2 : lt b a with
  | false => rfl
  | true => have := lt_trans h h2; rw [lt_irrefl] at this; cases this
theorem lt_app (p x y : L) : lt (p ++ x) (p ++ y) = lt x y := by
  induction p with
  | nil => rfl
  | cons c p ih => simp only [lt] at ih ⊢; simp [Op.bytesLess, ih]
theorem lt_nil (x : L) : lt x [] = false := by cases x <;> rfl
theorem lt_pre (p : L) (c : UInt8) (x : L) : lt p (p ++ c :: x) = true := by
  have := lt_app p [] (c :: x)
  rw [List.append_nil] at this
  rw [this]; rfl
theorem lt_off {k p : L} (y : L) (h : hp k p = false) : lt k (p ++ y) = lt k p := by
  induction p generalizing k with
  | nil => simp [hp] at h
  | cons c p ih =>
    cases k with
    | nil => rfl
    | cons z k =>
      by_cases e : z = c
      · subst e
        have h' : hp k p = false := by simpa [hp] using h
        have := ih h'
        simp only [lt, List.cons_append] at this ⊢
        simp [Op.bytesLess, this]
      · have e' : (z == c) = false := by simpa using e
        simp [lt, Op.bytesLess, e']
theorem succ_snoc (p : L) (c : UInt8) : (c = 255 → succS (p ++ [c]) = succS p ∧ succOk (p ++ [c]) = succOk p) ∧ (c ≠ 255 → succS (p ++ [c]) = p ++ [c + 1] ∧ succOk (p ++ [c]) = true) := by
  refine ⟨fun h => ?_, fun h => ?_⟩
  · simp [succS, succOk, core_snoc, h]
  · simp [succS, succOk, core_snoc, h]
theorem hp_less {k p y : L} (h : hp k p = false) : hp k (p ++ y) = false := by
  cases h2 : hp k (p ++ y) with
  | false => rfl
  | true => rw [hp_trans h2 (hp_app _ _)] at h; cases h
theorem hp_cons (z c : UInt8) (k p : L) : hp (z :: k) (c :: p) = (c == z && hp k p) := rfl
theorem hp_nil (k : L) : hp k [] = true := by cases k <;> rfl
theorem lt_one (z c : UInt8) (x : L) : lt (z :: x) [c] = decide (z < c) := by cases x <;> simp [lt, Op.bytesLess]
theorem lt_succ {z c : UInt8} (h : c ≠ 255) : z < c + 1 ↔ z < c ∨ z = c := by
  have h1 : (c + 1).toNat = c.toNat + 1 := by
    have : c.toNat ≠ 255 := fun e => h (UInt8.toNat_inj.1 e)
    have := c.toNat_lt
    rw [UInt8.toNat_add]
    show (c.toNat + 1) % 256 = _
    omega
  rw [UInt8.lt_iff_toNat_lt, UInt8.lt_iff_toNat_lt, h1, ← UInt8.toNat_inj]
  omega
theorem succ_facts (p k : L) : (hp k p = true → lt k p = false ∧ (succOk p = true → lt k (succS p) = true)) ∧ (lt k p = false → hp k p = false → succOk p = true ∧ lt k (succS p) = false) ∧ (lt k p = true → succOk p = true → lt k (succS p) = true) := by
  have key : ∀ n (p k : L), p.length = n → (hp k p = true → lt k p = false ∧ (succOk p = true → lt k (succS p) = true)) ∧ (lt k p = false → hp k p = false → succOk p = true ∧ lt k (succS p) = false) ∧ (lt k p = true → succOk p = true → lt k (succS p) = true) := by
    intro n
    induction n with
    | zero =>
      intro p k hp0
      obtain rfl := List.eq_nil_of_length_eq_zero hp0
      refine ⟨fun _ => ⟨lt_nil k, fun h => by simp [succOk, core_nil] at h⟩, fun _ h => by simp [hp] at h, fun h => by rw [lt_nil] at h; cases h⟩
    | succ n ih =>
      intro p k hp0
      have hne : p ≠ [] := by intro e; subst e; cases hp0
      obtain ⟨p0, c, rfl⟩ : ∃ p0 c, p = p0 ++ [c] := ⟨p.dropLast, p.getLast hne, (List.dropLast_concat_getLast hne).symm⟩
      have hl : p0.length = n := by simpa using hp0
      obtain ⟨i1, i2, i3⟩ := ih p0 k hl
      obtain ⟨s1, s2⟩ := succ_snoc p0 c
      cases hk : hp k p0 with
      | false =>
        have e1 := lt_off [c] hk
        have e2 := hp_less (y := [c]) hk
        rw [e1, e2]
        by_cases hc : c = 255
        · obtain ⟨t1, t2⟩ := s1 hc
          rw [t1, t2]
          exact ⟨fun h => by simp at h, fun h _ => i2 h hk, i3⟩
        · obtain ⟨t1, t2⟩ := s2 hc
          rw [t1, t2, lt_off [c + 1] hk]
          exact ⟨fun h => by simp at h, fun h _ => ⟨rfl, h⟩, fun h _ => h⟩
      | true =>
        obtain ⟨x, rfl⟩ := hp_pre.1 hk
        obtain ⟨j1, j2⟩ := i1 hk
        rw [hp_app2, lt_app]
        by_cases hc : c = 255
        · obtain ⟨t1, t2⟩ := s1 hc
          rw [t1, t2]
          subst hc
          refine ⟨fun h => ⟨?_, j2⟩, fun h1 h2 => ?_, fun _ => j2⟩
          · obtain ⟨t, rfl⟩ := hp_pre.1 h
            rw [List.cons_append, List.nil_append, lt_one]
            simp
          · exfalso
            cases x with
            | nil => simp [lt, Op.bytesLess] at h1
            | cons z x =>
              rw [lt_one] at h1
              rw [hp_cons, hp_nil] at h2
              have h3 : ¬ z < 255 := by simpa using h1
              have h4 : ¬ z = 255 := fun e => by subst e; simp at h2
              have := z.toNat_lt
              have h5 : (255 : UInt8).toNat = 255 := rfl
              rw [UInt8.lt_iff_toNat_lt, h5] at h3
              exact h4 (UInt8.toNat_inj.1 (by rw [h5]; omega))
        · obtain ⟨t1, t2⟩ := s2 hc
          rw [t1, t2, lt_app]
          cases x with
          | nil => exact ⟨fun h => by simp [hp] at h, fun h => by simp [lt, Op.bytesLess] at h, fun _ _ => rfl⟩
          | cons z x =>
            rw [lt_one, lt_one, hp_cons, hp_nil, Bool.and_true]
            simp only [decide_eq_true_eq, decide_eq_false_iff_not, beq_iff_eq, beq_eq_false_iff_ne, lt_succ hc]
            refine ⟨fun h => ⟨fun h' => ?_, fun _ => .inr h.symm⟩, fun h h' => ⟨trivial, fun q => ?_⟩, fun h _ => .inl h⟩
            · subst h; exact absurd h' (UInt8.lt_irrefl _)
            · rcases q with q | q
              · exact h q
              · exact h' q.symm
  exact key _ p k rfl
theorem lt_of_lt_le {a b c : L} (h1 : lt a b = true) (h2 : lt c b = false) : lt a c = true := by
  rcases lt_total b c with h | h | h
  · exact lt_trans h1 h
  · subst h; exact h1
  · rw [h] at h2; cases h2
/-- The greater, the smaller key. -/
def mxS (a b : L) : L := if lt a b = false then a else b
def mnS (a b : L) : L := if lt b a = false then a else b
def cutLo (l1 h1 : L) (e1 : Bool) (l2 h2 : L) (e2 : Bool) : L := mxS l1 l2
def cutHi (l1 h1 : L) (e1 : Bool) (l2 h2 : L) (e2 : Bool) : L := if e1 = true then (if e2 = true then mnS h1 h2 else h1) else if e2 = true then h2 else []
def cutE (e1 e2 : Bool) : Bool := e1 || e2
def cutEm (l1 h1 : L) (e1 : Bool) (l2 h2 : L) (e2 : Bool) : Bool := emR (mxS l1 l2) (cutHi l1 h1 e1 l2 h2 e2) (e1 || e2)
/-- What two ranges have both. -/
def cS (l1 h1 : L) (e1 : Bool) (l2 h2 : L) (e2 : Bool) : L × L × Bool :=
  if cutEm l1 h1 e1 l2 h2 e2 = true then ([], [], true) else (mxS l1 l2, cutHi l1 h1 e1 l2 h2 e2, e1 || e2)
theorem lt_mx (k a b : L) : lt k (mxS a b) = (lt k a || lt k b) := by
  unfold mxS
  split
  · rename_i h
    cases h2 : lt k b with
    | false => simp
    | true => simp [lt_of_lt_le h2 h]
  · rename_i h
    have h' : lt a b = true := by simpa using h
    cases h2 : lt k a with
    | false => simp
    | true => simp [lt_trans h2 h']
theorem lt_mn (k a b : L) : lt k (mnS a b) = (lt k a && lt k b) := by
  unfold mnS
  split
  · rename_i h
    cases h2 : lt k a with
    | false => simp
    | true => simp [lt_of_lt_le h2 h]
  · rename_i h
    have h' : lt b a = true := by simpa using h
    cases h2 : lt k b with
    | false => simp
    | true => simp [lt_trans h2 h']
theorem em_in {lo hi : L} {e : Bool} (h : emR lo hi e = true) (k : L) : inR lo hi e k = false := by
  simp only [emR, Bool.and_eq_true, Bool.not_eq_true'] at h
  obtain ⟨rfl, h⟩ := h
  simp only [inR]
  cases h2 : lt k lo with
  | true => rfl
  | false =>
    cases h3 : lt k hi with
    | false => rfl
    | true =>
      exfalso
      have := lt_of_lt_le h3 h
      rw [this] at h2; cases h2
theorem cut_in (l1 h1 : L) (e1 : Bool) (l2 h2 : L) (e2 : Bool) (k : L) : inR (mxS l1 l2) (cutHi l1 h1 e1 l2 h2 e2) (e1 || e2) k = (inR l1 h1 e1 k && inR l2 h2 e2 k) := by
  simp only [inR, lt_mx, cutHi]
  cases e1 <;> cases e2 <;> simp [lt_mn] <;> cases lt k l1 <;> cases lt k l2 <;> simp
theorem cS_in (l1 h1 : L) (e1 : Bool) (l2 h2 : L) (e2 : Bool) (k : L) : inR (cS l1 h1 e1 l2 h2 e2).1 (cS l1 h1 e1 l2 h2 e2).2.1 (cS l1 h1 e1 l2 h2 e2).2.2 k = (inR l1 h1 e1 k && inR l2 h2 e2 k) := by
  rw [← cut_in]
  unfold cS
  split
  · rename_i h
    rw [em_in (k := k) (lo := mxS l1 l2) h]
    simp [inR, lt_nil]
  · rfl
def insS (l1 h1 : L) (e1 : Bool) (l2 h2 : L) (e2 : Bool) : Bool := emR l1 h1 e1 || (!lt l1 l2 && (!e2 || (e1 && !lt h2 h1)))
theorem cutHi_len (l1 h1 : L) (e1 : Bool) (l2 h2 : L) (e2 : Bool) : (cutHi l1 h1 e1 l2 h2 e2).length ≤ h1.length + h2.length := by
  unfold cutHi mnS; split <;> split <;> (try split) <;> simp
theorem mx_len (a b : L) : (mxS a b).length ≤ a.length + b.length := by unfold mxS; split <;> simp
theorem cS_len (l1 h1 : L) (e1 : Bool) (l2 h2 : L) (e2 : Bool) : (cS l1 h1 e1 l2 h2 e2).1.length ≤ l1.length + l2.length ∧ (cS l1 h1 e1 l2 h2 e2).2.1.length ≤ h1.length + h2.length := by
  unfold cS; split
  · simp
  · exact ⟨mx_len _ _, cutHi_len l1 h1 e1 l2 h2 e2⟩
theorem core_len (p : L) : (core p).length ≤ p.length := by
  unfold core
  rw [List.length_reverse]
  have := (List.dropWhile_sublist (l := p.reverse) (fun x => x == 255)).length_le
  simpa using this
theorem succS_len (p : L) : (succS p).length ≤ p.length := by
  have := core_len p
  unfold succS; split
  · simp
  · rename_i h
    have : 0 < (core p).length := List.length_pos_iff.2 h
    simp; omega
/-- A range's beginning's part. -/
def ocS (s lo hi : L) (e : Bool) : L × L × Bool := cS lo hi e s (succS s) (succOk s)
def ovS (s a lo hi : L) (e : Bool) : L × L × Bool :=
  if emR (ocS s lo hi e).1 (ocS s lo hi e).2.1 (ocS s lo hi e).2.2 = true then ([], [], true)
  else if (hp (ocS s lo hi e).2.1 s && (ocS s lo hi e).2.2) = true then (upS s a (ocS s lo hi e).1, upS s a (ocS s lo hi e).2.1, true)
  else (upS s a (ocS s lo hi e).1, succS a, succOk a)
theorem cS_em {l1 h1 : L} {e1 : Bool} {l2 h2 : L} {e2 : Bool} (h : emR (cS l1 h1 e1 l2 h2 e2).1 (cS l1 h1 e1 l2 h2 e2).2.1 (cS l1 h1 e1 l2 h2 e2).2.2 = true) : cS l1 h1 e1 l2 h2 e2 = ([], [], true) := by
  unfold cS at *
  split
  · rfl
  · rename_i h2
    rw [if_neg h2] at h
    exact absurd h h2
theorem of_in (p k : L) : inR p (succS p) (succOk p) k = hp k p := by
  obtain ⟨f1, f2, f3⟩ := succ_facts p k
  cases h : hp k p with
  | true =>
    obtain ⟨g1, g2⟩ := f1 h
    cases h2 : succOk p with
    | true => simp [inR, g1, g2 h2]
    | false => simp [inR, g1]
  | false =>
    cases h2 : lt k p with
    | true => simp [inR, h2]
    | false =>
      obtain ⟨g1, g2⟩ := f2 h2 h
      simp [inR, h2, g1, g2]
theorem in_lo {lo hi : L} {e : Bool} (h : emR lo hi e = false) : inR lo hi e lo = true := by
  cases e <;> simp_all [emR, inR, lt_irrefl]
theorem oc_in (s lo hi : L) (e : Bool) (k : L) : inR (ocS s lo hi e).1 (ocS s lo hi e).2.1 (ocS s lo hi e).2.2 k = (inR lo hi e k && hp k s) := by
  rw [ocS, cS_in, of_in]
theorem oc_hp {s lo hi : L} {e : Bool} (h : emR (ocS s lo hi e).1 (ocS s lo hi e).2.1 (ocS s lo hi e).2.2 = false) : hp (ocS s lo hi e).1 s = true := by
  have := in_lo h
  rw [oc_in, Bool.and_eq_true] at this
  exact this.2
theorem lt_off2 {h s : L} (x y : L) (hh : hp h s = false) : lt (s ++ x) h = lt (s ++ y) h := by
  induction s generalizing h with
  | nil => simp [hp] at hh
  | cons c s ih =>
    cases h with
    | nil => rfl
    | cons z h =>
      by_cases e : c = z
      · subst e
        have := ih (h := h) (by simpa [hp] using hh)
        simp only [lt, List.cons_append] at this ⊢
        simp [Op.bytesLess, this]
      · have e' : (c == z) = false := by simpa using e
        simp [lt, Op.bytesLess, e']
theorem ov_in (s a lo hi : L) (e : Bool) (k : L) : inR (ovS s a lo hi e).1 (ovS s a lo hi e).2.1 (ovS s a lo hi e).2.2 k = (hp k a && inR lo hi e (upS a s k)) := by
  have hx : ∀ y, inR lo hi e (s ++ y) = inR (ocS s lo hi e).1 (ocS s lo hi e).2.1 (ocS s lo hi e).2.2 (s ++ y) := fun y => by
    rw [oc_in, hp_app, Bool.and_true]
  have q4 := @oc_hp s lo hi e
  have q5 : emR (ocS s lo hi e).1 (ocS s lo hi e).2.1 (ocS s lo hi e).2.2 = true → ∀ x, inR (ocS s lo hi e).1 (ocS s lo hi e).2.1 (ocS s lo hi e).2.2 x = false := fun h x => em_in h x
  generalize hc : ocS s lo hi e = c at *
  obtain ⟨cl, ch, ce⟩ := c
  simp only [ovS, hc] at *
  cases hem : emR cl ch ce with
  | true =>
    simp only [if_true]
    cases hk : hp k a with
    | false => simp [inR, lt_nil]
    | true =>
      obtain ⟨y, rfl⟩ := hp_pre.1 hk
      rw [upS_app a s y, hx, q5 hem]
      simp [inR, lt_nil]
  | false =>
    obtain ⟨t, rfl⟩ := hp_pre.1 (q4 hem)
    have hlt : ce = true → lt (s ++ t) ch = true := fun h => by
      subst h
      simpa [emR] using hem
    simp only [Bool.false_eq_true, if_false]
    cases hk : hp k a with
    | true =>
      obtain ⟨y, rfl⟩ := hp_pre.1 hk
      rw [upS_app a s y, hx]
      split
      · rename_i h2
        simp only [Bool.and_eq_true] at h2
        obtain ⟨u, rfl⟩ := hp_pre.1 h2.1
        simp [inR, upS_app, lt_app, h2.2]
      · rename_i h2
        have h3 := of_in a (a ++ y)
        rw [hk] at h3
        simp only [inR, Bool.and_eq_true, Bool.not_eq_true', Bool.or_eq_true] at h3
        have h4 : (!ce || lt (s ++ y) ch) = true := by
          cases ce with
          | false => rfl
          | true =>
            simp only [Bool.and_true] at h2
            rw [lt_off2 y t (by simpa using h2), hlt rfl]; rfl
        have h5 : (!succOk a || lt (a ++ y) (succS a)) = true := by
          rcases h3.2 with h | h <;> simp [h]
        simp only [inR, upS_app, lt_app, h4, h5, Bool.true_and]
    | false =>
      rw [Bool.false_and]
      split
      · rename_i h2
        simp only [Bool.and_eq_true] at h2
        obtain ⟨u, rfl⟩ := hp_pre.1 h2.1
        simp only [inR, upS_app, lt_off _ hk]
        cases lt k a <;> simp
      · have h3 := of_in a k
        rw [hk] at h3
        simp only [inR] at h3 ⊢
        rw [upS_app, lt_off _ hk]
        exact h3
end Go.Proofs.Ytocppeifkjdeiaa.Mv

/- Keys, ranges, lifts: what the functions answer. Under no condition. -/
namespace Go.Proofs.Ytocppeifkjdeiaa.Mv
open Go Go.Proofs
set_option linter.unusedSimpArgs false
set_option linter.unusedVariables false
set_option maxRecDepth 10000
set_option maxHeartbeats 4000000
attribute [local irreducible] AW AO AR
theorem gHasPrefix' (k p : L) : Good Try.prog 130 [.s k, .s p] [] (.b (hp k p)) [] := by
  refine Good.w tabOk mixed Try.func130 (N := 18) (by kernel_rfl) rfl (by (repeat (first | exact LE.nil | apply LE.cons)); done) (by (repeat (first | exact LE.nil | apply LE.cons)); done) fun D hD F => ?_
  repeat' (first
    | apply AO.nil
    | (apply AO.kSl; first | refine AO.sSl (h := ?_) | refine AO.sSlArr (h := ?_) | refine AO.sP (h := ?_))
    | (apply AO.kP; first | refine AO.sP (h := ?_) | refine AO.sPi (h := ?_))
    | apply AW.seq
    | (apply AW.kR; refine AW.sR (h := ?_))
    | apply AW.skip
    | apply AW.block
    | apply AW.out
    | (apply AW.kE; refine AW.sE (h := ?_))
    | apply AW.label
    | ((first | (apply AO.kG; first | refine AO.sgt (h1 := fun h => ?_) (h2 := fun h => ?_) | refine AO.sgf (h1 := fun h => ?_) (h2 := fun h => ?_) | refine AO.sgs (h := ?_))) <;> (try (first | exact Bool.noConfusion h | exact absurd h (by decide) | (simp at h; done) | (rw [h]; try simp only [nrm] at h; try rw [h]; try (exfalso; omega)) | skip))))
  all_goals refine AW.ret (hD rfl (Lx.b ?_))
  all_goals (rw [Bool.eq_iff_iff]; simp [hp_iff])
  intro e
  have := congrArg List.length e
  simp at this
  omega
theorem gCutPrefix' (k p : L) : Good Try.prog 128 [.s k, .s p] [] (.tup [.s (cutS k p), .b (hp k p)]) [] := by
  refine Good.w tabOk mixed Try.func128 (N := 15) (by kernel_rfl) rfl (by (repeat (first | exact LE.nil | apply LE.cons)); done) (by (repeat (first | exact LE.nil | apply LE.cons)); done) fun D hD F => ?_
  repeat' (first
    | apply AO.nil
    | (apply AO.kCall 130; refine AO.sCall (hg := (gHasPrefix' _ _)) (h := ?_))
    | (apply AO.kSl; first | refine AO.sSl (h := ?_) | refine AO.sSlArr (h := ?_) | refine AO.sP (h := ?_))
    | (apply AO.kP; first | refine AO.sP (h := ?_) | refine AO.sPi (h := ?_))
    | apply AW.seq
    | (apply AW.kR; refine AW.sR (h := ?_))
    | apply AW.skip
    | apply AW.block
    | apply AW.out
    | (apply AW.kE; refine AW.sE (h := ?_))
    | apply AW.label
    | ((first | (apply AW.kC; refine AW.sC (h1 := fun h => ?_) (h2 := fun h => ?_))) <;> (try (first | exact Bool.noConfusion h | exact absurd h (by decide) | (simp at h; done) | (rw [h]; try simp only [nrm] at h; try rw [h]; try (exfalso; omega)) | skip))))
  · exact AW.ret (hD rfl (Lx.tup (.cons (Lx.s (by simp [cutS, h])) (.cons (Lx.b h.symm) .nil))))
  · have h2 := hp_len h
    repeat' (first
    | apply AO.nil
    | (apply AO.kSl; first | refine AO.sSl (h := ?_) | refine AO.sSlArr (h := ?_) | refine AO.sP (h := ?_))
    | (apply AO.kP; first | refine AO.sP (h := ?_) | refine AO.sPi (h := ?_))
    | apply AW.seq
    | (apply AW.kR; refine AW.sR (h := ?_))
    | apply AW.skip
    | apply AW.block
    | apply AW.out
    | (apply AW.kE; refine AW.sE (h := ?_))
    | apply AW.label
    | ((first | (apply AW.kC; refine AW.sC (h1 := fun h => ?_) (h2 := fun h => ?_))) <;> (try (first | exact Bool.noConfusion h | exact absurd h (by decide) | (simp at h; done) | (rw [h]; try simp only [nrm] at h; try rw [h]; try (exfalso; omega)) | skip))))
    exact AW.ret (hD rfl (Lx.tup (.cons (Lx.s (by simp [cutS, h])) (.cons (Lx.b h.symm) .nil))))
theorem gCutPrefix (k p : L) : Good Try.prog 95 [.s k, .s p] [] (.tup [.s (cutS k p), .b (hp k p)]) [] := by
  refine Good.w tabOk mixed Try.func95 (N := 11) (by kernel_rfl) rfl (by (repeat (first | exact LE.nil | apply LE.cons)); done) (by (repeat (first | exact LE.nil | apply LE.cons)); done) fun D hD F => ?_
  repeat' (first
    | apply AO.nil
    | (apply AO.kCall 128; refine AO.sCall (hg := (gCutPrefix' _ _)) (h := ?_))
    | (apply AO.kP; first | refine AO.sP (h := ?_) | refine AO.sPi (h := ?_))
    | apply AW.seq
    | (apply AW.kR; refine AW.sR (h := ?_))
    | apply AW.skip
    | apply AW.block
    | apply AW.out
    | (apply AW.kE; refine AW.sE (h := ?_))
    | apply AW.label)
  all_goals exact AW.ret (hD rfl (Lx.tup (.cons .refl (.cons .refl .nil))))
theorem gUp (s a k : L) (h1 : a.length + k.length ≤ 137438953472) : Good Try.prog 61 [.agg [.s s, .s a], .s k] [] (.tup [.s (upS s a k), .b (hp k s)]) [] := by
  have h2 := cutS_len k s
  refine Good.w tabOk mixed Try.func61 (N := 21) (by kernel_rfl) rfl (by (repeat (first | exact LE.nil | apply LE.cons)); done) (by (repeat (first | exact LE.nil | apply LE.cons)); done) fun D hD F => ?_
  repeat' (first
    | apply AO.nil
    | (apply AO.kCall 95; refine AO.sCall (hg := (gCutPrefix _ _)) (h := ?_))
    | (apply AO.kBox; refine AO.sBox (h := ?_))
    | (apply AO.kAdd; refine AO.sAdd (h := ?_))
    | (apply AO.kP; first | refine AO.sP (h := ?_) | refine AO.sPi (h := ?_) | refine AO.sLoadB (h := ?_))
    | apply AW.seq
    | (apply AW.kR; refine AW.sR (h := ?_))
    | apply AW.skip
    | apply AW.block
    | apply AW.out
    | (apply AW.kE; refine AW.sE (h := ?_))
    | apply AW.label
    | ((first | (apply AW.kC; refine AW.sC (h1 := fun h => ?_) (h2 := fun h => ?_))) <;> (try (first | exact Bool.noConfusion h | exact absurd h (by decide) | (simp at h; done) | (rw [h]; try simp only [nrm] at h; try rw [h]; try (exfalso; omega)) | skip))))
  all_goals exact AW.ret (hD rfl (Lx.tup (.cons (Lx.s (by simp [upS, cutS, h])) (.cons (Lx.b h.symm) .nil))))
theorem gTurn (s a : L) : Good Try.prog 155 [.agg [.s s, .s a]] [] (.agg [.s a, .s s]) [] := by
  refine Good.w tabOk mixed Try.func155 (N := 8) (by kernel_rfl) rfl (by (repeat (first | exact LE.nil | apply LE.cons)); done) (by (repeat (first | exact LE.nil | apply LE.cons)); done) fun D hD F => ?_
  repeat' (first
    | apply AO.nil
    | (apply AO.kBox; refine AO.sBox (h := ?_))
    | (apply AO.kAlloc; refine AO.sAlloc (h := ?_))
    | (apply AO.kStore; first | refine AO.sStore (h := ?_) | refine AO.sStB (h := ?_))
    | (apply AO.kP; first | refine AO.sP (h := ?_) | refine AO.sPi (h := ?_) | refine AO.sLoadB (h := ?_))
    | apply AW.seq
    | (apply AW.kR; refine AW.sR (h := ?_))
    | apply AW.skip
    | apply AW.block
    | apply AW.out
    | (apply AW.kE; refine AW.sE (h := ?_))
    | apply AW.label)
  exact AW.ret (hD rfl .refl)
theorem gDown (s a k : L) (h1 : s.length + k.length ≤ 137438953472) : Good Try.prog 153 [.agg [.s s, .s a], .s k] [] (.tup [.s (upS a s k), .b (hp k a)]) [] := by
  refine Good.w tabOk mixed Try.func153 (N := 12) (by kernel_rfl) rfl (by (repeat (first | exact LE.nil | apply LE.cons)); done) (by (repeat (first | exact LE.nil | apply LE.cons)); done) fun D hD F => ?_
  repeat' (first
    | apply AO.nil
    | (apply AO.kCall 155; refine AO.sCall (hg := (gTurn _ _)) (h := ?_))
    | (apply AO.kCall 61; refine AO.sCall (hg := (gUp _ _ _ sd)) (h := ?_))
    | (apply AO.kBox; refine AO.sBox (h := ?_))
    | (apply AO.kP; first | refine AO.sP (h := ?_) | refine AO.sPi (h := ?_) | refine AO.sLoadB (h := ?_))
    | apply AW.seq
    | (apply AW.kR; refine AW.sR (h := ?_))
    | apply AW.skip
    | apply AW.block
    | apply AW.out
    | (apply AW.kE; refine AW.sE (h := ?_))
    | apply AW.label)
  exact AW.ret (hD rfl .refl)

theorem gNext (k : L) (h : k.length < 137438953472) : Good Try.prog 132 [.s k] [] (.s (k ++ [0])) [] := by
  refine Good.w tabOk mixed Try.func132 (N := 5) (by kernel_rfl) rfl (by (repeat (first | exact LE.nil | apply LE.cons)); done) (by (repeat (first | exact LE.nil | apply LE.cons)); done) fun D hD F => ?_
  repeat' (first
    | apply AO.nil
    | (apply AO.kAdd; refine AO.sAdd (h := ?_))
    | (apply AO.kP; first | refine AO.sP (h := ?_) | refine AO.sPi (h := ?_))
    | apply AW.seq
    | (apply AW.kR; refine AW.sR (h := ?_))
    | apply AW.skip
    | apply AW.block
    | apply AW.out
    | (apply AW.kE; refine AW.sE (h := ?_))
    | apply AW.label)
  all_goals (refine AW.ret (hD rfl ?_); (repeat' (first | apply Lx.s | apply Lx.b | apply Lx.i | apply LxL.cons | exact LxL.nil | apply Lx.tup | apply Lx.agg | apply Lx.refl)) <;> (try with_reducible rfl))

theorem gSucc (p : L) (hlen : p.length ≤ 137438953472) : Good Try.prog 127 [.s p] [] (.tup [.s (succS p), .b (succOk p)]) [] := by
  refine Good.w tabOk mixed Try.func127 (N := 34) (by kernel_rfl) rfl (by (repeat (first | exact LE.nil | apply LE.cons)); done) (by (repeat (first | exact LE.nil | apply LE.cons)); done) fun D hD F => ?_
  repeat' (first
    | apply AO.nil
    | (apply AO.kIx; first | refine AO.sIxN (h := ?_) | refine AO.sIx (h := ?_) | refine AO.sP (h := ?_) | refine AO.sPi (h := ?_))
    | (apply AO.kSl; first | refine AO.sSl (h := ?_) | refine AO.sSlArr (h := ?_) | refine AO.sP (h := ?_))
    | (apply AO.kStore; first | refine AO.sStore (h := ?_) | refine AO.sStB (h := ?_))
    | (apply AO.kAdd; refine AO.sAdd (h := ?_))
    | (apply AO.kSub; refine AO.sSub (h := ?_))
    | (apply AO.kCv; first | refine AO.sBytes (h := ?_) | refine AO.sStr (h := ?_) | refine AO.sStrR (h := ?_))
    | (apply AO.kP; first | refine AO.sP (h := ?_) | refine AO.sPi (h := ?_) | refine AO.sLoadB (h := ?_))
    | apply AW.seq
    | (apply AW.kR; refine AW.sR (h := ?_))
    | apply AW.skip
    | apply AW.block
    | apply AW.out
    | (apply AW.kE; refine AW.sE (h := ?_))
    | apply AW.label
    | ((first | (apply AO.kG; first | refine AO.sgt (h1 := fun h => ?_) (h2 := fun h => ?_) | refine AO.sgf (h1 := fun h => ?_) (h2 := fun h => ?_) | refine AO.sgs (h := ?_)) | (apply AW.kC; refine AW.sC (h1 := fun h => ?_) (h2 := fun h => ?_))) <;> (try (first | exact Bool.noConfusion h | exact absurd h (by decide) | (simp at h; done) | (rw [h]; try simp only [nrm] at h; try rw [h]; try (exfalso; omega)) | skip))))
  refine AW.loopI (fun n : Nat => n ≤ p.length ∧ core (p.take n) = core p) (fun n => ⟨[(0, .s p), (4, .i .i64 n)], []⟩) (fun n => n) p.length (by simp) (by (constructor <;> (repeat' (first | exact LeT.nil | exact LeB.nil | apply LeT.cons | apply LeB.cons | exact Ol.refl | apply Lx.s | apply Lx.b | apply Lx.i | exact Lx.refl)) <;> (first | rfl | assumption | omega | (simp only [List.length_map, BS_len]; done) | skip))) fun m n ⟨hn, hc⟩ ih => ?_
  repeat' (first
    | apply AO.nil
    | (apply AO.kIx; first | refine AO.sIxN (h := ?_) | refine AO.sIx (h := ?_) | refine AO.sP (h := ?_) | refine AO.sPi (h := ?_))
    | (apply AO.kSl; first | refine AO.sSl (h := ?_) | refine AO.sSlArr (h := ?_) | refine AO.sP (h := ?_))
    | (apply AO.kStore; first | refine AO.sStore (h := ?_) | refine AO.sStB (h := ?_))
    | (apply AO.kAdd; refine AO.sAdd (h := ?_))
    | (apply AO.kSub; refine AO.sSub (h := ?_))
    | (apply AO.kCv; first | refine AO.sBytes (h := ?_) | refine AO.sStr (h := ?_) | refine AO.sStrR (h := ?_))
    | (apply AO.kP; first | refine AO.sP (h := ?_) | refine AO.sPi (h := ?_) | refine AO.sLoadB (h := ?_))
    | apply AW.seq
    | (apply AW.kR; refine AW.sR (h := ?_))
    | apply AW.skip
    | apply AW.block
    | apply AW.out
    | (apply AW.kE; refine AW.sE (h := ?_))
    | apply AW.label
    | ((first | (apply AO.kG; first | refine AO.sgt (h1 := fun h => ?_) (h2 := fun h => ?_) | refine AO.sgf (h1 := fun h => ?_) (h2 := fun h => ?_) | refine AO.sgs (h := ?_)) | (apply AW.kC; refine AW.sC (h1 := fun h => ?_) (h2 := fun h => ?_))) <;> (try (first | exact Bool.noConfusion h | exact absurd h (by decide) | (simp at h; done) | (rw [h]; try simp only [nrm] at h; try rw [h]; try (exfalso; omega)) | skip))))
  all_goals (try (exfalso; omega))
  · rename_i h1 _ _ _ _
    have e : ((n : Int) - 1).toNat = n - 1 := by omega
    rw [e] at h
    exact ih (n - 1) _ ⟨by omega, by rw [← succ_less hn (by omega) h]; exact hc⟩ (by omega) (by (constructor <;> (repeat' (first | exact LeT.nil | exact LeB.nil | apply LeT.cons | apply LeB.cons | exact Ol.refl | apply Lx.s | apply Lx.b | apply Lx.i | exact Lx.refl)) <;> (first | rfl | assumption | omega | (simp only [List.length_map, BS_len]; done) | skip)))
  · rename_i h2 _ h3 _
    have e : ((n : Int) - 1).toNat = n - 1 := by omega
    have h4 : ¬ ((p.getD (n - 1) 0).toNat : Int) = 255 := by rw [← e]; assumption
    have hs := succ_set hn (by omega) (hc.symm.trans (succ_last hn (by omega) h4))
    refine AW.ret (hD rfl (Lx.tup (.cons (Lx.s ?_) (.cons (Lx.b hs.2.symm) .nil))))
    rw [hs.1, u8_succ]
    simp [e]
    exact List.take_of_length_le (by simp)
  · have : n = 0 := by omega
    subst this
    have h5 : core p = [] := by rw [← hc]; rfl
    refine AW.ret (hD rfl (Lx.tup (.cons (Lx.s ?_) (.cons (Lx.b ?_) .nil))))
    · simp [succS, h5]
    · simp [succOk, h5]

theorem gIn (lo hi : L) (e : Bool) (k : L) : Good Try.prog 60 [.agg [.s lo, .s hi, .b e], .s k] [] (.b (inR lo hi e k)) [] := by
  refine Good.w tabOk mixed Try.func60 (N := 20) (by kernel_rfl) rfl (by (repeat (first | exact LE.nil | apply LE.cons)); done) (by (repeat (first | exact LE.nil | apply LE.cons)); done) fun D hD F => ?_
  repeat' (first
    | apply AO.nil
    | (apply AO.kBox; refine AO.sBox (h := ?_))
    | (apply AO.kP; first | refine AO.sP (h := ?_) | refine AO.sPi (h := ?_) | refine AO.sLoadB (h := ?_))
    | apply AW.seq
    | (apply AW.kR; refine AW.sR (h := ?_))
    | apply AW.skip
    | apply AW.block
    | apply AW.out
    | (apply AW.kE; refine AW.sE (h := ?_))
    | apply AW.label
    | ((first | (apply AO.kG; first | refine AO.sgt (h1 := fun h => ?_) (h2 := fun h => ?_) | refine AO.sgf (h1 := fun h => ?_) (h2 := fun h => ?_) | refine AO.sgs (h := ?_))) <;> (try (first | exact Bool.noConfusion h | exact absurd h (by decide) | (simp at h; done) | (rw [h]; try simp only [nrm] at h; try rw [h]; try (exfalso; omega)) | skip))))
  all_goals (refine AW.ret (hD rfl ?_); (repeat' (first | apply Lx.s | apply Lx.b | apply Lx.i | apply LxL.cons | exact LxL.nil | apply Lx.tup | apply Lx.agg | apply Lx.refl)) <;> (try with_reducible rfl))
  all_goals simp_all [inR, lt, blt]
theorem gIn' (lo hi : L) (e : Bool) (k : L) : Good Try.prog 29 [.agg [.s lo, .s hi, .b e], .s k] [] (.b (inR lo hi e k)) [] := by
  refine Good.w tabOk mixed Try.func29 (N := 18) (by kernel_rfl) rfl (by (repeat (first | exact LE.nil | apply LE.cons)); done) (by (repeat (first | exact LE.nil | apply LE.cons)); done) fun D hD F => ?_
  repeat' (first
    | apply AO.nil
    | (apply AO.kBox; refine AO.sBox (h := ?_))
    | (apply AO.kP; first | refine AO.sP (h := ?_) | refine AO.sPi (h := ?_) | refine AO.sLoadB (h := ?_))
    | apply AW.seq
    | (apply AW.kR; refine AW.sR (h := ?_))
    | apply AW.skip
    | apply AW.block
    | apply AW.out
    | (apply AW.kE; refine AW.sE (h := ?_))
    | apply AW.label
    | ((first | (apply AO.kG; first | refine AO.sgt (h1 := fun h => ?_) (h2 := fun h => ?_) | refine AO.sgf (h1 := fun h => ?_) (h2 := fun h => ?_) | refine AO.sgs (h := ?_)) | (apply AW.kC; refine AW.sC (h1 := fun h => ?_) (h2 := fun h => ?_))) <;> (try (first | exact Bool.noConfusion h | exact absurd h (by decide) | (simp at h; done) | (rw [h]; try simp only [nrm] at h; try rw [h]; try (exfalso; omega)) | skip))))
  all_goals (refine AW.ret (hD rfl ?_); (repeat' (first | apply Lx.s | apply Lx.b | apply Lx.i | apply LxL.cons | exact LxL.nil | apply Lx.tup | apply Lx.agg | apply Lx.refl)) <;> (try with_reducible rfl))
  all_goals simp_all [inR, lt, blt]
theorem gEmpty (lo hi : L) (e : Bool) : Good Try.prog 58 [.agg [.s lo, .s hi, .b e]] [] (.b (emR lo hi e)) [] := by
  refine Good.w tabOk mixed Try.func58 (N := 12) (by kernel_rfl) rfl (by (repeat (first | exact LE.nil | apply LE.cons)); done) (by (repeat (first | exact LE.nil | apply LE.cons)); done) fun D hD F => ?_
  repeat' (first
    | apply AO.nil
    | (apply AO.kBox; refine AO.sBox (h := ?_))
    | (apply AO.kP; first | refine AO.sP (h := ?_) | refine AO.sPi (h := ?_) | refine AO.sLoadB (h := ?_))
    | apply AW.seq
    | (apply AW.kR; refine AW.sR (h := ?_))
    | apply AW.skip
    | apply AW.block
    | apply AW.out
    | (apply AW.kE; refine AW.sE (h := ?_))
    | apply AW.label
    | ((first | (apply AO.kG; first | refine AO.sgt (h1 := fun h => ?_) (h2 := fun h => ?_) | refine AO.sgf (h1 := fun h => ?_) (h2 := fun h => ?_) | refine AO.sgs (h := ?_))) <;> (try (first | exact Bool.noConfusion h | exact absurd h (by decide) | (simp at h; done) | (rw [h]; try simp only [nrm] at h; try rw [h]; try (exfalso; omega)) | skip))))
  all_goals (refine AW.ret (hD rfl ?_); (repeat' (first | apply Lx.s | apply Lx.b | apply Lx.i | apply LxL.cons | exact LxL.nil | apply Lx.tup | apply Lx.agg | apply Lx.refl)) <;> (try with_reducible rfl))
  all_goals simp_all [emR, blt, le_iff]
theorem gEmpty' (lo hi : L) (e : Bool) : Good Try.prog 62 [.agg [.s lo, .s hi, .b e]] [] (.b (emR lo hi e)) [] := by
  refine Good.w tabOk mixed Try.func62 (N := 8) (by kernel_rfl) rfl (by (repeat (first | exact LE.nil | apply LE.cons)); done) (by (repeat (first | exact LE.nil | apply LE.cons)); done) fun D hD F => ?_
  repeat' (first
    | apply AO.nil
    | (apply AO.kCall 29; refine AO.sCall (hg := (gIn' _ _ _ _)) (h := ?_))
    | (apply AO.kBox; refine AO.sBox (h := ?_))
    | (apply AO.kP; first | refine AO.sP (h := ?_) | refine AO.sPi (h := ?_) | refine AO.sLoadB (h := ?_))
    | apply AW.seq
    | (apply AW.kR; refine AW.sR (h := ?_))
    | apply AW.skip
    | apply AW.block
    | apply AW.out
    | (apply AW.kE; refine AW.sE (h := ?_))
    | apply AW.label)
  all_goals (refine AW.ret (hD rfl ?_); (repeat' (first | apply Lx.s | apply Lx.b | apply Lx.i | apply LxL.cons | exact LxL.nil | apply Lx.tup | apply Lx.agg | apply Lx.refl)) <;> (try with_reducible rfl))
  all_goals simp_all [emR, inR, lt_irrefl]
theorem gOf (p : L) (h : p.length ≤ 137438953472) : Good Try.prog 133 [.s p] [] (.agg [.s p, .s (succS p), .b (succOk p)]) [] := by
  refine Good.w tabOk mixed Try.func133 (N := 14) (by kernel_rfl) rfl (by (repeat (first | exact LE.nil | apply LE.cons)); done) (by (repeat (first | exact LE.nil | apply LE.cons)); done) fun D hD F => ?_
  repeat' (first
    | apply AO.nil
    | (apply AO.kCall 127; refine AO.sCall (hg := (gSucc _ sd)) (h := ?_))
    | (apply AO.kAlloc; refine AO.sAlloc (h := ?_))
    | (apply AO.kStore; first | refine AO.sStore (h := ?_) | refine AO.sStB (h := ?_))
    | (apply AO.kP; first | refine AO.sP (h := ?_) | refine AO.sPi (h := ?_))
    | apply AW.seq
    | (apply AW.kR; refine AW.sR (h := ?_))
    | apply AW.skip
    | apply AW.block
    | apply AW.out
    | (apply AW.kE; refine AW.sE (h := ?_))
    | apply AW.label)
  all_goals (refine AW.ret (hD rfl ?_); (repeat' (first | apply Lx.s | apply Lx.b | apply Lx.i | apply LxL.cons | exact LxL.nil | apply Lx.tup | apply Lx.agg | apply Lx.refl)) <;> (try with_reducible rfl))
theorem gNone : Good Try.prog 107 [] [] (.agg [.s [], .s [], .b true]) [] := by
  refine Good.w tabOk mixed Try.func107 (N := 2) (by kernel_rfl) rfl (by (repeat (first | exact LE.nil | apply LE.cons)); done) (by (repeat (first | exact LE.nil | apply LE.cons)); done) fun D hD F => ?_
  repeat' (first
    | apply AO.nil
    | (apply AO.kAlloc; refine AO.sAlloc (h := ?_))
    | (apply AO.kStore; first | refine AO.sStore (h := ?_) | refine AO.sStB (h := ?_))
    | (apply AO.kP; first | refine AO.sP (h := ?_) | refine AO.sPi (h := ?_))
    | apply AW.seq
    | (apply AW.kR; refine AW.sR (h := ?_))
    | apply AW.skip
    | apply AW.block
    | apply AW.out
    | (apply AW.kE; refine AW.sE (h := ?_))
    | apply AW.label)
  all_goals (refine AW.ret (hD rfl ?_); (repeat' (first | apply Lx.s | apply Lx.b | apply Lx.i | apply LxL.cons | exact LxL.nil | apply Lx.tup | apply Lx.agg | apply Lx.refl)) <;> (try with_reducible rfl))
theorem gGreat3 (lo hi : L) (e : Bool) : Good Try.prog 16 [.agg [.s lo, .s hi, .b e]] [] (.b (great2 lo hi)) [] := by
  refine Good.w tabOk mixed Try.func16 (N := 13) (by kernel_rfl) rfl (by (repeat (first | exact LE.nil | apply LE.cons)); done) (by (repeat (first | exact LE.nil | apply LE.cons)); done) fun D hD F => ?_
  repeat' (first
    | apply AO.nil
    | (apply AO.kBox; refine AO.sBox (h := ?_))
    | (apply AO.kP; first | refine AO.sP (h := ?_) | refine AO.sPi (h := ?_) | refine AO.sLoadB (h := ?_))
    | apply AW.seq
    | (apply AW.kR; refine AW.sR (h := ?_))
    | apply AW.skip
    | apply AW.block
    | apply AW.out
    | (apply AW.kE; refine AW.sE (h := ?_))
    | apply AW.label
    | ((first | (apply AO.kG; first | refine AO.sgt (h1 := fun h => ?_) (h2 := fun h => ?_) | refine AO.sgf (h1 := fun h => ?_) (h2 := fun h => ?_) | refine AO.sgs (h := ?_))) <;> (try (first | exact Bool.noConfusion h | exact absurd h (by decide) | (simp at h; done) | (rw [h]; try simp only [nrm] at h; try rw [h]; try (exfalso; omega)) | skip))))
  all_goals refine AW.ret (hD rfl (Lx.b ?_))
  all_goals (rw [Bool.eq_iff_iff]; simp [great2]; try omega)

theorem gCut (l1 h1 : L) (e1 : Bool) (l2 h2 : L) (e2 : Bool) : Good Try.prog 80 [.agg [.s l1, .s h1, .b e1], .agg [.s l2, .s h2, .b e2]] []
    (.agg [.s (if cutEm l1 h1 e1 l2 h2 e2 = true then [] else mxS l1 l2), .s (if cutEm l1 h1 e1 l2 h2 e2 = true then [] else cutHi l1 h1 e1 l2 h2 e2), .b (if cutEm l1 h1 e1 l2 h2 e2 = true then true else e1 || e2)]) [] := by
  refine Good.w tabOk mixed Try.func80 (N := 47) (by kernel_rfl) rfl (by (repeat (first | exact LE.nil | apply LE.cons)); done) (by (repeat (first | exact LE.nil | apply LE.cons)); done) fun D hD F => ?_
  repeat' (first
    | apply AO.nil
    | (apply AO.kCall 58; refine AO.sCall (hg := (gEmpty _ _ _)) (h := ?_))
    | (apply AO.kCall 107; refine AO.sCall (hg := gNone) (h := ?_))
    | (apply AO.kBox; refine AO.sBox (h := ?_))
    | (apply AO.kAlloc; refine AO.sAlloc (h := ?_))
    | (apply AO.kStore; first | refine AO.sStore (h := ?_) | refine AO.sStB (h := ?_))
    | (apply AO.kP; first | refine AO.sP (h := ?_) | refine AO.sPi (h := ?_) | refine AO.sLoadB (h := ?_))
    | apply AW.seq
    | (apply AW.kR; refine AW.sR (h := ?_))
    | apply AW.skip
    | apply AW.block
    | apply AW.out
    | (apply AW.kE; refine AW.sE (h := ?_))
    | apply AW.label
    | ((first | (apply AO.kG; first | refine AO.sgt (h1 := fun h => ?_) (h2 := fun h => ?_) | refine AO.sgf (h1 := fun h => ?_) (h2 := fun h => ?_) | refine AO.sgs (h := ?_)) | (apply AW.kC; refine AW.sC (h1 := fun h => ?_) (h2 := fun h => ?_))) <;> (try (first | exact Bool.noConfusion h | exact absurd h (by decide) | (simp at h; done) | (rw [h]; try simp only [nrm] at h; try rw [h]; try (exfalso; omega)) | skip))))
  all_goals (refine AW.ret (hD rfl ?_); (repeat' (first | apply Lx.s | apply Lx.b | apply Lx.i | apply LxL.cons | exact LxL.nil | apply Lx.tup | apply Lx.agg | apply Lx.refl)) <;> (try with_reducible rfl))
  all_goals (rcases Bool.eq_false_or_eq_true (Op.bytesLess l1 l2) with h9 | h9 <;> rcases Bool.eq_false_or_eq_true (Op.bytesLess h2 h1) with h8 | h8 <;> simp_all [cutEm, mxS, mnS, cutHi, blt, le_iff, lt])
theorem gCutS (l1 h1 : L) (e1 : Bool) (l2 h2 : L) (e2 : Bool) : Good Try.prog 80 [.agg [.s l1, .s h1, .b e1], .agg [.s l2, .s h2, .b e2]] []
    (.agg [.s (cS l1 h1 e1 l2 h2 e2).1, .s (cS l1 h1 e1 l2 h2 e2).2.1, .b (cS l1 h1 e1 l2 h2 e2).2.2]) [] := by
  have := gCut l1 h1 e1 l2 h2 e2
  cases h : cutEm l1 h1 e1 l2 h2 e2 <;> simpa [cS, h] using this
theorem gCut' (l1 h1 : L) (e1 : Bool) (l2 h2 : L) (e2 : Bool) : Good Try.prog 56 [.agg [.s l1, .s h1, .b e1], .agg [.s l2, .s h2, .b e2]] []
    (.agg [.s (cS l1 h1 e1 l2 h2 e2).1, .s (cS l1 h1 e1 l2 h2 e2).2.1, .b (cS l1 h1 e1 l2 h2 e2).2.2]) [] := by
  refine Good.w tabOk mixed Try.func56 (N := 43) (by kernel_rfl) rfl (by (repeat (first | exact LE.nil | apply LE.cons)); done) (by (repeat (first | exact LE.nil | apply LE.cons)); done) fun D hD F => ?_
  repeat' (first
    | apply AO.nil
    | (apply AO.kCall 62; refine AO.sCall (hg := (gEmpty' _ _ _)) (h := ?_))
    | (apply AO.kBox; refine AO.sBox (h := ?_))
    | (apply AO.kAlloc; refine AO.sAlloc (h := ?_))
    | (apply AO.kStore; first | refine AO.sStore (h := ?_) | refine AO.sStB (h := ?_))
    | (apply AO.kP; first | refine AO.sP (h := ?_) | refine AO.sPi (h := ?_) | refine AO.sLoadB (h := ?_))
    | apply AW.seq
    | (apply AW.kR; refine AW.sR (h := ?_))
    | apply AW.skip
    | apply AW.block
    | apply AW.out
    | (apply AW.kE; refine AW.sE (h := ?_))
    | apply AW.label
    | ((first | (apply AO.kG; first | refine AO.sgt (h1 := fun h => ?_) (h2 := fun h => ?_) | refine AO.sgf (h1 := fun h => ?_) (h2 := fun h => ?_) | refine AO.sgs (h := ?_)) | (apply AW.kC; refine AW.sC (h1 := fun h => ?_) (h2 := fun h => ?_))) <;> (try (first | exact Bool.noConfusion h | exact absurd h (by decide) | (simp at h; done) | (rw [h]; try simp only [nrm] at h; try rw [h]; try (exfalso; omega)) | skip))))
  all_goals (refine AW.ret (hD rfl ?_); (repeat' (first | apply Lx.s | apply Lx.b | apply Lx.i | apply LxL.cons | exact LxL.nil | apply Lx.tup | apply Lx.agg | apply Lx.refl)) <;> (try with_reducible rfl))
  all_goals (rcases Bool.eq_false_or_eq_true (Op.bytesLess l1 l2) with h9 | h9 <;> rcases Bool.eq_false_or_eq_true (Op.bytesLess h2 h1) with h8 | h8 <;> simp_all [cS, cutEm, mxS, mnS, cutHi, blt, le_iff, lt])
theorem gOver (s a lo hi : L) (e : Bool) (hs : s.length ≤ 1000000) (ha : a.length ≤ 1000000) (hl : lo.length ≤ 1000000) (hh : hi.length ≤ 1000000) : Good Try.prog 154 [.agg [.s s, .s a], .agg [.s lo, .s hi, .b e]] []
    (.agg [.s (ovS s a lo hi e).1, .s (ovS s a lo hi e).2.1, .b (ovS s a lo hi e).2.2]) [] := by
  have q1 := cS_len lo hi e s (succS s) (succOk s)
  have q2 := succS_len s
  have q3 := succS_len a
  have q4 := @cS_em lo hi e s (succS s) (succOk s)
  refine Good.w tabOk mixed Try.func154 (N := 43) (by kernel_rfl) rfl (by (repeat (first | exact LE.nil | apply LE.cons)); done) (by (repeat (first | exact LE.nil | apply LE.cons)); done) fun D hD F => ?_
  repeat' (first
    | apply AO.nil
    | (apply AO.kCall 80; refine AO.sCall (hg := (gCutS _ _ _ _ _ _)) (h := ?_))
    | (apply AO.kCall 133; refine AO.sCall (hg := (gOf _ sd)) (h := ?_))
    | (apply AO.kCall 58; refine AO.sCall (hg := (gEmpty _ _ _)) (h := ?_))
    | (apply AO.kCall 61; refine AO.sCall (hg := (gUp _ _ _ sd)) (h := ?_))
    | (apply AO.kBox; refine AO.sBox (h := ?_))
    | (apply AO.kAlloc; refine AO.sAlloc (h := ?_))
    | (apply AO.kStore; first | refine AO.sStore (h := ?_) | refine AO.sStB (h := ?_))
    | (apply AO.kP; first | refine AO.sP (h := ?_) | refine AO.sPi (h := ?_) | refine AO.sLoadB (h := ?_))
    | apply AW.seq
    | (apply AW.kR; refine AW.sR (h := ?_))
    | apply AW.skip
    | apply AW.block
    | apply AW.out
    | (apply AW.kE; refine AW.sE (h := ?_))
    | apply AW.label
    | (apply AW.kRd; refine AW.sRd (h := ?_))
    | ((first | (apply AO.kG; first | refine AO.sgt (h1 := fun h => ?_) (h2 := fun h => ?_) | refine AO.sgf (h1 := fun h => ?_) (h2 := fun h => ?_) | refine AO.sgs (h := ?_)) | (apply AW.kC; refine AW.sC (h1 := fun h => ?_) (h2 := fun h => ?_)) | (apply AR.kAny; apply AR.kG; first | refine AR.sgt (h1 := fun h => ?_) (h2 := fun h => ?_) | refine AR.sgf (h1 := fun h => ?_) (h2 := fun h => ?_) | refine AR.sgs (h := ?_))) <;> (try (first | exact Bool.noConfusion h | exact absurd h (by decide) | (simp at h; done) | (rw [h]; try simp only [nrm] at h; try rw [h]; try (exfalso; omega)) | skip)))
    | (apply AR.kAny; first | (apply AR.kCall 80; refine AR.sCall (hg := (gCutS _ _ _ _ _ _)) (h := ?_)) | (apply AR.kCall 133; refine AR.sCall (hg := (gOf _ sd)) (h := ?_)) | (apply AR.kCall 58; refine AR.sCall (hg := (gEmpty _ _ _)) (h := ?_)) | (apply AR.kCall 61; refine AR.sCall (hg := (gUp _ _ _ sd)) (h := ?_)) | (apply AR.kBox; refine AR.sBox (h := ?_)) | (apply AR.kAlloc; refine AR.sAlloc (h := ?_)) | (apply AR.kStore; refine AR.sStore (h := ?_)) | (apply AR.kP; first | refine AR.sP (h := ?_) | refine AR.sPi (h := ?_)))
    | (apply AR.kNil; refine AR.sNil (h := ?_)))
  all_goals (refine AW.ret (hD rfl ?_); (repeat' (first | apply Lx.s | apply Lx.b | apply Lx.i | apply LxL.cons | exact LxL.nil | apply Lx.tup | apply Lx.agg | apply Lx.refl)) <;> (try with_reducible rfl))
  all_goals simp_all [ovS, ocS]
end Go.Proofs.Ytocppeifkjdeiaa.Mv
