import Derived.Test.YtpmnjjmngogkkaaGreatDoorProg
import Derived.Test.YtpmnjjmngogkkaaGreatDoorOps
import Derived.Test.YtpmnjjmngogkkaaGreatDoorFloat
import Derived.Test.YtpmnjjmngogkkaaGreatDoorPanic
import Derived.KernelRfl
namespace Go.Proofs.YtpmnjjmngogkkaaGreatDoor
open Go
instance : TyI Tryz.prog 1 1 8 Go.Value.nilFunc false := ⟨by kernel_rfl, by rfl, by kernel_rfl⟩
instance : TyI Tryz.prog 2 1 8 (Go.Value.int Go.IntKind.i64 0) false := ⟨by kernel_rfl, by rfl, by kernel_rfl⟩
instance : IntT Tryz.prog 2 Go.IntKind.i64 := ⟨Tryz.underlying2⟩
instance : TyI Tryz.prog 3 1 8 (Go.Value.int Go.IntKind.i64 0) false := ⟨by kernel_rfl, by rfl, by kernel_rfl⟩
instance : IntT Tryz.prog 3 Go.IntKind.i64 := ⟨Tryz.underlying3⟩
instance : TyI Tryz.prog 4 1 1 (Go.Value.bool false) false := ⟨by kernel_rfl, by rfl, by kernel_rfl⟩
instance : BoolT Tryz.prog 4 := ⟨Tryz.underlying4⟩
instance : TyI Tryz.prog 5 1 1 (Go.Value.int Go.IntKind.u8 0) false := ⟨by kernel_rfl, by rfl, by kernel_rfl⟩
instance : IntT Tryz.prog 5 Go.IntKind.u8 := ⟨Tryz.underlying5⟩
instance : TyI Tryz.prog 6 1 1 (Go.Value.int Go.IntKind.u8 0) false := ⟨by kernel_rfl, by rfl, by kernel_rfl⟩
instance : IntT Tryz.prog 6 Go.IntKind.u8 := ⟨Tryz.underlying6⟩
instance : TyI Tryz.prog 7 4 24 (Go.Value.agg #[Go.Value.int Go.IntKind.i64 0, Go.Value.int Go.IntKind.i64 0, Go.Value.bool false, Go.Value.int Go.IntKind.u8 0]) true := ⟨by kernel_rfl, by rfl, by kernel_rfl⟩
instance : StcT Tryz.prog 7 [(0, 1), (1, 1), (2, 1), (3, 1)] := ⟨⟨_, Tryz.underlying7, fun w => by kernel_rfl⟩⟩
instance : FldT Tryz.prog 7 0 0 := ⟨⟨_, _, Tryz.t2, Tryz.underlying7, rfl, rfl, by kernel_rfl, by decide⟩⟩
instance : FldT Tryz.prog 7 1 1 := ⟨⟨_, _, Tryz.t3, Tryz.underlying7, rfl, rfl, by kernel_rfl, by decide⟩⟩
instance : FldT Tryz.prog 7 2 2 := ⟨⟨_, _, Tryz.t4, Tryz.underlying7, rfl, rfl, by kernel_rfl, by decide⟩⟩
instance : FldT Tryz.prog 7 3 3 := ⟨⟨_, _, Tryz.t6, Tryz.underlying7, rfl, rfl, by kernel_rfl, by decide⟩⟩
instance : TyI Tryz.prog 8 4 24 (Go.Value.agg #[Go.Value.int Go.IntKind.i64 0, Go.Value.int Go.IntKind.i64 0, Go.Value.bool false, Go.Value.int Go.IntKind.u8 0]) true := ⟨by kernel_rfl, by rfl, by kernel_rfl⟩
instance : StcT Tryz.prog 8 [(0, 1), (1, 1), (2, 1), (3, 1)] := ⟨⟨_, Tryz.underlying8, fun w => by kernel_rfl⟩⟩
instance : FldT Tryz.prog 8 0 0 := ⟨⟨_, _, Tryz.t2, Tryz.underlying8, rfl, rfl, by kernel_rfl, by decide⟩⟩
instance : FldT Tryz.prog 8 1 1 := ⟨⟨_, _, Tryz.t3, Tryz.underlying8, rfl, rfl, by kernel_rfl, by decide⟩⟩
instance : FldT Tryz.prog 8 2 2 := ⟨⟨_, _, Tryz.t4, Tryz.underlying8, rfl, rfl, by kernel_rfl, by decide⟩⟩
instance : FldT Tryz.prog 8 3 3 := ⟨⟨_, _, Tryz.t6, Tryz.underlying8, rfl, rfl, by kernel_rfl, by decide⟩⟩
instance : TyI Tryz.prog 9 1 16 (Go.Value.string { data := #[] }) false := ⟨by kernel_rfl, by rfl, by kernel_rfl⟩
instance : StrT Tryz.prog 9 := ⟨Tryz.underlying9⟩
instance : TyI Tryz.prog 10 1 16 (Go.Value.string { data := #[] }) false := ⟨by kernel_rfl, by rfl, by kernel_rfl⟩
instance : StrT Tryz.prog 10 := ⟨Tryz.underlying10⟩
instance : TyI Tryz.prog 11 1 16 (Go.Value.string { data := #[] }) false := ⟨by kernel_rfl, by rfl, by kernel_rfl⟩
instance : StrT Tryz.prog 11 := ⟨Tryz.underlying11⟩
instance : TyI Tryz.prog 12 1 8 (Go.Value.int Go.IntKind.u64 0) false := ⟨by kernel_rfl, by rfl, by kernel_rfl⟩
instance : IntT Tryz.prog 12 Go.IntKind.u64 := ⟨Tryz.underlying12⟩
instance : TyI Tryz.prog 13 2 24 (Go.Value.agg #[Go.Value.string { data := #[] }, Go.Value.int Go.IntKind.u64 0]) true := ⟨by kernel_rfl, by rfl, by kernel_rfl⟩
instance : StcT Tryz.prog 13 [(0, 1), (1, 1)] := ⟨⟨_, Tryz.underlying13, fun w => by kernel_rfl⟩⟩
instance : FldT Tryz.prog 13 0 0 := ⟨⟨_, _, Tryz.t9, Tryz.underlying13, rfl, rfl, by kernel_rfl, by decide⟩⟩
instance : FldT Tryz.prog 13 1 1 := ⟨⟨_, _, Tryz.t12, Tryz.underlying13, rfl, rfl, by kernel_rfl, by decide⟩⟩
instance : TyI Tryz.prog 14 2 24 (Go.Value.agg #[Go.Value.string { data := #[] }, Go.Value.int Go.IntKind.u64 0]) true := ⟨by kernel_rfl, by rfl, by kernel_rfl⟩
instance : StcT Tryz.prog 14 [(0, 1), (1, 1)] := ⟨⟨_, Tryz.underlying14, fun w => by kernel_rfl⟩⟩
instance : FldT Tryz.prog 14 0 0 := ⟨⟨_, _, Tryz.t9, Tryz.underlying14, rfl, rfl, by kernel_rfl, by decide⟩⟩
instance : FldT Tryz.prog 14 1 1 := ⟨⟨_, _, Tryz.t12, Tryz.underlying14, rfl, rfl, by kernel_rfl, by decide⟩⟩
instance : TyI Tryz.prog 15 1 8 (Go.Value.pointer none) false := ⟨by kernel_rfl, by rfl, by kernel_rfl⟩
instance : TyI Tryz.prog 16 1 8 (Go.Value.pointer none) false := ⟨by kernel_rfl, by rfl, by kernel_rfl⟩
instance : TyI Tryz.prog 17 1 8 (Go.Value.pointer none) false := ⟨by kernel_rfl, by rfl, by kernel_rfl⟩
instance : TyI Tryz.prog 18 1 8 (Go.Value.agg #[Go.Value.pointer none]) true := ⟨by kernel_rfl, by rfl, by kernel_rfl⟩
instance : StcT Tryz.prog 18 [(0, 1)] := ⟨⟨_, Tryz.underlying18, fun w => by kernel_rfl⟩⟩
instance : FldT Tryz.prog 18 0 0 := ⟨⟨_, _, Tryz.t17, Tryz.underlying18, rfl, rfl, by kernel_rfl, by decide⟩⟩
instance : TyI Tryz.prog 19 1 8 (Go.Value.agg #[Go.Value.pointer none]) true := ⟨by kernel_rfl, by rfl, by kernel_rfl⟩
instance : StcT Tryz.prog 19 [(0, 1)] := ⟨⟨_, Tryz.underlying19, fun w => by kernel_rfl⟩⟩
instance : FldT Tryz.prog 19 0 0 := ⟨⟨_, _, Tryz.t17, Tryz.underlying19, rfl, rfl, by kernel_rfl, by decide⟩⟩
instance : TyI Tryz.prog 20 1 16 Go.Value.nilIface false := ⟨by kernel_rfl, by rfl, by kernel_rfl⟩
instance : IfcT Tryz.prog 20 := ⟨⟨_, Tryz.underlying20⟩⟩
instance : TyI Tryz.prog 21 1 4 (Go.Value.int Go.IntKind.i32 0) false := ⟨by kernel_rfl, by rfl, by kernel_rfl⟩
instance : IntT Tryz.prog 21 Go.IntKind.i32 := ⟨Tryz.underlying21⟩
instance : TyI Tryz.prog 22 1 8 Go.Value.nilFunc false := ⟨by kernel_rfl, by rfl, by kernel_rfl⟩
instance : TyI Tryz.prog 23 1 24 (Go.Value.slice none 0 0) false := ⟨by kernel_rfl, by rfl, by kernel_rfl⟩
instance : SlT Tryz.prog 23 127 := ⟨Tryz.underlying23⟩
instance : TyI Tryz.prog 24 1 24 (Go.Value.slice none 0 0) false := ⟨by kernel_rfl, by rfl, by kernel_rfl⟩
instance : SlT Tryz.prog 24 127 := ⟨Tryz.underlying24⟩
instance : TyI Tryz.prog 25 2 32 (Go.Value.agg #[Go.Value.bool false, Go.Value.slice none 0 0]) true := ⟨by kernel_rfl, by rfl, by kernel_rfl⟩
instance : StcT Tryz.prog 25 [(0, 1), (1, 1)] := ⟨⟨_, Tryz.underlying25, fun w => by kernel_rfl⟩⟩
instance : FldT Tryz.prog 25 0 0 := ⟨⟨_, _, Tryz.t4, Tryz.underlying25, rfl, rfl, by kernel_rfl, by decide⟩⟩
instance : FldT Tryz.prog 25 1 1 := ⟨⟨_, _, Tryz.t24, Tryz.underlying25, rfl, rfl, by kernel_rfl, by decide⟩⟩
instance : TyI Tryz.prog 26 2 32 (Go.Value.agg #[Go.Value.bool false, Go.Value.slice none 0 0]) true := ⟨by kernel_rfl, by rfl, by kernel_rfl⟩
instance : StcT Tryz.prog 26 [(0, 1), (1, 1)] := ⟨⟨_, Tryz.underlying26, fun w => by kernel_rfl⟩⟩
instance : FldT Tryz.prog 26 0 0 := ⟨⟨_, _, Tryz.t4, Tryz.underlying26, rfl, rfl, by kernel_rfl, by decide⟩⟩
instance : FldT Tryz.prog 26 1 1 := ⟨⟨_, _, Tryz.t24, Tryz.underlying26, rfl, rfl, by kernel_rfl, by decide⟩⟩
instance : TyI Tryz.prog 27 1 8 Go.Value.nilFunc false := ⟨by kernel_rfl, by rfl, by kernel_rfl⟩
instance : TyI Tryz.prog 28 1 24 (Go.Value.slice none 0 0) false := ⟨by kernel_rfl, by rfl, by kernel_rfl⟩
instance : SlT Tryz.prog 28 3 := ⟨Tryz.underlying28⟩
instance : TyI Tryz.prog 29 1 24 (Go.Value.slice none 0 0) false := ⟨by kernel_rfl, by rfl, by kernel_rfl⟩
instance : SlT Tryz.prog 29 3 := ⟨Tryz.underlying29⟩
instance : TyI Tryz.prog 30 2 32 (Go.Value.agg #[Go.Value.bool false, Go.Value.slice none 0 0]) true := ⟨by kernel_rfl, by rfl, by kernel_rfl⟩
instance : StcT Tryz.prog 30 [(0, 1), (1, 1)] := ⟨⟨_, Tryz.underlying30, fun w => by kernel_rfl⟩⟩
instance : FldT Tryz.prog 30 0 0 := ⟨⟨_, _, Tryz.t4, Tryz.underlying30, rfl, rfl, by kernel_rfl, by decide⟩⟩
instance : FldT Tryz.prog 30 1 1 := ⟨⟨_, _, Tryz.t29, Tryz.underlying30, rfl, rfl, by kernel_rfl, by decide⟩⟩
instance : TyI Tryz.prog 31 2 32 (Go.Value.agg #[Go.Value.bool false, Go.Value.slice none 0 0]) true := ⟨by kernel_rfl, by rfl, by kernel_rfl⟩
instance : StcT Tryz.prog 31 [(0, 1), (1, 1)] := ⟨⟨_, Tryz.underlying31, fun w => by kernel_rfl⟩⟩
instance : FldT Tryz.prog 31 0 0 := ⟨⟨_, _, Tryz.t4, Tryz.underlying31, rfl, rfl, by kernel_rfl, by decide⟩⟩
instance : FldT Tryz.prog 31 1 1 := ⟨⟨_, _, Tryz.t29, Tryz.underlying31, rfl, rfl, by kernel_rfl, by decide⟩⟩
instance : TyI Tryz.prog 32 1 8 Go.Value.nilFunc false := ⟨by kernel_rfl, by rfl, by kernel_rfl⟩
instance : TyI Tryz.prog 33 3 56 (Go.Value.agg #[Go.Value.bool false, Go.Value.slice none 0 0, Go.Value.slice none 0 0]) true := ⟨by kernel_rfl, by rfl, by kernel_rfl⟩
instance : StcT Tryz.prog 33 [(0, 2), (2, 1)] := ⟨⟨_, Tryz.underlying33, fun w => by kernel_rfl⟩⟩
instance : FldT Tryz.prog 33 0 0 := ⟨⟨_, _, Tryz.t26, Tryz.underlying33, rfl, rfl, by kernel_rfl, by decide⟩⟩
instance : FldT Tryz.prog 33 1 2 := ⟨⟨_, _, Tryz.t24, Tryz.underlying33, rfl, rfl, by kernel_rfl, by decide⟩⟩
instance : TyI Tryz.prog 34 3 56 (Go.Value.agg #[Go.Value.bool false, Go.Value.slice none 0 0, Go.Value.slice none 0 0]) true := ⟨by kernel_rfl, by rfl, by kernel_rfl⟩
instance : StcT Tryz.prog 34 [(0, 2), (2, 1)] := ⟨⟨_, Tryz.underlying34, fun w => by kernel_rfl⟩⟩
instance : FldT Tryz.prog 34 0 0 := ⟨⟨_, _, Tryz.t26, Tryz.underlying34, rfl, rfl, by kernel_rfl, by decide⟩⟩
instance : FldT Tryz.prog 34 1 2 := ⟨⟨_, _, Tryz.t24, Tryz.underlying34, rfl, rfl, by kernel_rfl, by decide⟩⟩
instance : TyI Tryz.prog 35 1 8 Go.Value.nilFunc false := ⟨by kernel_rfl, by rfl, by kernel_rfl⟩
instance : TyI Tryz.prog 36 1 8 Go.Value.nilFunc false := ⟨by kernel_rfl, by rfl, by kernel_rfl⟩
instance : TyI Tryz.prog 37 1 8 Go.Value.nilFunc false := ⟨by kernel_rfl, by rfl, by kernel_rfl⟩
instance : TyI Tryz.prog 38 1 8 (Go.Value.int Go.IntKind.i64 0) false := ⟨by kernel_rfl, by rfl, by kernel_rfl⟩
instance : IntT Tryz.prog 38 Go.IntKind.i64 := ⟨Tryz.underlying38⟩
instance : TyI Tryz.prog 40 1 8 Go.Value.nilFunc false := ⟨by kernel_rfl, by rfl, by kernel_rfl⟩
instance : TyI Tryz.prog 41 1 8 Go.Value.nilFunc false := ⟨by kernel_rfl, by rfl, by kernel_rfl⟩
instance : TyI Tryz.prog 42 1 8 Go.Value.nilFunc false := ⟨by kernel_rfl, by rfl, by kernel_rfl⟩
instance : TyI Tryz.prog 43 1 8 Go.Value.nilFunc false := ⟨by kernel_rfl, by rfl, by kernel_rfl⟩
instance : TyI Tryz.prog 44 4 64 (Go.Value.agg #[Go.Value.bool false, Go.Value.slice none 0 0, Go.Value.bool false, Go.Value.slice none 0 0]) true := ⟨by kernel_rfl, by rfl, by kernel_rfl⟩
instance : StcT Tryz.prog 44 [(0, 2), (2, 2)] := ⟨⟨_, Tryz.underlying44, fun w => by kernel_rfl⟩⟩
instance : FldT Tryz.prog 44 0 0 := ⟨⟨_, _, Tryz.t31, Tryz.underlying44, rfl, rfl, by kernel_rfl, by decide⟩⟩
instance : FldT Tryz.prog 44 1 2 := ⟨⟨_, _, Tryz.t31, Tryz.underlying44, rfl, rfl, by kernel_rfl, by decide⟩⟩
instance : TyI Tryz.prog 45 4 64 (Go.Value.agg #[Go.Value.bool false, Go.Value.slice none 0 0, Go.Value.bool false, Go.Value.slice none 0 0]) true := ⟨by kernel_rfl, by rfl, by kernel_rfl⟩
instance : StcT Tryz.prog 45 [(0, 2), (2, 2)] := ⟨⟨_, Tryz.underlying45, fun w => by kernel_rfl⟩⟩
instance : FldT Tryz.prog 45 0 0 := ⟨⟨_, _, Tryz.t31, Tryz.underlying45, rfl, rfl, by kernel_rfl, by decide⟩⟩
instance : FldT Tryz.prog 45 1 2 := ⟨⟨_, _, Tryz.t31, Tryz.underlying45, rfl, rfl, by kernel_rfl, by decide⟩⟩
instance : TyI Tryz.prog 46 1 8 Go.Value.nilFunc false := ⟨by kernel_rfl, by rfl, by kernel_rfl⟩
instance : TyI Tryz.prog 47 1 8 Go.Value.nilFunc false := ⟨by kernel_rfl, by rfl, by kernel_rfl⟩
instance : TyI Tryz.prog 49 1 8 Go.Value.nilFunc false := ⟨by kernel_rfl, by rfl, by kernel_rfl⟩
instance : TyI Tryz.prog 51 1 8 Go.Value.nilFunc false := ⟨by kernel_rfl, by rfl, by kernel_rfl⟩
instance : TyI Tryz.prog 52 1 8 Go.Value.nilFunc false := ⟨by kernel_rfl, by rfl, by kernel_rfl⟩
instance : TyI Tryz.prog 53 1 8 Go.Value.nilFunc false := ⟨by kernel_rfl, by rfl, by kernel_rfl⟩
instance : TyI Tryz.prog 54 1 8 Go.Value.nilFunc false := ⟨by kernel_rfl, by rfl, by kernel_rfl⟩
instance : TyI Tryz.prog 55 1 8 Go.Value.nilFunc false := ⟨by kernel_rfl, by rfl, by kernel_rfl⟩
instance : TyI Tryz.prog 57 1 8 Go.Value.nilFunc false := ⟨by kernel_rfl, by rfl, by kernel_rfl⟩
instance : TyI Tryz.prog 58 1 8 Go.Value.nilFunc false := ⟨by kernel_rfl, by rfl, by kernel_rfl⟩
instance : TyI Tryz.prog 60 1 8 Go.Value.nilFunc false := ⟨by kernel_rfl, by rfl, by kernel_rfl⟩
instance : TyI Tryz.prog 61 1 8 Go.Value.nilFunc false := ⟨by kernel_rfl, by rfl, by kernel_rfl⟩
instance : TyI Tryz.prog 63 1 8 Go.Value.nilFunc false := ⟨by kernel_rfl, by rfl, by kernel_rfl⟩
instance : TyI Tryz.prog 64 1 8 Go.Value.nilFunc false := ⟨by kernel_rfl, by rfl, by kernel_rfl⟩
instance : TyI Tryz.prog 65 1 8 Go.Value.nilFunc false := ⟨by kernel_rfl, by rfl, by kernel_rfl⟩
instance : TyI Tryz.prog 66 1 8 Go.Value.nilFunc false := ⟨by kernel_rfl, by rfl, by kernel_rfl⟩
instance : TyI Tryz.prog 67 1 8 Go.Value.nilFunc false := ⟨by kernel_rfl, by rfl, by kernel_rfl⟩
instance : TyI Tryz.prog 68 1 8 Go.Value.nilFunc false := ⟨by kernel_rfl, by rfl, by kernel_rfl⟩
instance : TyI Tryz.prog 69 1 8 Go.Value.nilFunc false := ⟨by kernel_rfl, by rfl, by kernel_rfl⟩
instance : TyI Tryz.prog 70 1 8 (Go.Value.int Go.IntKind.u64 0) false := ⟨by kernel_rfl, by rfl, by kernel_rfl⟩
instance : IntT Tryz.prog 70 Go.IntKind.u64 := ⟨Tryz.underlying70⟩
instance : TyI Tryz.prog 71 1 8 Go.Value.nilFunc false := ⟨by kernel_rfl, by rfl, by kernel_rfl⟩
instance : TyI Tryz.prog 72 1 8 Go.Value.nilFunc false := ⟨by kernel_rfl, by rfl, by kernel_rfl⟩
instance : TyI Tryz.prog 73 1 24 (Go.Value.slice none 0 0) false := ⟨by kernel_rfl, by rfl, by kernel_rfl⟩
instance : SlT Tryz.prog 73 5 := ⟨Tryz.underlying73⟩
instance : TyI Tryz.prog 74 1 8 Go.Value.nilFunc false := ⟨by kernel_rfl, by rfl, by kernel_rfl⟩
instance : TyI Tryz.prog 75 1 8 Go.Value.nilFunc false := ⟨by kernel_rfl, by rfl, by kernel_rfl⟩
instance : TyI Tryz.prog 76 1 8 Go.Value.nilFunc false := ⟨by kernel_rfl, by rfl, by kernel_rfl⟩
instance : TyI Tryz.prog 77 3 48 (Go.Value.agg #[Go.Value.string { data := #[] }, Go.Value.string { data := #[] }, Go.Value.string { data := #[] }]) true := ⟨by kernel_rfl, by rfl, by kernel_rfl⟩
instance : TyI Tryz.prog 78 1 8 Go.Value.nilFunc false := ⟨by kernel_rfl, by rfl, by kernel_rfl⟩
instance : TyI Tryz.prog 79 1 8 Go.Value.nilFunc false := ⟨by kernel_rfl, by rfl, by kernel_rfl⟩
instance : TyI Tryz.prog 81 1 8 Go.Value.nilFunc false := ⟨by kernel_rfl, by rfl, by kernel_rfl⟩
instance : TyI Tryz.prog 83 1 8 Go.Value.nilFunc false := ⟨by kernel_rfl, by rfl, by kernel_rfl⟩
instance : TyI Tryz.prog 84 1 8 Go.Value.nilFunc false := ⟨by kernel_rfl, by rfl, by kernel_rfl⟩
instance : TyI Tryz.prog 85 1 8 Go.Value.nilFunc false := ⟨by kernel_rfl, by rfl, by kernel_rfl⟩
instance : TyI Tryz.prog 86 1 8 Go.Value.nilFunc false := ⟨by kernel_rfl, by rfl, by kernel_rfl⟩
instance : TyI Tryz.prog 88 1 8 Go.Value.nilFunc false := ⟨by kernel_rfl, by rfl, by kernel_rfl⟩
instance : TyI Tryz.prog 89 1 8 Go.Value.nilFunc false := ⟨by kernel_rfl, by rfl, by kernel_rfl⟩
instance : TyI Tryz.prog 90 1 8 Go.Value.nilFunc false := ⟨by kernel_rfl, by rfl, by kernel_rfl⟩
instance : TyI Tryz.prog 91 1 24 (Go.Value.slice none 0 0) false := ⟨by kernel_rfl, by rfl, by kernel_rfl⟩
instance : SlT Tryz.prog 91 104 := ⟨Tryz.underlying91⟩
instance : TyI Tryz.prog 92 2 16 (Go.Value.agg #[Go.Value.int Go.IntKind.i64 0, Go.Value.int Go.IntKind.i64 0]) true := ⟨by kernel_rfl, by rfl, by kernel_rfl⟩
instance : TyI Tryz.prog 93 1 24 (Go.Value.slice none 0 0) false := ⟨by kernel_rfl, by rfl, by kernel_rfl⟩
instance : SlT Tryz.prog 93 95 := ⟨Tryz.underlying93⟩
instance : TyI Tryz.prog 94 1 24 (Go.Value.slice none 0 0) false := ⟨by kernel_rfl, by rfl, by kernel_rfl⟩
instance : SlT Tryz.prog 94 96 := ⟨Tryz.underlying94⟩
instance : TyI Tryz.prog 95 1 24 (Go.Value.slice none 0 0) false := ⟨by kernel_rfl, by rfl, by kernel_rfl⟩
instance : SlT Tryz.prog 95 34 := ⟨Tryz.underlying95⟩
instance : TyI Tryz.prog 96 1 24 (Go.Value.slice none 0 0) false := ⟨by kernel_rfl, by rfl, by kernel_rfl⟩
instance : SlT Tryz.prog 96 45 := ⟨Tryz.underlying96⟩
instance : TyI Tryz.prog 98 1 8 Go.Value.nilFunc false := ⟨by kernel_rfl, by rfl, by kernel_rfl⟩
instance : TyI Tryz.prog 99 1 8 Go.Value.nilFunc false := ⟨by kernel_rfl, by rfl, by kernel_rfl⟩
instance : TyI Tryz.prog 100 1 8 Go.Value.nilFunc false := ⟨by kernel_rfl, by rfl, by kernel_rfl⟩
instance : TyI Tryz.prog 102 1 8 Go.Value.nilFunc false := ⟨by kernel_rfl, by rfl, by kernel_rfl⟩
instance : TyI Tryz.prog 103 1 8 Go.Value.nilFunc false := ⟨by kernel_rfl, by rfl, by kernel_rfl⟩
instance : TyI Tryz.prog 104 1 24 (Go.Value.slice none 0 0) false := ⟨by kernel_rfl, by rfl, by kernel_rfl⟩
instance : SlT Tryz.prog 104 9 := ⟨Tryz.underlying104⟩
instance : TyI Tryz.prog 106 1 8 Go.Value.nilFunc false := ⟨by kernel_rfl, by rfl, by kernel_rfl⟩
instance : TyI Tryz.prog 107 1 8 Go.Value.nilFunc false := ⟨by kernel_rfl, by rfl, by kernel_rfl⟩
instance : TyI Tryz.prog 108 1 8 Go.Value.nilFunc false := ⟨by kernel_rfl, by rfl, by kernel_rfl⟩
instance : TyI Tryz.prog 110 1 8 Go.Value.nilFunc false := ⟨by kernel_rfl, by rfl, by kernel_rfl⟩
instance : TyI Tryz.prog 111 1 8 Go.Value.nilFunc false := ⟨by kernel_rfl, by rfl, by kernel_rfl⟩
instance : TyI Tryz.prog 112 1 8 Go.Value.nilFunc false := ⟨by kernel_rfl, by rfl, by kernel_rfl⟩
instance : TyI Tryz.prog 113 1 8 Go.Value.nilFunc false := ⟨by kernel_rfl, by rfl, by kernel_rfl⟩
instance : TyI Tryz.prog 114 1 8 Go.Value.nilFunc false := ⟨by kernel_rfl, by rfl, by kernel_rfl⟩
instance : TyI Tryz.prog 115 1 8 Go.Value.nilFunc false := ⟨by kernel_rfl, by rfl, by kernel_rfl⟩
instance : TyI Tryz.prog 116 1 8 Go.Value.nilFunc false := ⟨by kernel_rfl, by rfl, by kernel_rfl⟩
instance : TyI Tryz.prog 117 1 8 (Go.Value.int Go.IntKind.u64 0) false := ⟨by kernel_rfl, by rfl, by kernel_rfl⟩
instance : IntT Tryz.prog 117 Go.IntKind.u64 := ⟨Tryz.underlying117⟩
instance : TyI Tryz.prog 118 1 8 Go.Value.nilFunc false := ⟨by kernel_rfl, by rfl, by kernel_rfl⟩
instance : TyI Tryz.prog 119 1 8 Go.Value.nilFunc false := ⟨by kernel_rfl, by rfl, by kernel_rfl⟩
instance : TyI Tryz.prog 120 1 8 Go.Value.nilFunc false := ⟨by kernel_rfl, by rfl, by kernel_rfl⟩
instance : TyI Tryz.prog 121 1 8 Go.Value.nilFunc false := ⟨by kernel_rfl, by rfl, by kernel_rfl⟩
instance : TyI Tryz.prog 122 1 8 Go.Value.nilFunc false := ⟨by kernel_rfl, by rfl, by kernel_rfl⟩
instance : TyI Tryz.prog 123 1 8 Go.Value.nilFunc false := ⟨by kernel_rfl, by rfl, by kernel_rfl⟩
instance : TyI Tryz.prog 124 1 8 Go.Value.nilFunc false := ⟨by kernel_rfl, by rfl, by kernel_rfl⟩
instance : TyI Tryz.prog 125 1 8 Go.Value.nilFunc false := ⟨by kernel_rfl, by rfl, by kernel_rfl⟩
instance : TyI Tryz.prog 126 1 8 Go.Value.nilFunc false := ⟨by kernel_rfl, by rfl, by kernel_rfl⟩
instance : TyI Tryz.prog 127 1 4 (Go.Value.int Go.IntKind.u32 0) false := ⟨by kernel_rfl, by rfl, by kernel_rfl⟩
instance : IntT Tryz.prog 127 Go.IntKind.u32 := ⟨Tryz.underlying127⟩
instance : TyI Tryz.prog 128 1 8 Go.Value.nilFunc false := ⟨by kernel_rfl, by rfl, by kernel_rfl⟩
instance : TyI Tryz.prog 130 1 8 Go.Value.nilFunc false := ⟨by kernel_rfl, by rfl, by kernel_rfl⟩
instance : TyI Tryz.prog 132 1 8 Go.Value.nilFunc false := ⟨by kernel_rfl, by rfl, by kernel_rfl⟩
instance : TyI Tryz.prog 133 1 8 Go.Value.nilFunc false := ⟨by kernel_rfl, by rfl, by kernel_rfl⟩
instance : TyI Tryz.prog 134 1 8 Go.Value.nilFunc false := ⟨by kernel_rfl, by rfl, by kernel_rfl⟩
instance : TyI Tryz.prog 135 1 8 Go.Value.nilFunc false := ⟨by kernel_rfl, by rfl, by kernel_rfl⟩
instance : TyI Tryz.prog 136 1 8 Go.Value.nilFunc false := ⟨by kernel_rfl, by rfl, by kernel_rfl⟩
instance : TyI Tryz.prog 138 1 8 Go.Value.nilFunc false := ⟨by kernel_rfl, by rfl, by kernel_rfl⟩
instance : TyI Tryz.prog 140 1 8 Go.Value.nilFunc false := ⟨by kernel_rfl, by rfl, by kernel_rfl⟩
instance : TyI Tryz.prog 141 1 8 Go.Value.nilFunc false := ⟨by kernel_rfl, by rfl, by kernel_rfl⟩
instance : TyI Tryz.prog 142 1 8 Go.Value.nilFunc false := ⟨by kernel_rfl, by rfl, by kernel_rfl⟩
instance : TyI Tryz.prog 143 1 8 Go.Value.nilFunc false := ⟨by kernel_rfl, by rfl, by kernel_rfl⟩
instance : TyI Tryz.prog 144 1 16 Go.Value.nilIface false := ⟨by kernel_rfl, by rfl, by kernel_rfl⟩
instance : IfcT Tryz.prog 144 := ⟨⟨_, Tryz.underlying144⟩⟩
instance : TyI Tryz.prog 145 1 16 Go.Value.nilIface false := ⟨by kernel_rfl, by rfl, by kernel_rfl⟩
instance : IfcT Tryz.prog 145 := ⟨⟨_, Tryz.underlying145⟩⟩
instance : TyI Tryz.prog 147 1 8 Go.Value.nilFunc false := ⟨by kernel_rfl, by rfl, by kernel_rfl⟩
instance : TyI Tryz.prog 148 1 8 Go.Value.nilFunc false := ⟨by kernel_rfl, by rfl, by kernel_rfl⟩
instance : TyI Tryz.prog 149 1 8 Go.Value.nilFunc false := ⟨by kernel_rfl, by rfl, by kernel_rfl⟩
instance : TyI Tryz.prog 151 1 8 Go.Value.nilFunc false := ⟨by kernel_rfl, by rfl, by kernel_rfl⟩
instance : TyI Tryz.prog 152 1 8 Go.Value.nilFunc false := ⟨by kernel_rfl, by rfl, by kernel_rfl⟩
instance : TyI Tryz.prog 153 1 8 Go.Value.nilFunc false := ⟨by kernel_rfl, by rfl, by kernel_rfl⟩
instance : TyI Tryz.prog 154 1 24 (Go.Value.slice none 0 0) false := ⟨by kernel_rfl, by rfl, by kernel_rfl⟩
instance : SlT Tryz.prog 154 95 := ⟨Tryz.underlying154⟩
instance : TyI Tryz.prog 155 1 8 Go.Value.nilFunc false := ⟨by kernel_rfl, by rfl, by kernel_rfl⟩
instance : TyI Tryz.prog 156 1 8 Go.Value.nilFunc false := ⟨by kernel_rfl, by rfl, by kernel_rfl⟩
instance : TyI Tryz.prog 157 1 8 Go.Value.nilFunc false := ⟨by kernel_rfl, by rfl, by kernel_rfl⟩
instance : TyI Tryz.prog 159 1 8 Go.Value.nilFunc false := ⟨by kernel_rfl, by rfl, by kernel_rfl⟩
instance : TyI Tryz.prog 161 1 8 Go.Value.nilFunc false := ⟨by kernel_rfl, by rfl, by kernel_rfl⟩
instance : TyI Tryz.prog 162 1 8 Go.Value.nilFunc false := ⟨by kernel_rfl, by rfl, by kernel_rfl⟩
instance : TyI Tryz.prog 163 1 8 Go.Value.nilFunc false := ⟨by kernel_rfl, by rfl, by kernel_rfl⟩
instance : TyI Tryz.prog 164 1 8 Go.Value.nilFunc false := ⟨by kernel_rfl, by rfl, by kernel_rfl⟩
instance : TyI Tryz.prog 165 1 8 (Go.Value.pointer none) false := ⟨by kernel_rfl, by rfl, by kernel_rfl⟩
instance : TyI Tryz.prog 166 1 8 Go.Value.nilFunc false := ⟨by kernel_rfl, by rfl, by kernel_rfl⟩
instance : TyI Tryz.prog 167 1 24 (Go.Value.slice none 0 0) false := ⟨by kernel_rfl, by rfl, by kernel_rfl⟩
instance : SlT Tryz.prog 167 4 := ⟨Tryz.underlying167⟩
instance : TyI Tryz.prog 168 5 104 (Go.Value.agg #[Go.Value.slice none 0 0, Go.Value.slice none 0 0, Go.Value.slice none 0 0, Go.Value.int Go.IntKind.i64 0, Go.Value.slice none 0 0]) true := ⟨by kernel_rfl, by rfl, by kernel_rfl⟩
instance : StcT Tryz.prog 168 [(0, 1), (1, 1), (2, 1), (3, 1), (4, 1)] := ⟨⟨_, Tryz.underlying168, fun w => by kernel_rfl⟩⟩
instance : FldT Tryz.prog 168 0 0 := ⟨⟨_, _, Tryz.t154, Tryz.underlying168, rfl, rfl, by kernel_rfl, by decide⟩⟩
instance : FldT Tryz.prog 168 1 1 := ⟨⟨_, _, Tryz.t95, Tryz.underlying168, rfl, rfl, by kernel_rfl, by decide⟩⟩
instance : FldT Tryz.prog 168 2 2 := ⟨⟨_, _, Tryz.t28, Tryz.underlying168, rfl, rfl, by kernel_rfl, by decide⟩⟩
instance : FldT Tryz.prog 168 3 3 := ⟨⟨_, _, Tryz.t3, Tryz.underlying168, rfl, rfl, by kernel_rfl, by decide⟩⟩
instance : FldT Tryz.prog 168 4 4 := ⟨⟨_, _, Tryz.t167, Tryz.underlying168, rfl, rfl, by kernel_rfl, by decide⟩⟩
instance : TyI Tryz.prog 169 5 104 (Go.Value.agg #[Go.Value.slice none 0 0, Go.Value.slice none 0 0, Go.Value.slice none 0 0, Go.Value.int Go.IntKind.i64 0, Go.Value.slice none 0 0]) true := ⟨by kernel_rfl, by rfl, by kernel_rfl⟩
instance : StcT Tryz.prog 169 [(0, 1), (1, 1), (2, 1), (3, 1), (4, 1)] := ⟨⟨_, Tryz.underlying169, fun w => by kernel_rfl⟩⟩
instance : FldT Tryz.prog 169 0 0 := ⟨⟨_, _, Tryz.t154, Tryz.underlying169, rfl, rfl, by kernel_rfl, by decide⟩⟩
instance : FldT Tryz.prog 169 1 1 := ⟨⟨_, _, Tryz.t95, Tryz.underlying169, rfl, rfl, by kernel_rfl, by decide⟩⟩
instance : FldT Tryz.prog 169 2 2 := ⟨⟨_, _, Tryz.t28, Tryz.underlying169, rfl, rfl, by kernel_rfl, by decide⟩⟩
instance : FldT Tryz.prog 169 3 3 := ⟨⟨_, _, Tryz.t3, Tryz.underlying169, rfl, rfl, by kernel_rfl, by decide⟩⟩
instance : FldT Tryz.prog 169 4 4 := ⟨⟨_, _, Tryz.t167, Tryz.underlying169, rfl, rfl, by kernel_rfl, by decide⟩⟩
instance : TyI Tryz.prog 170 1 8 (Go.Value.pointer none) false := ⟨by kernel_rfl, by rfl, by kernel_rfl⟩
instance : TyI Tryz.prog 171 2 32 (Go.Value.agg #[Go.Value.pointer none, Go.Value.slice none 0 0]) true := ⟨by kernel_rfl, by rfl, by kernel_rfl⟩
instance : StcT Tryz.prog 171 [(0, 1), (1, 1)] := ⟨⟨_, Tryz.underlying171, fun w => by kernel_rfl⟩⟩
instance : FldT Tryz.prog 171 0 0 := ⟨⟨_, _, Tryz.t170, Tryz.underlying171, rfl, rfl, by kernel_rfl, by decide⟩⟩
instance : FldT Tryz.prog 171 1 1 := ⟨⟨_, _, Tryz.t73, Tryz.underlying171, rfl, rfl, by kernel_rfl, by decide⟩⟩
instance : TyI Tryz.prog 172 2 32 (Go.Value.agg #[Go.Value.pointer none, Go.Value.slice none 0 0]) true := ⟨by kernel_rfl, by rfl, by kernel_rfl⟩
instance : StcT Tryz.prog 172 [(0, 1), (1, 1)] := ⟨⟨_, Tryz.underlying172, fun w => by kernel_rfl⟩⟩
instance : FldT Tryz.prog 172 0 0 := ⟨⟨_, _, Tryz.t170, Tryz.underlying172, rfl, rfl, by kernel_rfl, by decide⟩⟩
instance : FldT Tryz.prog 172 1 1 := ⟨⟨_, _, Tryz.t73, Tryz.underlying172, rfl, rfl, by kernel_rfl, by decide⟩⟩
instance : TyI Tryz.prog 174 1 8 Go.Value.nilFunc false := ⟨by kernel_rfl, by rfl, by kernel_rfl⟩
instance : TyI Tryz.prog 175 1 8 Go.Value.nilFunc false := ⟨by kernel_rfl, by rfl, by kernel_rfl⟩
instance : TyI Tryz.prog 176 1 8 Go.Value.nilFunc false := ⟨by kernel_rfl, by rfl, by kernel_rfl⟩
instance : TyI Tryz.prog 178 1 8 Go.Value.nilFunc false := ⟨by kernel_rfl, by rfl, by kernel_rfl⟩
instance : TyI Tryz.prog 179 0 0 (Go.Value.agg #[]) true := ⟨by kernel_rfl, by rfl, by kernel_rfl⟩
instance : StcT Tryz.prog 179 [] := ⟨⟨_, Tryz.underlying179, fun w => by kernel_rfl⟩⟩
instance : TyI Tryz.prog 180 0 0 (Go.Value.agg #[]) true := ⟨by kernel_rfl, by rfl, by kernel_rfl⟩
instance : StcT Tryz.prog 180 [] := ⟨⟨_, Tryz.underlying180, fun w => by kernel_rfl⟩⟩
instance : TyI Tryz.prog 182 1 8 Go.Value.nilFunc false := ⟨by kernel_rfl, by rfl, by kernel_rfl⟩
instance : TyI Tryz.prog 183 1 8 Go.Value.nilFunc false := ⟨by kernel_rfl, by rfl, by kernel_rfl⟩
instance : TyI Tryz.prog 185 1 8 Go.Value.nilFunc false := ⟨by kernel_rfl, by rfl, by kernel_rfl⟩
instance : TyI Tryz.prog 186 1 8 Go.Value.nilFunc false := ⟨by kernel_rfl, by rfl, by kernel_rfl⟩
instance : TyI Tryz.prog 187 1 8 Go.Value.nilFunc false := ⟨by kernel_rfl, by rfl, by kernel_rfl⟩
instance : TyI Tryz.prog 188 1 8 Go.Value.nilFunc false := ⟨by kernel_rfl, by rfl, by kernel_rfl⟩
instance : TyI Tryz.prog 189 1 8 Go.Value.nilFunc false := ⟨by kernel_rfl, by rfl, by kernel_rfl⟩
instance : TyI Tryz.prog 190 1 8 Go.Value.nilFunc false := ⟨by kernel_rfl, by rfl, by kernel_rfl⟩
instance : TyI Tryz.prog 191 1 8 Go.Value.nilFunc false := ⟨by kernel_rfl, by rfl, by kernel_rfl⟩
instance : TyI Tryz.prog 192 1 8 Go.Value.nilFunc false := ⟨by kernel_rfl, by rfl, by kernel_rfl⟩
instance : TyI Tryz.prog 193 1 8 Go.Value.nilFunc false := ⟨by kernel_rfl, by rfl, by kernel_rfl⟩
instance : TyI Tryz.prog 194 1 8 Go.Value.nilFunc false := ⟨by kernel_rfl, by rfl, by kernel_rfl⟩
instance : TyI Tryz.prog 195 1 8 Go.Value.nilFunc false := ⟨by kernel_rfl, by rfl, by kernel_rfl⟩
instance : TyI Tryz.prog 196 1 8 Go.Value.nilFunc false := ⟨by kernel_rfl, by rfl, by kernel_rfl⟩
instance : TyI Tryz.prog 198 1 8 Go.Value.nilFunc false := ⟨by kernel_rfl, by rfl, by kernel_rfl⟩
instance : TyI Tryz.prog 199 1 8 Go.Value.nilFunc false := ⟨by kernel_rfl, by rfl, by kernel_rfl⟩
instance : TyI Tryz.prog 200 1 8 (Go.Value.pointer none) false := ⟨by kernel_rfl, by rfl, by kernel_rfl⟩
instance : TyI Tryz.prog 201 1 8 Go.Value.nilFunc false := ⟨by kernel_rfl, by rfl, by kernel_rfl⟩
instance : TyI Tryz.prog 202 1 8 (Go.Value.float Go.FloatKind.f64 0) false := ⟨by kernel_rfl, by rfl, by kernel_rfl⟩
instance : FloT Tryz.prog 202 Go.FloatKind.f64 := ⟨Tryz.underlying202⟩
instance : TyI Tryz.prog 203 1 8 Go.Value.nilFunc false := ⟨by kernel_rfl, by rfl, by kernel_rfl⟩
instance : TyI Tryz.prog 204 1 8 Go.Value.nilFunc false := ⟨by kernel_rfl, by rfl, by kernel_rfl⟩
instance : TyI Tryz.prog 205 1 8 Go.Value.nilFunc false := ⟨by kernel_rfl, by rfl, by kernel_rfl⟩
instance : TyI Tryz.prog 206 1 8 Go.Value.nilFunc false := ⟨by kernel_rfl, by rfl, by kernel_rfl⟩
instance : TyI Tryz.prog 207 1 8 Go.Value.nilFunc false := ⟨by kernel_rfl, by rfl, by kernel_rfl⟩
instance : TyI Tryz.prog 208 1 8 Go.Value.nilFunc false := ⟨by kernel_rfl, by rfl, by kernel_rfl⟩
instance : TyI Tryz.prog 212 1 8 Go.Value.nilFunc false := ⟨by kernel_rfl, by rfl, by kernel_rfl⟩
instance : TyI Tryz.prog 213 1 8 Go.Value.nilFunc false := ⟨by kernel_rfl, by rfl, by kernel_rfl⟩
instance : TyI Tryz.prog 214 1 8 (Go.Value.pointer none) false := ⟨by kernel_rfl, by rfl, by kernel_rfl⟩
instance : TyI Tryz.prog 215 1 8 (Go.Value.int Go.IntKind.i64 0) false := ⟨by kernel_rfl, by rfl, by kernel_rfl⟩
instance : IntT Tryz.prog 215 Go.IntKind.i64 := ⟨Tryz.underlying215⟩
instance : TyI Tryz.prog 217 1 8 Go.Value.nilFunc false := ⟨by kernel_rfl, by rfl, by kernel_rfl⟩
instance : TyI Tryz.prog 218 1 8 (Go.Value.pointer none) false := ⟨by kernel_rfl, by rfl, by kernel_rfl⟩
instance : TyI Tryz.prog 219 1 8 Go.Value.nilFunc false := ⟨by kernel_rfl, by rfl, by kernel_rfl⟩
instance : TyI Tryz.prog 220 1 8 Go.Value.nilFunc false := ⟨by kernel_rfl, by rfl, by kernel_rfl⟩
instance : TyI Tryz.prog 221 1 8 Go.Value.nilFunc false := ⟨by kernel_rfl, by rfl, by kernel_rfl⟩
instance : TyI Tryz.prog 222 1 8 (Go.Value.pointer none) false := ⟨by kernel_rfl, by rfl, by kernel_rfl⟩
instance : TyI Tryz.prog 223 1 8 Go.Value.nilFunc false := ⟨by kernel_rfl, by rfl, by kernel_rfl⟩
instance : TyI Tryz.prog 224 1 8 Go.Value.nilFunc false := ⟨by kernel_rfl, by rfl, by kernel_rfl⟩
instance : TyI Tryz.prog 226 1 8 Go.Value.nilFunc false := ⟨by kernel_rfl, by rfl, by kernel_rfl⟩
instance : TyI Tryz.prog 228 1 8 Go.Value.nilFunc false := ⟨by kernel_rfl, by rfl, by kernel_rfl⟩
instance : TyI Tryz.prog 229 1 8 Go.Value.nilFunc false := ⟨by kernel_rfl, by rfl, by kernel_rfl⟩
instance : TyI Tryz.prog 230 1 8 Go.Value.nilFunc false := ⟨by kernel_rfl, by rfl, by kernel_rfl⟩
instance : TyI Tryz.prog 231 1 8 Go.Value.nilFunc false := ⟨by kernel_rfl, by rfl, by kernel_rfl⟩
instance : TyI Tryz.prog 233 1 8 Go.Value.nilFunc false := ⟨by kernel_rfl, by rfl, by kernel_rfl⟩
instance : TyI Tryz.prog 234 1 8 Go.Value.nilFunc false := ⟨by kernel_rfl, by rfl, by kernel_rfl⟩
instance : TyI Tryz.prog 235 1 8 Go.Value.nilFunc false := ⟨by kernel_rfl, by rfl, by kernel_rfl⟩
instance : TyI Tryz.prog 236 1 8 Go.Value.nilFunc false := ⟨by kernel_rfl, by rfl, by kernel_rfl⟩
instance : TyI Tryz.prog 237 3 48 (Go.Value.agg #[Go.Value.string { data := #[] }, Go.Value.string { data := #[] }, Go.Value.nilIface]) true := ⟨by kernel_rfl, by rfl, by kernel_rfl⟩
instance : StcT Tryz.prog 237 [(0, 1), (1, 1), (2, 1)] := ⟨⟨_, Tryz.underlying237, fun w => by kernel_rfl⟩⟩
instance : FldT Tryz.prog 237 0 0 := ⟨⟨_, _, Tryz.t9, Tryz.underlying237, rfl, rfl, by kernel_rfl, by decide⟩⟩
instance : FldT Tryz.prog 237 1 1 := ⟨⟨_, _, Tryz.t9, Tryz.underlying237, rfl, rfl, by kernel_rfl, by decide⟩⟩
instance : FldT Tryz.prog 237 2 2 := ⟨⟨_, _, Tryz.t145, Tryz.underlying237, rfl, rfl, by kernel_rfl, by decide⟩⟩
instance : TyI Tryz.prog 238 3 48 (Go.Value.agg #[Go.Value.string { data := #[] }, Go.Value.string { data := #[] }, Go.Value.nilIface]) true := ⟨by kernel_rfl, by rfl, by kernel_rfl⟩
instance : StcT Tryz.prog 238 [(0, 1), (1, 1), (2, 1)] := ⟨⟨_, Tryz.underlying238, fun w => by kernel_rfl⟩⟩
instance : FldT Tryz.prog 238 0 0 := ⟨⟨_, _, Tryz.t9, Tryz.underlying238, rfl, rfl, by kernel_rfl, by decide⟩⟩
instance : FldT Tryz.prog 238 1 1 := ⟨⟨_, _, Tryz.t9, Tryz.underlying238, rfl, rfl, by kernel_rfl, by decide⟩⟩
instance : FldT Tryz.prog 238 2 2 := ⟨⟨_, _, Tryz.t145, Tryz.underlying238, rfl, rfl, by kernel_rfl, by decide⟩⟩
instance : TyI Tryz.prog 239 1 8 Go.Value.nilFunc false := ⟨by kernel_rfl, by rfl, by kernel_rfl⟩
instance : TyI Tryz.prog 241 1 8 Go.Value.nilFunc false := ⟨by kernel_rfl, by rfl, by kernel_rfl⟩
instance : TyI Tryz.prog 242 1 8 Go.Value.nilFunc false := ⟨by kernel_rfl, by rfl, by kernel_rfl⟩
instance : TyI Tryz.prog 244 1 8 Go.Value.nilFunc false := ⟨by kernel_rfl, by rfl, by kernel_rfl⟩
instance : TyI Tryz.prog 245 1 8 Go.Value.nilFunc false := ⟨by kernel_rfl, by rfl, by kernel_rfl⟩
instance : TyI Tryz.prog 246 1 8 Go.Value.nilFunc false := ⟨by kernel_rfl, by rfl, by kernel_rfl⟩
instance : TyI Tryz.prog 247 1 8 Go.Value.nilFunc false := ⟨by kernel_rfl, by rfl, by kernel_rfl⟩
instance : TyI Tryz.prog 248 1 8 (Go.Value.pointer none) false := ⟨by kernel_rfl, by rfl, by kernel_rfl⟩
instance : TyI Tryz.prog 249 1 16 (Go.Value.agg #[Go.Value.string { data := #[] }]) true := ⟨by kernel_rfl, by rfl, by kernel_rfl⟩
instance : StcT Tryz.prog 249 [(0, 1)] := ⟨⟨_, Tryz.underlying249, fun w => by kernel_rfl⟩⟩
instance : FldT Tryz.prog 249 0 0 := ⟨⟨_, _, Tryz.t9, Tryz.underlying249, rfl, rfl, by kernel_rfl, by decide⟩⟩
instance : TyI Tryz.prog 250 1 16 (Go.Value.agg #[Go.Value.string { data := #[] }]) true := ⟨by kernel_rfl, by rfl, by kernel_rfl⟩
instance : StcT Tryz.prog 250 [(0, 1)] := ⟨⟨_, Tryz.underlying250, fun w => by kernel_rfl⟩⟩
instance : FldT Tryz.prog 250 0 0 := ⟨⟨_, _, Tryz.t9, Tryz.underlying250, rfl, rfl, by kernel_rfl, by decide⟩⟩
instance : TyI Tryz.prog 253 1 8 Go.Value.nilFunc false := ⟨by kernel_rfl, by rfl, by kernel_rfl⟩
instance : TyI Tryz.prog 254 1 8 Go.Value.nilFunc false := ⟨by kernel_rfl, by rfl, by kernel_rfl⟩
instance : TyI Tryz.prog 256 2 2 (Go.Value.agg #[Go.Value.int Go.IntKind.u8 0, Go.Value.int Go.IntKind.u8 0]) true := ⟨by kernel_rfl, by rfl, by kernel_rfl⟩
instance : StcT Tryz.prog 256 [(0, 1), (1, 1)] := ⟨⟨_, Tryz.underlying256, fun w => by kernel_rfl⟩⟩
instance : FldT Tryz.prog 256 0 0 := ⟨⟨_, _, Tryz.t5, Tryz.underlying256, rfl, rfl, by kernel_rfl, by decide⟩⟩
instance : FldT Tryz.prog 256 1 1 := ⟨⟨_, _, Tryz.t5, Tryz.underlying256, rfl, rfl, by kernel_rfl, by decide⟩⟩
instance : TyI Tryz.prog 257 2 2 (Go.Value.agg #[Go.Value.int Go.IntKind.u8 0, Go.Value.int Go.IntKind.u8 0]) true := ⟨by kernel_rfl, by rfl, by kernel_rfl⟩
instance : StcT Tryz.prog 257 [(0, 1), (1, 1)] := ⟨⟨_, Tryz.underlying257, fun w => by kernel_rfl⟩⟩
instance : FldT Tryz.prog 257 0 0 := ⟨⟨_, _, Tryz.t5, Tryz.underlying257, rfl, rfl, by kernel_rfl, by decide⟩⟩
instance : FldT Tryz.prog 257 1 1 := ⟨⟨_, _, Tryz.t5, Tryz.underlying257, rfl, rfl, by kernel_rfl, by decide⟩⟩
instance : TyI Tryz.prog 259 1 8 Go.Value.nilFunc false := ⟨by kernel_rfl, by rfl, by kernel_rfl⟩
instance : TyI Tryz.prog 260 1 8 Go.Value.nilFunc false := ⟨by kernel_rfl, by rfl, by kernel_rfl⟩
instance : TyI Tryz.prog 263 4 40 (Go.Value.agg #[Go.Value.pointer none, Go.Value.pointer none, Go.Value.pointer none, Go.Value.string { data := #[] }]) true := ⟨by kernel_rfl, by rfl, by kernel_rfl⟩
instance : StcT Tryz.prog 263 [(0, 1), (1, 1), (2, 1), (3, 1)] := ⟨⟨_, Tryz.underlying263, fun w => by kernel_rfl⟩⟩
instance : FldT Tryz.prog 263 0 0 := ⟨⟨_, _, Tryz.t17, Tryz.underlying263, rfl, rfl, by kernel_rfl, by decide⟩⟩
instance : FldT Tryz.prog 263 1 1 := ⟨⟨_, _, Tryz.t17, Tryz.underlying263, rfl, rfl, by kernel_rfl, by decide⟩⟩
instance : FldT Tryz.prog 263 2 2 := ⟨⟨_, _, Tryz.t17, Tryz.underlying263, rfl, rfl, by kernel_rfl, by decide⟩⟩
instance : FldT Tryz.prog 263 3 3 := ⟨⟨_, _, Tryz.t9, Tryz.underlying263, rfl, rfl, by kernel_rfl, by decide⟩⟩
instance : TyI Tryz.prog 264 4 40 (Go.Value.agg #[Go.Value.pointer none, Go.Value.pointer none, Go.Value.pointer none, Go.Value.string { data := #[] }]) true := ⟨by kernel_rfl, by rfl, by kernel_rfl⟩
instance : StcT Tryz.prog 264 [(0, 1), (1, 1), (2, 1), (3, 1)] := ⟨⟨_, Tryz.underlying264, fun w => by kernel_rfl⟩⟩
instance : FldT Tryz.prog 264 0 0 := ⟨⟨_, _, Tryz.t17, Tryz.underlying264, rfl, rfl, by kernel_rfl, by decide⟩⟩
instance : FldT Tryz.prog 264 1 1 := ⟨⟨_, _, Tryz.t17, Tryz.underlying264, rfl, rfl, by kernel_rfl, by decide⟩⟩
instance : FldT Tryz.prog 264 2 2 := ⟨⟨_, _, Tryz.t17, Tryz.underlying264, rfl, rfl, by kernel_rfl, by decide⟩⟩
instance : FldT Tryz.prog 264 3 3 := ⟨⟨_, _, Tryz.t9, Tryz.underlying264, rfl, rfl, by kernel_rfl, by decide⟩⟩
instance : TyI Tryz.prog 265 0 0 (Go.Value.agg #[]) true := ⟨by kernel_rfl, by rfl, by kernel_rfl⟩
instance : TyI Tryz.prog 266 0 0 (Go.Value.agg #[]) true := ⟨by kernel_rfl, by rfl, by kernel_rfl⟩
instance : StcT Tryz.prog 266 [(0, 0)] := ⟨⟨_, Tryz.underlying266, fun w => by kernel_rfl⟩⟩
instance : TyI Tryz.prog 267 0 0 (Go.Value.agg #[]) true := ⟨by kernel_rfl, by rfl, by kernel_rfl⟩
instance : StcT Tryz.prog 267 [(0, 0)] := ⟨⟨_, Tryz.underlying267, fun w => by kernel_rfl⟩⟩
instance : TyI Tryz.prog 268 1 1 (Go.Value.int Go.IntKind.u8 0) false := ⟨by kernel_rfl, by rfl, by kernel_rfl⟩
instance : IntT Tryz.prog 268 Go.IntKind.u8 := ⟨Tryz.underlying268⟩
instance : TyI Tryz.prog 269 1 1 (Go.Value.int Go.IntKind.u8 0) false := ⟨by kernel_rfl, by rfl, by kernel_rfl⟩
instance : IntT Tryz.prog 269 Go.IntKind.u8 := ⟨Tryz.underlying269⟩
instance : TyI Tryz.prog 270 1 8 Go.Value.nilFunc false := ⟨by kernel_rfl, by rfl, by kernel_rfl⟩
instance : TyI Tryz.prog 271 1 4 (Go.Value.int Go.IntKind.i32 0) false := ⟨by kernel_rfl, by rfl, by kernel_rfl⟩
instance : IntT Tryz.prog 271 Go.IntKind.i32 := ⟨Tryz.underlying271⟩
instance : TyI Tryz.prog 272 1 4 (Go.Value.int Go.IntKind.i32 0) false := ⟨by kernel_rfl, by rfl, by kernel_rfl⟩
instance : IntT Tryz.prog 272 Go.IntKind.i32 := ⟨Tryz.underlying272⟩
instance : TyI Tryz.prog 273 11 48 (Go.Value.agg #[Go.Value.int Go.IntKind.u64 0, Go.Value.int Go.IntKind.u64 0, Go.Value.int Go.IntKind.u32 0, Go.Value.int Go.IntKind.u8 0, Go.Value.int Go.IntKind.u8 0, Go.Value.int Go.IntKind.u8 0, Go.Value.int Go.IntKind.u8 0, Go.Value.nilFunc, Go.Value.pointer none, Go.Value.int Go.IntKind.i32 0, Go.Value.int Go.IntKind.i32 0]) true := ⟨by kernel_rfl, by rfl, by kernel_rfl⟩
instance : StcT Tryz.prog 273 [(0, 1), (1, 1), (2, 1), (3, 1), (4, 1), (5, 1), (6, 1), (7, 1), (8, 1), (9, 1), (10, 1)] := ⟨⟨_, Tryz.underlying273, fun w => by kernel_rfl⟩⟩
instance : FldT Tryz.prog 273 0 0 := ⟨⟨_, _, Tryz.t12, Tryz.underlying273, rfl, rfl, by kernel_rfl, by decide⟩⟩
instance : FldT Tryz.prog 273 1 1 := ⟨⟨_, _, Tryz.t12, Tryz.underlying273, rfl, rfl, by kernel_rfl, by decide⟩⟩
instance : FldT Tryz.prog 273 2 2 := ⟨⟨_, _, Tryz.t127, Tryz.underlying273, rfl, rfl, by kernel_rfl, by decide⟩⟩
instance : FldT Tryz.prog 273 3 3 := ⟨⟨_, _, Tryz.t268, Tryz.underlying273, rfl, rfl, by kernel_rfl, by decide⟩⟩
instance : FldT Tryz.prog 273 4 4 := ⟨⟨_, _, Tryz.t5, Tryz.underlying273, rfl, rfl, by kernel_rfl, by decide⟩⟩
instance : FldT Tryz.prog 273 5 5 := ⟨⟨_, _, Tryz.t5, Tryz.underlying273, rfl, rfl, by kernel_rfl, by decide⟩⟩
instance : FldT Tryz.prog 273 6 6 := ⟨⟨_, _, Tryz.t269, Tryz.underlying273, rfl, rfl, by kernel_rfl, by decide⟩⟩
instance : FldT Tryz.prog 273 7 7 := ⟨⟨_, _, Tryz.t270, Tryz.underlying273, rfl, rfl, by kernel_rfl, by decide⟩⟩
instance : FldT Tryz.prog 273 8 8 := ⟨⟨_, _, Tryz.t200, Tryz.underlying273, rfl, rfl, by kernel_rfl, by decide⟩⟩
instance : FldT Tryz.prog 273 9 9 := ⟨⟨_, _, Tryz.t271, Tryz.underlying273, rfl, rfl, by kernel_rfl, by decide⟩⟩
instance : FldT Tryz.prog 273 10 10 := ⟨⟨_, _, Tryz.t272, Tryz.underlying273, rfl, rfl, by kernel_rfl, by decide⟩⟩
instance : TyI Tryz.prog 274 11 48 (Go.Value.agg #[Go.Value.int Go.IntKind.u64 0, Go.Value.int Go.IntKind.u64 0, Go.Value.int Go.IntKind.u32 0, Go.Value.int Go.IntKind.u8 0, Go.Value.int Go.IntKind.u8 0, Go.Value.int Go.IntKind.u8 0, Go.Value.int Go.IntKind.u8 0, Go.Value.nilFunc, Go.Value.pointer none, Go.Value.int Go.IntKind.i32 0, Go.Value.int Go.IntKind.i32 0]) true := ⟨by kernel_rfl, by rfl, by kernel_rfl⟩
instance : StcT Tryz.prog 274 [(0, 1), (1, 1), (2, 1), (3, 1), (4, 1), (5, 1), (6, 1), (7, 1), (8, 1), (9, 1), (10, 1)] := ⟨⟨_, Tryz.underlying274, fun w => by kernel_rfl⟩⟩
instance : FldT Tryz.prog 274 0 0 := ⟨⟨_, _, Tryz.t12, Tryz.underlying274, rfl, rfl, by kernel_rfl, by decide⟩⟩
instance : FldT Tryz.prog 274 1 1 := ⟨⟨_, _, Tryz.t12, Tryz.underlying274, rfl, rfl, by kernel_rfl, by decide⟩⟩
instance : FldT Tryz.prog 274 2 2 := ⟨⟨_, _, Tryz.t127, Tryz.underlying274, rfl, rfl, by kernel_rfl, by decide⟩⟩
instance : FldT Tryz.prog 274 3 3 := ⟨⟨_, _, Tryz.t268, Tryz.underlying274, rfl, rfl, by kernel_rfl, by decide⟩⟩
instance : FldT Tryz.prog 274 4 4 := ⟨⟨_, _, Tryz.t5, Tryz.underlying274, rfl, rfl, by kernel_rfl, by decide⟩⟩
instance : FldT Tryz.prog 274 5 5 := ⟨⟨_, _, Tryz.t5, Tryz.underlying274, rfl, rfl, by kernel_rfl, by decide⟩⟩
instance : FldT Tryz.prog 274 6 6 := ⟨⟨_, _, Tryz.t269, Tryz.underlying274, rfl, rfl, by kernel_rfl, by decide⟩⟩
instance : FldT Tryz.prog 274 7 7 := ⟨⟨_, _, Tryz.t270, Tryz.underlying274, rfl, rfl, by kernel_rfl, by decide⟩⟩
instance : FldT Tryz.prog 274 8 8 := ⟨⟨_, _, Tryz.t200, Tryz.underlying274, rfl, rfl, by kernel_rfl, by decide⟩⟩
instance : FldT Tryz.prog 274 9 9 := ⟨⟨_, _, Tryz.t271, Tryz.underlying274, rfl, rfl, by kernel_rfl, by decide⟩⟩
instance : FldT Tryz.prog 274 10 10 := ⟨⟨_, _, Tryz.t272, Tryz.underlying274, rfl, rfl, by kernel_rfl, by decide⟩⟩
instance : CallI Tryz.prog 2 := ⟨fun a w => Tryz.call2 a w⟩
instance : CallI Tryz.prog 3 := ⟨fun a w => Tryz.call3 a w⟩
instance : CallI Tryz.prog 4 := ⟨fun a w => Tryz.call4 a w⟩
instance : CallI Tryz.prog 5 := ⟨fun a w => Tryz.call5 a w⟩
instance : CallI Tryz.prog 6 := ⟨fun a w => Tryz.call6 a w⟩
instance : CallI Tryz.prog 7 := ⟨fun a w => Tryz.call7 a w⟩
instance : CallI Tryz.prog 8 := ⟨fun a w => Tryz.call8 a w⟩
instance : CallI Tryz.prog 9 := ⟨fun a w => Tryz.call9 a w⟩
instance : CallI Tryz.prog 10 := ⟨fun a w => Tryz.call10 a w⟩
instance : CallI Tryz.prog 11 := ⟨fun a w => Tryz.call11 a w⟩
instance : CallI Tryz.prog 12 := ⟨fun a w => Tryz.call12 a w⟩
instance : CallI Tryz.prog 13 := ⟨fun a w => Tryz.call13 a w⟩
instance : CallI Tryz.prog 14 := ⟨fun a w => Tryz.call14 a w⟩
instance : CallI Tryz.prog 15 := ⟨fun a w => Tryz.call15 a w⟩
instance : CallI Tryz.prog 16 := ⟨fun a w => Tryz.call16 a w⟩
instance : CallI Tryz.prog 17 := ⟨fun a w => Tryz.call17 a w⟩
instance : CallI Tryz.prog 18 := ⟨fun a w => Tryz.call18 a w⟩
instance : CallI Tryz.prog 19 := ⟨fun a w => Tryz.call19 a w⟩
instance : CallI Tryz.prog 20 := ⟨fun a w => Tryz.call20 a w⟩
instance : CallI Tryz.prog 21 := ⟨fun a w => Tryz.call21 a w⟩
instance : CallI Tryz.prog 22 := ⟨fun a w => Tryz.call22 a w⟩
instance : CallI Tryz.prog 23 := ⟨fun a w => Tryz.call23 a w⟩
instance : CallI Tryz.prog 24 := ⟨fun a w => Tryz.call24 a w⟩
instance : CallI Tryz.prog 25 := ⟨fun a w => Tryz.call25 a w⟩
instance : CallI Tryz.prog 26 := ⟨fun a w => Tryz.call26 a w⟩
instance : CallI Tryz.prog 27 := ⟨fun a w => Tryz.call27 a w⟩
instance : CallI Tryz.prog 28 := ⟨fun a w => Tryz.call28 a w⟩
instance : CallI Tryz.prog 29 := ⟨fun a w => Tryz.call29 a w⟩
instance : CallI Tryz.prog 30 := ⟨fun a w => Tryz.call30 a w⟩
instance : CallI Tryz.prog 31 := ⟨fun a w => Tryz.call31 a w⟩
instance : CallI Tryz.prog 32 := ⟨fun a w => Tryz.call32 a w⟩
instance : CallI Tryz.prog 33 := ⟨fun a w => Tryz.call33 a w⟩
instance : CallI Tryz.prog 34 := ⟨fun a w => Tryz.call34 a w⟩
instance : CallI Tryz.prog 35 := ⟨fun a w => Tryz.call35 a w⟩
instance : CallI Tryz.prog 36 := ⟨fun a w => Tryz.call36 a w⟩
instance : CallI Tryz.prog 37 := ⟨fun a w => Tryz.call37 a w⟩
instance : CallI Tryz.prog 38 := ⟨fun a w => Tryz.call38 a w⟩
instance : CallI Tryz.prog 39 := ⟨fun a w => Tryz.call39 a w⟩
instance : CallI Tryz.prog 40 := ⟨fun a w => Tryz.call40 a w⟩
instance : CallI Tryz.prog 41 := ⟨fun a w => Tryz.call41 a w⟩
instance : CallI Tryz.prog 42 := ⟨fun a w => Tryz.call42 a w⟩
instance : CallI Tryz.prog 43 := ⟨fun a w => Tryz.call43 a w⟩
instance : CallI Tryz.prog 44 := ⟨fun a w => Tryz.call44 a w⟩
instance : CallI Tryz.prog 45 := ⟨fun a w => Tryz.call45 a w⟩
instance : CallI Tryz.prog 46 := ⟨fun a w => Tryz.call46 a w⟩
instance : CallI Tryz.prog 47 := ⟨fun a w => Tryz.call47 a w⟩
instance : CallI Tryz.prog 48 := ⟨fun a w => Tryz.call48 a w⟩
instance : CallI Tryz.prog 49 := ⟨fun a w => Tryz.call49 a w⟩
instance : CallI Tryz.prog 50 := ⟨fun a w => Tryz.call50 a w⟩
instance : CallI Tryz.prog 51 := ⟨fun a w => Tryz.call51 a w⟩
instance : CallI Tryz.prog 52 := ⟨fun a w => Tryz.call52 a w⟩
instance : CallI Tryz.prog 53 := ⟨fun a w => Tryz.call53 a w⟩
instance : CallI Tryz.prog 54 := ⟨fun a w => Tryz.call54 a w⟩
instance : CallI Tryz.prog 55 := ⟨fun a w => Tryz.call55 a w⟩
instance : CallI Tryz.prog 56 := ⟨fun a w => Tryz.call56 a w⟩
instance : CallI Tryz.prog 57 := ⟨fun a w => Tryz.call57 a w⟩
instance : CallI Tryz.prog 58 := ⟨fun a w => Tryz.call58 a w⟩
instance : CallI Tryz.prog 59 := ⟨fun a w => Tryz.call59 a w⟩
instance : CallI Tryz.prog 60 := ⟨fun a w => Tryz.call60 a w⟩
instance : CallI Tryz.prog 61 := ⟨fun a w => Tryz.call61 a w⟩
instance : CallI Tryz.prog 62 := ⟨fun a w => Tryz.call62 a w⟩
instance : CallI Tryz.prog 63 := ⟨fun a w => Tryz.call63 a w⟩
instance : CallI Tryz.prog 64 := ⟨fun a w => Tryz.call64 a w⟩
instance : CallI Tryz.prog 65 := ⟨fun a w => Tryz.call65 a w⟩
instance : CallI Tryz.prog 66 := ⟨fun a w => Tryz.call66 a w⟩
instance : CallI Tryz.prog 67 := ⟨fun a w => Tryz.call67 a w⟩
instance : CallI Tryz.prog 68 := ⟨fun a w => Tryz.call68 a w⟩
instance : CallI Tryz.prog 69 := ⟨fun a w => Tryz.call69 a w⟩
instance : CallI Tryz.prog 70 := ⟨fun a w => Tryz.call70 a w⟩
instance : CallI Tryz.prog 71 := ⟨fun a w => Tryz.call71 a w⟩
instance : CallI Tryz.prog 72 := ⟨fun a w => Tryz.call72 a w⟩
instance : CallI Tryz.prog 73 := ⟨fun a w => Tryz.call73 a w⟩
instance : CallI Tryz.prog 74 := ⟨fun a w => Tryz.call74 a w⟩
instance : CallI Tryz.prog 75 := ⟨fun a w => Tryz.call75 a w⟩
instance : CallI Tryz.prog 76 := ⟨fun a w => Tryz.call76 a w⟩
instance : CallI Tryz.prog 77 := ⟨fun a w => Tryz.call77 a w⟩
instance : CallI Tryz.prog 78 := ⟨fun a w => Tryz.call78 a w⟩
instance : CallI Tryz.prog 79 := ⟨fun a w => Tryz.call79 a w⟩
instance : CallI Tryz.prog 80 := ⟨fun a w => Tryz.call80 a w⟩
instance : CallI Tryz.prog 81 := ⟨fun a w => Tryz.call81 a w⟩
instance : CallI Tryz.prog 82 := ⟨fun a w => Tryz.call82 a w⟩
instance : CallI Tryz.prog 83 := ⟨fun a w => Tryz.call83 a w⟩
instance : CallI Tryz.prog 84 := ⟨fun a w => Tryz.call84 a w⟩
instance : CallI Tryz.prog 85 := ⟨fun a w => Tryz.call85 a w⟩
instance : CallI Tryz.prog 86 := ⟨fun a w => Tryz.call86 a w⟩
instance : CallI Tryz.prog 87 := ⟨fun a w => Tryz.call87 a w⟩
instance : CallI Tryz.prog 88 := ⟨fun a w => Tryz.call88 a w⟩
instance : CallI Tryz.prog 89 := ⟨fun a w => Tryz.call89 a w⟩
instance : CallI Tryz.prog 90 := ⟨fun a w => Tryz.call90 a w⟩
instance : CallI Tryz.prog 91 := ⟨fun a w => Tryz.call91 a w⟩
instance : CallI Tryz.prog 92 := ⟨fun a w => Tryz.call92 a w⟩
instance : CallI Tryz.prog 93 := ⟨fun a w => Tryz.call93 a w⟩
instance : CallI Tryz.prog 94 := ⟨fun a w => Tryz.call94 a w⟩
instance : CallI Tryz.prog 95 := ⟨fun a w => Tryz.call95 a w⟩
instance : CallI Tryz.prog 96 := ⟨fun a w => Tryz.call96 a w⟩
instance : CallI Tryz.prog 97 := ⟨fun a w => Tryz.call97 a w⟩
instance : CallI Tryz.prog 98 := ⟨fun a w => Tryz.call98 a w⟩
instance : CallI Tryz.prog 99 := ⟨fun a w => Tryz.call99 a w⟩
instance : CallI Tryz.prog 100 := ⟨fun a w => Tryz.call100 a w⟩
instance : CallI Tryz.prog 101 := ⟨fun a w => Tryz.call101 a w⟩
instance : CallI Tryz.prog 102 := ⟨fun a w => Tryz.call102 a w⟩
instance : CallI Tryz.prog 103 := ⟨fun a w => Tryz.call103 a w⟩
instance : CallI Tryz.prog 104 := ⟨fun a w => Tryz.call104 a w⟩
instance : CallI Tryz.prog 105 := ⟨fun a w => Tryz.call105 a w⟩
instance : CallI Tryz.prog 106 := ⟨fun a w => Tryz.call106 a w⟩
instance : CallI Tryz.prog 107 := ⟨fun a w => Tryz.call107 a w⟩
instance : CallI Tryz.prog 108 := ⟨fun a w => Tryz.call108 a w⟩
instance : CallI Tryz.prog 109 := ⟨fun a w => Tryz.call109 a w⟩
instance : CallI Tryz.prog 110 := ⟨fun a w => Tryz.call110 a w⟩
instance : CallI Tryz.prog 111 := ⟨fun a w => Tryz.call111 a w⟩
instance : CallI Tryz.prog 112 := ⟨fun a w => Tryz.call112 a w⟩
instance : CallI Tryz.prog 113 := ⟨fun a w => Tryz.call113 a w⟩
instance : CallI Tryz.prog 114 := ⟨fun a w => Tryz.call114 a w⟩
instance : CallI Tryz.prog 115 := ⟨fun a w => Tryz.call115 a w⟩
instance : CallI Tryz.prog 116 := ⟨fun a w => Tryz.call116 a w⟩
instance : CallI Tryz.prog 117 := ⟨fun a w => Tryz.call117 a w⟩
instance : CallI Tryz.prog 118 := ⟨fun a w => Tryz.call118 a w⟩
instance : CallI Tryz.prog 119 := ⟨fun a w => Tryz.call119 a w⟩
instance : CallI Tryz.prog 120 := ⟨fun a w => Tryz.call120 a w⟩
instance : CallI Tryz.prog 121 := ⟨fun a w => Tryz.call121 a w⟩
instance : CallI Tryz.prog 122 := ⟨fun a w => Tryz.call122 a w⟩
instance : CallI Tryz.prog 123 := ⟨fun a w => Tryz.call123 a w⟩
instance : CallI Tryz.prog 124 := ⟨fun a w => Tryz.call124 a w⟩
instance : CallI Tryz.prog 125 := ⟨fun a w => Tryz.call125 a w⟩
instance : CallI Tryz.prog 126 := ⟨fun a w => Tryz.call126 a w⟩
instance : CallI Tryz.prog 127 := ⟨fun a w => Tryz.call127 a w⟩
instance : CallI Tryz.prog 128 := ⟨fun a w => Tryz.call128 a w⟩
instance : CallI Tryz.prog 129 := ⟨fun a w => Tryz.call129 a w⟩
instance : CallI Tryz.prog 130 := ⟨fun a w => Tryz.call130 a w⟩
instance : CallI Tryz.prog 131 := ⟨fun a w => Tryz.call131 a w⟩
instance : CallI Tryz.prog 132 := ⟨fun a w => Tryz.call132 a w⟩
instance : CallI Tryz.prog 133 := ⟨fun a w => Tryz.call133 a w⟩
instance : CallI Tryz.prog 134 := ⟨fun a w => Tryz.call134 a w⟩
instance : CallI Tryz.prog 135 := ⟨fun a w => Tryz.call135 a w⟩
instance : CallI Tryz.prog 136 := ⟨fun a w => Tryz.call136 a w⟩
instance : CallI Tryz.prog 137 := ⟨fun a w => Tryz.call137 a w⟩
instance : CallI Tryz.prog 138 := ⟨fun a w => Tryz.call138 a w⟩
instance : CallI Tryz.prog 139 := ⟨fun a w => Tryz.call139 a w⟩
instance : CallI Tryz.prog 140 := ⟨fun a w => Tryz.call140 a w⟩
instance : CallI Tryz.prog 141 := ⟨fun a w => Tryz.call141 a w⟩
instance : CallI Tryz.prog 142 := ⟨fun a w => Tryz.call142 a w⟩
instance : CallI Tryz.prog 143 := ⟨fun a w => Tryz.call143 a w⟩
instance : CallI Tryz.prog 144 := ⟨fun a w => Tryz.call144 a w⟩
instance : CallI Tryz.prog 145 := ⟨fun a w => Tryz.call145 a w⟩
instance : CallI Tryz.prog 146 := ⟨fun a w => Tryz.call146 a w⟩
instance : CallI Tryz.prog 147 := ⟨fun a w => Tryz.call147 a w⟩
instance : CallI Tryz.prog 148 := ⟨fun a w => Tryz.call148 a w⟩
instance : CallI Tryz.prog 149 := ⟨fun a w => Tryz.call149 a w⟩
instance : CallI Tryz.prog 150 := ⟨fun a w => Tryz.call150 a w⟩
instance : CallI Tryz.prog 151 := ⟨fun a w => Tryz.call151 a w⟩
instance : CallI Tryz.prog 152 := ⟨fun a w => Tryz.call152 a w⟩
instance : CallI Tryz.prog 153 := ⟨fun a w => Tryz.call153 a w⟩
instance : CallI Tryz.prog 154 := ⟨fun a w => Tryz.call154 a w⟩
instance : CallI Tryz.prog 155 := ⟨fun a w => Tryz.call155 a w⟩
instance : CallI Tryz.prog 156 := ⟨fun a w => Tryz.call156 a w⟩
instance : CallI Tryz.prog 157 := ⟨fun a w => Tryz.call157 a w⟩
instance : CallI Tryz.prog 158 := ⟨fun a w => Tryz.call158 a w⟩
instance : CallI Tryz.prog 159 := ⟨fun a w => Tryz.call159 a w⟩
instance : CallI Tryz.prog 160 := ⟨fun a w => Tryz.call160 a w⟩
instance : CallI Tryz.prog 161 := ⟨fun a w => Tryz.call161 a w⟩
instance : CallI Tryz.prog 162 := ⟨fun a w => Tryz.call162 a w⟩
instance : CallI Tryz.prog 163 := ⟨fun a w => Tryz.call163 a w⟩
instance : CallI Tryz.prog 164 := ⟨fun a w => Tryz.call164 a w⟩
instance : CallI Tryz.prog 165 := ⟨fun a w => Tryz.call165 a w⟩
instance : CallI Tryz.prog 166 := ⟨fun a w => Tryz.call166 a w⟩
instance : CallI Tryz.prog 167 := ⟨fun a w => Tryz.call167 a w⟩
instance : CallI Tryz.prog 168 := ⟨fun a w => Tryz.call168 a w⟩
instance : CallI Tryz.prog 169 := ⟨fun a w => Tryz.call169 a w⟩
instance : CallI Tryz.prog 170 := ⟨fun a w => Tryz.call170 a w⟩
instance : CallI Tryz.prog 171 := ⟨fun a w => Tryz.call171 a w⟩
instance : CallI Tryz.prog 172 := ⟨fun a w => Tryz.call172 a w⟩
instance : CallI Tryz.prog 173 := ⟨fun a w => Tryz.call173 a w⟩
instance : CallI Tryz.prog 174 := ⟨fun a w => Tryz.call174 a w⟩
instance : CallI Tryz.prog 175 := ⟨fun a w => Tryz.call175 a w⟩
instance : CallI Tryz.prog 176 := ⟨fun a w => Tryz.call176 a w⟩
instance : CallI Tryz.prog 177 := ⟨fun a w => Tryz.call177 a w⟩
instance : CallI Tryz.prog 178 := ⟨fun a w => Tryz.call178 a w⟩
instance : CallI Tryz.prog 179 := ⟨fun a w => Tryz.call179 a w⟩
instance : CallI Tryz.prog 180 := ⟨fun a w => Tryz.call180 a w⟩
instance : CallI Tryz.prog 181 := ⟨fun a w => Tryz.call181 a w⟩
instance : CallI Tryz.prog 182 := ⟨fun a w => Tryz.call182 a w⟩
instance : CallI Tryz.prog 183 := ⟨fun a w => Tryz.call183 a w⟩
instance : CallI Tryz.prog 184 := ⟨fun a w => Tryz.call184 a w⟩
instance : CallI Tryz.prog 185 := ⟨fun a w => Tryz.call185 a w⟩
instance : CallI Tryz.prog 186 := ⟨fun a w => Tryz.call186 a w⟩
instance : CallI Tryz.prog 187 := ⟨fun a w => Tryz.call187 a w⟩
instance : CallI Tryz.prog 188 := ⟨fun a w => Tryz.call188 a w⟩
instance : CallI Tryz.prog 189 := ⟨fun a w => Tryz.call189 a w⟩
instance : CallI Tryz.prog 190 := ⟨fun a w => Tryz.call190 a w⟩
instance : CallI Tryz.prog 191 := ⟨fun a w => Tryz.call191 a w⟩
instance : CallI Tryz.prog 192 := ⟨fun a w => Tryz.call192 a w⟩
instance : CallI Tryz.prog 193 := ⟨fun a w => Tryz.call193 a w⟩
instance : CallI Tryz.prog 194 := ⟨fun a w => Tryz.call194 a w⟩
instance : CallI Tryz.prog 195 := ⟨fun a w => Tryz.call195 a w⟩
instance : CallI Tryz.prog 196 := ⟨fun a w => Tryz.call196 a w⟩
instance : CallI Tryz.prog 197 := ⟨fun a w => Tryz.call197 a w⟩
instance : CallI Tryz.prog 198 := ⟨fun a w => Tryz.call198 a w⟩
instance : CallI Tryz.prog 199 := ⟨fun a w => Tryz.call199 a w⟩
instance : CallI Tryz.prog 200 := ⟨fun a w => Tryz.call200 a w⟩
instance : CallI Tryz.prog 201 := ⟨fun a w => Tryz.call201 a w⟩
instance : CallI Tryz.prog 203 := ⟨fun a w => Tryz.call203 a w⟩
instance : CallI Tryz.prog 204 := ⟨fun a w => Tryz.call204 a w⟩
instance : CallI Tryz.prog 205 := ⟨fun a w => Tryz.call205 a w⟩
instance : CallI Tryz.prog 206 := ⟨fun a w => Tryz.call206 a w⟩
instance : CallI Tryz.prog 207 := ⟨fun a w => Tryz.call207 a w⟩
instance : CallI Tryz.prog 208 := ⟨fun a w => Tryz.call208 a w⟩
instance : CallI Tryz.prog 210 := ⟨fun a w => Tryz.call210 a w⟩
instance : CallI Tryz.prog 211 := ⟨fun a w => Tryz.call211 a w⟩
instance : CallI Tryz.prog 212 := ⟨fun a w => Tryz.call212 a w⟩
instance : CallI Tryz.prog 213 := ⟨fun a w => Tryz.call213 a w⟩
instance : CallI Tryz.prog 214 := ⟨fun a w => Tryz.call214 a w⟩
instance : CallI Tryz.prog 215 := ⟨fun a w => Tryz.call215 a w⟩
instance : CallI Tryz.prog 216 := ⟨fun a w => Tryz.call216 a w⟩
instance : CallI Tryz.prog 217 := ⟨fun a w => Tryz.call217 a w⟩
instance : CallI Tryz.prog 218 := ⟨fun a w => Tryz.call218 a w⟩
instance : CallI Tryz.prog 219 := ⟨fun a w => Tryz.call219 a w⟩
instance : CallI Tryz.prog 220 := ⟨fun a w => Tryz.call220 a w⟩
instance : CallI Tryz.prog 221 := ⟨fun a w => Tryz.call221 a w⟩
instance : CallI Tryz.prog 222 := ⟨fun a w => Tryz.call222 a w⟩
instance : CallI Tryz.prog 223 := ⟨fun a w => Tryz.call223 a w⟩
instance : CallI Tryz.prog 226 := ⟨fun a w => Tryz.call226 a w⟩
instance : CallI Tryz.prog 227 := ⟨fun a w => Tryz.call227 a w⟩
instance : CallI Tryz.prog 228 := ⟨fun a w => Tryz.call228 a w⟩
instance : CallI Tryz.prog 229 := ⟨fun a w => Tryz.call229 a w⟩
instance : CallI Tryz.prog 230 := ⟨fun a w => Tryz.call230 a w⟩
instance : CallI Tryz.prog 231 := ⟨fun a w => Tryz.call231 a w⟩
instance : CallI Tryz.prog 232 := ⟨fun a w => Tryz.call232 a w⟩
instance : CallI Tryz.prog 233 := ⟨fun a w => Tryz.call233 a w⟩
instance : CallI Tryz.prog 234 := ⟨fun a w => Tryz.call234 a w⟩
instance : CallI Tryz.prog 235 := ⟨fun a w => Tryz.call235 a w⟩
instance : CallI Tryz.prog 236 := ⟨fun a w => Tryz.call236 a w⟩
instance : CallI Tryz.prog 237 := ⟨fun a w => Tryz.call237 a w⟩
instance : CallI Tryz.prog 238 := ⟨fun a w => Tryz.call238 a w⟩
instance : CallI Tryz.prog 268 := ⟨fun a w => Tryz.call268 a w⟩
end Go.Proofs.YtpmnjjmngogkkaaGreatDoor
