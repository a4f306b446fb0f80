/- The types of this program, as facts. -/
import Derived.Test.YtoleejecmefogaaDoorM3
import Derived.Test.YtoleejecmefogaaDoorProg
namespace Go.Proofs.YtoleejecmefogaaDoor
open Go
noncomputable def ty : Nat → Option TyD := tyd Tryd.prog
theorem tyok : TyOk Tryd.prog ty := fun _ _ h => h
theorem ty2 : ty 2 = some ⟨1, 8, .int .i64, [.v (.int .i64 0)]⟩ := by kernel_rfl
theorem ty3 : ty 3 = some ⟨1, 8, .int .i64, [.v (.int .i64 0)]⟩ := by kernel_rfl
theorem ty4 : ty 4 = some ⟨1, 1, .bool, [.v (.bool false)]⟩ := by kernel_rfl
theorem ty5 : ty 5 = some ⟨1, 1, .int .u8, [.v (.int .u8 0)]⟩ := by kernel_rfl
theorem ty6 : ty 6 = some ⟨1, 1, .int .u8, [.v (.int .u8 0)]⟩ := by kernel_rfl
theorem ty7 : ty 7 = some ⟨4, 24, .struct [(0, 2), (1, 3), (2, 4), (3, 6)], [.v (.int .i64 0), .v (.int .i64 0), .v (.bool false), .v (.int .u8 0)]⟩ := by kernel_rfl
theorem sd7 : structD ty 7 = some ⟨4, 24, .struct [(0, 2), (1, 3), (2, 4), (3, 6)], [.v (.int .i64 0), .v (.int .i64 0), .v (.bool false), .v (.int .u8 0)]⟩ := by kernel_rfl
theorem fd7_0 : fdd ty 7 0 = some (0, ⟨1, 8, .int .i64, [.v (.int .i64 0)]⟩) := by kernel_rfl
theorem pl7_0 : places ty 7 0 = some (0, 1) := by kernel_rfl
theorem fd7_1 : fdd ty 7 1 = some (1, ⟨1, 8, .int .i64, [.v (.int .i64 0)]⟩) := by kernel_rfl
theorem pl7_1 : places ty 7 1 = some (1, 1) := by kernel_rfl
theorem fd7_2 : fdd ty 7 2 = some (2, ⟨1, 1, .bool, [.v (.bool false)]⟩) := by kernel_rfl
theorem pl7_2 : places ty 7 2 = some (2, 1) := by kernel_rfl
theorem fd7_3 : fdd ty 7 3 = some (3, ⟨1, 1, .int .u8, [.v (.int .u8 0)]⟩) := by kernel_rfl
theorem pl7_3 : places ty 7 3 = some (3, 1) := by kernel_rfl
theorem at7 : allTy ty ⟨4, 24, .struct [(0, 2), (1, 3), (2, 4), (3, 6)], [.v (.int .i64 0), .v (.int .i64 0), .v (.bool false), .v (.int .u8 0)]⟩ = true := by kernel_rfl
theorem ty8 : ty 8 = some ⟨4, 24, .struct [(0, 2), (1, 3), (2, 4), (3, 6)], [.v (.int .i64 0), .v (.int .i64 0), .v (.bool false), .v (.int .u8 0)]⟩ := by kernel_rfl
theorem sd8 : structD ty 8 = some ⟨4, 24, .struct [(0, 2), (1, 3), (2, 4), (3, 6)], [.v (.int .i64 0), .v (.int .i64 0), .v (.bool false), .v (.int .u8 0)]⟩ := by kernel_rfl
theorem fd8_0 : fdd ty 8 0 = some (0, ⟨1, 8, .int .i64, [.v (.int .i64 0)]⟩) := by kernel_rfl
theorem pl8_0 : places ty 8 0 = some (0, 1) := by kernel_rfl
theorem fd8_1 : fdd ty 8 1 = some (1, ⟨1, 8, .int .i64, [.v (.int .i64 0)]⟩) := by kernel_rfl
theorem pl8_1 : places ty 8 1 = some (1, 1) := by kernel_rfl
theorem fd8_2 : fdd ty 8 2 = some (2, ⟨1, 1, .bool, [.v (.bool false)]⟩) := by kernel_rfl
theorem pl8_2 : places ty 8 2 = some (2, 1) := by kernel_rfl
theorem fd8_3 : fdd ty 8 3 = some (3, ⟨1, 1, .int .u8, [.v (.int .u8 0)]⟩) := by kernel_rfl
theorem pl8_3 : places ty 8 3 = some (3, 1) := by kernel_rfl
theorem at8 : allTy ty ⟨4, 24, .struct [(0, 2), (1, 3), (2, 4), (3, 6)], [.v (.int .i64 0), .v (.int .i64 0), .v (.bool false), .v (.int .u8 0)]⟩ = true := by kernel_rfl
theorem ty9 : ty 9 = some ⟨1, 16, .str, [.v (.string ⟨#[]⟩)]⟩ := by kernel_rfl
theorem is9 : isStr ty 9 = true := by kernel_rfl
theorem ty10 : ty 10 = some ⟨1, 16, .str, [.v (.string ⟨#[]⟩)]⟩ := by kernel_rfl
theorem is10 : isStr ty 10 = true := by kernel_rfl
theorem ty11 : ty 11 = some ⟨1, 16, .str, [.v (.string ⟨#[]⟩)]⟩ := by kernel_rfl
theorem is11 : isStr ty 11 = true := by kernel_rfl
theorem ty12 : ty 12 = some ⟨1, 8, .int .u64, [.v (.int .u64 0)]⟩ := by kernel_rfl
theorem ty13 : ty 13 = some ⟨2, 24, .struct [(0, 9), (1, 12)], [.v (.string ⟨#[]⟩), .v (.int .u64 0)]⟩ := by kernel_rfl
theorem sd13 : structD ty 13 = some ⟨2, 24, .struct [(0, 9), (1, 12)], [.v (.string ⟨#[]⟩), .v (.int .u64 0)]⟩ := by kernel_rfl
theorem fd13_0 : fdd ty 13 0 = some (0, ⟨1, 16, .str, [.v (.string ⟨#[]⟩)]⟩) := by kernel_rfl
theorem pl13_0 : places ty 13 0 = some (0, 1) := by kernel_rfl
theorem fd13_1 : fdd ty 13 1 = some (1, ⟨1, 8, .int .u64, [.v (.int .u64 0)]⟩) := by kernel_rfl
theorem pl13_1 : places ty 13 1 = some (1, 1) := by kernel_rfl
theorem at13 : allTy ty ⟨2, 24, .struct [(0, 9), (1, 12)], [.v (.string ⟨#[]⟩), .v (.int .u64 0)]⟩ = true := by kernel_rfl
theorem ty14 : ty 14 = some ⟨2, 24, .struct [(0, 9), (1, 12)], [.v (.string ⟨#[]⟩), .v (.int .u64 0)]⟩ := by kernel_rfl
theorem sd14 : structD ty 14 = some ⟨2, 24, .struct [(0, 9), (1, 12)], [.v (.string ⟨#[]⟩), .v (.int .u64 0)]⟩ := by kernel_rfl
theorem fd14_0 : fdd ty 14 0 = some (0, ⟨1, 16, .str, [.v (.string ⟨#[]⟩)]⟩) := by kernel_rfl
theorem pl14_0 : places ty 14 0 = some (0, 1) := by kernel_rfl
theorem fd14_1 : fdd ty 14 1 = some (1, ⟨1, 8, .int .u64, [.v (.int .u64 0)]⟩) := by kernel_rfl
theorem pl14_1 : places ty 14 1 = some (1, 1) := by kernel_rfl
theorem at14 : allTy ty ⟨2, 24, .struct [(0, 9), (1, 12)], [.v (.string ⟨#[]⟩), .v (.int .u64 0)]⟩ = true := by kernel_rfl
theorem ty15 : ty 15 = some ⟨1, 8, .ptr 118, [.v (.pointer none)]⟩ := by kernel_rfl
theorem ty16 : ty 16 = some ⟨1, 8, .ptr 121, [.v (.pointer none)]⟩ := by kernel_rfl
theorem ty17 : ty 17 = some ⟨1, 8, .ptr 130, [.v (.pointer none)]⟩ := by kernel_rfl
theorem ty18 : ty 18 = some ⟨1, 8, .struct [(0, 17)], [.v (.pointer none)]⟩ := by kernel_rfl
theorem sd18 : structD ty 18 = some ⟨1, 8, .struct [(0, 17)], [.v (.pointer none)]⟩ := by kernel_rfl
theorem fd18_0 : fdd ty 18 0 = some (0, ⟨1, 8, .ptr 130, [.v (.pointer none)]⟩) := by kernel_rfl
theorem pl18_0 : places ty 18 0 = some (0, 1) := by kernel_rfl
theorem at18 : allTy ty ⟨1, 8, .struct [(0, 17)], [.v (.pointer none)]⟩ = true := by kernel_rfl
theorem ty19 : ty 19 = some ⟨1, 8, .struct [(0, 17)], [.v (.pointer none)]⟩ := by kernel_rfl
theorem sd19 : structD ty 19 = some ⟨1, 8, .struct [(0, 17)], [.v (.pointer none)]⟩ := by kernel_rfl
theorem fd19_0 : fdd ty 19 0 = some (0, ⟨1, 8, .ptr 130, [.v (.pointer none)]⟩) := by kernel_rfl
theorem pl19_0 : places ty 19 0 = some (0, 1) := by kernel_rfl
theorem at19 : allTy ty ⟨1, 8, .struct [(0, 17)], [.v (.pointer none)]⟩ = true := by kernel_rfl
theorem ty21 : ty 21 = some ⟨1, 4, .int .i32, [.v (.int .i32 0)]⟩ := by kernel_rfl
theorem ty22 : ty 22 = some ⟨1, 24, .slice 3, [.v (.slice none 0 0)]⟩ := by kernel_rfl
theorem el22 : elemD ty 22 = some ⟨1, 8, .int .i64, [.v (.int .i64 0)]⟩ := by kernel_rfl
theorem ty23 : ty 23 = some ⟨1, 8, .ptr 25, [.v (.pointer none)]⟩ := by kernel_rfl
theorem ty24 : ty 24 = some ⟨2, 32, .struct [(0, 22), (1, 3)], [.v (.slice none 0 0), .v (.int .i64 0)]⟩ := by kernel_rfl
theorem sd24 : structD ty 24 = some ⟨2, 32, .struct [(0, 22), (1, 3)], [.v (.slice none 0 0), .v (.int .i64 0)]⟩ := by kernel_rfl
theorem fd24_0 : fdd ty 24 0 = some (0, ⟨1, 24, .slice 3, [.v (.slice none 0 0)]⟩) := by kernel_rfl
theorem pl24_0 : places ty 24 0 = some (0, 1) := by kernel_rfl
theorem fd24_1 : fdd ty 24 1 = some (1, ⟨1, 8, .int .i64, [.v (.int .i64 0)]⟩) := by kernel_rfl
theorem pl24_1 : places ty 24 1 = some (1, 1) := by kernel_rfl
theorem at24 : allTy ty ⟨2, 32, .struct [(0, 22), (1, 3)], [.v (.slice none 0 0), .v (.int .i64 0)]⟩ = true := by kernel_rfl
theorem ty25 : ty 25 = some ⟨2, 32, .struct [(0, 22), (1, 3)], [.v (.slice none 0 0), .v (.int .i64 0)]⟩ := by kernel_rfl
theorem sd25 : structD ty 25 = some ⟨2, 32, .struct [(0, 22), (1, 3)], [.v (.slice none 0 0), .v (.int .i64 0)]⟩ := by kernel_rfl
theorem fd25_0 : fdd ty 25 0 = some (0, ⟨1, 24, .slice 3, [.v (.slice none 0 0)]⟩) := by kernel_rfl
theorem pl25_0 : places ty 25 0 = some (0, 1) := by kernel_rfl
theorem fd25_1 : fdd ty 25 1 = some (1, ⟨1, 8, .int .i64, [.v (.int .i64 0)]⟩) := by kernel_rfl
theorem pl25_1 : places ty 25 1 = some (1, 1) := by kernel_rfl
theorem at25 : allTy ty ⟨2, 32, .struct [(0, 22), (1, 3)], [.v (.slice none 0 0), .v (.int .i64 0)]⟩ = true := by kernel_rfl
theorem ty26 : ty 26 = some ⟨1, 24, .slice 28, [.v (.slice none 0 0)]⟩ := by kernel_rfl
theorem el26 : elemD ty 26 = some ⟨6, 88, .struct [(0, 3), (1, 9), (2, 3), (3, 3), (4, 26), (5, 22)], [.v (.int .i64 0), .v (.string ⟨#[]⟩), .v (.int .i64 0), .v (.int .i64 0), .v (.slice none 0 0), .v (.slice none 0 0)]⟩ := by kernel_rfl
theorem ty27 : ty 27 = some ⟨6, 88, .struct [(0, 3), (1, 9), (2, 3), (3, 3), (4, 26), (5, 22)], [.v (.int .i64 0), .v (.string ⟨#[]⟩), .v (.int .i64 0), .v (.int .i64 0), .v (.slice none 0 0), .v (.slice none 0 0)]⟩ := by kernel_rfl
theorem sd27 : structD ty 27 = some ⟨6, 88, .struct [(0, 3), (1, 9), (2, 3), (3, 3), (4, 26), (5, 22)], [.v (.int .i64 0), .v (.string ⟨#[]⟩), .v (.int .i64 0), .v (.int .i64 0), .v (.slice none 0 0), .v (.slice none 0 0)]⟩ := by kernel_rfl
theorem fd27_0 : fdd ty 27 0 = some (0, ⟨1, 8, .int .i64, [.v (.int .i64 0)]⟩) := by kernel_rfl
theorem pl27_0 : places ty 27 0 = some (0, 1) := by kernel_rfl
theorem fd27_1 : fdd ty 27 1 = some (1, ⟨1, 16, .str, [.v (.string ⟨#[]⟩)]⟩) := by kernel_rfl
theorem pl27_1 : places ty 27 1 = some (1, 1) := by kernel_rfl
theorem fd27_2 : fdd ty 27 2 = some (2, ⟨1, 8, .int .i64, [.v (.int .i64 0)]⟩) := by kernel_rfl
theorem pl27_2 : places ty 27 2 = some (2, 1) := by kernel_rfl
theorem fd27_3 : fdd ty 27 3 = some (3, ⟨1, 8, .int .i64, [.v (.int .i64 0)]⟩) := by kernel_rfl
theorem pl27_3 : places ty 27 3 = some (3, 1) := by kernel_rfl
theorem fd27_4 : fdd ty 27 4 = some (4, ⟨1, 24, .slice 28, [.v (.slice none 0 0)]⟩) := by kernel_rfl
theorem pl27_4 : places ty 27 4 = some (4, 1) := by kernel_rfl
theorem fd27_5 : fdd ty 27 5 = some (5, ⟨1, 24, .slice 3, [.v (.slice none 0 0)]⟩) := by kernel_rfl
theorem pl27_5 : places ty 27 5 = some (5, 1) := by kernel_rfl
theorem at27 : allTy ty ⟨6, 88, .struct [(0, 3), (1, 9), (2, 3), (3, 3), (4, 26), (5, 22)], [.v (.int .i64 0), .v (.string ⟨#[]⟩), .v (.int .i64 0), .v (.int .i64 0), .v (.slice none 0 0), .v (.slice none 0 0)]⟩ = true := by kernel_rfl
theorem ty28 : ty 28 = some ⟨6, 88, .struct [(0, 3), (1, 9), (2, 3), (3, 3), (4, 26), (5, 22)], [.v (.int .i64 0), .v (.string ⟨#[]⟩), .v (.int .i64 0), .v (.int .i64 0), .v (.slice none 0 0), .v (.slice none 0 0)]⟩ := by kernel_rfl
theorem sd28 : structD ty 28 = some ⟨6, 88, .struct [(0, 3), (1, 9), (2, 3), (3, 3), (4, 26), (5, 22)], [.v (.int .i64 0), .v (.string ⟨#[]⟩), .v (.int .i64 0), .v (.int .i64 0), .v (.slice none 0 0), .v (.slice none 0 0)]⟩ := by kernel_rfl
theorem fd28_0 : fdd ty 28 0 = some (0, ⟨1, 8, .int .i64, [.v (.int .i64 0)]⟩) := by kernel_rfl
theorem pl28_0 : places ty 28 0 = some (0, 1) := by kernel_rfl
theorem fd28_1 : fdd ty 28 1 = some (1, ⟨1, 16, .str, [.v (.string ⟨#[]⟩)]⟩) := by kernel_rfl
theorem pl28_1 : places ty 28 1 = some (1, 1) := by kernel_rfl
theorem fd28_2 : fdd ty 28 2 = some (2, ⟨1, 8, .int .i64, [.v (.int .i64 0)]⟩) := by kernel_rfl
theorem pl28_2 : places ty 28 2 = some (2, 1) := by kernel_rfl
theorem fd28_3 : fdd ty 28 3 = some (3, ⟨1, 8, .int .i64, [.v (.int .i64 0)]⟩) := by kernel_rfl
theorem pl28_3 : places ty 28 3 = some (3, 1) := by kernel_rfl
theorem fd28_4 : fdd ty 28 4 = some (4, ⟨1, 24, .slice 28, [.v (.slice none 0 0)]⟩) := by kernel_rfl
theorem pl28_4 : places ty 28 4 = some (4, 1) := by kernel_rfl
theorem fd28_5 : fdd ty 28 5 = some (5, ⟨1, 24, .slice 3, [.v (.slice none 0 0)]⟩) := by kernel_rfl
theorem pl28_5 : places ty 28 5 = some (5, 1) := by kernel_rfl
theorem at28 : allTy ty ⟨6, 88, .struct [(0, 3), (1, 9), (2, 3), (3, 3), (4, 26), (5, 22)], [.v (.int .i64 0), .v (.string ⟨#[]⟩), .v (.int .i64 0), .v (.int .i64 0), .v (.slice none 0 0), .v (.slice none 0 0)]⟩ = true := by kernel_rfl
theorem ty31 : ty 31 = some ⟨1, 8, .int .i64, [.v (.int .i64 0)]⟩ := by kernel_rfl
theorem ty33 : ty 33 = some ⟨1, 24, .slice 40, [.v (.slice none 0 0)]⟩ := by kernel_rfl
theorem el33 : elemD ty 33 = some ⟨2, 24, .struct [(0, 9), (1, 3)], [.v (.string ⟨#[]⟩), .v (.int .i64 0)]⟩ := by kernel_rfl
theorem ty39 : ty 39 = some ⟨2, 24, .struct [(0, 9), (1, 3)], [.v (.string ⟨#[]⟩), .v (.int .i64 0)]⟩ := by kernel_rfl
theorem sd39 : structD ty 39 = some ⟨2, 24, .struct [(0, 9), (1, 3)], [.v (.string ⟨#[]⟩), .v (.int .i64 0)]⟩ := by kernel_rfl
theorem fd39_0 : fdd ty 39 0 = some (0, ⟨1, 16, .str, [.v (.string ⟨#[]⟩)]⟩) := by kernel_rfl
theorem pl39_0 : places ty 39 0 = some (0, 1) := by kernel_rfl
theorem fd39_1 : fdd ty 39 1 = some (1, ⟨1, 8, .int .i64, [.v (.int .i64 0)]⟩) := by kernel_rfl
theorem pl39_1 : places ty 39 1 = some (1, 1) := by kernel_rfl
theorem at39 : allTy ty ⟨2, 24, .struct [(0, 9), (1, 3)], [.v (.string ⟨#[]⟩), .v (.int .i64 0)]⟩ = true := by kernel_rfl
theorem ty40 : ty 40 = some ⟨2, 24, .struct [(0, 9), (1, 3)], [.v (.string ⟨#[]⟩), .v (.int .i64 0)]⟩ := by kernel_rfl
theorem sd40 : structD ty 40 = some ⟨2, 24, .struct [(0, 9), (1, 3)], [.v (.string ⟨#[]⟩), .v (.int .i64 0)]⟩ := by kernel_rfl
theorem fd40_0 : fdd ty 40 0 = some (0, ⟨1, 16, .str, [.v (.string ⟨#[]⟩)]⟩) := by kernel_rfl
theorem pl40_0 : places ty 40 0 = some (0, 1) := by kernel_rfl
theorem fd40_1 : fdd ty 40 1 = some (1, ⟨1, 8, .int .i64, [.v (.int .i64 0)]⟩) := by kernel_rfl
theorem pl40_1 : places ty 40 1 = some (1, 1) := by kernel_rfl
theorem at40 : allTy ty ⟨2, 24, .struct [(0, 9), (1, 3)], [.v (.string ⟨#[]⟩), .v (.int .i64 0)]⟩ = true := by kernel_rfl
theorem ty45 : ty 45 = some ⟨1, 8, .ptr 28, [.v (.pointer none)]⟩ := by kernel_rfl
theorem ty52 : ty 52 = some ⟨1, 8, .struct [(0, 3)], [.v (.int .i64 0)]⟩ := by kernel_rfl
theorem sd52 : structD ty 52 = some ⟨1, 8, .struct [(0, 3)], [.v (.int .i64 0)]⟩ := by kernel_rfl
theorem fd52_0 : fdd ty 52 0 = some (0, ⟨1, 8, .int .i64, [.v (.int .i64 0)]⟩) := by kernel_rfl
theorem pl52_0 : places ty 52 0 = some (0, 1) := by kernel_rfl
theorem at52 : allTy ty ⟨1, 8, .struct [(0, 3)], [.v (.int .i64 0)]⟩ = true := by kernel_rfl
theorem ty53 : ty 53 = some ⟨1, 8, .struct [(0, 3)], [.v (.int .i64 0)]⟩ := by kernel_rfl
theorem sd53 : structD ty 53 = some ⟨1, 8, .struct [(0, 3)], [.v (.int .i64 0)]⟩ := by kernel_rfl
theorem fd53_0 : fdd ty 53 0 = some (0, ⟨1, 8, .int .i64, [.v (.int .i64 0)]⟩) := by kernel_rfl
theorem pl53_0 : places ty 53 0 = some (0, 1) := by kernel_rfl
theorem at53 : allTy ty ⟨1, 8, .struct [(0, 3)], [.v (.int .i64 0)]⟩ = true := by kernel_rfl
theorem ty56 : ty 56 = some ⟨1, 8, .ptr 80, [.v (.pointer none)]⟩ := by kernel_rfl
theorem ty58 : ty 58 = some ⟨1, 8, .ptr 60, [.v (.pointer none)]⟩ := by kernel_rfl
theorem ty59 : ty 59 = some ⟨2, 32, .struct [(0, 33), (1, 3)], [.v (.slice none 0 0), .v (.int .i64 0)]⟩ := by kernel_rfl
theorem sd59 : structD ty 59 = some ⟨2, 32, .struct [(0, 33), (1, 3)], [.v (.slice none 0 0), .v (.int .i64 0)]⟩ := by kernel_rfl
theorem fd59_0 : fdd ty 59 0 = some (0, ⟨1, 24, .slice 40, [.v (.slice none 0 0)]⟩) := by kernel_rfl
theorem pl59_0 : places ty 59 0 = some (0, 1) := by kernel_rfl
theorem fd59_1 : fdd ty 59 1 = some (1, ⟨1, 8, .int .i64, [.v (.int .i64 0)]⟩) := by kernel_rfl
theorem pl59_1 : places ty 59 1 = some (1, 1) := by kernel_rfl
theorem at59 : allTy ty ⟨2, 32, .struct [(0, 33), (1, 3)], [.v (.slice none 0 0), .v (.int .i64 0)]⟩ = true := by kernel_rfl
theorem ty60 : ty 60 = some ⟨2, 32, .struct [(0, 33), (1, 3)], [.v (.slice none 0 0), .v (.int .i64 0)]⟩ := by kernel_rfl
theorem sd60 : structD ty 60 = some ⟨2, 32, .struct [(0, 33), (1, 3)], [.v (.slice none 0 0), .v (.int .i64 0)]⟩ := by kernel_rfl
theorem fd60_0 : fdd ty 60 0 = some (0, ⟨1, 24, .slice 40, [.v (.slice none 0 0)]⟩) := by kernel_rfl
theorem pl60_0 : places ty 60 0 = some (0, 1) := by kernel_rfl
theorem fd60_1 : fdd ty 60 1 = some (1, ⟨1, 8, .int .i64, [.v (.int .i64 0)]⟩) := by kernel_rfl
theorem pl60_1 : places ty 60 1 = some (1, 1) := by kernel_rfl
theorem at60 : allTy ty ⟨2, 32, .struct [(0, 33), (1, 3)], [.v (.slice none 0 0), .v (.int .i64 0)]⟩ = true := by kernel_rfl
theorem ty62 : ty 62 = some ⟨1, 24, .slice 31, [.v (.slice none 0 0)]⟩ := by kernel_rfl
theorem el62 : elemD ty 62 = some ⟨1, 8, .int .i64, [.v (.int .i64 0)]⟩ := by kernel_rfl
theorem ty63 : ty 63 = some ⟨1, 8, .ptr 84, [.v (.pointer none)]⟩ := by kernel_rfl
theorem ty66 : ty 66 = some ⟨1, 8, .ptr 33, [.v (.pointer none)]⟩ := by kernel_rfl
theorem ty72 : ty 72 = some ⟨1, 24, .slice 9, [.v (.slice none 0 0)]⟩ := by kernel_rfl
theorem el72 : elemD ty 72 = some ⟨1, 16, .str, [.v (.string ⟨#[]⟩)]⟩ := by kernel_rfl
theorem ty75 : ty 75 = some ⟨1, 8, .ptr 53, [.v (.pointer none)]⟩ := by kernel_rfl
theorem ty78 : ty 78 = some ⟨1, 24, .slice 56, [.v (.slice none 0 0)]⟩ := by kernel_rfl
theorem el78 : elemD ty 78 = some ⟨1, 8, .ptr 80, [.v (.pointer none)]⟩ := by kernel_rfl
theorem ty79 : ty 79 = some ⟨10, 152, .struct [(0, 28), (6, 78), (7, 3), (8, 22), (9, 3)], [.v (.int .i64 0), .v (.string ⟨#[]⟩), .v (.int .i64 0), .v (.int .i64 0), .v (.slice none 0 0), .v (.slice none 0 0), .v (.slice none 0 0), .v (.int .i64 0), .v (.slice none 0 0), .v (.int .i64 0)]⟩ := by kernel_rfl
theorem sd79 : structD ty 79 = some ⟨10, 152, .struct [(0, 28), (6, 78), (7, 3), (8, 22), (9, 3)], [.v (.int .i64 0), .v (.string ⟨#[]⟩), .v (.int .i64 0), .v (.int .i64 0), .v (.slice none 0 0), .v (.slice none 0 0), .v (.slice none 0 0), .v (.int .i64 0), .v (.slice none 0 0), .v (.int .i64 0)]⟩ := by kernel_rfl
theorem fd79_0 : fdd ty 79 0 = some (0, ⟨6, 88, .struct [(0, 3), (1, 9), (2, 3), (3, 3), (4, 26), (5, 22)], [.v (.int .i64 0), .v (.string ⟨#[]⟩), .v (.int .i64 0), .v (.int .i64 0), .v (.slice none 0 0), .v (.slice none 0 0)]⟩) := by kernel_rfl
theorem pl79_0 : places ty 79 0 = some (0, 6) := by kernel_rfl
theorem fd79_1 : fdd ty 79 1 = some (6, ⟨1, 24, .slice 56, [.v (.slice none 0 0)]⟩) := by kernel_rfl
theorem pl79_1 : places ty 79 1 = some (6, 1) := by kernel_rfl
theorem fd79_2 : fdd ty 79 2 = some (7, ⟨1, 8, .int .i64, [.v (.int .i64 0)]⟩) := by kernel_rfl
theorem pl79_2 : places ty 79 2 = some (7, 1) := by kernel_rfl
theorem fd79_3 : fdd ty 79 3 = some (8, ⟨1, 24, .slice 3, [.v (.slice none 0 0)]⟩) := by kernel_rfl
theorem pl79_3 : places ty 79 3 = some (8, 1) := by kernel_rfl
theorem fd79_4 : fdd ty 79 4 = some (9, ⟨1, 8, .int .i64, [.v (.int .i64 0)]⟩) := by kernel_rfl
theorem pl79_4 : places ty 79 4 = some (9, 1) := by kernel_rfl
theorem at79 : allTy ty ⟨10, 152, .struct [(0, 28), (6, 78), (7, 3), (8, 22), (9, 3)], [.v (.int .i64 0), .v (.string ⟨#[]⟩), .v (.int .i64 0), .v (.int .i64 0), .v (.slice none 0 0), .v (.slice none 0 0), .v (.slice none 0 0), .v (.int .i64 0), .v (.slice none 0 0), .v (.int .i64 0)]⟩ = true := by kernel_rfl
theorem ty80 : ty 80 = some ⟨10, 152, .struct [(0, 28), (6, 78), (7, 3), (8, 22), (9, 3)], [.v (.int .i64 0), .v (.string ⟨#[]⟩), .v (.int .i64 0), .v (.int .i64 0), .v (.slice none 0 0), .v (.slice none 0 0), .v (.slice none 0 0), .v (.int .i64 0), .v (.slice none 0 0), .v (.int .i64 0)]⟩ := by kernel_rfl
theorem sd80 : structD ty 80 = some ⟨10, 152, .struct [(0, 28), (6, 78), (7, 3), (8, 22), (9, 3)], [.v (.int .i64 0), .v (.string ⟨#[]⟩), .v (.int .i64 0), .v (.int .i64 0), .v (.slice none 0 0), .v (.slice none 0 0), .v (.slice none 0 0), .v (.int .i64 0), .v (.slice none 0 0), .v (.int .i64 0)]⟩ := by kernel_rfl
theorem fd80_0 : fdd ty 80 0 = some (0, ⟨6, 88, .struct [(0, 3), (1, 9), (2, 3), (3, 3), (4, 26), (5, 22)], [.v (.int .i64 0), .v (.string ⟨#[]⟩), .v (.int .i64 0), .v (.int .i64 0), .v (.slice none 0 0), .v (.slice none 0 0)]⟩) := by kernel_rfl
theorem pl80_0 : places ty 80 0 = some (0, 6) := by kernel_rfl
theorem fd80_1 : fdd ty 80 1 = some (6, ⟨1, 24, .slice 56, [.v (.slice none 0 0)]⟩) := by kernel_rfl
theorem pl80_1 : places ty 80 1 = some (6, 1) := by kernel_rfl
theorem fd80_2 : fdd ty 80 2 = some (7, ⟨1, 8, .int .i64, [.v (.int .i64 0)]⟩) := by kernel_rfl
theorem pl80_2 : places ty 80 2 = some (7, 1) := by kernel_rfl
theorem fd80_3 : fdd ty 80 3 = some (8, ⟨1, 24, .slice 3, [.v (.slice none 0 0)]⟩) := by kernel_rfl
theorem pl80_3 : places ty 80 3 = some (8, 1) := by kernel_rfl
theorem fd80_4 : fdd ty 80 4 = some (9, ⟨1, 8, .int .i64, [.v (.int .i64 0)]⟩) := by kernel_rfl
theorem pl80_4 : places ty 80 4 = some (9, 1) := by kernel_rfl
theorem at80 : allTy ty ⟨10, 152, .struct [(0, 28), (6, 78), (7, 3), (8, 22), (9, 3)], [.v (.int .i64 0), .v (.string ⟨#[]⟩), .v (.int .i64 0), .v (.int .i64 0), .v (.slice none 0 0), .v (.slice none 0 0), .v (.slice none 0 0), .v (.int .i64 0), .v (.slice none 0 0), .v (.int .i64 0)]⟩ = true := by kernel_rfl
theorem ty82 : ty 82 = some ⟨1, 24, .slice 63, [.v (.slice none 0 0)]⟩ := by kernel_rfl
theorem el82 : elemD ty 82 = some ⟨1, 8, .ptr 84, [.v (.pointer none)]⟩ := by kernel_rfl
theorem ty83 : ty 83 = some ⟨9, 144, .struct [(0, 28), (6, 82), (7, 3), (8, 22)], [.v (.int .i64 0), .v (.string ⟨#[]⟩), .v (.int .i64 0), .v (.int .i64 0), .v (.slice none 0 0), .v (.slice none 0 0), .v (.slice none 0 0), .v (.int .i64 0), .v (.slice none 0 0)]⟩ := by kernel_rfl
theorem sd83 : structD ty 83 = some ⟨9, 144, .struct [(0, 28), (6, 82), (7, 3), (8, 22)], [.v (.int .i64 0), .v (.string ⟨#[]⟩), .v (.int .i64 0), .v (.int .i64 0), .v (.slice none 0 0), .v (.slice none 0 0), .v (.slice none 0 0), .v (.int .i64 0), .v (.slice none 0 0)]⟩ := by kernel_rfl
theorem fd83_0 : fdd ty 83 0 = some (0, ⟨6, 88, .struct [(0, 3), (1, 9), (2, 3), (3, 3), (4, 26), (5, 22)], [.v (.int .i64 0), .v (.string ⟨#[]⟩), .v (.int .i64 0), .v (.int .i64 0), .v (.slice none 0 0), .v (.slice none 0 0)]⟩) := by kernel_rfl
theorem pl83_0 : places ty 83 0 = some (0, 6) := by kernel_rfl
theorem fd83_1 : fdd ty 83 1 = some (6, ⟨1, 24, .slice 63, [.v (.slice none 0 0)]⟩) := by kernel_rfl
theorem pl83_1 : places ty 83 1 = some (6, 1) := by kernel_rfl
theorem fd83_2 : fdd ty 83 2 = some (7, ⟨1, 8, .int .i64, [.v (.int .i64 0)]⟩) := by kernel_rfl
theorem pl83_2 : places ty 83 2 = some (7, 1) := by kernel_rfl
theorem fd83_3 : fdd ty 83 3 = some (8, ⟨1, 24, .slice 3, [.v (.slice none 0 0)]⟩) := by kernel_rfl
theorem pl83_3 : places ty 83 3 = some (8, 1) := by kernel_rfl
theorem at83 : allTy ty ⟨9, 144, .struct [(0, 28), (6, 82), (7, 3), (8, 22)], [.v (.int .i64 0), .v (.string ⟨#[]⟩), .v (.int .i64 0), .v (.int .i64 0), .v (.slice none 0 0), .v (.slice none 0 0), .v (.slice none 0 0), .v (.int .i64 0), .v (.slice none 0 0)]⟩ = true := by kernel_rfl
theorem ty84 : ty 84 = some ⟨9, 144, .struct [(0, 28), (6, 82), (7, 3), (8, 22)], [.v (.int .i64 0), .v (.string ⟨#[]⟩), .v (.int .i64 0), .v (.int .i64 0), .v (.slice none 0 0), .v (.slice none 0 0), .v (.slice none 0 0), .v (.int .i64 0), .v (.slice none 0 0)]⟩ := by kernel_rfl
theorem sd84 : structD ty 84 = some ⟨9, 144, .struct [(0, 28), (6, 82), (7, 3), (8, 22)], [.v (.int .i64 0), .v (.string ⟨#[]⟩), .v (.int .i64 0), .v (.int .i64 0), .v (.slice none 0 0), .v (.slice none 0 0), .v (.slice none 0 0), .v (.int .i64 0), .v (.slice none 0 0)]⟩ := by kernel_rfl
theorem fd84_0 : fdd ty 84 0 = some (0, ⟨6, 88, .struct [(0, 3), (1, 9), (2, 3), (3, 3), (4, 26), (5, 22)], [.v (.int .i64 0), .v (.string ⟨#[]⟩), .v (.int .i64 0), .v (.int .i64 0), .v (.slice none 0 0), .v (.slice none 0 0)]⟩) := by kernel_rfl
theorem pl84_0 : places ty 84 0 = some (0, 6) := by kernel_rfl
theorem fd84_1 : fdd ty 84 1 = some (6, ⟨1, 24, .slice 63, [.v (.slice none 0 0)]⟩) := by kernel_rfl
theorem pl84_1 : places ty 84 1 = some (6, 1) := by kernel_rfl
theorem fd84_2 : fdd ty 84 2 = some (7, ⟨1, 8, .int .i64, [.v (.int .i64 0)]⟩) := by kernel_rfl
theorem pl84_2 : places ty 84 2 = some (7, 1) := by kernel_rfl
theorem fd84_3 : fdd ty 84 3 = some (8, ⟨1, 24, .slice 3, [.v (.slice none 0 0)]⟩) := by kernel_rfl
theorem pl84_3 : places ty 84 3 = some (8, 1) := by kernel_rfl
theorem at84 : allTy ty ⟨9, 144, .struct [(0, 28), (6, 82), (7, 3), (8, 22)], [.v (.int .i64 0), .v (.string ⟨#[]⟩), .v (.int .i64 0), .v (.int .i64 0), .v (.slice none 0 0), .v (.slice none 0 0), .v (.slice none 0 0), .v (.int .i64 0), .v (.slice none 0 0)]⟩ = true := by kernel_rfl
theorem ty85 : ty 85 = some ⟨3, 40, .struct [(0, 3), (1, 33), (2, 3)], [.v (.int .i64 0), .v (.slice none 0 0), .v (.int .i64 0)]⟩ := by kernel_rfl
theorem sd85 : structD ty 85 = some ⟨3, 40, .struct [(0, 3), (1, 33), (2, 3)], [.v (.int .i64 0), .v (.slice none 0 0), .v (.int .i64 0)]⟩ := by kernel_rfl
theorem fd85_0 : fdd ty 85 0 = some (0, ⟨1, 8, .int .i64, [.v (.int .i64 0)]⟩) := by kernel_rfl
theorem pl85_0 : places ty 85 0 = some (0, 1) := by kernel_rfl
theorem fd85_1 : fdd ty 85 1 = some (1, ⟨1, 24, .slice 40, [.v (.slice none 0 0)]⟩) := by kernel_rfl
theorem pl85_1 : places ty 85 1 = some (1, 1) := by kernel_rfl
theorem fd85_2 : fdd ty 85 2 = some (2, ⟨1, 8, .int .i64, [.v (.int .i64 0)]⟩) := by kernel_rfl
theorem pl85_2 : places ty 85 2 = some (2, 1) := by kernel_rfl
theorem at85 : allTy ty ⟨3, 40, .struct [(0, 3), (1, 33), (2, 3)], [.v (.int .i64 0), .v (.slice none 0 0), .v (.int .i64 0)]⟩ = true := by kernel_rfl
theorem ty86 : ty 86 = some ⟨3, 40, .struct [(0, 3), (1, 33), (2, 3)], [.v (.int .i64 0), .v (.slice none 0 0), .v (.int .i64 0)]⟩ := by kernel_rfl
theorem sd86 : structD ty 86 = some ⟨3, 40, .struct [(0, 3), (1, 33), (2, 3)], [.v (.int .i64 0), .v (.slice none 0 0), .v (.int .i64 0)]⟩ := by kernel_rfl
theorem fd86_0 : fdd ty 86 0 = some (0, ⟨1, 8, .int .i64, [.v (.int .i64 0)]⟩) := by kernel_rfl
theorem pl86_0 : places ty 86 0 = some (0, 1) := by kernel_rfl
theorem fd86_1 : fdd ty 86 1 = some (1, ⟨1, 24, .slice 40, [.v (.slice none 0 0)]⟩) := by kernel_rfl
theorem pl86_1 : places ty 86 1 = some (1, 1) := by kernel_rfl
theorem fd86_2 : fdd ty 86 2 = some (2, ⟨1, 8, .int .i64, [.v (.int .i64 0)]⟩) := by kernel_rfl
theorem pl86_2 : places ty 86 2 = some (2, 1) := by kernel_rfl
theorem at86 : allTy ty ⟨3, 40, .struct [(0, 3), (1, 33), (2, 3)], [.v (.int .i64 0), .v (.slice none 0 0), .v (.int .i64 0)]⟩ = true := by kernel_rfl
theorem ty94 : ty 94 = some ⟨256, 256, .array 256 4, [.v (.bool false), .v (.bool false), .v (.bool false), .v (.bool false), .v (.bool false), .v (.bool false), .v (.bool false), .v (.bool false), .v (.bool false), .v (.bool false), .v (.bool false), .v (.bool false), .v (.bool false), .v (.bool false), .v (.bool false), .v (.bool false), .v (.bool false), .v (.bool false), .v (.bool false), .v (.bool false), .v (.bool false), .v (.bool false), .v (.bool false), .v (.bool false), .v (.bool false), .v (.bool false), .v (.bool false), .v (.bool false), .v (.bool false), .v (.bool false), .v (.bool false), .v (.bool false), .v (.bool false), .v (.bool false), .v (.bool false), .v (.bool false), .v (.bool false), .v (.bool false), .v (.bool false), .v (.bool false), .v (.bool false), .v (.bool false), .v (.bool false), .v (.bool false), .v (.bool false), .v (.bool false), .v (.bool false), .v (.bool false), .v (.bool false), .v (.bool false), .v (.bool false), .v (.bool false), .v (.bool false), .v (.bool false), .v (.bool false), .v (.bool false), .v (.bool false), .v (.bool false), .v (.bool false), .v (.bool false), .v (.bool false), .v (.bool false), .v (.bool false), .v (.bool false), .v (.bool false), .v (.bool false), .v (.bool false), .v (.bool false), .v (.bool false), .v (.bool false), .v (.bool false), .v (.bool false), .v (.bool false), .v (.bool false), .v (.bool false), .v (.bool false), .v (.bool false), .v (.bool false), .v (.bool false), .v (.bool false), .v (.bool false), .v (.bool false), .v (.bool false), .v (.bool false), .v (.bool false), .v (.bool false), .v (.bool false), .v (.bool false), .v (.bool false), .v (.bool false), .v (.bool false), .v (.bool false), .v (.bool false), .v (.bool false), .v (.bool false), .v (.bool false), .v (.bool false), .v (.bool false), .v (.bool false), .v (.bool false), .v (.bool false), .v (.bool false), .v (.bool false), .v (.bool false), .v (.bool false), .v (.bool false), .v (.bool false), .v (.bool false), .v (.bool false), .v (.bool false), .v (.bool false), .v (.bool false), .v (.bool false), .v (.bool false), .v (.bool false), .v (.bool false), .v (.bool false), .v (.bool false), .v (.bool false), .v (.bool false), .v (.bool false), .v (.bool false), .v (.bool false), .v (.bool false), .v (.bool false), .v (.bool false), .v (.bool false), .v (.bool false), .v (.bool false), .v (.bool false), .v (.bool false), .v (.bool false), .v (.bool false), .v (.bool false), .v (.bool false), .v (.bool false), .v (.bool false), .v (.bool false), .v (.bool false), .v (.bool false), .v (.bool false), .v (.bool false), .v (.bool false), .v (.bool false), .v (.bool false), .v (.bool false), .v (.bool false), .v (.bool false), .v (.bool false), .v (.bool false), .v (.bool false), .v (.bool false), .v (.bool false), .v (.bool false), .v (.bool false), .v (.bool false), .v (.bool false), .v (.bool false), .v (.bool false), .v (.bool false), .v (.bool false), .v (.bool false), .v (.bool false), .v (.bool false), .v (.bool false), .v (.bool false), .v (.bool false), .v (.bool false), .v (.bool false), .v (.bool false), .v (.bool false), .v (.bool false), .v (.bool false), .v (.bool false), .v (.bool false), .v (.bool false), .v (.bool false), .v (.bool false), .v (.bool false), .v (.bool false), .v (.bool false), .v (.bool false), .v (.bool false), .v (.bool false), .v (.bool false), .v (.bool false), .v (.bool false), .v (.bool false), .v (.bool false), .v (.bool false), .v (.bool false), .v (.bool false), .v (.bool false), .v (.bool false), .v (.bool false), .v (.bool false), .v (.bool false), .v (.bool false), .v (.bool false), .v (.bool false), .v (.bool false), .v (.bool false), .v (.bool false), .v (.bool false), .v (.bool false), .v (.bool false), .v (.bool false), .v (.bool false), .v (.bool false), .v (.bool false), .v (.bool false), .v (.bool false), .v (.bool false), .v (.bool false), .v (.bool false), .v (.bool false), .v (.bool false), .v (.bool false), .v (.bool false), .v (.bool false), .v (.bool false), .v (.bool false), .v (.bool false), .v (.bool false), .v (.bool false), .v (.bool false), .v (.bool false), .v (.bool false), .v (.bool false), .v (.bool false), .v (.bool false), .v (.bool false), .v (.bool false), .v (.bool false), .v (.bool false), .v (.bool false), .v (.bool false), .v (.bool false), .v (.bool false), .v (.bool false), .v (.bool false), .v (.bool false), .v (.bool false), .v (.bool false), .v (.bool false), .v (.bool false), .v (.bool false), .v (.bool false), .v (.bool false), .v (.bool false), .v (.bool false), .v (.bool false), .v (.bool false), .v (.bool false), .v (.bool false), .v (.bool false)]⟩ := by kernel_rfl
theorem ty95 : ty 95 = some ⟨256, 256, .array 256 4, [.v (.bool false), .v (.bool false), .v (.bool false), .v (.bool false), .v (.bool false), .v (.bool false), .v (.bool false), .v (.bool false), .v (.bool false), .v (.bool false), .v (.bool false), .v (.bool false), .v (.bool false), .v (.bool false), .v (.bool false), .v (.bool false), .v (.bool false), .v (.bool false), .v (.bool false), .v (.bool false), .v (.bool false), .v (.bool false), .v (.bool false), .v (.bool false), .v (.bool false), .v (.bool false), .v (.bool false), .v (.bool false), .v (.bool false), .v (.bool false), .v (.bool false), .v (.bool false), .v (.bool false), .v (.bool false), .v (.bool false), .v (.bool false), .v (.bool false), .v (.bool false), .v (.bool false), .v (.bool false), .v (.bool false), .v (.bool false), .v (.bool false), .v (.bool false), .v (.bool false), .v (.bool false), .v (.bool false), .v (.bool false), .v (.bool false), .v (.bool false), .v (.bool false), .v (.bool false), .v (.bool false), .v (.bool false), .v (.bool false), .v (.bool false), .v (.bool false), .v (.bool false), .v (.bool false), .v (.bool false), .v (.bool false), .v (.bool false), .v (.bool false), .v (.bool false), .v (.bool false), .v (.bool false), .v (.bool false), .v (.bool false), .v (.bool false), .v (.bool false), .v (.bool false), .v (.bool false), .v (.bool false), .v (.bool false), .v (.bool false), .v (.bool false), .v (.bool false), .v (.bool false), .v (.bool false), .v (.bool false), .v (.bool false), .v (.bool false), .v (.bool false), .v (.bool false), .v (.bool false), .v (.bool false), .v (.bool false), .v (.bool false), .v (.bool false), .v (.bool false), .v (.bool false), .v (.bool false), .v (.bool false), .v (.bool false), .v (.bool false), .v (.bool false), .v (.bool false), .v (.bool false), .v (.bool false), .v (.bool false), .v (.bool false), .v (.bool false), .v (.bool false), .v (.bool false), .v (.bool false), .v (.bool false), .v (.bool false), .v (.bool false), .v (.bool false), .v (.bool false), .v (.bool false), .v (.bool false), .v (.bool false), .v (.bool false), .v (.bool false), .v (.bool false), .v (.bool false), .v (.bool false), .v (.bool false), .v (.bool false), .v (.bool false), .v (.bool false), .v (.bool false), .v (.bool false), .v (.bool false), .v (.bool false), .v (.bool false), .v (.bool false), .v (.bool false), .v (.bool false), .v (.bool false), .v (.bool false), .v (.bool false), .v (.bool false), .v (.bool false), .v (.bool false), .v (.bool false), .v (.bool false), .v (.bool false), .v (.bool false), .v (.bool false), .v (.bool false), .v (.bool false), .v (.bool false), .v (.bool false), .v (.bool false), .v (.bool false), .v (.bool false), .v (.bool false), .v (.bool false), .v (.bool false), .v (.bool false), .v (.bool false), .v (.bool false), .v (.bool false), .v (.bool false), .v (.bool false), .v (.bool false), .v (.bool false), .v (.bool false), .v (.bool false), .v (.bool false), .v (.bool false), .v (.bool false), .v (.bool false), .v (.bool false), .v (.bool false), .v (.bool false), .v (.bool false), .v (.bool false), .v (.bool false), .v (.bool false), .v (.bool false), .v (.bool false), .v (.bool false), .v (.bool false), .v (.bool false), .v (.bool false), .v (.bool false), .v (.bool false), .v (.bool false), .v (.bool false), .v (.bool false), .v (.bool false), .v (.bool false), .v (.bool false), .v (.bool false), .v (.bool false), .v (.bool false), .v (.bool false), .v (.bool false), .v (.bool false), .v (.bool false), .v (.bool false), .v (.bool false), .v (.bool false), .v (.bool false), .v (.bool false), .v (.bool false), .v (.bool false), .v (.bool false), .v (.bool false), .v (.bool false), .v (.bool false), .v (.bool false), .v (.bool false), .v (.bool false), .v (.bool false), .v (.bool false), .v (.bool false), .v (.bool false), .v (.bool false), .v (.bool false), .v (.bool false), .v (.bool false), .v (.bool false), .v (.bool false), .v (.bool false), .v (.bool false), .v (.bool false), .v (.bool false), .v (.bool false), .v (.bool false), .v (.bool false), .v (.bool false), .v (.bool false), .v (.bool false), .v (.bool false), .v (.bool false), .v (.bool false), .v (.bool false), .v (.bool false), .v (.bool false), .v (.bool false), .v (.bool false), .v (.bool false), .v (.bool false), .v (.bool false), .v (.bool false), .v (.bool false), .v (.bool false), .v (.bool false), .v (.bool false), .v (.bool false), .v (.bool false), .v (.bool false), .v (.bool false), .v (.bool false), .v (.bool false), .v (.bool false), .v (.bool false), .v (.bool false), .v (.bool false), .v (.bool false), .v (.bool false), .v (.bool false)]⟩ := by kernel_rfl
theorem ty99 : ty 99 = some ⟨1, 8, .ptr 95, [.v (.pointer none)]⟩ := by kernel_rfl
theorem ty109 : ty 109 = some ⟨256, 256, .array 256 5, [.v (.int .u8 0), .v (.int .u8 0), .v (.int .u8 0), .v (.int .u8 0), .v (.int .u8 0), .v (.int .u8 0), .v (.int .u8 0), .v (.int .u8 0), .v (.int .u8 0), .v (.int .u8 0), .v (.int .u8 0), .v (.int .u8 0), .v (.int .u8 0), .v (.int .u8 0), .v (.int .u8 0), .v (.int .u8 0), .v (.int .u8 0), .v (.int .u8 0), .v (.int .u8 0), .v (.int .u8 0), .v (.int .u8 0), .v (.int .u8 0), .v (.int .u8 0), .v (.int .u8 0), .v (.int .u8 0), .v (.int .u8 0), .v (.int .u8 0), .v (.int .u8 0), .v (.int .u8 0), .v (.int .u8 0), .v (.int .u8 0), .v (.int .u8 0), .v (.int .u8 0), .v (.int .u8 0), .v (.int .u8 0), .v (.int .u8 0), .v (.int .u8 0), .v (.int .u8 0), .v (.int .u8 0), .v (.int .u8 0), .v (.int .u8 0), .v (.int .u8 0), .v (.int .u8 0), .v (.int .u8 0), .v (.int .u8 0), .v (.int .u8 0), .v (.int .u8 0), .v (.int .u8 0), .v (.int .u8 0), .v (.int .u8 0), .v (.int .u8 0), .v (.int .u8 0), .v (.int .u8 0), .v (.int .u8 0), .v (.int .u8 0), .v (.int .u8 0), .v (.int .u8 0), .v (.int .u8 0), .v (.int .u8 0), .v (.int .u8 0), .v (.int .u8 0), .v (.int .u8 0), .v (.int .u8 0), .v (.int .u8 0), .v (.int .u8 0), .v (.int .u8 0), .v (.int .u8 0), .v (.int .u8 0), .v (.int .u8 0), .v (.int .u8 0), .v (.int .u8 0), .v (.int .u8 0), .v (.int .u8 0), .v (.int .u8 0), .v (.int .u8 0), .v (.int .u8 0), .v (.int .u8 0), .v (.int .u8 0), .v (.int .u8 0), .v (.int .u8 0), .v (.int .u8 0), .v (.int .u8 0), .v (.int .u8 0), .v (.int .u8 0), .v (.int .u8 0), .v (.int .u8 0), .v (.int .u8 0), .v (.int .u8 0), .v (.int .u8 0), .v (.int .u8 0), .v (.int .u8 0), .v (.int .u8 0), .v (.int .u8 0), .v (.int .u8 0), .v (.int .u8 0), .v (.int .u8 0), .v (.int .u8 0), .v (.int .u8 0), .v (.int .u8 0), .v (.int .u8 0), .v (.int .u8 0), .v (.int .u8 0), .v (.int .u8 0), .v (.int .u8 0), .v (.int .u8 0), .v (.int .u8 0), .v (.int .u8 0), .v (.int .u8 0), .v (.int .u8 0), .v (.int .u8 0), .v (.int .u8 0), .v (.int .u8 0), .v (.int .u8 0), .v (.int .u8 0), .v (.int .u8 0), .v (.int .u8 0), .v (.int .u8 0), .v (.int .u8 0), .v (.int .u8 0), .v (.int .u8 0), .v (.int .u8 0), .v (.int .u8 0), .v (.int .u8 0), .v (.int .u8 0), .v (.int .u8 0), .v (.int .u8 0), .v (.int .u8 0), .v (.int .u8 0), .v (.int .u8 0), .v (.int .u8 0), .v (.int .u8 0), .v (.int .u8 0), .v (.int .u8 0), .v (.int .u8 0), .v (.int .u8 0), .v (.int .u8 0), .v (.int .u8 0), .v (.int .u8 0), .v (.int .u8 0), .v (.int .u8 0), .v (.int .u8 0), .v (.int .u8 0), .v (.int .u8 0), .v (.int .u8 0), .v (.int .u8 0), .v (.int .u8 0), .v (.int .u8 0), .v (.int .u8 0), .v (.int .u8 0), .v (.int .u8 0), .v (.int .u8 0), .v (.int .u8 0), .v (.int .u8 0), .v (.int .u8 0), .v (.int .u8 0), .v (.int .u8 0), .v (.int .u8 0), .v (.int .u8 0), .v (.int .u8 0), .v (.int .u8 0), .v (.int .u8 0), .v (.int .u8 0), .v (.int .u8 0), .v (.int .u8 0), .v (.int .u8 0), .v (.int .u8 0), .v (.int .u8 0), .v (.int .u8 0), .v (.int .u8 0), .v (.int .u8 0), .v (.int .u8 0), .v (.int .u8 0), .v (.int .u8 0), .v (.int .u8 0), .v (.int .u8 0), .v (.int .u8 0), .v (.int .u8 0), .v (.int .u8 0), .v (.int .u8 0), .v (.int .u8 0), .v (.int .u8 0), .v (.int .u8 0), .v (.int .u8 0), .v (.int .u8 0), .v (.int .u8 0), .v (.int .u8 0), .v (.int .u8 0), .v (.int .u8 0), .v (.int .u8 0), .v (.int .u8 0), .v (.int .u8 0), .v (.int .u8 0), .v (.int .u8 0), .v (.int .u8 0), .v (.int .u8 0), .v (.int .u8 0), .v (.int .u8 0), .v (.int .u8 0), .v (.int .u8 0), .v (.int .u8 0), .v (.int .u8 0), .v (.int .u8 0), .v (.int .u8 0), .v (.int .u8 0), .v (.int .u8 0), .v (.int .u8 0), .v (.int .u8 0), .v (.int .u8 0), .v (.int .u8 0), .v (.int .u8 0), .v (.int .u8 0), .v (.int .u8 0), .v (.int .u8 0), .v (.int .u8 0), .v (.int .u8 0), .v (.int .u8 0), .v (.int .u8 0), .v (.int .u8 0), .v (.int .u8 0), .v (.int .u8 0), .v (.int .u8 0), .v (.int .u8 0), .v (.int .u8 0), .v (.int .u8 0), .v (.int .u8 0), .v (.int .u8 0), .v (.int .u8 0), .v (.int .u8 0), .v (.int .u8 0), .v (.int .u8 0), .v (.int .u8 0), .v (.int .u8 0), .v (.int .u8 0), .v (.int .u8 0), .v (.int .u8 0), .v (.int .u8 0), .v (.int .u8 0), .v (.int .u8 0), .v (.int .u8 0), .v (.int .u8 0), .v (.int .u8 0), .v (.int .u8 0), .v (.int .u8 0), .v (.int .u8 0), .v (.int .u8 0), .v (.int .u8 0), .v (.int .u8 0), .v (.int .u8 0), .v (.int .u8 0), .v (.int .u8 0), .v (.int .u8 0), .v (.int .u8 0), .v (.int .u8 0), .v (.int .u8 0), .v (.int .u8 0), .v (.int .u8 0)]⟩ := by kernel_rfl
theorem ty110 : ty 110 = some ⟨1, 8, .int .u64, [.v (.int .u64 0)]⟩ := by kernel_rfl
theorem ty111 : ty 111 = some ⟨2, 2, .struct [(0, 5), (1, 5)], [.v (.int .u8 0), .v (.int .u8 0)]⟩ := by kernel_rfl
theorem sd111 : structD ty 111 = some ⟨2, 2, .struct [(0, 5), (1, 5)], [.v (.int .u8 0), .v (.int .u8 0)]⟩ := by kernel_rfl
theorem fd111_0 : fdd ty 111 0 = some (0, ⟨1, 1, .int .u8, [.v (.int .u8 0)]⟩) := by kernel_rfl
theorem pl111_0 : places ty 111 0 = some (0, 1) := by kernel_rfl
theorem fd111_1 : fdd ty 111 1 = some (1, ⟨1, 1, .int .u8, [.v (.int .u8 0)]⟩) := by kernel_rfl
theorem pl111_1 : places ty 111 1 = some (1, 1) := by kernel_rfl
theorem at111 : allTy ty ⟨2, 2, .struct [(0, 5), (1, 5)], [.v (.int .u8 0), .v (.int .u8 0)]⟩ = true := by kernel_rfl
theorem ty112 : ty 112 = some ⟨2, 2, .struct [(0, 5), (1, 5)], [.v (.int .u8 0), .v (.int .u8 0)]⟩ := by kernel_rfl
theorem sd112 : structD ty 112 = some ⟨2, 2, .struct [(0, 5), (1, 5)], [.v (.int .u8 0), .v (.int .u8 0)]⟩ := by kernel_rfl
theorem fd112_0 : fdd ty 112 0 = some (0, ⟨1, 1, .int .u8, [.v (.int .u8 0)]⟩) := by kernel_rfl
theorem pl112_0 : places ty 112 0 = some (0, 1) := by kernel_rfl
theorem fd112_1 : fdd ty 112 1 = some (1, ⟨1, 1, .int .u8, [.v (.int .u8 0)]⟩) := by kernel_rfl
theorem pl112_1 : places ty 112 1 = some (1, 1) := by kernel_rfl
theorem at112 : allTy ty ⟨2, 2, .struct [(0, 5), (1, 5)], [.v (.int .u8 0), .v (.int .u8 0)]⟩ = true := by kernel_rfl
theorem ty113 : ty 113 = some ⟨32, 32, .array 16 112, [.v (.int .u8 0), .v (.int .u8 0), .v (.int .u8 0), .v (.int .u8 0), .v (.int .u8 0), .v (.int .u8 0), .v (.int .u8 0), .v (.int .u8 0), .v (.int .u8 0), .v (.int .u8 0), .v (.int .u8 0), .v (.int .u8 0), .v (.int .u8 0), .v (.int .u8 0), .v (.int .u8 0), .v (.int .u8 0), .v (.int .u8 0), .v (.int .u8 0), .v (.int .u8 0), .v (.int .u8 0), .v (.int .u8 0), .v (.int .u8 0), .v (.int .u8 0), .v (.int .u8 0), .v (.int .u8 0), .v (.int .u8 0), .v (.int .u8 0), .v (.int .u8 0), .v (.int .u8 0), .v (.int .u8 0), .v (.int .u8 0), .v (.int .u8 0)]⟩ := by kernel_rfl
theorem ty117 : ty 117 = some ⟨4, 40, .struct [(0, 17), (1, 17), (2, 17), (3, 9)], [.v (.pointer none), .v (.pointer none), .v (.pointer none), .v (.string ⟨#[]⟩)]⟩ := by kernel_rfl
theorem sd117 : structD ty 117 = some ⟨4, 40, .struct [(0, 17), (1, 17), (2, 17), (3, 9)], [.v (.pointer none), .v (.pointer none), .v (.pointer none), .v (.string ⟨#[]⟩)]⟩ := by kernel_rfl
theorem fd117_0 : fdd ty 117 0 = some (0, ⟨1, 8, .ptr 130, [.v (.pointer none)]⟩) := by kernel_rfl
theorem pl117_0 : places ty 117 0 = some (0, 1) := by kernel_rfl
theorem fd117_1 : fdd ty 117 1 = some (1, ⟨1, 8, .ptr 130, [.v (.pointer none)]⟩) := by kernel_rfl
theorem pl117_1 : places ty 117 1 = some (1, 1) := by kernel_rfl
theorem fd117_2 : fdd ty 117 2 = some (2, ⟨1, 8, .ptr 130, [.v (.pointer none)]⟩) := by kernel_rfl
theorem pl117_2 : places ty 117 2 = some (2, 1) := by kernel_rfl
theorem fd117_3 : fdd ty 117 3 = some (3, ⟨1, 16, .str, [.v (.string ⟨#[]⟩)]⟩) := by kernel_rfl
theorem pl117_3 : places ty 117 3 = some (3, 1) := by kernel_rfl
theorem at117 : allTy ty ⟨4, 40, .struct [(0, 17), (1, 17), (2, 17), (3, 9)], [.v (.pointer none), .v (.pointer none), .v (.pointer none), .v (.string ⟨#[]⟩)]⟩ = true := by kernel_rfl
theorem ty118 : ty 118 = some ⟨4, 40, .struct [(0, 17), (1, 17), (2, 17), (3, 9)], [.v (.pointer none), .v (.pointer none), .v (.pointer none), .v (.string ⟨#[]⟩)]⟩ := by kernel_rfl
theorem sd118 : structD ty 118 = some ⟨4, 40, .struct [(0, 17), (1, 17), (2, 17), (3, 9)], [.v (.pointer none), .v (.pointer none), .v (.pointer none), .v (.string ⟨#[]⟩)]⟩ := by kernel_rfl
theorem fd118_0 : fdd ty 118 0 = some (0, ⟨1, 8, .ptr 130, [.v (.pointer none)]⟩) := by kernel_rfl
theorem pl118_0 : places ty 118 0 = some (0, 1) := by kernel_rfl
theorem fd118_1 : fdd ty 118 1 = some (1, ⟨1, 8, .ptr 130, [.v (.pointer none)]⟩) := by kernel_rfl
theorem pl118_1 : places ty 118 1 = some (1, 1) := by kernel_rfl
theorem fd118_2 : fdd ty 118 2 = some (2, ⟨1, 8, .ptr 130, [.v (.pointer none)]⟩) := by kernel_rfl
theorem pl118_2 : places ty 118 2 = some (2, 1) := by kernel_rfl
theorem fd118_3 : fdd ty 118 3 = some (3, ⟨1, 16, .str, [.v (.string ⟨#[]⟩)]⟩) := by kernel_rfl
theorem pl118_3 : places ty 118 3 = some (3, 1) := by kernel_rfl
theorem at118 : allTy ty ⟨4, 40, .struct [(0, 17), (1, 17), (2, 17), (3, 9)], [.v (.pointer none), .v (.pointer none), .v (.pointer none), .v (.string ⟨#[]⟩)]⟩ = true := by kernel_rfl
theorem ty119 : ty 119 = some ⟨0, 0, .array 0 16, []⟩ := by kernel_rfl
theorem ty120 : ty 120 = some ⟨0, 0, .struct [(0, 119)], []⟩ := by kernel_rfl
theorem sd120 : structD ty 120 = some ⟨0, 0, .struct [(0, 119)], []⟩ := by kernel_rfl
theorem fd120_0 : fdd ty 120 0 = some (0, ⟨0, 0, .array 0 16, []⟩) := by kernel_rfl
theorem pl120_0 : places ty 120 0 = some (0, 0) := by kernel_rfl
theorem at120 : allTy ty ⟨0, 0, .struct [(0, 119)], []⟩ = true := by kernel_rfl
theorem ty121 : ty 121 = some ⟨0, 0, .struct [(0, 119)], []⟩ := by kernel_rfl
theorem sd121 : structD ty 121 = some ⟨0, 0, .struct [(0, 119)], []⟩ := by kernel_rfl
theorem fd121_0 : fdd ty 121 0 = some (0, ⟨0, 0, .array 0 16, []⟩) := by kernel_rfl
theorem pl121_0 : places ty 121 0 = some (0, 0) := by kernel_rfl
theorem at121 : allTy ty ⟨0, 0, .struct [(0, 119)], []⟩ = true := by kernel_rfl
theorem ty122 : ty 122 = some ⟨1, 4, .int .u32, [.v (.int .u32 0)]⟩ := by kernel_rfl
theorem ty123 : ty 123 = some ⟨1, 1, .int .u8, [.v (.int .u8 0)]⟩ := by kernel_rfl
theorem ty124 : ty 124 = some ⟨1, 1, .int .u8, [.v (.int .u8 0)]⟩ := by kernel_rfl
theorem ty126 : ty 126 = some ⟨1, 8, .ptr 5, [.v (.pointer none)]⟩ := by kernel_rfl
theorem ty127 : ty 127 = some ⟨1, 4, .int .i32, [.v (.int .i32 0)]⟩ := by kernel_rfl
theorem ty128 : ty 128 = some ⟨1, 4, .int .i32, [.v (.int .i32 0)]⟩ := by kernel_rfl
theorem ty129 : ty 129 = some ⟨11, 48, .struct [(0, 12), (1, 12), (2, 122), (3, 123), (4, 5), (5, 5), (6, 124), (7, 125), (8, 126), (9, 127), (10, 128)], [.v (.int .u64 0), .v (.int .u64 0), .v (.int .u32 0), .v (.int .u8 0), .v (.int .u8 0), .v (.int .u8 0), .v (.int .u8 0), .v (.nilFunc), .v (.pointer none), .v (.int .i32 0), .v (.int .i32 0)]⟩ := by kernel_rfl
theorem sd129 : structD ty 129 = some ⟨11, 48, .struct [(0, 12), (1, 12), (2, 122), (3, 123), (4, 5), (5, 5), (6, 124), (7, 125), (8, 126), (9, 127), (10, 128)], [.v (.int .u64 0), .v (.int .u64 0), .v (.int .u32 0), .v (.int .u8 0), .v (.int .u8 0), .v (.int .u8 0), .v (.int .u8 0), .v (.nilFunc), .v (.pointer none), .v (.int .i32 0), .v (.int .i32 0)]⟩ := by kernel_rfl
theorem fd129_0 : fdd ty 129 0 = some (0, ⟨1, 8, .int .u64, [.v (.int .u64 0)]⟩) := by kernel_rfl
theorem pl129_0 : places ty 129 0 = some (0, 1) := by kernel_rfl
theorem fd129_1 : fdd ty 129 1 = some (1, ⟨1, 8, .int .u64, [.v (.int .u64 0)]⟩) := by kernel_rfl
theorem pl129_1 : places ty 129 1 = some (1, 1) := by kernel_rfl
theorem fd129_2 : fdd ty 129 2 = some (2, ⟨1, 4, .int .u32, [.v (.int .u32 0)]⟩) := by kernel_rfl
theorem pl129_2 : places ty 129 2 = some (2, 1) := by kernel_rfl
theorem fd129_3 : fdd ty 129 3 = some (3, ⟨1, 1, .int .u8, [.v (.int .u8 0)]⟩) := by kernel_rfl
theorem pl129_3 : places ty 129 3 = some (3, 1) := by kernel_rfl
theorem fd129_4 : fdd ty 129 4 = some (4, ⟨1, 1, .int .u8, [.v (.int .u8 0)]⟩) := by kernel_rfl
theorem pl129_4 : places ty 129 4 = some (4, 1) := by kernel_rfl
theorem fd129_5 : fdd ty 129 5 = some (5, ⟨1, 1, .int .u8, [.v (.int .u8 0)]⟩) := by kernel_rfl
theorem pl129_5 : places ty 129 5 = some (5, 1) := by kernel_rfl
theorem fd129_6 : fdd ty 129 6 = some (6, ⟨1, 1, .int .u8, [.v (.int .u8 0)]⟩) := by kernel_rfl
theorem pl129_6 : places ty 129 6 = some (6, 1) := by kernel_rfl
theorem fd129_8 : fdd ty 129 8 = some (8, ⟨1, 8, .ptr 5, [.v (.pointer none)]⟩) := by kernel_rfl
theorem pl129_8 : places ty 129 8 = some (8, 1) := by kernel_rfl
theorem fd129_9 : fdd ty 129 9 = some (9, ⟨1, 4, .int .i32, [.v (.int .i32 0)]⟩) := by kernel_rfl
theorem pl129_9 : places ty 129 9 = some (9, 1) := by kernel_rfl
theorem fd129_10 : fdd ty 129 10 = some (10, ⟨1, 4, .int .i32, [.v (.int .i32 0)]⟩) := by kernel_rfl
theorem pl129_10 : places ty 129 10 = some (10, 1) := by kernel_rfl
theorem ty130 : ty 130 = some ⟨11, 48, .struct [(0, 12), (1, 12), (2, 122), (3, 123), (4, 5), (5, 5), (6, 124), (7, 125), (8, 126), (9, 127), (10, 128)], [.v (.int .u64 0), .v (.int .u64 0), .v (.int .u32 0), .v (.int .u8 0), .v (.int .u8 0), .v (.int .u8 0), .v (.int .u8 0), .v (.nilFunc), .v (.pointer none), .v (.int .i32 0), .v (.int .i32 0)]⟩ := by kernel_rfl
theorem sd130 : structD ty 130 = some ⟨11, 48, .struct [(0, 12), (1, 12), (2, 122), (3, 123), (4, 5), (5, 5), (6, 124), (7, 125), (8, 126), (9, 127), (10, 128)], [.v (.int .u64 0), .v (.int .u64 0), .v (.int .u32 0), .v (.int .u8 0), .v (.int .u8 0), .v (.int .u8 0), .v (.int .u8 0), .v (.nilFunc), .v (.pointer none), .v (.int .i32 0), .v (.int .i32 0)]⟩ := by kernel_rfl
theorem fd130_0 : fdd ty 130 0 = some (0, ⟨1, 8, .int .u64, [.v (.int .u64 0)]⟩) := by kernel_rfl
theorem pl130_0 : places ty 130 0 = some (0, 1) := by kernel_rfl
theorem fd130_1 : fdd ty 130 1 = some (1, ⟨1, 8, .int .u64, [.v (.int .u64 0)]⟩) := by kernel_rfl
theorem pl130_1 : places ty 130 1 = some (1, 1) := by kernel_rfl
theorem fd130_2 : fdd ty 130 2 = some (2, ⟨1, 4, .int .u32, [.v (.int .u32 0)]⟩) := by kernel_rfl
theorem pl130_2 : places ty 130 2 = some (2, 1) := by kernel_rfl
theorem fd130_3 : fdd ty 130 3 = some (3, ⟨1, 1, .int .u8, [.v (.int .u8 0)]⟩) := by kernel_rfl
theorem pl130_3 : places ty 130 3 = some (3, 1) := by kernel_rfl
theorem fd130_4 : fdd ty 130 4 = some (4, ⟨1, 1, .int .u8, [.v (.int .u8 0)]⟩) := by kernel_rfl
theorem pl130_4 : places ty 130 4 = some (4, 1) := by kernel_rfl
theorem fd130_5 : fdd ty 130 5 = some (5, ⟨1, 1, .int .u8, [.v (.int .u8 0)]⟩) := by kernel_rfl
theorem pl130_5 : places ty 130 5 = some (5, 1) := by kernel_rfl
theorem fd130_6 : fdd ty 130 6 = some (6, ⟨1, 1, .int .u8, [.v (.int .u8 0)]⟩) := by kernel_rfl
theorem pl130_6 : places ty 130 6 = some (6, 1) := by kernel_rfl
theorem fd130_8 : fdd ty 130 8 = some (8, ⟨1, 8, .ptr 5, [.v (.pointer none)]⟩) := by kernel_rfl
theorem pl130_8 : places ty 130 8 = some (8, 1) := by kernel_rfl
theorem fd130_9 : fdd ty 130 9 = some (9, ⟨1, 4, .int .i32, [.v (.int .i32 0)]⟩) := by kernel_rfl
theorem pl130_9 : places ty 130 9 = some (9, 1) := by kernel_rfl
theorem fd130_10 : fdd ty 130 10 = some (10, ⟨1, 4, .int .i32, [.v (.int .i32 0)]⟩) := by kernel_rfl
theorem pl130_10 : places ty 130 10 = some (10, 1) := by kernel_rfl
set_option maxRecDepth 100000
theorem lemA : type_of% (And.intro (@List.getD_cons_zero.{0}) (And.intro (@List.getD_cons_succ.{0}) (And.intro (@List.set_cons_zero.{0}) (And.intro (@List.set_cons_succ.{0}) (And.intro (@List.length_cons.{0}) (And.intro (@List.length_nil.{0}) (And.intro (@List.map_cons.{0, 0}) (And.intro (@List.map_nil.{0, 0}) (And.intro (@List.append_nil.{0}) (And.intro (@List.nil_append.{0}) (And.intro (@List.cons_append.{0}) (And.intro (@List.all_cons.{0}) (And.intro (@List.all_nil.{0}) (And.intro (@Bool.and_true) (And.intro (@Bool.and_self) (And.intro (@Option.bind_some.{0, 0}) (And.intro (@Option.map_some.{0, 0}) (And.intro (@List.getElem?_toArray.{0}) (And.intro (@List.getElem?_cons_zero.{0}) (And.intro (@List.getElem?_cons_succ.{0}) (And.intro (@true_and) (And.intro (@and_true) (And.intro (@and_self) (And.intro (@Option.some.injEq.{0}) (And.intro (@if_true.{1}) (And.intro (@implies_true.{0}) (And.intro (@implies_true.{1}) (And.intro (@imp_self) (And.intro (@List.toList_toArray.{0}) (And.intro (@Bool.false_eq_true) (And.intro (@Bool.true_eq_false) (And.intro (@false_and) (And.intro (@and_false) (And.intro (@List.filterMap_cons.{0, 0}) (And.intro (@beq_true) (And.intro (@beq_false) (And.intro (@Bool.not_eq_true') (And.intro (@Bool.not_eq_false') (And.intro (@true_implies) (And.intro (@Bool.cond_true_left) (And.intro (@Bool.cond_false_right) (And.intro (@Bool.not_not) (And.intro (@Bool.or_false) (And.intro (@Bool.false_or) (And.intro (@Bool.or_true) (And.intro (@Bool.true_or) (And.intro (@Bool.and_false) (And.intro (@Bool.false_and) (And.intro (@Bool.true_and) (And.intro (@Bool.not_true) (And.intro (@Bool.not_false) (And.intro (@cond_true.{1}) (And.intro (@cond_false.{1}) (And.intro (@upd_same) (And.intro (@List.take_succ_cons.{0}) (And.intro (@List.take_zero.{0}) (And.intro (@List.drop_succ_cons.{0}) (And.intro (@List.drop_zero.{0}) (And.intro (@List.take_nil.{0}) (And.intro (@List.drop_nil.{0}) (And.intro (@List.length_map.{0, 0}) (And.intro (@Int.add_sub_cancel) (And.intro (@List.length_set.{0}) (And.intro (@upd_upd) (And.intro (@Option.isSome_some.{0}) (And.intro (@ne_eq.{1}) (@not_false_eq_true))))))))))))))))))))))))))))))))))))))))))))))))))))))))))))))))))) := And.intro (@List.getD_cons_zero.{0}) (And.intro (@List.getD_cons_succ.{0}) (And.intro (@List.set_cons_zero.{0}) (And.intro (@List.set_cons_succ.{0}) (And.intro (@List.length_cons.{0}) (And.intro (@List.length_nil.{0}) (And.intro (@List.map_cons.{0, 0}) (And.intro (@List.map_nil.{0, 0}) (And.intro (@List.append_nil.{0}) (And.intro (@List.nil_append.{0}) (And.intro (@List.cons_append.{0}) (And.intro (@List.all_cons.{0}) (And.intro (@List.all_nil.{0}) (And.intro (@Bool.and_true) (And.intro (@Bool.and_self) (And.intro (@Option.bind_some.{0, 0}) (And.intro (@Option.map_some.{0, 0}) (And.intro (@List.getElem?_toArray.{0}) (And.intro (@List.getElem?_cons_zero.{0}) (And.intro (@List.getElem?_cons_succ.{0}) (And.intro (@true_and) (And.intro (@and_true) (And.intro (@and_self) (And.intro (@Option.some.injEq.{0}) (And.intro (@if_true.{1}) (And.intro (@implies_true.{0}) (And.intro (@implies_true.{1}) (And.intro (@imp_self) (And.intro (@List.toList_toArray.{0}) (And.intro (@Bool.false_eq_true) (And.intro (@Bool.true_eq_false) (And.intro (@false_and) (And.intro (@and_false) (And.intro (@List.filterMap_cons.{0, 0}) (And.intro (@beq_true) (And.intro (@beq_false) (And.intro (@Bool.not_eq_true') (And.intro (@Bool.not_eq_false') (And.intro (@true_implies) (And.intro (@Bool.cond_true_left) (And.intro (@Bool.cond_false_right) (And.intro (@Bool.not_not) (And.intro (@Bool.or_false) (And.intro (@Bool.false_or) (And.intro (@Bool.or_true) (And.intro (@Bool.true_or) (And.intro (@Bool.and_false) (And.intro (@Bool.false_and) (And.intro (@Bool.true_and) (And.intro (@Bool.not_true) (And.intro (@Bool.not_false) (And.intro (@cond_true.{1}) (And.intro (@cond_false.{1}) (And.intro (@upd_same) (And.intro (@List.take_succ_cons.{0}) (And.intro (@List.take_zero.{0}) (And.intro (@List.drop_succ_cons.{0}) (And.intro (@List.drop_zero.{0}) (And.intro (@List.take_nil.{0}) (And.intro (@List.drop_nil.{0}) (And.intro (@List.length_map.{0, 0}) (And.intro (@Int.add_sub_cancel) (And.intro (@List.length_set.{0}) (And.intro (@upd_upd) (And.intro (@Option.isSome_some.{0}) (And.intro (@ne_eq.{1}) (@not_false_eq_true))))))))))))))))))))))))))))))))))))))))))))))))))))))))))))))))))
theorem lemT : type_of% (And.intro (@ty2) (And.intro (@ty3) (And.intro (@ty4) (And.intro (@ty5) (And.intro (@ty6) (And.intro (@ty7) (And.intro (@sd7) (And.intro (@fd7_0) (And.intro (@pl7_0) (And.intro (@fd7_1) (And.intro (@pl7_1) (And.intro (@fd7_2) (And.intro (@pl7_2) (And.intro (@fd7_3) (And.intro (@pl7_3) (And.intro (@at7) (And.intro (@ty8) (And.intro (@sd8) (And.intro (@fd8_0) (And.intro (@pl8_0) (And.intro (@fd8_1) (And.intro (@pl8_1) (And.intro (@fd8_2) (And.intro (@pl8_2) (And.intro (@fd8_3) (And.intro (@pl8_3) (And.intro (@at8) (And.intro (@ty9) (And.intro (@is9) (And.intro (@ty10) (And.intro (@is10) (And.intro (@ty11) (And.intro (@is11) (And.intro (@ty12) (And.intro (@ty13) (And.intro (@sd13) (And.intro (@fd13_0) (And.intro (@pl13_0) (And.intro (@fd13_1) (And.intro (@pl13_1) (And.intro (@at13) (And.intro (@ty14) (And.intro (@sd14) (And.intro (@fd14_0) (And.intro (@pl14_0) (And.intro (@fd14_1) (And.intro (@pl14_1) (And.intro (@at14) (And.intro (@ty15) (And.intro (@ty16) (And.intro (@ty17) (And.intro (@ty18) (And.intro (@sd18) (And.intro (@fd18_0) (And.intro (@pl18_0) (And.intro (@at18) (And.intro (@ty19) (And.intro (@sd19) (And.intro (@fd19_0) (And.intro (@pl19_0) (And.intro (@at19) (And.intro (@ty21) (And.intro (@ty22) (And.intro (@el22) (And.intro (@ty23) (And.intro (@ty24) (And.intro (@sd24) (And.intro (@fd24_0) (And.intro (@pl24_0) (And.intro (@fd24_1) (And.intro (@pl24_1) (And.intro (@at24) (And.intro (@ty25) (And.intro (@sd25) (And.intro (@fd25_0) (And.intro (@pl25_0) (And.intro (@fd25_1) (And.intro (@pl25_1) (And.intro (@at25) (And.intro (@ty26) (And.intro (@el26) (And.intro (@ty27) (And.intro (@sd27) (And.intro (@fd27_0) (And.intro (@pl27_0) (And.intro (@fd27_1) (And.intro (@pl27_1) (And.intro (@fd27_2) (And.intro (@pl27_2) (And.intro (@fd27_3) (And.intro (@pl27_3) (And.intro (@fd27_4) (And.intro (@pl27_4) (And.intro (@fd27_5) (And.intro (@pl27_5) (And.intro (@at27) (And.intro (@ty28) (And.intro (@sd28) (And.intro (@fd28_0) (And.intro (@pl28_0) (And.intro (@fd28_1) (And.intro (@pl28_1) (And.intro (@fd28_2) (And.intro (@pl28_2) (And.intro (@fd28_3) (And.intro (@pl28_3) (And.intro (@fd28_4) (And.intro (@pl28_4) (And.intro (@fd28_5) (And.intro (@pl28_5) (And.intro (@at28) (And.intro (@ty31) (And.intro (@ty33) (And.intro (@el33) (And.intro (@ty39) (And.intro (@sd39) (And.intro (@fd39_0) (And.intro (@pl39_0) (And.intro (@fd39_1) (And.intro (@pl39_1) (And.intro (@at39) (And.intro (@ty40) (And.intro (@sd40) (And.intro (@fd40_0) (And.intro (@pl40_0) (And.intro (@fd40_1) (And.intro (@pl40_1) (And.intro (@at40) (And.intro (@ty45) (And.intro (@ty52) (And.intro (@sd52) (And.intro (@fd52_0) (And.intro (@pl52_0) (And.intro (@at52) (And.intro (@ty53) (And.intro (@sd53) (And.intro (@fd53_0) (And.intro (@pl53_0) (And.intro (@at53) (And.intro (@ty56) (And.intro (@ty58) (And.intro (@ty59) (And.intro (@sd59) (And.intro (@fd59_0) (And.intro (@pl59_0) (And.intro (@fd59_1) (And.intro (@pl59_1) (And.intro (@at59) (And.intro (@ty60) (And.intro (@sd60) (And.intro (@fd60_0) (And.intro (@pl60_0) (And.intro (@fd60_1) (And.intro (@pl60_1) (And.intro (@at60) (And.intro (@ty62) (And.intro (@el62) (And.intro (@ty63) (And.intro (@ty66) (And.intro (@ty72) (And.intro (@el72) (And.intro (@ty75) (And.intro (@ty78) (And.intro (@el78) (And.intro (@ty79) (And.intro (@sd79) (And.intro (@fd79_0) (And.intro (@pl79_0) (And.intro (@fd79_1) (And.intro (@pl79_1) (And.intro (@fd79_2) (And.intro (@pl79_2) (And.intro (@fd79_3) (And.intro (@pl79_3) (And.intro (@fd79_4) (And.intro (@pl79_4) (And.intro (@at79) (And.intro (@ty80) (And.intro (@sd80) (And.intro (@fd80_0) (And.intro (@pl80_0) (And.intro (@fd80_1) (And.intro (@pl80_1) (And.intro (@fd80_2) (And.intro (@pl80_2) (And.intro (@fd80_3) (And.intro (@pl80_3) (And.intro (@fd80_4) (And.intro (@pl80_4) (And.intro (@at80) (And.intro (@ty82) (And.intro (@el82) (And.intro (@ty83) (And.intro (@sd83) (And.intro (@fd83_0) (And.intro (@pl83_0) (And.intro (@fd83_1) (And.intro (@pl83_1) (And.intro (@fd83_2) (And.intro (@pl83_2) (And.intro (@fd83_3) (And.intro (@pl83_3) (And.intro (@at83) (And.intro (@ty84) (And.intro (@sd84) (And.intro (@fd84_0) (And.intro (@pl84_0) (And.intro (@fd84_1) (And.intro (@pl84_1) (And.intro (@fd84_2) (And.intro (@pl84_2) (And.intro (@fd84_3) (And.intro (@pl84_3) (And.intro (@at84) (And.intro (@ty85) (And.intro (@sd85) (And.intro (@fd85_0) (And.intro (@pl85_0) (And.intro (@fd85_1) (And.intro (@pl85_1) (And.intro (@fd85_2) (And.intro (@pl85_2) (And.intro (@at85) (And.intro (@ty86) (And.intro (@sd86) (And.intro (@fd86_0) (And.intro (@pl86_0) (And.intro (@fd86_1) (And.intro (@pl86_1) (And.intro (@fd86_2) (And.intro (@pl86_2) (And.intro (@at86) (And.intro (@ty94) (And.intro (@ty95) (And.intro (@ty99) (And.intro (@ty109) (And.intro (@ty110) (And.intro (@ty111) (And.intro (@sd111) (And.intro (@fd111_0) (And.intro (@pl111_0) (And.intro (@fd111_1) (And.intro (@pl111_1) (And.intro (@at111) (And.intro (@ty112) (And.intro (@sd112) (And.intro (@fd112_0) (And.intro (@pl112_0) (And.intro (@fd112_1) (And.intro (@pl112_1) (And.intro (@at112) (And.intro (@ty113) (And.intro (@ty117) (And.intro (@sd117) (And.intro (@fd117_0) (And.intro (@pl117_0) (And.intro (@fd117_1) (And.intro (@pl117_1) (And.intro (@fd117_2) (And.intro (@pl117_2) (And.intro (@fd117_3) (And.intro (@pl117_3) (And.intro (@at117) (And.intro (@ty118) (And.intro (@sd118) (And.intro (@fd118_0) (And.intro (@pl118_0) (And.intro (@fd118_1) (And.intro (@pl118_1) (And.intro (@fd118_2) (And.intro (@pl118_2) (And.intro (@fd118_3) (And.intro (@pl118_3) (And.intro (@at118) (And.intro (@ty119) (And.intro (@ty120) (And.intro (@sd120) (And.intro (@fd120_0) (And.intro (@pl120_0) (And.intro (@at120) (And.intro (@ty121) (And.intro (@sd121) (And.intro (@fd121_0) (And.intro (@pl121_0) (And.intro (@at121) (And.intro (@ty122) (And.intro (@ty123) (And.intro (@ty124) (And.intro (@ty126) (And.intro (@ty127) (And.intro (@ty128) (And.intro (@ty129) (And.intro (@sd129) (And.intro (@fd129_0) (And.intro (@pl129_0) (And.intro (@fd129_1) (And.intro (@pl129_1) (And.intro (@fd129_2) (And.intro (@pl129_2) (And.intro (@fd129_3) (And.intro (@pl129_3) (And.intro (@fd129_4) (And.intro (@pl129_4) (And.intro (@fd129_5) (And.intro (@pl129_5) (And.intro (@fd129_6) (And.intro (@pl129_6) (And.intro (@fd129_8) (And.intro (@pl129_8) (And.intro (@fd129_9) (And.intro (@pl129_9) (And.intro (@fd129_10) (And.intro (@pl129_10) (And.intro (@ty130) (And.intro (@sd130) (And.intro (@fd130_0) (And.intro (@pl130_0) (And.intro (@fd130_1) (And.intro (@pl130_1) (And.intro (@fd130_2) (And.intro (@pl130_2) (And.intro (@fd130_3) (And.intro (@pl130_3) (And.intro (@fd130_4) (And.intro (@pl130_4) (And.intro (@fd130_5) (And.intro (@pl130_5) (And.intro (@fd130_6) (And.intro (@pl130_6) (And.intro (@fd130_8) (And.intro (@pl130_8) (And.intro (@fd130_9) (And.intro (@pl130_9) (And.intro (@fd130_10) (@pl130_10))))))))))))))))))))))))))))))))))))))))))))))))))))))))))))))))))))))))))))))))))))))))))))))))))))))))))))))))))))))))))))))))))))))))))))))))))))))))))))))))))))))))))))))))))))))))))))))))))))))))))))))))))))))))))))))))))))))))))))))))))))))))))))))))))))))))))))))))))))))))))))))))))))))))))))))))))))))))))))))))))))))))))))))) := And.intro (@ty2) (And.intro (@ty3) (And.intro (@ty4) (And.intro (@ty5) (And.intro (@ty6) (And.intro (@ty7) (And.intro (@sd7) (And.intro (@fd7_0) (And.intro (@pl7_0) (And.intro (@fd7_1) (And.intro (@pl7_1) (And.intro (@fd7_2) (And.intro (@pl7_2) (And.intro (@fd7_3) (And.intro (@pl7_3) (And.intro (@at7) (And.intro (@ty8) (And.intro (@sd8) (And.intro (@fd8_0) (And.intro (@pl8_0) (And.intro (@fd8_1) (And.intro (@pl8_1) (And.intro (@fd8_2) (And.intro (@pl8_2) (And.intro (@fd8_3) (And.intro (@pl8_3) (And.intro (@at8) (And.intro (@ty9) (And.intro (@is9) (And.intro (@ty10) (And.intro (@is10) (And.intro (@ty11) (And.intro (@is11) (And.intro (@ty12) (And.intro (@ty13) (And.intro (@sd13) (And.intro (@fd13_0) (And.intro (@pl13_0) (And.intro (@fd13_1) (And.intro (@pl13_1) (And.intro (@at13) (And.intro (@ty14) (And.intro (@sd14) (And.intro (@fd14_0) (And.intro (@pl14_0) (And.intro (@fd14_1) (And.intro (@pl14_1) (And.intro (@at14) (And.intro (@ty15) (And.intro (@ty16) (And.intro (@ty17) (And.intro (@ty18) (And.intro (@sd18) (And.intro (@fd18_0) (And.intro (@pl18_0) (And.intro (@at18) (And.intro (@ty19) (And.intro (@sd19) (And.intro (@fd19_0) (And.intro (@pl19_0) (And.intro (@at19) (And.intro (@ty21) (And.intro (@ty22) (And.intro (@el22) (And.intro (@ty23) (And.intro (@ty24) (And.intro (@sd24) (And.intro (@fd24_0) (And.intro (@pl24_0) (And.intro (@fd24_1) (And.intro (@pl24_1) (And.intro (@at24) (And.intro (@ty25) (And.intro (@sd25) (And.intro (@fd25_0) (And.intro (@pl25_0) (And.intro (@fd25_1) (And.intro (@pl25_1) (And.intro (@at25) (And.intro (@ty26) (And.intro (@el26) (And.intro (@ty27) (And.intro (@sd27) (And.intro (@fd27_0) (And.intro (@pl27_0) (And.intro (@fd27_1) (And.intro (@pl27_1) (And.intro (@fd27_2) (And.intro (@pl27_2) (And.intro (@fd27_3) (And.intro (@pl27_3) (And.intro (@fd27_4) (And.intro (@pl27_4) (And.intro (@fd27_5) (And.intro (@pl27_5) (And.intro (@at27) (And.intro (@ty28) (And.intro (@sd28) (And.intro (@fd28_0) (And.intro (@pl28_0) (And.intro (@fd28_1) (And.intro (@pl28_1) (And.intro (@fd28_2) (And.intro (@pl28_2) (And.intro (@fd28_3) (And.intro (@pl28_3) (And.intro (@fd28_4) (And.intro (@pl28_4) (And.intro (@fd28_5) (And.intro (@pl28_5) (And.intro (@at28) (And.intro (@ty31) (And.intro (@ty33) (And.intro (@el33) (And.intro (@ty39) (And.intro (@sd39) (And.intro (@fd39_0) (And.intro (@pl39_0) (And.intro (@fd39_1) (And.intro (@pl39_1) (And.intro (@at39) (And.intro (@ty40) (And.intro (@sd40) (And.intro (@fd40_0) (And.intro (@pl40_0) (And.intro (@fd40_1) (And.intro (@pl40_1) (And.intro (@at40) (And.intro (@ty45) (And.intro (@ty52) (And.intro (@sd52) (And.intro (@fd52_0) (And.intro (@pl52_0) (And.intro (@at52) (And.intro (@ty53) (And.intro (@sd53) (And.intro (@fd53_0) (And.intro (@pl53_0) (And.intro (@at53) (And.intro (@ty56) (And.intro (@ty58) (And.intro (@ty59) (And.intro (@sd59) (And.intro (@fd59_0) (And.intro (@pl59_0) (And.intro (@fd59_1) (And.intro (@pl59_1) (And.intro (@at59) (And.intro (@ty60) (And.intro (@sd60) (And.intro (@fd60_0) (And.intro (@pl60_0) (And.intro (@fd60_1) (And.intro (@pl60_1) (And.intro (@at60) (And.intro (@ty62) (And.intro (@el62) (And.intro (@ty63) (And.intro (@ty66) (And.intro (@ty72) (And.intro (@el72) (And.intro (@ty75) (And.intro (@ty78) (And.intro (@el78) (And.intro (@ty79) (And.intro (@sd79) (And.intro (@fd79_0) (And.intro (@pl79_0) (And.intro (@fd79_1) (And.intro (@pl79_1) (And.intro (@fd79_2) (And.intro (@pl79_2) (And.intro (@fd79_3) (And.intro (@pl79_3) (And.intro (@fd79_4) (And.intro (@pl79_4) (And.intro (@at79) (And.intro (@ty80) (And.intro (@sd80) (And.intro (@fd80_0) (And.intro (@pl80_0) (And.intro (@fd80_1) (And.intro (@pl80_1) (And.intro (@fd80_2) (And.intro (@pl80_2) (And.intro (@fd80_3) (And.intro (@pl80_3) (And.intro (@fd80_4) (And.intro (@pl80_4) (And.intro (@at80) (And.intro (@ty82) (And.intro (@el82) (And.intro (@ty83) (And.intro (@sd83) (And.intro (@fd83_0) (And.intro (@pl83_0) (And.intro (@fd83_1) (And.intro (@pl83_1) (And.intro (@fd83_2) (And.intro (@pl83_2) (And.intro (@fd83_3) (And.intro (@pl83_3) (And.intro (@at83) (And.intro (@ty84) (And.intro (@sd84) (And.intro (@fd84_0) (And.intro (@pl84_0) (And.intro (@fd84_1) (And.intro (@pl84_1) (And.intro (@fd84_2) (And.intro (@pl84_2) (And.intro (@fd84_3) (And.intro (@pl84_3) (And.intro (@at84) (And.intro (@ty85) (And.intro (@sd85) (And.intro (@fd85_0) (And.intro (@pl85_0) (And.intro (@fd85_1) (And.intro (@pl85_1) (And.intro (@fd85_2) (And.intro (@pl85_2) (And.intro (@at85) (And.intro (@ty86) (And.intro (@sd86) (And.intro (@fd86_0) (And.intro (@pl86_0) (And.intro (@fd86_1) (And.intro (@pl86_1) (And.intro (@fd86_2) (And.intro (@pl86_2) (And.intro (@at86) (And.intro (@ty94) (And.intro (@ty95) (And.intro (@ty99) (And.intro (@ty109) (And.intro (@ty110) (And.intro (@ty111) (And.intro (@sd111) (And.intro (@fd111_0) (And.intro (@pl111_0) (And.intro (@fd111_1) (And.intro (@pl111_1) (And.intro (@at111) (And.intro (@ty112) (And.intro (@sd112) (And.intro (@fd112_0) (And.intro (@pl112_0) (And.intro (@fd112_1) (And.intro (@pl112_1) (And.intro (@at112) (And.intro (@ty113) (And.intro (@ty117) (And.intro (@sd117) (And.intro (@fd117_0) (And.intro (@pl117_0) (And.intro (@fd117_1) (And.intro (@pl117_1) (And.intro (@fd117_2) (And.intro (@pl117_2) (And.intro (@fd117_3) (And.intro (@pl117_3) (And.intro (@at117) (And.intro (@ty118) (And.intro (@sd118) (And.intro (@fd118_0) (And.intro (@pl118_0) (And.intro (@fd118_1) (And.intro (@pl118_1) (And.intro (@fd118_2) (And.intro (@pl118_2) (And.intro (@fd118_3) (And.intro (@pl118_3) (And.intro (@at118) (And.intro (@ty119) (And.intro (@ty120) (And.intro (@sd120) (And.intro (@fd120_0) (And.intro (@pl120_0) (And.intro (@at120) (And.intro (@ty121) (And.intro (@sd121) (And.intro (@fd121_0) (And.intro (@pl121_0) (And.intro (@at121) (And.intro (@ty122) (And.intro (@ty123) (And.intro (@ty124) (And.intro (@ty126) (And.intro (@ty127) (And.intro (@ty128) (And.intro (@ty129) (And.intro (@sd129) (And.intro (@fd129_0) (And.intro (@pl129_0) (And.intro (@fd129_1) (And.intro (@pl129_1) (And.intro (@fd129_2) (And.intro (@pl129_2) (And.intro (@fd129_3) (And.intro (@pl129_3) (And.intro (@fd129_4) (And.intro (@pl129_4) (And.intro (@fd129_5) (And.intro (@pl129_5) (And.intro (@fd129_6) (And.intro (@pl129_6) (And.intro (@fd129_8) (And.intro (@pl129_8) (And.intro (@fd129_9) (And.intro (@pl129_9) (And.intro (@fd129_10) (And.intro (@pl129_10) (And.intro (@ty130) (And.intro (@sd130) (And.intro (@fd130_0) (And.intro (@pl130_0) (And.intro (@fd130_1) (And.intro (@pl130_1) (And.intro (@fd130_2) (And.intro (@pl130_2) (And.intro (@fd130_3) (And.intro (@pl130_3) (And.intro (@fd130_4) (And.intro (@pl130_4) (And.intro (@fd130_5) (And.intro (@pl130_5) (And.intro (@fd130_6) (And.intro (@pl130_6) (And.intro (@fd130_8) (And.intro (@pl130_8) (And.intro (@fd130_9) (And.intro (@pl130_9) (And.intro (@fd130_10) (@pl130_10))))))))))))))))))))))))))))))))))))))))))))))))))))))))))))))))))))))))))))))))))))))))))))))))))))))))))))))))))))))))))))))))))))))))))))))))))))))))))))))))))))))))))))))))))))))))))))))))))))))))))))))))))))))))))))))))))))))))))))))))))))))))))))))))))))))))))))))))))))))))))))))))))))))))))))))))))))))))))))))))))))))))))))))
theorem ruG (m : Option Tmp → Nat) {P Q X : Prop} (x : X) (q : Q) (h : MdIs m → X → Hold Q → P := by intro x1 x0 q0; (repeat (first | (with_reducible refine awp_block ?_) | (with_reducible refine vRem_nil ?_) | (with_reducible refine vRst_nil ?_) | ((with_reducible refine vRem_id ?_); refine vRem_nil ?_) | ((first | ((with_reducible refine awp_idS (b := false) ?_); refine awp_seqR3 tyok x1 fun KN hKN => ?_) | ((with_reducible refine awp_idR (b := false) ?_); refine awp_region3 tyok x1 fun KN hKN => ?_) | ((with_reducible refine vRem_id ?_); refine vRem_go fun KN hKN => ?_) | ((with_reducible refine vRst_id ?_); refine vRst_go fun KN hKN => ?_) | ((with_reducible refine vMid_id ?_); refine vMid_go ?_ fun KN hKN => ?_)) <;> (simp only [vOps, jnk_zero, jnk_jnk, getD_jnk_lt, getD_jnk_ge, set_jnk_lt, set_jnk_ge, Nat.reduceSub, Nat.reduceLT, Nat.reduceLeDiff, gStep, condG, qV, binV, vV, iV, sV, bV, nV, arV, pickE, joinA, joinOk, isOpt, vEff, binE, vBin, iBin, sBin, arith, nilOf, nBin, boolOk, convI, storeE, newE, sliceE, appE, lenE, minE, biE, bndE, cellsAt, ldOk, ld, TyD.isAgg, AV.shift, AV.isAddr, AV.cellsB, AV.noLoc, rowOf, litRow, fillA, opS, uside, unw, evL, cv, St.put, opsOf, Value.oneCell', vIdx, stepI, vRest, reL, reI, mdL, splice, bef, aft, isCallB, isCallV, ↓reduceIte, Nat.reduceAdd, reduceCtorEq, Nat.reduceEqDiff, Nat.reduceMul, lemA, lemT, x0]; (try and_intros); (all_goals first | (refine hKN _ ?_; clear hKN KN) | (first | exact True.intro | (intros; first | exact True.intro | (with_reducible assumption) | omega | (with_reducible rfl) | (with_reducible decide) | (simp_all; done) | (simp_all; omega))) | skip))) | (with_reducible refine awp_seq ?_) | (with_reducible refine awp_skip ?_) | (with_reducible refine awp_exit ?_) | (with_reducible refine thenQ_normal ?_) | (with_reducible refine inBlock_normal ?_) | (with_reducible refine thenQ_exit ?_) | (with_reducible refine inBlock_exit ?_) | (with_reducible refine inBlock_other (by decide) ?_))); (all_goals (try revert KN)); first | (exact q0.out; done) | (apply Hold.fst; exact q0; apply Hold.snd; exact q0; done) | (apply Hold.a; exact q0; apply Hold.b; exact q0; apply Hold.c; exact q0; done) | (apply Hold.a4; exact q0; apply Hold.b4; exact q0; apply Hold.c4; exact q0; apply Hold.d4; exact q0; done)) : P := h ⟨trivial⟩ x ⟨q⟩
theorem rrG (m : Option Tmp → Nat) {P Q X : Prop} (x : X) (q : Q) (h : MdIs m → X → Hold Q → P := by intro x1 x0 q0; (repeat (first | (with_reducible refine awp_block ?_) | (with_reducible refine vRem_nil ?_) | (with_reducible refine vRst_nil ?_) | ((with_reducible refine vRem_id ?_); refine vRem_nil ?_) | ((first | ((with_reducible refine awp_idS (b := false) ?_); refine awp_seqR3 tyok x1 fun KN hKN => ?_) | ((with_reducible refine awp_idR (b := false) ?_); refine awp_region3 tyok x1 fun KN hKN => ?_) | ((with_reducible refine vRem_id ?_); refine vRem_go fun KN hKN => ?_) | ((with_reducible refine vRst_id ?_); refine vRst_go fun KN hKN => ?_) | ((with_reducible refine vMid_id ?_); refine vMid_go ?_ fun KN hKN => ?_)) <;> (simp only [vOps, jnk_zero, jnk_jnk, getD_jnk_lt, getD_jnk_ge, set_jnk_lt, set_jnk_ge, Nat.reduceSub, Nat.reduceLT, Nat.reduceLeDiff, gStep, condG, qV, binV, vV, iV, sV, bV, nV, arV, pickE, joinA, joinOk, isOpt, vEff, binE, vBin, iBin, sBin, arith, nilOf, nBin, boolOk, convI, storeE, newE, sliceE, appE, lenE, minE, biE, bndE, cellsAt, ldOk, ld, TyD.isAgg, AV.shift, AV.isAddr, AV.cellsB, AV.noLoc, rowOf, litRow, fillA, opS, uside, unw, evL, cv, St.put, opsOf, Value.oneCell', vIdx, stepI, vRest, reL, reI, mdL, splice, bef, aft, isCallB, isCallV, ↓reduceIte, Nat.reduceAdd, reduceCtorEq, Nat.reduceEqDiff, Nat.reduceMul, lemA, lemT, x0]; (try and_intros); (all_goals first | (refine hKN _ ?_; clear hKN KN) | (first | exact True.intro | (intros; first | exact True.intro | (with_reducible assumption) | omega | (with_reducible rfl) | (with_reducible decide) | (simp_all; done) | (simp_all; omega))) | skip))) | (with_reducible refine awp_skip ?_) | (with_reducible refine awp_exit ?_) | (with_reducible refine thenQ_normal ?_) | (with_reducible refine inBlock_normal ?_) | (with_reducible refine thenQ_exit ?_) | (with_reducible refine inBlock_exit ?_) | (with_reducible refine inBlock_other (by decide) ?_))); (all_goals (try revert KN)); first | (exact q0.out; done) | (apply Hold.fst; exact q0; apply Hold.snd; exact q0; done) | (apply Hold.a; exact q0; apply Hold.b; exact q0; apply Hold.c; exact q0; done) | (apply Hold.a4; exact q0; apply Hold.b4; exact q0; apply Hold.c4; exact q0; apply Hold.d4; exact q0; done)) : P := h ⟨trivial⟩ x ⟨q⟩
theorem rtG {P Q X : Prop} (x : X) (q : Q) (h : X → Hold Q → P := by intro x0 q0; refine awp_ret ?_; (repeat (first | with_reducible refine thenQ_ret ?_ | with_reducible refine inBlock_ret ?_)); simp only [retQ, resV, resL, res1, Nat.zero_add, vOps, jnk_zero, jnk_jnk, getD_jnk_lt, getD_jnk_ge, set_jnk_lt, set_jnk_ge, Nat.reduceSub, Nat.reduceLT, Nat.reduceLeDiff, gStep, condG, qV, binV, vV, iV, sV, bV, nV, arV, pickE, joinA, joinOk, isOpt, vEff, binE, vBin, iBin, sBin, arith, nilOf, nBin, boolOk, convI, storeE, newE, sliceE, appE, lenE, minE, biE, bndE, cellsAt, ldOk, ld, TyD.isAgg, AV.shift, AV.isAddr, AV.cellsB, AV.noLoc, rowOf, litRow, fillA, opS, uside, unw, evL, cv, St.put, opsOf, Value.oneCell', vIdx, stepI, vRest, reL, reI, mdL, splice, bef, aft, isCallB, isCallV, ↓reduceIte, Nat.reduceAdd, reduceCtorEq, Nat.reduceEqDiff, Nat.reduceMul, lemA, lemT, x0]; exact q0.out) : P := h x ⟨q⟩
end Go.Proofs.YtoleejecmefogaaDoor
/- The numbers that a stream hands out. -/
namespace Go.Proofs.YtoleejecmefogaaDoor
open Go
set_option maxRecDepth 100000
theorem ru18SBelow {P Q X : Prop} (x : X) (q : Q) (h : X → Hold Q → P := by intro x0 q0; (repeat (first | (with_reducible refine awp_block ?_) | (with_reducible refine vRem_nil ?_) | (with_reducible refine vRst_nil ?_) | ((with_reducible refine vRem_id ?_); refine vRem_nil ?_) | ((first | ((with_reducible refine awp_idS (b := false) ?_); refine awp_seqR2 tyok (mdL []) fun KN hKN => ?_) | ((with_reducible refine awp_idR (b := false) ?_); refine awp_region2 tyok (mdL []) fun KN hKN => ?_) | ((with_reducible refine vRem_id ?_); refine vRem_go fun KN hKN => ?_) | ((with_reducible refine vRst_id ?_); refine vRst_go fun KN hKN => ?_) | ((with_reducible refine vMid_id ?_); refine vMid_go ?_ fun KN hKN => ?_) | ((with_reducible refine awp_idS (b := true) ?_); refine awp_seqD2 (id := 4) tyok (by kernel_rfl) (mdL []) (E0 := [0, 1, 2, 3, 4, 5, 6, 7, 8, 9, 10, 11]) (pl := []) 64 rfl (by kernel_rfl) fun KN hKN => ?_) | ((with_reducible refine awp_idR (b := true) ?_); refine awp_draw2 (id := 4) tyok (by kernel_rfl) (mdL []) (E0 := [0, 1, 2, 3, 4, 5, 6, 7, 8, 9, 10, 11]) (pl := []) 64 rfl (by kernel_rfl) fun KN hKN => ?_) | ((with_reducible refine awp_idS (b := true) ?_); refine awp_seqD2 (id := 5) tyok (by kernel_rfl) (mdL []) (E0 := [0, 1, 2, 3, 4, 5, 6, 7, 8, 9, 10, 11]) (pl := []) 64 rfl (by kernel_rfl) fun KN hKN => ?_) | ((with_reducible refine awp_idR (b := true) ?_); refine awp_draw2 (id := 5) tyok (by kernel_rfl) (mdL []) (E0 := [0, 1, 2, 3, 4, 5, 6, 7, 8, 9, 10, 11]) (pl := []) 64 rfl (by kernel_rfl) fun KN hKN => ?_)) <;> (simp only [vOps, jnk_zero, jnk_jnk, getD_jnk_lt, getD_jnk_ge, set_jnk_lt, set_jnk_ge, Nat.reduceSub, Nat.reduceLT, Nat.reduceLeDiff, gStep, condG, qV, binV, vV, iV, sV, bV, nV, arV, pickE, joinA, joinOk, isOpt, vEff, binE, vBin, iBin, sBin, arith, nilOf, nBin, boolOk, convI, storeE, newE, sliceE, appE, lenE, minE, biE, bndE, cellsAt, ldOk, ld, TyD.isAgg, AV.shift, AV.isAddr, AV.cellsB, AV.noLoc, rowOf, litRow, fillA, opS, uside, unw, evL, cv, St.put, opsOf, Value.oneCell', vIdx, stepI, vRest, reL, reI, mdL, splice, bef, aft, isCallB, isCallV, ↓reduceIte, Nat.reduceAdd, reduceCtorEq, Nat.reduceEqDiff, Nat.reduceMul, lemA, lemT, x0]; (try and_intros); (all_goals first | (refine hKN _ ?_; clear hKN KN) | (first | exact True.intro | (intros; first | exact True.intro | (with_reducible assumption) | omega | (with_reducible rfl) | (with_reducible decide) | (simp_all; done) | (simp_all; omega))) | skip))) | (with_reducible refine awp_seq ?_) | (with_reducible refine awp_skip ?_) | (with_reducible refine awp_exit ?_) | (with_reducible refine thenQ_normal ?_) | (with_reducible refine inBlock_normal ?_) | (with_reducible refine thenQ_exit ?_) | (with_reducible refine inBlock_exit ?_) | (with_reducible refine inBlock_other (by decide) ?_))); (all_goals (try revert KN)); first | (exact q0.out; done) | (apply Hold.fst; exact q0; apply Hold.snd; exact q0; done) | (apply Hold.a; exact q0; apply Hold.b; exact q0; apply Hold.c; exact q0; done) | (apply Hold.a4; exact q0; apply Hold.b4; exact q0; apply Hold.c4; exact q0; apply Hold.d4; exact q0; done)) : P := h x ⟨q⟩
theorem a_outside (x lo hi : Int) (h : Hp) : ACalls Tryd.prog 25 [.v (.int .i64 x), .v (.int .i64 lo), .v (.int .i64 hi)] h (fun r h' => r = .v (.bool (decide (x < lo) || decide (hi < x))) ∧ h' = h) := by
  refine acalls_of tyok Tryd.func25 rfl (by kernel_rfl) fun c => ?_; simp only [Tryd.ntmps25, List.length_cons, List.length_nil, Nat.reduceAdd, Nat.reduceSub, jnk_rep, List.cons_append, List.nil_append]
  refine ruG (mdL []) trivial ?_; (repeat' (with_reducible refine AndQ.mk ?_ ?_)); (all_goals (try ((with_reducible refine kin ?_); intro K1 hK1)))
  refine rtG Tryd.results25 ?_
  exact ⟨_, _, Weak.refl _, Hp.le.refl _, rfl, rfl⟩
def belowV (x n : Int) : Int := if n < 1 then 0 else x % n
theorem a_below (x n : Int) (h : Hp) (hx : -9223372036854775808 ≤ x ∧ x ≤ 9223372036854775807) (hn : n ≤ 9000000000000000000) : ACalls Tryd.prog 36 [.v (.int .i64 x), .v (.int .i64 n)] h (fun r h' => r = .v (.int .i64 (belowV x n)) ∧ h' = h) := by
  refine acalls_of tyok Tryd.func36 rfl (by kernel_rfl) fun c => ?_; simp only [Tryd.ntmps36, List.length_cons, List.length_nil, Nat.reduceAdd, Nat.reduceSub, jnk_rep, List.cons_append, List.nil_append]
  refine ruG (mdL []) trivial ?_; (repeat' (with_reducible refine AndQ.mk ?_ ?_)); (all_goals (try ((with_reducible refine kin ?_); intro K1 hK1)))
  refine awp_cond (t := _) rfl (fun h1 => ?_) (fun h1 => ?_)
  · refine ruG (mdL []) trivial ?_; (repeat' (with_reducible refine AndQ.mk ?_ ?_)); (all_goals (try ((with_reducible refine kin ?_); intro K1 hK1)))
    refine rtG Tryd.results36 ?_
    exact ⟨_, _, Weak.refl _, Hp.le.refl _, by simp only [belowV]; rw [if_pos (by simpa using h1)], rfl⟩
  · have h2 : 1 ≤ n := by simpa using h1
    refine ruG (mdL []) trivial ?_; (repeat' (with_reducible refine AndQ.mk ?_ ?_)); (all_goals (try ((with_reducible refine kin ?_); intro K1 hK1)))
    have e1 : x.tmod n = if 0 ≤ x ∨ n ∣ x then x % n else x % n - n := by rw [Int.tmod_eq_emod]; split <;> omega
    have m0 := Int.emod_nonneg x (show n ≠ 0 by omega)
    have m1 := Int.emod_lt_of_pos x (show 0 < n by omega)
    refine awp_cond (t := _) rfl (fun h3 => ?_) (fun h3 => ?_)
    · refine ruG (mdL []) trivial ?_; (repeat' (with_reducible refine AndQ.mk ?_ ?_)); (all_goals (try ((with_reducible refine kin ?_); intro K1 hK1)))
      refine rtG Tryd.results36 ?_
      exact ⟨_, _, Weak.refl _, Hp.le.refl _, by
        simp only [decide_eq_true_eq] at h3
        simp only [belowV]; rw [if_neg (by omega)]
        congr 3; rw [e1] at h3 ⊢; split at h3 <;> simp_all <;> omega, rfl⟩
    · refine ruG (mdL []) trivial ?_; (repeat' (with_reducible refine AndQ.mk ?_ ?_)); (all_goals (try ((with_reducible refine kin ?_); intro K1 hK1)))
      refine rtG Tryd.results36 ?_
      exact ⟨_, _, Weak.refl _, Hp.le.refl _, by
        simp only [decide_eq_false_iff_not] at h3
        simp only [belowV]; rw [if_neg (by omega)]
        congr 3; rw [e1] at h3 ⊢; split at h3 <;> simp_all <;> omega, rfl⟩
theorem belowV_bd {x n : Int} (hn : 1 ≤ n) : 0 ≤ belowV x n ∧ belowV x n < n := by
  unfold belowV; rw [if_neg (by omega)]
  exact ⟨Int.emod_nonneg x (by omega), Int.emod_lt_of_pos x (by omega)⟩
def encI (x : Int) : List AV := [.v (.int .i64 x)]
def rowI (l : List Int) : AV := .row 1 (l.map encI) none
/-- A stream of the numbers l, of which a have been handed out. -/
def strm (l : List Int) (a : Int) : AO := .cells [rowI l, .v (.int .i64 a)]
def nextV (l : List Int) (a n : Int) : Int := if l.length = 0 then belowV ((a + 1) * 7919) n else belowV (belowV (l.getD (a % l.length).toNat 0) 1073741824 + (a / l.length) * (7919 + a % l.length)) n
theorem a_next (i : Nat) (l : List Int) (a n : Int) (h : Hp) (hi : h.H i = some (strm l a)) (ha : 0 ≤ a ∧ a ≤ 1000000000) (hn : n ≤ 9000000000000000000) (hl : l.length ≤ 9223372036854775807) (hv : ∀ x ∈ l, -9223372036854775808 ≤ x ∧ x ≤ 9223372036854775807) :
    ACalls Tryd.prog 18 [.ptr i 0, .v (.int .i64 n)] h (fun r h' => r = .v (.int .i64 (nextV l a n)) ∧ h' = { h with H := upd h.H i (some (strm l (a + 1))) }) := by
  refine acalls_of tyok Tryd.func18 rfl (by kernel_rfl) fun c => ?_; simp only [Tryd.ntmps18, List.length_cons, List.length_nil, Nat.reduceAdd, Nat.reduceSub, jnk_rep, List.cons_append, List.nil_append]
  refine ru18SBelow (And.intro hi (And.intro @strm.eq_1 @rowI.eq_1)) ?_; (repeat' (with_reducible refine AndQ.mk ?_ ?_)); (all_goals (try ((with_reducible refine kin ?_); intro K1 hK1)))
  refine awp_cond (t := _) rfl (fun h1 => ?_) (fun h1 => ?_)
  · have h0 : l.length = 0 := by simpa using h1
    refine ru18SBelow trivial ?_; (repeat' (with_reducible refine AndQ.mk ?_ ?_)); (all_goals (try ((with_reducible refine kin ?_); intro K1 hK1)))
    refine (a_below ((a + 1) * 7919) n _ (by omega) hn).mono ?_; rintro _ _ ⟨rfl, rfl⟩; refine hK1 _ ?_; clear hK1 K1
    refine ru18SBelow trivial ?_; (repeat' (with_reducible refine AndQ.mk ?_ ?_)); (all_goals (try ((with_reducible refine kin ?_); intro K1 hK1)))
    refine rtG Tryd.results18 ?_
    exact ⟨_, _, Weak.refl _, Hp.le.refl _, by simp only [nextV]; rw [if_pos h0], rfl⟩
  · have h0 : l.length ≠ 0 := by simpa using h1
    have hq : a.tdiv l.length = a / l.length := Int.tdiv_eq_ediv_of_nonneg ha.1
    have hr : a.tmod l.length = a % l.length := Int.tmod_eq_emod_of_nonneg ha.1
    have q0 : 0 ≤ a / (l.length : Int) := Int.ediv_nonneg ha.1 (by omega)
    have q1 : a / (l.length : Int) ≤ a := Int.ediv_le_self _ ha.1
    have r0 := Int.emod_nonneg a (show (l.length : Int) ≠ 0 by omega)
    have r1 := Int.emod_lt_of_pos a (show (0 : Int) < l.length by omega)
    have r2 : a % (l.length : Int) ≤ a := by
      have := Int.emod_add_mul_ediv a l.length
      have := Int.mul_nonneg (show (0 : Int) ≤ l.length by omega) q0
      omega
    have hg := getD_enc encI l (a % (l.length : Int)).toNat 0 (by omega)
    have hx : -9223372036854775808 ≤ l.getD (a % (l.length : Int)).toNat 0 ∧ l.getD (a % (l.length : Int)).toNat 0 ≤ 9223372036854775807 := by
      rw [List.getD_eq_getElem?_getD, List.getElem?_eq_getElem (show (a % (l.length : Int)).toNat < l.length by omega)]
      exact hv _ (List.getElem_mem _)
    have hm0 : 0 ≤ a / (l.length : Int) * (7919 + a % l.length) := Int.mul_nonneg q0 (by omega)
    have hm1 : a / (l.length : Int) * (7919 + a % l.length) ≤ 7920 * a := by
      have e1 : a / (l.length : Int) * (7919 + a % l.length) = 7919 * (a / l.length) + a / l.length * (a % l.length) := by rw [Int.mul_add, Int.mul_comm _ 7919]
      have e2 : a / (l.length : Int) * (a % l.length) ≤ a / l.length * l.length := Int.mul_le_mul_of_nonneg_left (by omega) q0
      have e3 : a / (l.length : Int) * l.length ≤ a := Int.ediv_mul_le a (by omega)
      omega
    have hb := belowV_bd (x := l.getD (a % (l.length : Int)).toNat 0) (n := 1073741824) (by omega)
    refine ru18SBelow (And.intro hq (And.intro hr (And.intro hg @encI.eq_1))) ?_; (repeat' (with_reducible refine AndQ.mk ?_ ?_)); (all_goals (try ((with_reducible refine kin ?_); intro K1 hK1)))
    refine (a_below _ _ _ hx (by omega)).mono ?_; rintro _ _ ⟨rfl, rfl⟩; refine hK1 _ ?_; clear hK1 K1
    refine ru18SBelow trivial ?_; (repeat' (with_reducible refine AndQ.mk ?_ ?_)); (all_goals (try ((with_reducible refine kin ?_); intro K1 hK1)))
    refine (a_below _ _ _ (by omega) hn).mono ?_; rintro _ _ ⟨rfl, rfl⟩; refine hK1 _ ?_; clear hK1 K1
    refine ru18SBelow trivial ?_; (repeat' (with_reducible refine AndQ.mk ?_ ?_)); (all_goals (try ((with_reducible refine kin ?_); intro K1 hK1)))
    refine rtG Tryd.results18 ?_
    exact ⟨_, _, Weak.refl _, Hp.le.refl _, by simp only [nextV]; rw [if_neg h0], rfl⟩
end Go.Proofs.YtoleejecmefogaaDoor
/- Makers of numbers and of strings out of a stream. -/
namespace Go.Proofs.YtoleejecmefogaaDoor
open Go
set_option maxRecDepth 100000
def SOk (l : List Int) : Prop := l.length ≤ 9223372036854775807 ∧ ∀ x ∈ l, -9223372036854775808 ≤ x ∧ x ≤ 9223372036854775807
/-- The heap, the stream i at a. -/
def Hp.st (h : Hp) (i : Nat) (l : List Int) (a : Int) : Hp := { h with H := upd h.H i (some (strm l a)) }
theorem st_at (h : Hp) (i : Nat) (l : List Int) (a : Int) : (h.st i l a).H i = some (strm l a) := upd_same _ _ _
theorem st_st (h : Hp) (i : Nat) (l : List Int) (a b : Int) : (h.st i l a).st i l b = h.st i l b := by
  simp only [Hp.st]
  congr 1
  exact upd_upd _ _ _ _
theorem st_T (h : Hp) (i : Nat) (l : List Int) (a : Int) : (h.st i l a).T = h.T := rfl
theorem st_of {h : Hp} {i : Nat} {l : List Int} {a : Int} (e : h.H i = some (strm l a)) : h = h.st i l a := by
  cases h with
  | mk H T =>
    simp only [Hp.st]
    congr 1
    funext j
    by_cases hj : j = i
    · subst hj; rw [upd_same]; exact e
    · rw [upd_other _ _ hj]
theorem nextV_bd {l : List Int} {a n : Int} (hn : 1 ≤ n) : 0 ≤ nextV l a n ∧ nextV l a n < n := by
  unfold nextV; split <;> exact belowV_bd hn
theorem g_next (i : Nat) (l : List Int) (a n : Int) (h : Hp) (hl : SOk l) (ha : 0 ≤ a ∧ a ≤ 1000000000) (hn : 1 ≤ n ∧ n ≤ 9000000000000000000) :
    ACalls Tryd.prog 18 [.ptr i 0, .v (.int .i64 n)] (h.st i l a) (fun r h' => ∃ x : Int, (0 ≤ x ∧ x < n) ∧ r = .v (.int .i64 x) ∧ h' = h.st i l (a + 1)) :=
  (a_next i l a n (h.st i l a) (st_at _ _ _ _) ha hn.2 hl.1 hl.2).mono fun r h' ⟨e, e2⟩ => ⟨nextV l a n, nextV_bd hn.1, e, e2.trans (st_st _ _ _ _ _)⟩
theorem g_flip (i : Nat) (l : List Int) (a n : Int) (h : Hp) (hl : SOk l) (ha : 0 ≤ a ∧ a ≤ 1000000000) (hn : 1 ≤ n ∧ n ≤ 9000000000000000000) :
    ACalls Tryd.prog 16 [.ptr i 0, .v (.int .i64 n)] (h.st i l a) (fun r h' => ∃ b : Bool, r = .v (.bool b) ∧ h' = h.st i l (a + 1)) := by
  refine acalls_of tyok Tryd.func16 rfl (by kernel_rfl) fun c => ?_; simp only [Tryd.ntmps16, List.length_cons, List.length_nil, Nat.reduceAdd, Nat.reduceSub, jnk_rep, List.cons_append, List.nil_append]
  refine ruG (mdL []) trivial ?_; (repeat' (with_reducible refine AndQ.mk ?_ ?_)); (all_goals (try ((with_reducible refine kin ?_); intro K1 hK1)))
  refine (g_next i l a n h hl ha hn).mono ?_; rintro _ _ ⟨x, hx, rfl, rfl⟩; refine hK1 _ ?_; clear hK1 K1
  refine ruG (mdL []) trivial ?_; (repeat' (with_reducible refine AndQ.mk ?_ ?_)); (all_goals (try ((with_reducible refine kin ?_); intro K1 hK1)))
  refine rtG Tryd.results16 ?_
  exact ⟨_, _, Weak.refl _, Hp.le.refl _, _, rfl, rfl⟩
theorem g_range (i : Nat) (l : List Int) (a lo hi : Int) (h : Hp) (hl : SOk l) (ha : 0 ≤ a ∧ a ≤ 1000000000) (h1 : -4000000000000000000 ≤ lo) (h2 : lo ≤ hi) (h3 : hi ≤ 4000000000000000000) :
    ACalls Tryd.prog 35 [.ptr i 0, .v (.int .i64 lo), .v (.int .i64 hi)] (h.st i l a) (fun r h' => ∃ x : Int, (lo ≤ x ∧ x ≤ hi) ∧ r = .v (.int .i64 x) ∧ h' = h.st i l (a + 1)) := by
  refine acalls_of tyok Tryd.func35 rfl (by kernel_rfl) fun c => ?_; simp only [Tryd.ntmps35, List.length_cons, List.length_nil, Nat.reduceAdd, Nat.reduceSub, jnk_rep, List.cons_append, List.nil_append]
  refine ruG (mdL []) trivial ?_; (repeat' (with_reducible refine AndQ.mk ?_ ?_)); (all_goals (try ((with_reducible refine kin ?_); intro K1 hK1)))
  refine awp_cond (t := _) rfl (fun h4 => ?_) (fun h4 => ?_)
  · exfalso; simp only [decide_eq_true_eq] at h4; omega
  · refine ruG (mdL []) trivial ?_; (repeat' (with_reducible refine AndQ.mk ?_ ?_)); (all_goals (try ((with_reducible refine kin ?_); intro K1 hK1)))
    refine (g_next i l a (hi - lo + 1) h hl ha (by omega)).mono ?_; rintro _ _ ⟨x, hx, rfl, rfl⟩; refine hK1 _ ?_; clear hK1 K1
    refine ruG (mdL []) trivial ?_; (repeat' (with_reducible refine AndQ.mk ?_ ?_)); (all_goals (try ((with_reducible refine kin ?_); intro K1 hK1)))
    refine rtG Tryd.results35 ?_
    exact ⟨_, _, Weak.refl _, Hp.le.refl _, lo + x, by omega, rfl, rfl⟩
theorem getD_mem {l : List Int} {x : Int} (h : 0 ≤ x ∧ x < l.length) : l.getD x.toNat 0 ∈ l := by
  rw [List.getD_eq_getElem?_getD, List.getElem?_eq_getElem (show x.toNat < l.length by omega)]
  exact List.getElem_mem _
theorem g_pick (i : Nat) (l : List Int) (a : Int) (ps : List Int) (k : Option Nat) (h : Hp) (hl : SOk l) (ha : 0 ≤ a ∧ a ≤ 1000000000) (hp : 1 ≤ ps.length ∧ ps.length ≤ 100) :
    ACalls Tryd.prog 5 [.ptr i 0, .row 1 (ps.map encI) k] (h.st i l a) (fun r h' => ∃ x ∈ ps, r = .v (.int .i64 x) ∧ h' = h.st i l (a + 1)) := by
  refine acalls_of tyok Tryd.func5 rfl (by kernel_rfl) fun c => ?_; simp only [Tryd.ntmps5, List.length_cons, List.length_nil, Nat.reduceAdd, Nat.reduceSub, jnk_rep, List.cons_append, List.nil_append]
  refine ruG (mdL []) trivial ?_; (repeat' (with_reducible refine AndQ.mk ?_ ?_)); (all_goals (try ((with_reducible refine kin ?_); intro K1 hK1)))
  refine (g_next i l a ps.length h hl ha (by omega)).mono ?_; rintro _ _ ⟨x, hx, rfl, rfl⟩; refine hK1 _ ?_; clear hK1 K1
  have hg := getD_enc encI ps x.toNat 0 (by omega)
  refine ruG (mdL []) (And.intro hg @encI.eq_1) ?_; (repeat' (with_reducible refine AndQ.mk ?_ ?_)); (all_goals (try ((with_reducible refine kin ?_); intro K1 hK1)))
  refine rtG Tryd.results5 ?_
  exact ⟨_, _, Weak.refl _, Hp.le.refl _, _, getD_mem hx, rfl, rfl⟩
def encS (x : ByteArray) : List AV := [.v (.string x)]
theorem getD_memS {l : List ByteArray} {x : Int} (h : 0 ≤ x ∧ x < l.length) (d : ByteArray) : l.getD x.toNat d ∈ l := by
  rw [List.getD_eq_getElem?_getD, List.getElem?_eq_getElem (show x.toNat < l.length by omega)]
  exact List.getElem_mem _
theorem g_some (i : Nat) (l : List Int) (a : Int) (ps : List ByteArray) (k : Option Nat) (h : Hp) (hl : SOk l) (ha : 0 ≤ a ∧ a ≤ 1000000000) (hp : 1 ≤ ps.length ∧ ps.length ≤ 100) :
    ACalls Tryd.prog 20 [.ptr i 0, .row 1 (ps.map encS) k] (h.st i l a) (fun r h' => ∃ x ∈ ps, r = .v (.string x) ∧ h' = h.st i l (a + 1)) := by
  refine acalls_of tyok Tryd.func20 rfl (by kernel_rfl) fun c => ?_; simp only [Tryd.ntmps20, List.length_cons, List.length_nil, Nat.reduceAdd, Nat.reduceSub, jnk_rep, List.cons_append, List.nil_append]
  refine ruG (mdL []) trivial ?_; (repeat' (with_reducible refine AndQ.mk ?_ ?_)); (all_goals (try ((with_reducible refine kin ?_); intro K1 hK1)))
  refine (g_next i l a ps.length h hl ha (by omega)).mono ?_; rintro _ _ ⟨x, hx, rfl, rfl⟩; refine hK1 _ ?_; clear hK1 K1
  have hg := getD_enc encS ps x.toNat default (by omega)
  refine ruG (mdL []) (And.intro hg @encS.eq_1) ?_; (repeat' (with_reducible refine AndQ.mk ?_ ?_)); (all_goals (try ((with_reducible refine kin ?_); intro K1 hK1)))
  refine rtG Tryd.results20 ?_
  exact ⟨_, _, Weak.refl _, Hp.le.refl _, _, getD_memS hx _, rfl, rfl⟩
theorem g_odd (i : Nat) (l : List Int) (a lo hi : Int) (h : Hp) (hl : SOk l) (ha : 0 ≤ a ∧ a ≤ 900000000) (h1 : -4000000000000000 ≤ lo) (h2 : lo ≤ hi) (h3 : hi ≤ 4000000000000000) :
    ACalls Tryd.prog 19 [.ptr i 0, .v (.int .i64 lo), .v (.int .i64 hi)] (h.st i l a) (fun r h' => ∃ x a' : Int, (-5000000000000000 ≤ x ∧ x ≤ 5000000000000000) ∧ (a ≤ a' ∧ a' ≤ a + 2) ∧ r = .v (.int .i64 x) ∧ h' = h.st i l a') := by
  refine acalls_of tyok Tryd.func19 rfl (by kernel_rfl) fun c => ?_; simp only [Tryd.ntmps19, List.length_cons, List.length_nil, Nat.reduceAdd, Nat.reduceSub, jnk_rep, List.cons_append, List.nil_append]
  refine ruG (mdL []) trivial ?_; (repeat' (with_reducible refine AndQ.mk ?_ ?_)); (all_goals (try ((with_reducible refine kin ?_); intro K1 hK1)))
  refine (g_flip i l a 12 h hl (by omega) (by omega)).mono ?_; rintro _ _ ⟨b, rfl, rfl⟩; refine hK1 _ ?_; clear hK1 K1
  refine ruG (mdL []) trivial ?_; (repeat' (with_reducible refine AndQ.mk ?_ ?_)); (all_goals (try ((with_reducible refine kin ?_); intro K1 hK1)))
  refine awp_cond (t := _) rfl (fun h4 => ?_) (fun h4 => ?_)
  · refine ruG (mdL []) trivial ?_; (repeat' (with_reducible refine AndQ.mk ?_ ?_)); (all_goals (try ((with_reducible refine kin ?_); intro K1 hK1)))
    refine (g_pick i l (a + 1) [lo - 1, hi + 1, lo, hi, -1099511627776, 1099511627776] none h hl (by omega) (by simp)).mono ?_; rintro _ _ ⟨x, hx, rfl, rfl⟩; refine hK1 _ ?_; clear hK1 K1
    refine ruG (mdL []) trivial ?_; (repeat' (with_reducible refine AndQ.mk ?_ ?_)); (all_goals (try ((with_reducible refine kin ?_); intro K1 hK1)))
    refine rtG Tryd.results19 ?_
    exact ⟨_, _, Weak.refl _, Hp.le.refl _, x, a + 1 + 1, by simp at hx; omega, by omega, rfl, rfl⟩
  · refine ruG (mdL []) trivial ?_; (repeat' (with_reducible refine AndQ.mk ?_ ?_)); (all_goals (try ((with_reducible refine kin ?_); intro K1 hK1)))
    refine (g_range i l (a + 1) lo hi h hl (by omega) (by omega) h2 (by omega)).mono ?_; rintro _ _ ⟨x, hx, rfl, rfl⟩; refine hK1 _ ?_; clear hK1 K1
    refine ruG (mdL []) trivial ?_; (repeat' (with_reducible refine AndQ.mk ?_ ?_)); (all_goals (try ((with_reducible refine kin ?_); intro K1 hK1)))
    refine rtG Tryd.results19 ?_
    exact ⟨_, _, Weak.refl _, Hp.le.refl _, x, a + 1 + 1, by omega, by omega, rfl, rfl⟩
end Go.Proofs.YtoleejecmefogaaDoor
/- Loops as trees. -/
namespace Go.Proofs.YtoleejecmefogaaDoor
open Go
set_option maxRecDepth 100000
inductive LT where
  | mk (kind : Int) (item : ByteArray) (long many : Int) (kids : List LT) (shares : List Int)
instance : Inhabited LT := ⟨.mk 0 default 0 0 [] []⟩
def nilOr (z : Nat) : List (List AV) → AV
  | [] => .v (.slice none 0 0)
  | x :: xs => .row z (x :: xs) none
/-- A loop's cells; what is empty is nil. -/
def encX : LT → List AV
  | .mk kind item long many kids shares => [.v (.int .i64 kind), .v (.string item), .v (.int .i64 long), .v (.int .i64 many), nilOr 6 (kids.map encX), nilOr 1 (shares.map encI)]
/-- A loop's cells; what is empty may be nil. -/
def encL : LT → List AV
  | .mk kind item long many kids shares => [.v (.int .i64 kind), .v (.string item), .v (.int .i64 long), .v (.int .i64 many), .row 6 (kids.map encL) none, .row 1 (shares.map encI) none]
theorem encX_eq (kind : Int) (item : ByteArray) (long many : Int) (kids : List LT) (shares : List Int) : encX (.mk kind item long many kids shares) = [.v (.int .i64 kind), .v (.string item), .v (.int .i64 long), .v (.int .i64 many), nilOr 6 (kids.map encX), nilOr 1 (shares.map encI)] := by rw [encX]
theorem encL_eq (kind : Int) (item : ByteArray) (long many : Int) (kids : List LT) (shares : List Int) : encL (.mk kind item long many kids shares) = [.v (.int .i64 kind), .v (.string item), .v (.int .i64 long), .v (.int .i64 many), .row 6 (kids.map encL) none, .row 1 (shares.map encI) none] := by rw [encL]
theorem encX_len (t : LT) : (encX t).length = 6 := by cases t; rw [encX_eq]; rfl
theorem encL_len (t : LT) : (encL t).length = 6 := by cases t; rw [encL_eq]; rfl
def WL (cs ds : List AV) : Prop := cs.length = ds.length ∧ ∀ j, Weak (cs.getD j .junk) (ds.getD j .junk)
theorem WL.nil : WL [] [] := ⟨rfl, fun _ => Weak.refl _⟩
theorem WL.cons {a b : AV} {cs ds : List AV} (h : Weak a b) (k : WL cs ds) : WL (a :: cs) (b :: ds) := ⟨by simp [k.1], fun j => by
  cases j with
  | zero => exact h
  | succ j => exact k.2 j⟩
theorem Weak.agg {cs ds : List AV} (h : WL cs ds) : Weak (.agg cs) (.agg ds) := fun G v hr => by
  cases hr with
  | agg _ vs u hl hu hr h1 =>
    refine .agg _ vs u (by rw [hl, h.1]) (fun j hj => hu j (by rw [h.1]; exact hj)) (fun j hj => ?_) (fun j hj => h1 j (by rw [h.1]; exact hj))
    have hj' : j < cs.length := by rw [h.1]; exact hj
    have := h.2 j G _ (by rw [List.getD_eq_getElem?_getD, List.getElem?_eq_getElem hj']; exact hr j hj')
    rwa [List.getD_eq_getElem?_getD, List.getElem?_eq_getElem hj] at this
theorem le_st {h : Hp} {T2 : Nat → Option TO} (hT : ∀ k, h.T k ≠ none → T2 k = h.T k) (i : Nat) (l : List Int) (a : Int) : Hp.le (h.st i l a) (Hp.st ⟨h.H, T2⟩ i l a) :=
  ⟨fun _ => .inr rfl, fun k => by
    by_cases hk : h.T k = none
    · exact .inl hk
    · exact .inr (hT k hk).symm⟩
theorem getD_encX {l : List LT} {k : Nat} (h : k < l.length) : (l.map encX).getD k [] = encX (l.getD k default) := getD_enc encX l k default h
def NB (x : Int) : Prop := -5000000000000000 ≤ x ∧ x ≤ 5000000000000000
/-- A small loop, of depth d at most. -/
def LB : Nat → LT → Prop
  | 0, _ => False
  | d + 1, .mk kind item long many kids shares => NB kind ∧ item.size ≤ 2 ∧ NB long ∧ NB many ∧ kids.length ≤ 3 ∧ shares.length ≤ 4 ∧ (∀ x ∈ shares, NB x) ∧ ∀ k ∈ kids, LB d k
theorem LB.mono : ∀ {d e : Nat} {t : LT}, LB d t → d ≤ e → LB e t
  | 0, _, _, h, _ => h.elim
  | d + 1, 0, _, _, h => by omega
  | d + 1, e + 1, .mk .., h, hd => ⟨h.1, h.2.1, h.2.2.1, h.2.2.2.1, h.2.2.2.2.1, h.2.2.2.2.2.1, h.2.2.2.2.2.2.1, fun k hk => (h.2.2.2.2.2.2.2 k hk).mono (by omega)⟩
end Go.Proofs.YtoleejecmefogaaDoor
/- Written arrays that are done stay from then on: a change of what is told, not of memory. -/
namespace Go.Proofs.YtoleejecmefogaaDoor
open Go
theorem ACalls.gup {P : Program} {f : Nat} {args : List AV} {h : Hp} {R R2 : AV → Hp → Prop} (hc : ACalls P f args h R)
    (hr : ∀ r h' G w v, R r h' → HSim G h' w → Rep G r v → ∃ r2 h2 G', R2 r2 h2 ∧ GLe G G' ∧ Fr G h' w G' h2 w ∧ HSim G' h2 w ∧ Rep G' r2 v) : ACalls P f args h R2 := by
  refine ⟨hc.ok, fun G w vs hs hl ha => (hc.calls G w vs hs hl ha).mono ?_⟩
  rintro e w' ⟨r, h', G', v, rfl, hR, g1, f1, s1, r1⟩
  obtain ⟨r2, h2, G2, hR2, g2, f2, s2, rr⟩ := hr r h' G' w' v hR s1 r1
  exact ⟨r2, h2, G2, v, rfl, hR2, g1.trans g2, f1.trans f2, s2, rr⟩
theorem ACalls.weakArgs {P : Program} {f : Nat} {args args' : List AV} {h : Hp} {R : AV → Hp → Prop} (hc : ACalls P f args h R) (hl : args'.length = args.length)
    (hw : ∀ j (a : j < args'.length) (b : j < args.length), Weak args'[j] args[j]) : ACalls P f args' h R :=
  ⟨hc.ok, fun G w vs hs hv ha => hc.calls G w vs hs (by omega) fun j hj => hw j (by omega) hj _ _ (ha j (by omega))⟩
/-- What freezing gives: an array of S is a row from then on. -/
def Fzs (T : Nat → Option TO) (S : Nat → Prop) (G G' : Gh) : Prop :=
  ∀ k z xs x, S k → T k = some (.cont z xs) → Rep G (.arr z k xs.length) x → ∀ xs' : List (List AV), xs'.length = xs.length → (∀ y ∈ xs', y.length = z) → (∀ us, RepL G xs.flatten us → RepL G' xs'.flatten us) → Rep G' (.row z xs' none) x
theorem HSim.freeze {G : Gh} {h h2 : Hp} {w : World} (hs : HSim G h w) (S : Nat → Prop) (hH : h2.H = h.H) (h1 : ∀ k, S k → h2.T k = none) (h0 : ∀ k, ¬ S k → h2.T k = h.T k) :
    ∃ G', GLe G G' ∧ Fr G h w G' h2 w ∧ HSim G' h2 w ∧ Fzs h.T S G G' := by
  classical
  let B : Nat → Nat → Prop := fun g o => ∃ k t z xs, S k ∧ h.T k = some (.cont z xs) ∧ G.tl k = some (some t) ∧ t.g = g ∧ o < xs.length * z
  let G' : Gh := { val := fun g o => match G.val g o with | some x => some x | none => if B g o then w.cell? ⟨g, o, none⟩ else none, at_ := G.at_, tl := fun k => if S k then none else G.tl k, nx := G.nx }
  have hval : ∀ g o, ¬ B g o → G'.val g o = G.val g o := fun g o hb => by
    show (match G.val g o with | some x => some x | none => if B g o then w.cell? ⟨g, o, none⟩ else none) = _
    cases G.val g o with
    | some x => rfl
    | none => simp only [if_neg hb]
  have hvalB : ∀ g o, B g o → G.val g o = none → G'.val g o = w.cell? ⟨g, o, none⟩ := fun g o hb e => by
    show (match G.val g o with | some x => some x | none => if B g o then w.cell? ⟨g, o, none⟩ else none) = _
    rw [e]; simp only [if_pos hb]
  have htl : ∀ k, ¬ S k → G'.tl k = G.tl k := fun k hk => by show (if S k then none else G.tl k) = _; rw [if_neg hk]
  have htl1 : ∀ k, S k → G'.tl k = none := fun k hk => by show (if S k then none else G.tl k) = _; rw [if_pos hk]
  have hle : GLe G G' := ⟨fun g o x e => by
      show (match G.val g o with | some x => some x | none => if B g o then w.cell? ⟨g, o, none⟩ else none) = _
      rw [e], fun _ _ e => e, Nat.le_refl _, fun k _ => by
      by_cases hk : S k
      · rw [htl1 k hk]; exact .dead _
      · rw [htl k hk]; exact .same _⟩
  have hTn : ∀ k, h2.T k ≠ none → ¬ S k ∧ h.T k ≠ none := fun k hk => by
    have hS : ¬ S k := fun hS => hk (h1 k hS)
    exact ⟨hS, by rw [← h0 k hS]; exact hk⟩
  have hBown : ∀ g o, B g o → Own G h g := by
    rintro g o ⟨k, t, z, xs, _, hT, ht, rfl, _⟩
    exact .inr ⟨k, t, by rw [hT]; simp, ht, rfl⟩
  have hown : ∀ b, Own G' h2 b → Own G h b := by
    rintro b (⟨i, hi, e⟩ | ⟨k, t, hk, e, hg⟩)
    · exact .inl ⟨i, by rw [← hH]; exact hi, e⟩
    · obtain ⟨hS, hk'⟩ := hTn k hk
      rw [htl k hS] at e
      exact .inr ⟨k, t, hk', e, hg⟩
  refine ⟨G', hle, ⟨rfl, rfl, rfl, Nat.le_refl _, fun b _ hn => ⟨rfl, fun o => hn (hown b o), fun o => hval b o fun hb => hn (hBown b o hb)⟩⟩, ?_, ?_⟩
  · refine ⟨fun g o x e => ?_, fun i ob e => ?_, fun i j b hi hj => ?_, fun k m e => ?_, fun k l s t hk hl e e' => ?_, fun k i t hk hi e => ?_, hs.fat, fun k hk => ?_⟩
    · by_cases hb : B g o
      · cases hv : G.val g o with
        | some y =>
          rw [hle.val g o y hv] at e
          cases e
          exact hs.val _ _ _ hv
        | none => rw [hvalB g o hb hv] at e; exact e
      · rw [hval g o hb] at e; exact hs.val _ _ _ e
    · rw [hH] at e
      obtain ⟨b, o, x, y, r, q⟩ := hs.obj i ob e
      refine ⟨b, o, x, y, r.mono hle, fun o' => ?_⟩
      rw [hval b o' ?_]
      · exact q o'
      · rintro ⟨k, t, z, xs, _, hT, ht, rfl, _⟩
        exact hs.tobj k i t (by rw [hT]; simp) (by rw [e]; simp) ht x
    · rw [hH] at hi hj
      exact hs.inj i j b hi hj
    · obtain ⟨hS, hk'⟩ := hTn k (by rw [e]; simp)
      rw [h0 k hS] at e
      refine (hs.tok k m e).move hle (htl k hS) fun t ht => ⟨rfl, fun o => hval t.g o ?_⟩
      rintro ⟨k', t', z, xs, hS', hT', ht', hg, _⟩
      have := hs.tinj k k' t t' hk' (by rw [hT']; simp) ht ht' hg.symm
      subst this
      exact hS hS'
    · obtain ⟨hS, hk'⟩ := hTn k hk
      obtain ⟨hS', hl'⟩ := hTn l hl
      rw [htl k hS] at e; rw [htl l hS'] at e'
      exact hs.tinj k l s t hk' hl' e e'
    · obtain ⟨hS, hk'⟩ := hTn k hk
      rw [htl k hS] at e
      rw [hH] at hi
      exact hs.tobj k i t hk' hi e
    · by_cases hS : S k
      · exact htl1 k hS
      · rw [htl k hS]; exact hs.ftl k hk
  · intro k z xs x hS hT hr xs' hl hz hus
    cases hr with
    | arr _ _ _ a m c ha =>
    obtain ⟨hkk, ⟨a', c', e1, hcc, hgg⟩, hm⟩ := ha
    simp only [Value.slice.injEq] at e1
    obtain ⟨rfl, rfl, rfl⟩ := e1
    have hemp : ∀ o c, 0 ≤ c → xs = [] → Rep G' (.row z xs' none) (.slice (some ⟨o, 0, none⟩) xs.length c) := fun o c hc he => by
      subst he
      cases xs' with
      | nil => exact .row _ [] _ _ _ _ _ (fun _ => undef) rfl (by simp) (by simp) (fun j hj => by simp at hj) (fun j hj => by simp at hj) (fun j hj => by simp at hj) trivial
      | cons => simp at hl
    rcases hs.tok k _ hT with ⟨e2, he⟩ | ⟨t, vs, E, e2, htm, htp, hth, hts, htc, htcm, hvn, htz, hxz, hrr⟩
    · rcases hgg with ⟨rfl, hn0⟩ | ⟨g, rfl⟩
      · subst he
        rw [e2] at hm
        obtain ⟨_, ad, e3⟩ := hm
        simp only [Value.slice.injEq] at e3
        obtain ⟨_, _, rfl⟩ := e3
        cases xs' with
        | nil => exact .nil z none trivial
        | cons => simp at hl
      · exact hemp _ _ (Nat.zero_le _) he
    · rw [e2] at hm
      obtain ⟨e3, rfl⟩ := hm.2 htm.symm
      simp only [Value.slice.injEq, true_and] at e3
      obtain ⟨rfl, rfl⟩ := e3
      have hrx := hus _ hrr
      have hfl := flatten_len hxz
      have hfl' := flatten_len hz
      have hlz : xs'.length * t.z = xs.length * t.z := by rw [hl]
      have hsz : xs.flatten.length ≤ vs.toList.length := by
        have := hrr.1
        rw [List.length_take] at this
        omega
      refine .row _ _ _ _ _ _ _ (fun j => vs.toList.getD j undef) hl (by omega) hz (fun j hj => ?_) (fun j hj => ?_) (fun j hj => ?_) trivial
      · have hjv : j < vs.toList.length := by omega
        have hB : B t.g j := ⟨k, t, t.z, xs, hS, by rw [htz]; exact hT, e2, rfl, by rw [htz]; exact hj⟩
        rw [Nat.zero_add, hvalB _ _ hB (hvn j)]
        simp only [World.cell?, hth, List.getD_eq_getElem?_getD]
        rw [List.getElem?_eq_getElem hjv]
        simp
      · have hjv : j < vs.toList.length := by omega
        have h2 := (hrx.2 j hj (by rw [hrx.1]; exact hj)).1
        rw [List.getElem_take] at h2
        simpa only [List.getD_eq_getElem?_getD, List.getElem?_eq_getElem hjv, Option.getD_some] using h2
      · have hjv : j < vs.toList.length := by omega
        have h2 := (hrx.2 j (by omega) (by rw [hrx.1]; omega)).2
        rw [List.getElem_take] at h2
        simpa only [List.getD_eq_getElem?_getD, List.getElem?_eq_getElem hjv, Option.getD_some] using h2
/-- Elements that turn, each for itself. -/
theorem RepL.flat {G G' : Gh} {z : Nat} : ∀ {xs xs' : List (List AV)} (_ : xs'.length = xs.length) (_ : ∀ x ∈ xs, x.length = z) (_ : ∀ i (a : i < xs.length) (b : i < xs'.length), ∀ us, RepL G xs[i] us → RepL G' xs'[i] us) (us : List Value), RepL G xs.flatten us → RepL G' xs'.flatten us
  | [], [], _, _, _, us, h => by cases us with | nil => exact RepL.nil _ | cons => have := h.1; simp at this
  | [], _ :: _, h, _, _, _, _ => by simp at h
  | _ :: _, [], h, _, _, _, _ => by simp at h
  | x :: xs, x' :: xs', hl, hz, hh, us, h => by
    have h1 := (h.take x.length)
    have h2 := (h.drop x.length)
    simp only [List.flatten_cons, List.take_left, List.drop_left] at h1 h2
    have := (hh 0 (by simp) (by simp) _ h1).append (RepL.flat (xs := xs) (xs' := xs') (by simpa using hl) (fun y hy => hz y (by simp [hy])) (fun i a b => hh (i + 1) (by simp; omega) (by simp; omega)) _ h2)
    rw [List.take_append_drop] at this
    exact this
/-- A row whose elements turn. -/
theorem Rep.rowFlat {G G' : Gh} (hle : GLe G G') {z : Nat} {xs xs' : List (List AV)} {k : Option Nat} {x : Value} (h : Rep G (.row z xs k) x) (hl : xs'.length = xs.length) (hz : ∀ y ∈ xs', y.length = z) (hus : ∀ us, RepL G xs.flatten us → RepL G' xs'.flatten us) : Rep G' (.row z xs' none) x := by
  cases h with
  | nil => cases xs' with | nil => exact .nil z none trivial | cons => simp at hl
  | nilA _ a => cases xs' with | nil => exact .nilA z a | cons => simp at hl
  | row _ _ _ g o n c u hn hc hxz hu hr h1 ht =>
    have hfl := flatten_len hxz
    have hfl' := flatten_len hz
    have hh := hus _ (RepL.of_fun u hr fun j hj => h1 j (by rw [hfl, hn] at hj; exact hj))
    refine .row z xs' none g o n c u (hl.trans hn) hc hz (fun j hj => hle.val _ _ _ (hu j hj)) (fun j hj => ?_) h1 trivial
    have h2 := (hh.2 j hj (by rw [hh.1]; exact hj)).1
    simpa only [List.getElem_map, List.getElem_range] using h2
end Go.Proofs.YtoleejecmefogaaDoor
/- Loops of a maker's own: they may be written, until they are done. -/
namespace Go.Proofs.YtoleejecmefogaaDoor
open Go
set_option maxRecDepth 100000
/-- A value of one cell that is no object of a frame's own. -/
def OneV (r : AV) : Prop := uside r = True ∧ unw r = r ∧ r.noLoc = true ∧ isOpt r = false ∧ r.cellsB = some [r]
theorem nilOr_one (z : Nat) (xs : List (List AV)) : OneV (nilOr z xs) := by cases xs <;> exact ⟨rfl, rfl, rfl, rfl, rfl⟩
/-- Cells of a loop whose kids lie in written arrays; b: its shares may be appended to. -/
def OLd (b : Bool) (T : Nat → Option TO) (S : Nat → Prop) : Nat → List AV → Prop
  | 0, _ => False
  | d + 1, cs => ∃ (kind : Int) (item : ByteArray) (long many : Int) (K Sh : AV), cs = [.v (.int .i64 kind), .v (.string item), .v (.int .i64 long), .v (.int .i64 many), K, Sh] ∧
      (NB kind ∧ item.size ≤ 2 ∧ NB long ∧ NB many) ∧
      (K = .v (.slice none 0 0) ∨ (∃ q css, S q ∧ T q = some (.cont 6 css) ∧ K = .arr 6 q css.length ∧ 0 < css.length ∧ css.length ≤ 3 ∧ ∀ c ∈ css, OLd b T S d c) ∨ (b = false ∧ ∃ css, K = .row 6 css none ∧ css.length ≤ 3 ∧ ∀ c ∈ css, OLd b T S d c)) ∧
      (Sh = .v (.slice none 0 0) ∨ ∃ (xs : List Int) (k : Nat), Sh = .row 1 (xs.map encI) (some k) ∧ xs.length ≤ 5 ∧ (∀ x ∈ xs, NB x) ∧ (b = true → S k ∧ T k = some (.tail xs.length) ∧ xs.length ≤ 4))
theorem OLd.len {b : Bool} {T : Nat → Option TO} {S : Nat → Prop} {d : Nat} {cs : List AV} (h : OLd b T S d cs) : cs.length = 6 := by
  cases d with
  | zero => exact h.elim
  | succ d => obtain ⟨_, _, _, _, _, _, rfl, _⟩ := h; rfl
theorem OLd.keep {b : Bool} {T T' : Nat → Option TO} {S : Nat → Prop} (hT : ∀ k, S k → (∃ x, T k = some (.cont 6 x)) → T' k = T k) (hs : b = true → ∀ k n, T k = some (.tail n) → T' k = some (.tail n)) : ∀ {d : Nat} {cs : List AV}, OLd b T S d cs → OLd b T' S d cs
  | 0, _, h => h.elim
  | d + 1, cs, ⟨kind, item, long, many, K, Sh, e, h1, h2, h3⟩ => by
    refine ⟨kind, item, long, many, K, Sh, e, h1, ?_, ?_⟩
    · rcases h2 with h2 | ⟨q, css, hq, hTq, hK, hp, hl, hc⟩ | ⟨hbf, css, hK, hl, hc⟩
      · exact .inl h2
      · exact .inr (.inl ⟨q, css, hq, by rw [hT q hq ⟨css, hTq⟩]; exact hTq, hK, hp, hl, fun c hc' => (hc c hc').keep hT hs⟩)
      · exact .inr (.inr ⟨hbf, css, hK, hl, fun c hc' => (hc c hc').keep hT hs⟩)
    · rcases h3 with h3 | ⟨xs, k, h3, hl, hx, hb⟩
      · exact .inl h3
      · exact .inr ⟨xs, k, h3, hl, hx, fun hb' => ⟨(hb hb').1, hs hb' k _ (hb hb').2.1, (hb hb').2.2⟩⟩
theorem OLd.more {b : Bool} {T : Nat → Option TO} {S S' : Nat → Prop} (hS : ∀ k, S k → S' k) : ∀ {d : Nat} {cs : List AV}, OLd b T S d cs → OLd b T S' d cs
  | 0, _, h => h.elim
  | d + 1, cs, ⟨kind, item, long, many, K, Sh, e, h1, h2, h3⟩ => by
    have h3' : Sh = .v (.slice none 0 0) ∨ ∃ (xs : List Int) (k : Nat), Sh = .row 1 (xs.map encI) (some k) ∧ xs.length ≤ 5 ∧ (∀ x ∈ xs, NB x) ∧ (b = true → S' k ∧ T k = some (.tail xs.length) ∧ xs.length ≤ 4) := by
      rcases h3 with h3 | ⟨xs, k, h3, h4, h5, h6⟩
      · exact .inl h3
      · exact .inr ⟨xs, k, h3, h4, h5, fun hb => ⟨hS k (h6 hb).1, (h6 hb).2⟩⟩
    refine ⟨kind, item, long, many, K, Sh, e, h1, ?_, h3'⟩
    rcases h2 with h2 | ⟨q, css, hq, hTq, hK, hp, hl, hc⟩ | ⟨hbf, css, hK, hl, hc⟩
    · exact .inl h2
    · exact .inr (.inl ⟨q, css, hS q hq, hTq, hK, hp, hl, fun c hc' => (hc c hc').more hS⟩)
    · exact .inr (.inr ⟨hbf, css, hK, hl, fun c hc' => (hc c hc').more hS⟩)
theorem OLd.up {b : Bool} {T : Nat → Option TO} {S : Nat → Prop} : ∀ {d e : Nat} {cs : List AV}, d ≤ e → OLd b T S d cs → OLd b T S e cs
  | 0, _, _, _, h => h.elim
  | d + 1, 0, _, he, _ => by omega
  | d + 1, e + 1, cs, he, ⟨kind, item, long, many, K, Sh, e', h1, h2, h3⟩ => by
    refine ⟨kind, item, long, many, K, Sh, e', h1, ?_, h3⟩
    rcases h2 with h2 | ⟨q, css, hq, hTq, hK, hp, hl, hc⟩ | ⟨hbf, css, hK, hl, hc⟩
    · exact .inl h2
    · exact .inr (.inl ⟨q, css, hq, hTq, hK, hp, hl, fun c hc' => (hc c hc').up (by omega)⟩)
    · exact .inr (.inr ⟨hbf, css, hK, hl, fun c hc' => (hc c hc').up (by omega)⟩)
theorem OLd.weaken {T : Nat → Option TO} {S : Nat → Prop} : ∀ {d : Nat} {cs : List AV}, OLd true T S d cs → OLd false T S d cs
  | 0, _, h => h.elim
  | d + 1, cs, ⟨kind, item, long, many, K, Sh, e, h1, h2, h3⟩ => by
    refine ⟨kind, item, long, many, K, Sh, e, h1, ?_, ?_⟩
    · rcases h2 with h2 | ⟨q, css, hq, hTq, hK, hp, hl, hc⟩ | ⟨hbf, css, hK, hl, hc⟩
      · exact .inl h2
      · exact .inr (.inl ⟨q, css, hq, hTq, hK, hp, hl, fun c hc' => (hc c hc').weaken⟩)
      · cases hbf --.inr (.inr ⟨hbf, css, hK, hl, fun c hc' => (hc c hc').weaken⟩)
    · rcases h3 with h3 | ⟨xs, k, h3, hl, hx, hb⟩
      · exact .inl h3
      · exact .inr ⟨xs, k, h3, hl, hx, fun hb' => by cases hb'⟩
/-- A write to one element of an array, by which what was owned stays so. -/
theorem OLd.write {T T' : Nat → Option TO} {S : Nat → Prop} {q : Nat} {css : List (List AV)} {j : Nat} {c' : List AV} (hq : T q = some (.cont 6 css)) (hq' : T' q = some (.cont 6 (css.set j c'))) (hT : ∀ k, S k → k ≠ q → T' k = T k)
    (hc : ∀ e, OLd false T' S e (css.getD j []) → OLd false T' S e c') : ∀ {d : Nat} {cs : List AV}, OLd false T S d cs → OLd false T' S d cs
  | 0, _, h => h.elim
  | d + 1, cs, ⟨kind, item, long, many, K, Sh, e, h1, h2, h3⟩ => by
    refine ⟨kind, item, long, many, K, Sh, e, h1, ?_, ?_⟩
    · rcases h2 with h2 | ⟨p, dss, hp, hTp, hK, hpos, hl, hcs⟩ | ⟨hbf, dss, hK, hl, hcs⟩
      · exact .inl h2
      · by_cases hpq : p = q
        · subst hpq
          rw [hq] at hTp
          cases hTp
          refine .inr (.inl ⟨p, _, hp, hq', by rw [List.length_set]; exact hK, by rw [List.length_set]; exact hpos, by rw [List.length_set]; exact hl, fun c hcm => ?_⟩)
          rcases List.mem_or_eq_of_mem_set hcm with h | h
          · exact (hcs c h).write hq hq' hT hc
          · subst h
            by_cases hj : j < css.length
            · have hm : css.getD j [] ∈ css := by rw [List.getD_eq_getElem?_getD, List.getElem?_eq_getElem hj]; exact List.getElem_mem _
              exact hc _ ((hcs _ hm).write hq hq' hT hc)
            · rw [List.set_eq_of_length_le (by omega)] at hcm
              exact (hcs _ hcm).write hq hq' hT hc
        · exact .inr (.inl ⟨p, dss, hp, by rw [hT p hp hpq]; exact hTp, hK, hpos, hl, fun c hc' => (hcs c hc').write hq hq' hT hc⟩)
      · exact .inr (.inr ⟨hbf, dss, hK, hl, fun c hc' => (hcs c hc').write hq hq' hT hc⟩)
    · rcases h3 with h3 | ⟨xs, k, h3, hl, hx, hb⟩
      · exact .inl h3
      · exact .inr ⟨xs, k, h3, hl, hx, fun hb' => by cases hb'⟩
theorem RepL.of6 {G G' : Gh} {a b c d e f a' b' c' d' e' f' : AV} {us : List Value} (h : RepL G [a, b, c, d, e, f] us) (h0 : ∀ x, Rep G a x → Rep G' a' x) (h1 : ∀ x, Rep G b x → Rep G' b' x) (h2 : ∀ x, Rep G c x → Rep G' c' x) (h3 : ∀ x, Rep G d x → Rep G' d' x)
    (h4 : ∀ x, Rep G e x → Rep G' e' x) (h5 : ∀ x, Rep G f x → Rep G' f' x) : RepL G' [a', b', c', d', e', f'] us := by
  refine ⟨h.1, fun j hj hj' => ⟨?_, (h.2 j hj hj').2⟩⟩
  have h9 := (h.2 j hj hj').1
  match j, hj with
  | 0, _ => exact h0 _ h9
  | 1, _ => exact h1 _ h9
  | 2, _ => exact h2 _ h9
  | 3, _ => exact h3 _ h9
  | 4, _ => exact h4 _ h9
  | 5, _ => exact h5 _ h9
  | j + 6, hj => simp at hj; omega
/-- A small loop, as Loop gives it. -/
def LC : Nat → LT → Prop
  | 0, _ => False
  | d + 1, .mk kind item long many kids shares => NB kind ∧ item.size ≤ 2 ∧ NB long ∧ NB many ∧ kids.length ≤ 3 ∧ shares.length ≤ 5 ∧ (∀ x ∈ shares, NB x) ∧ ∀ k ∈ kids, LC d k
theorem LC.mono : ∀ {d e : Nat} {t : LT}, LC d t → d ≤ e → LC e t
  | 0, _, _, h, _ => h.elim
  | d + 1, 0, _, _, h => by omega
  | d + 1, e + 1, .mk .., h, hd => ⟨h.1, h.2.1, h.2.2.1, h.2.2.2.1, h.2.2.2.2.1, h.2.2.2.2.2.1, h.2.2.2.2.2.2.1, fun k hk => (h.2.2.2.2.2.2.2 k hk).mono (by omega)⟩
theorem LB.lc : ∀ {d : Nat} {t : LT}, LB d t → LC d t
  | 0, _, h => h.elim
  | d + 1, .mk .., h => ⟨h.1, h.2.1, h.2.2.1, h.2.2.2.1, h.2.2.2.2.1, by have := h.2.2.2.2.2.1; omega, h.2.2.2.2.2.2.1, fun k hk => (h.2.2.2.2.2.2.2 k hk).lc⟩
/-- All elements frozen: a list of trees. -/
theorem OLd.list {b : Bool} {T : Nat → Option TO} {S : Nat → Prop} {G G' : Gh} {d : Nat} (ih : ∀ cs, OLd b T S d cs → ∃ t, LC d t ∧ ∀ us, RepL G cs us → RepL G' (encL t) us) : ∀ (css : List (List AV)) (_ : ∀ c ∈ css, OLd b T S d c),
    ∃ ts : List LT, ts.length = css.length ∧ (∀ t ∈ ts, LC d t) ∧ ∀ us, RepL G css.flatten us → RepL G' (ts.map encL).flatten us
  | [], _ => ⟨[], rfl, by simp, fun us h => by cases us with | nil => exact RepL.nil _ | cons => have := h.1; simp at this⟩
  | c :: css, h => by
    obtain ⟨t, ht, hr⟩ := ih c (h c (by simp))
    obtain ⟨ts, hl, hts, hrs⟩ := OLd.list ih css fun c hc => h c (by simp [hc])
    refine ⟨t :: ts, by simp [hl], by simpa using ⟨ht, hts⟩, fun us hu => ?_⟩
    have h1 := hu.take c.length
    have h2 := hu.drop c.length
    simp only [List.flatten_cons, List.take_left, List.drop_left] at h1 h2
    have := (hr _ h1).append (hrs _ h2)
    rw [List.take_append_drop] at this
    exact this
theorem OLd.freeze {b : Bool} {T : Nat → Option TO} {S : Nat → Prop} {G G' : Gh} (hle : GLe G G') (hf : Fzs T S G G') : ∀ (d : Nat) (cs : List AV), OLd b T S d cs → ∃ t, LC d t ∧ ∀ us, RepL G cs us → RepL G' (encL t) us
  | 0, _, h => h.elim
  | d + 1, cs, ⟨kind, item, long, many, K, Sh, e, ⟨b1, b2, b3, b4⟩, h2, h3⟩ => by
    subst e
    have hK : ∃ ts : List LT, ts.length ≤ 3 ∧ (∀ t ∈ ts, LC d t) ∧ ∀ x, Rep G K x → Rep G' (.row 6 (ts.map encL) none) x := by
      have hz : ∀ ts : List LT, ∀ y ∈ ts.map encL, y.length = 6 := fun ts y hy => by
        obtain ⟨t, _, rfl⟩ := List.mem_map.1 hy
        exact encL_len t
      rcases h2 with rfl | ⟨q, css, hq, hT, rfl, _, hl, hc⟩ | ⟨_, css, rfl, hl, hc⟩
      · exact ⟨[], by simp, by simp, fun x hx => Weak.nil 6 0 0 ⟨rfl, rfl⟩ G' x (hx.mono hle)⟩
      · obtain ⟨ts, htl, htb, hts⟩ := OLd.list (OLd.freeze hle hf d) css hc
        exact ⟨ts, by omega, htb, fun x hx => hf q 6 css x hq hT hx _ (by simpa using htl) (hz ts) hts⟩
      · obtain ⟨ts, htl, htb, hts⟩ := OLd.list (OLd.freeze hle hf d) css hc
        exact ⟨ts, by omega, htb, fun x hx => hx.rowFlat hle (by simpa using htl) (hz ts) hts⟩
    have hS : ∃ xs : List Int, xs.length ≤ 5 ∧ (∀ x ∈ xs, NB x) ∧ ∀ x, Rep G Sh x → Rep G' (.row 1 (xs.map encI) none) x := by
      rcases h3 with rfl | ⟨xs, k, rfl, hl, hx, _⟩
      · exact ⟨[], by simp, by simp, fun x hx => Weak.nil 1 0 0 ⟨rfl, rfl⟩ G' x (hx.mono hle)⟩
      · exact ⟨xs, hl, hx, fun x hx => Weak.row _ _ _ G' x (hx.mono hle)⟩
    obtain ⟨ts, hl, htb, hts⟩ := hK
    obtain ⟨xs, hxl, hxb, hxs⟩ := hS
    refine ⟨.mk kind item long many ts xs, ⟨b1, b2, b3, b4, hl, hxl, hxb, htb⟩, fun us hu => ?_⟩
    rw [encL_eq]
    exact hu.of6 (fun x hx => hx.mono hle) (fun x hx => hx.mono hle) (fun x hx => hx.mono hle) (fun x hx => hx.mono hle) hts hxs
end Go.Proofs.YtoleejecmefogaaDoor
