/- The types of this program, as facts. -/
import Derived.Test.YtoleejecmefogaaDoorAvRun
import Derived.Test.YtoleejecmefogaaDoorProg
namespace Go.Proofs.YtoleejecmefogaaDoor
open Go
set_option linter.unusedVariables false
set_option linter.unusedSimpArgs false
noncomputable def ty : Nat → Option TyD := tyd Tryd.prog
theorem tyok : TyOk Tryd.prog ty := fun _ _ h => h
theorem ty2 : ty 2 = some ⟨1, 8, .int .i64, [.v (.int .i64 0)]⟩ := by kernel_rfl
theorem ty3 : ty 3 = some ⟨1, 8, .int .i64, [.v (.int .i64 0)]⟩ := by kernel_rfl
theorem ty4 : ty 4 = some ⟨1, 1, .bool, [.v (.bool false)]⟩ := by kernel_rfl
theorem ty5 : ty 5 = some ⟨1, 1, .int .u8, [.v (.int .u8 0)]⟩ := by kernel_rfl
theorem ty6 : ty 6 = some ⟨1, 1, .int .u8, [.v (.int .u8 0)]⟩ := by kernel_rfl
theorem ty7 : ty 7 = some ⟨4, 24, .struct [(0, 2), (1, 3), (2, 4), (3, 6)], [.v (.int .i64 0), .v (.int .i64 0), .v (.bool false), .v (.int .u8 0)]⟩ := by kernel_rfl
theorem sd7 : structD ty 7 = some ⟨4, 24, .struct [(0, 2), (1, 3), (2, 4), (3, 6)], [.v (.int .i64 0), .v (.int .i64 0), .v (.bool false), .v (.int .u8 0)]⟩ := by kernel_rfl
theorem fd7_0 : fdd ty 7 0 = some (0, ⟨1, 8, .int .i64, [.v (.int .i64 0)]⟩) := by kernel_rfl
theorem pl7_0 : places ty 7 0 = some (0, 1) := by kernel_rfl
theorem fd7_1 : fdd ty 7 1 = some (1, ⟨1, 8, .int .i64, [.v (.int .i64 0)]⟩) := by kernel_rfl
theorem pl7_1 : places ty 7 1 = some (1, 1) := by kernel_rfl
theorem fd7_2 : fdd ty 7 2 = some (2, ⟨1, 1, .bool, [.v (.bool false)]⟩) := by kernel_rfl
theorem pl7_2 : places ty 7 2 = some (2, 1) := by kernel_rfl
theorem fd7_3 : fdd ty 7 3 = some (3, ⟨1, 1, .int .u8, [.v (.int .u8 0)]⟩) := by kernel_rfl
theorem pl7_3 : places ty 7 3 = some (3, 1) := by kernel_rfl
theorem at7 : allTy ty ⟨4, 24, .struct [(0, 2), (1, 3), (2, 4), (3, 6)], [.v (.int .i64 0), .v (.int .i64 0), .v (.bool false), .v (.int .u8 0)]⟩ = true := by kernel_rfl
theorem ty8 : ty 8 = some ⟨4, 24, .struct [(0, 2), (1, 3), (2, 4), (3, 6)], [.v (.int .i64 0), .v (.int .i64 0), .v (.bool false), .v (.int .u8 0)]⟩ := by kernel_rfl
theorem sd8 : structD ty 8 = some ⟨4, 24, .struct [(0, 2), (1, 3), (2, 4), (3, 6)], [.v (.int .i64 0), .v (.int .i64 0), .v (.bool false), .v (.int .u8 0)]⟩ := by kernel_rfl
theorem fd8_0 : fdd ty 8 0 = some (0, ⟨1, 8, .int .i64, [.v (.int .i64 0)]⟩) := by kernel_rfl
theorem pl8_0 : places ty 8 0 = some (0, 1) := by kernel_rfl
theorem fd8_1 : fdd ty 8 1 = some (1, ⟨1, 8, .int .i64, [.v (.int .i64 0)]⟩) := by kernel_rfl
theorem pl8_1 : places ty 8 1 = some (1, 1) := by kernel_rfl
theorem fd8_2 : fdd ty 8 2 = some (2, ⟨1, 1, .bool, [.v (.bool false)]⟩) := by kernel_rfl
theorem pl8_2 : places ty 8 2 = some (2, 1) := by kernel_rfl
theorem fd8_3 : fdd ty 8 3 = some (3, ⟨1, 1, .int .u8, [.v (.int .u8 0)]⟩) := by kernel_rfl
theorem pl8_3 : places ty 8 3 = some (3, 1) := by kernel_rfl
theorem at8 : allTy ty ⟨4, 24, .struct [(0, 2), (1, 3), (2, 4), (3, 6)], [.v (.int .i64 0), .v (.int .i64 0), .v (.bool false), .v (.int .u8 0)]⟩ = true := by kernel_rfl
theorem ty9 : ty 9 = some ⟨1, 16, .str, [.v (.string ⟨#[]⟩)]⟩ := by kernel_rfl
theorem is9 : isStr ty 9 = true := by kernel_rfl
theorem ty10 : ty 10 = some ⟨1, 16, .str, [.v (.string ⟨#[]⟩)]⟩ := by kernel_rfl
theorem is10 : isStr ty 10 = true := by kernel_rfl
theorem ty11 : ty 11 = some ⟨1, 16, .str, [.v (.string ⟨#[]⟩)]⟩ := by kernel_rfl
theorem is11 : isStr ty 11 = true := by kernel_rfl
theorem ty12 : ty 12 = some ⟨1, 8, .int .u64, [.v (.int .u64 0)]⟩ := by kernel_rfl
theorem ty13 : ty 13 = some ⟨2, 24, .struct [(0, 9), (1, 12)], [.v (.string ⟨#[]⟩), .v (.int .u64 0)]⟩ := by kernel_rfl
theorem sd13 : structD ty 13 = some ⟨2, 24, .struct [(0, 9), (1, 12)], [.v (.string ⟨#[]⟩), .v (.int .u64 0)]⟩ := by kernel_rfl
theorem fd13_0 : fdd ty 13 0 = some (0, ⟨1, 16, .str, [.v (.string ⟨#[]⟩)]⟩) := by kernel_rfl
theorem pl13_0 : places ty 13 0 = some (0, 1) := by kernel_rfl
theorem fd13_1 : fdd ty 13 1 = some (1, ⟨1, 8, .int .u64, [.v (.int .u64 0)]⟩) := by kernel_rfl
theorem pl13_1 : places ty 13 1 = some (1, 1) := by kernel_rfl
theorem at13 : allTy ty ⟨2, 24, .struct [(0, 9), (1, 12)], [.v (.string ⟨#[]⟩), .v (.int .u64 0)]⟩ = true := by kernel_rfl
theorem ty14 : ty 14 = some ⟨2, 24, .struct [(0, 9), (1, 12)], [.v (.string ⟨#[]⟩), .v (.int .u64 0)]⟩ := by kernel_rfl
theorem sd14 : structD ty 14 = some ⟨2, 24, .struct [(0, 9), (1, 12)], [.v (.string ⟨#[]⟩), .v (.int .u64 0)]⟩ := by kernel_rfl
theorem fd14_0 : fdd ty 14 0 = some (0, ⟨1, 16, .str, [.v (.string ⟨#[]⟩)]⟩) := by kernel_rfl
theorem pl14_0 : places ty 14 0 = some (0, 1) := by kernel_rfl
theorem fd14_1 : fdd ty 14 1 = some (1, ⟨1, 8, .int .u64, [.v (.int .u64 0)]⟩) := by kernel_rfl
theorem pl14_1 : places ty 14 1 = some (1, 1) := by kernel_rfl
theorem at14 : allTy ty ⟨2, 24, .struct [(0, 9), (1, 12)], [.v (.string ⟨#[]⟩), .v (.int .u64 0)]⟩ = true := by kernel_rfl
theorem ty15 : ty 15 = some ⟨1, 8, .ptr 118, [.v (.pointer none)]⟩ := by kernel_rfl
theorem ty16 : ty 16 = some ⟨1, 8, .ptr 121, [.v (.pointer none)]⟩ := by kernel_rfl
theorem ty17 : ty 17 = some ⟨1, 8, .ptr 130, [.v (.pointer none)]⟩ := by kernel_rfl
theorem ty18 : ty 18 = some ⟨1, 8, .struct [(0, 17)], [.v (.pointer none)]⟩ := by kernel_rfl
theorem sd18 : structD ty 18 = some ⟨1, 8, .struct [(0, 17)], [.v (.pointer none)]⟩ := by kernel_rfl
theorem fd18_0 : fdd ty 18 0 = some (0, ⟨1, 8, .ptr 130, [.v (.pointer none)]⟩) := by kernel_rfl
theorem pl18_0 : places ty 18 0 = some (0, 1) := by kernel_rfl
theorem at18 : allTy ty ⟨1, 8, .struct [(0, 17)], [.v (.pointer none)]⟩ = true := by kernel_rfl
theorem ty19 : ty 19 = some ⟨1, 8, .struct [(0, 17)], [.v (.pointer none)]⟩ := by kernel_rfl
theorem sd19 : structD ty 19 = some ⟨1, 8, .struct [(0, 17)], [.v (.pointer none)]⟩ := by kernel_rfl
theorem fd19_0 : fdd ty 19 0 = some (0, ⟨1, 8, .ptr 130, [.v (.pointer none)]⟩) := by kernel_rfl
theorem pl19_0 : places ty 19 0 = some (0, 1) := by kernel_rfl
theorem at19 : allTy ty ⟨1, 8, .struct [(0, 17)], [.v (.pointer none)]⟩ = true := by kernel_rfl
theorem ty21 : ty 21 = some ⟨1, 4, .int .i32, [.v (.int .i32 0)]⟩ := by kernel_rfl
theorem ty22 : ty 22 = some ⟨1, 24, .slice 3, [.v (.slice none 0 0)]⟩ := by kernel_rfl
theorem el22 : elemD ty 22 = some ⟨1, 8, .int .i64, [.v (.int .i64 0)]⟩ := by kernel_rfl
theorem ty23 : ty 23 = some ⟨1, 8, .ptr 25, [.v (.pointer none)]⟩ := by kernel_rfl
theorem ty24 : ty 24 = some ⟨2, 32, .struct [(0, 22), (1, 3)], [.v (.slice none 0 0), .v (.int .i64 0)]⟩ := by kernel_rfl
theorem sd24 : structD ty 24 = some ⟨2, 32, .struct [(0, 22), (1, 3)], [.v (.slice none 0 0), .v (.int .i64 0)]⟩ := by kernel_rfl
theorem fd24_0 : fdd ty 24 0 = some (0, ⟨1, 24, .slice 3, [.v (.slice none 0 0)]⟩) := by kernel_rfl
theorem pl24_0 : places ty 24 0 = some (0, 1) := by kernel_rfl
theorem fd24_1 : fdd ty 24 1 = some (1, ⟨1, 8, .int .i64, [.v (.int .i64 0)]⟩) := by kernel_rfl
theorem pl24_1 : places ty 24 1 = some (1, 1) := by kernel_rfl
theorem at24 : allTy ty ⟨2, 32, .struct [(0, 22), (1, 3)], [.v (.slice none 0 0), .v (.int .i64 0)]⟩ = true := by kernel_rfl
theorem ty25 : ty 25 = some ⟨2, 32, .struct [(0, 22), (1, 3)], [.v (.slice none 0 0), .v (.int .i64 0)]⟩ := by kernel_rfl
theorem sd25 : structD ty 25 = some ⟨2, 32, .struct [(0, 22), (1, 3)], [.v (.slice none 0 0), .v (.int .i64 0)]⟩ := by kernel_rfl
theorem fd25_0 : fdd ty 25 0 = some (0, ⟨1, 24, .slice 3, [.v (.slice none 0 0)]⟩) := by kernel_rfl
theorem pl25_0 : places ty 25 0 = some (0, 1) := by kernel_rfl
theorem fd25_1 : fdd ty 25 1 = some (1, ⟨1, 8, .int .i64, [.v (.int .i64 0)]⟩) := by kernel_rfl
theorem pl25_1 : places ty 25 1 = some (1, 1) := by kernel_rfl
theorem at25 : allTy ty ⟨2, 32, .struct [(0, 22), (1, 3)], [.v (.slice none 0 0), .v (.int .i64 0)]⟩ = true := by kernel_rfl
theorem ty26 : ty 26 = some ⟨1, 24, .slice 28, [.v (.slice none 0 0)]⟩ := by kernel_rfl
theorem el26 : elemD ty 26 = some ⟨6, 88, .struct [(0, 3), (1, 9), (2, 3), (3, 3), (4, 26), (5, 22)], [.v (.int .i64 0), .v (.string ⟨#[]⟩), .v (.int .i64 0), .v (.int .i64 0), .v (.slice none 0 0), .v (.slice none 0 0)]⟩ := by kernel_rfl
theorem ty27 : ty 27 = some ⟨6, 88, .struct [(0, 3), (1, 9), (2, 3), (3, 3), (4, 26), (5, 22)], [.v (.int .i64 0), .v (.string ⟨#[]⟩), .v (.int .i64 0), .v (.int .i64 0), .v (.slice none 0 0), .v (.slice none 0 0)]⟩ := by kernel_rfl
theorem sd27 : structD ty 27 = some ⟨6, 88, .struct [(0, 3), (1, 9), (2, 3), (3, 3), (4, 26), (5, 22)], [.v (.int .i64 0), .v (.string ⟨#[]⟩), .v (.int .i64 0), .v (.int .i64 0), .v (.slice none 0 0), .v (.slice none 0 0)]⟩ := by kernel_rfl
theorem fd27_0 : fdd ty 27 0 = some (0, ⟨1, 8, .int .i64, [.v (.int .i64 0)]⟩) := by kernel_rfl
theorem pl27_0 : places ty 27 0 = some (0, 1) := by kernel_rfl
theorem fd27_1 : fdd ty 27 1 = some (1, ⟨1, 16, .str, [.v (.string ⟨#[]⟩)]⟩) := by kernel_rfl
theorem pl27_1 : places ty 27 1 = some (1, 1) := by kernel_rfl
theorem fd27_2 : fdd ty 27 2 = some (2, ⟨1, 8, .int .i64, [.v (.int .i64 0)]⟩) := by kernel_rfl
theorem pl27_2 : places ty 27 2 = some (2, 1) := by kernel_rfl
theorem fd27_3 : fdd ty 27 3 = some (3, ⟨1, 8, .int .i64, [.v (.int .i64 0)]⟩) := by kernel_rfl
theorem pl27_3 : places ty 27 3 = some (3, 1) := by kernel_rfl
theorem fd27_4 : fdd ty 27 4 = some (4, ⟨1, 24, .slice 28, [.v (.slice none 0 0)]⟩) := by kernel_rfl
theorem pl27_4 : places ty 27 4 = some (4, 1) := by kernel_rfl
theorem fd27_5 : fdd ty 27 5 = some (5, ⟨1, 24, .slice 3, [.v (.slice none 0 0)]⟩) := by kernel_rfl
theorem pl27_5 : places ty 27 5 = some (5, 1) := by kernel_rfl
theorem at27 : allTy ty ⟨6, 88, .struct [(0, 3), (1, 9), (2, 3), (3, 3), (4, 26), (5, 22)], [.v (.int .i64 0), .v (.string ⟨#[]⟩), .v (.int .i64 0), .v (.int .i64 0), .v (.slice none 0 0), .v (.slice none 0 0)]⟩ = true := by kernel_rfl
theorem ty28 : ty 28 = some ⟨6, 88, .struct [(0, 3), (1, 9), (2, 3), (3, 3), (4, 26), (5, 22)], [.v (.int .i64 0), .v (.string ⟨#[]⟩), .v (.int .i64 0), .v (.int .i64 0), .v (.slice none 0 0), .v (.slice none 0 0)]⟩ := by kernel_rfl
theorem sd28 : structD ty 28 = some ⟨6, 88, .struct [(0, 3), (1, 9), (2, 3), (3, 3), (4, 26), (5, 22)], [.v (.int .i64 0), .v (.string ⟨#[]⟩), .v (.int .i64 0), .v (.int .i64 0), .v (.slice none 0 0), .v (.slice none 0 0)]⟩ := by kernel_rfl
theorem fd28_0 : fdd ty 28 0 = some (0, ⟨1, 8, .int .i64, [.v (.int .i64 0)]⟩) := by kernel_rfl
theorem pl28_0 : places ty 28 0 = some (0, 1) := by kernel_rfl
theorem fd28_1 : fdd ty 28 1 = some (1, ⟨1, 16, .str, [.v (.string ⟨#[]⟩)]⟩) := by kernel_rfl
theorem pl28_1 : places ty 28 1 = some (1, 1) := by kernel_rfl
theorem fd28_2 : fdd ty 28 2 = some (2, ⟨1, 8, .int .i64, [.v (.int .i64 0)]⟩) := by kernel_rfl
theorem pl28_2 : places ty 28 2 = some (2, 1) := by kernel_rfl
theorem fd28_3 : fdd ty 28 3 = some (3, ⟨1, 8, .int .i64, [.v (.int .i64 0)]⟩) := by kernel_rfl
theorem pl28_3 : places ty 28 3 = some (3, 1) := by kernel_rfl
theorem fd28_4 : fdd ty 28 4 = some (4, ⟨1, 24, .slice 28, [.v (.slice none 0 0)]⟩) := by kernel_rfl
theorem pl28_4 : places ty 28 4 = some (4, 1) := by kernel_rfl
theorem fd28_5 : fdd ty 28 5 = some (5, ⟨1, 24, .slice 3, [.v (.slice none 0 0)]⟩) := by kernel_rfl
theorem pl28_5 : places ty 28 5 = some (5, 1) := by kernel_rfl
theorem at28 : allTy ty ⟨6, 88, .struct [(0, 3), (1, 9), (2, 3), (3, 3), (4, 26), (5, 22)], [.v (.int .i64 0), .v (.string ⟨#[]⟩), .v (.int .i64 0), .v (.int .i64 0), .v (.slice none 0 0), .v (.slice none 0 0)]⟩ = true := by kernel_rfl
theorem ty31 : ty 31 = some ⟨1, 8, .int .i64, [.v (.int .i64 0)]⟩ := by kernel_rfl
theorem ty33 : ty 33 = some ⟨1, 24, .slice 40, [.v (.slice none 0 0)]⟩ := by kernel_rfl
theorem el33 : elemD ty 33 = some ⟨2, 24, .struct [(0, 9), (1, 3)], [.v (.string ⟨#[]⟩), .v (.int .i64 0)]⟩ := by kernel_rfl
theorem ty39 : ty 39 = some ⟨2, 24, .struct [(0, 9), (1, 3)], [.v (.string ⟨#[]⟩), .v (.int .i64 0)]⟩ := by kernel_rfl
theorem sd39 : structD ty 39 = some ⟨2, 24, .struct [(0, 9), (1, 3)], [.v (.string ⟨#[]⟩), .v (.int .i64 0)]⟩ := by kernel_rfl
theorem fd39_0 : fdd ty 39 0 = some (0, ⟨1, 16, .str, [.v (.string ⟨#[]⟩)]⟩) := by kernel_rfl
theorem pl39_0 : places ty 39 0 = some (0, 1) := by kernel_rfl
theorem fd39_1 : fdd ty 39 1 = some (1, ⟨1, 8, .int .i64, [.v (.int .i64 0)]⟩) := by kernel_rfl
theorem pl39_1 : places ty 39 1 = some (1, 1) := by kernel_rfl
theorem at39 : allTy ty ⟨2, 24, .struct [(0, 9), (1, 3)], [.v (.string ⟨#[]⟩), .v (.int .i64 0)]⟩ = true := by kernel_rfl
theorem ty40 : ty 40 = some ⟨2, 24, .struct [(0, 9), (1, 3)], [.v (.string ⟨#[]⟩), .v (.int .i64 0)]⟩ := by kernel_rfl
theorem sd40 : structD ty 40 = some ⟨2, 24, .struct [(0, 9), (1, 3)], [.v (.string ⟨#[]⟩), .v (.int .i64 0)]⟩ := by kernel_rfl
theorem fd40_0 : fdd ty 40 0 = some (0, ⟨1, 16, .str, [.v (.string ⟨#[]⟩)]⟩) := by kernel_rfl
theorem pl40_0 : places ty 40 0 = some (0, 1) := by kernel_rfl
theorem fd40_1 : fdd ty 40 1 = some (1, ⟨1, 8, .int .i64, [.v (.int .i64 0)]⟩) := by kernel_rfl
theorem pl40_1 : places ty 40 1 = some (1, 1) := by kernel_rfl
theorem at40 : allTy ty ⟨2, 24, .struct [(0, 9), (1, 3)], [.v (.string ⟨#[]⟩), .v (.int .i64 0)]⟩ = true := by kernel_rfl
theorem ty45 : ty 45 = some ⟨1, 8, .ptr 28, [.v (.pointer none)]⟩ := by kernel_rfl
theorem ty52 : ty 52 = some ⟨1, 8, .struct [(0, 3)], [.v (.int .i64 0)]⟩ := by kernel_rfl
theorem sd52 : structD ty 52 = some ⟨1, 8, .struct [(0, 3)], [.v (.int .i64 0)]⟩ := by kernel_rfl
theorem fd52_0 : fdd ty 52 0 = some (0, ⟨1, 8, .int .i64, [.v (.int .i64 0)]⟩) := by kernel_rfl
theorem pl52_0 : places ty 52 0 = some (0, 1) := by kernel_rfl
theorem at52 : allTy ty ⟨1, 8, .struct [(0, 3)], [.v (.int .i64 0)]⟩ = true := by kernel_rfl
theorem ty53 : ty 53 = some ⟨1, 8, .struct [(0, 3)], [.v (.int .i64 0)]⟩ := by kernel_rfl
theorem sd53 : structD ty 53 = some ⟨1, 8, .struct [(0, 3)], [.v (.int .i64 0)]⟩ := by kernel_rfl
theorem fd53_0 : fdd ty 53 0 = some (0, ⟨1, 8, .int .i64, [.v (.int .i64 0)]⟩) := by kernel_rfl
theorem pl53_0 : places ty 53 0 = some (0, 1) := by kernel_rfl
theorem at53 : allTy ty ⟨1, 8, .struct [(0, 3)], [.v (.int .i64 0)]⟩ = true := by kernel_rfl
theorem ty56 : ty 56 = some ⟨1, 8, .ptr 80, [.v (.pointer none)]⟩ := by kernel_rfl
theorem ty58 : ty 58 = some ⟨1, 8, .ptr 60, [.v (.pointer none)]⟩ := by kernel_rfl
theorem ty59 : ty 59 = some ⟨2, 32, .struct [(0, 33), (1, 3)], [.v (.slice none 0 0), .v (.int .i64 0)]⟩ := by kernel_rfl
theorem sd59 : structD ty 59 = some ⟨2, 32, .struct [(0, 33), (1, 3)], [.v (.slice none 0 0), .v (.int .i64 0)]⟩ := by kernel_rfl
theorem fd59_0 : fdd ty 59 0 = some (0, ⟨1, 24, .slice 40, [.v (.slice none 0 0)]⟩) := by kernel_rfl
theorem pl59_0 : places ty 59 0 = some (0, 1) := by kernel_rfl
theorem fd59_1 : fdd ty 59 1 = some (1, ⟨1, 8, .int .i64, [.v (.int .i64 0)]⟩) := by kernel_rfl
theorem pl59_1 : places ty 59 1 = some (1, 1) := by kernel_rfl
theorem at59 : allTy ty ⟨2, 32, .struct [(0, 33), (1, 3)], [.v (.slice none 0 0), .v (.int .i64 0)]⟩ = true := by kernel_rfl
theorem ty60 : ty 60 = some ⟨2, 32, .struct [(0, 33), (1, 3)], [.v (.slice none 0 0), .v (.int .i64 0)]⟩ := by kernel_rfl
theorem sd60 : structD ty 60 = some ⟨2, 32, .struct [(0, 33), (1, 3)], [.v (.slice none 0 0), .v (.int .i64 0)]⟩ := by kernel_rfl
theorem fd60_0 : fdd ty 60 0 = some (0, ⟨1, 24, .slice 40, [.v (.slice none 0 0)]⟩) := by kernel_rfl
theorem pl60_0 : places ty 60 0 = some (0, 1) := by kernel_rfl
theorem fd60_1 : fdd ty 60 1 = some (1, ⟨1, 8, .int .i64, [.v (.int .i64 0)]⟩) := by kernel_rfl
theorem pl60_1 : places ty 60 1 = some (1, 1) := by kernel_rfl
theorem at60 : allTy ty ⟨2, 32, .struct [(0, 33), (1, 3)], [.v (.slice none 0 0), .v (.int .i64 0)]⟩ = true := by kernel_rfl
theorem ty62 : ty 62 = some ⟨1, 24, .slice 31, [.v (.slice none 0 0)]⟩ := by kernel_rfl
theorem el62 : elemD ty 62 = some ⟨1, 8, .int .i64, [.v (.int .i64 0)]⟩ := by kernel_rfl
theorem ty63 : ty 63 = some ⟨1, 8, .ptr 84, [.v (.pointer none)]⟩ := by kernel_rfl
theorem ty66 : ty 66 = some ⟨1, 8, .ptr 33, [.v (.pointer none)]⟩ := by kernel_rfl
theorem ty72 : ty 72 = some ⟨1, 24, .slice 9, [.v (.slice none 0 0)]⟩ := by kernel_rfl
theorem el72 : elemD ty 72 = some ⟨1, 16, .str, [.v (.string ⟨#[]⟩)]⟩ := by kernel_rfl
theorem ty75 : ty 75 = some ⟨1, 8, .ptr 53, [.v (.pointer none)]⟩ := by kernel_rfl
theorem ty78 : ty 78 = some ⟨1, 24, .slice 56, [.v (.slice none 0 0)]⟩ := by kernel_rfl
theorem el78 : elemD ty 78 = some ⟨1, 8, .ptr 80, [.v (.pointer none)]⟩ := by kernel_rfl
theorem ty79 : ty 79 = some ⟨10, 152, .struct [(0, 28), (6, 78), (7, 3), (8, 22), (9, 3)], [.v (.int .i64 0), .v (.string ⟨#[]⟩), .v (.int .i64 0), .v (.int .i64 0), .v (.slice none 0 0), .v (.slice none 0 0), .v (.slice none 0 0), .v (.int .i64 0), .v (.slice none 0 0), .v (.int .i64 0)]⟩ := by kernel_rfl
theorem sd79 : structD ty 79 = some ⟨10, 152, .struct [(0, 28), (6, 78), (7, 3), (8, 22), (9, 3)], [.v (.int .i64 0), .v (.string ⟨#[]⟩), .v (.int .i64 0), .v (.int .i64 0), .v (.slice none 0 0), .v (.slice none 0 0), .v (.slice none 0 0), .v (.int .i64 0), .v (.slice none 0 0), .v (.int .i64 0)]⟩ := by kernel_rfl
theorem fd79_0 : fdd ty 79 0 = some (0, ⟨6, 88, .struct [(0, 3), (1, 9), (2, 3), (3, 3), (4, 26), (5, 22)], [.v (.int .i64 0), .v (.string ⟨#[]⟩), .v (.int .i64 0), .v (.int .i64 0), .v (.slice none 0 0), .v (.slice none 0 0)]⟩) := by kernel_rfl
theorem pl79_0 : places ty 79 0 = some (0, 6) := by kernel_rfl
theorem fd79_1 : fdd ty 79 1 = some (6, ⟨1, 24, .slice 56, [.v (.slice none 0 0)]⟩) := by kernel_rfl
theorem pl79_1 : places ty 79 1 = some (6, 1) := by kernel_rfl
theorem fd79_2 : fdd ty 79 2 = some (7, ⟨1, 8, .int .i64, [.v (.int .i64 0)]⟩) := by kernel_rfl
theorem pl79_2 : places ty 79 2 = some (7, 1) := by kernel_rfl
theorem fd79_3 : fdd ty 79 3 = some (8, ⟨1, 24, .slice 3, [.v (.slice none 0 0)]⟩) := by kernel_rfl
theorem pl79_3 : places ty 79 3 = some (8, 1) := by kernel_rfl
theorem fd79_4 : fdd ty 79 4 = some (9, ⟨1, 8, .int .i64, [.v (.int .i64 0)]⟩) := by kernel_rfl
theorem pl79_4 : places ty 79 4 = some (9, 1) := by kernel_rfl
theorem at79 : allTy ty ⟨10, 152, .struct [(0, 28), (6, 78), (7, 3), (8, 22), (9, 3)], [.v (.int .i64 0), .v (.string ⟨#[]⟩), .v (.int .i64 0), .v (.int .i64 0), .v (.slice none 0 0), .v (.slice none 0 0), .v (.slice none 0 0), .v (.int .i64 0), .v (.slice none 0 0), .v (.int .i64 0)]⟩ = true := by kernel_rfl
theorem ty80 : ty 80 = some ⟨10, 152, .struct [(0, 28), (6, 78), (7, 3), (8, 22), (9, 3)], [.v (.int .i64 0), .v (.string ⟨#[]⟩), .v (.int .i64 0), .v (.int .i64 0), .v (.slice none 0 0), .v (.slice none 0 0), .v (.slice none 0 0), .v (.int .i64 0), .v (.slice none 0 0), .v (.int .i64 0)]⟩ := by kernel_rfl
theorem sd80 : structD ty 80 = some ⟨10, 152, .struct [(0, 28), (6, 78), (7, 3), (8, 22), (9, 3)], [.v (.int .i64 0), .v (.string ⟨#[]⟩), .v (.int .i64 0), .v (.int .i64 0), .v (.slice none 0 0), .v (.slice none 0 0), .v (.slice none 0 0), .v (.int .i64 0), .v (.slice none 0 0), .v (.int .i64 0)]⟩ := by kernel_rfl
theorem fd80_0 : fdd ty 80 0 = some (0, ⟨6, 88, .struct [(0, 3), (1, 9), (2, 3), (3, 3), (4, 26), (5, 22)], [.v (.int .i64 0), .v (.string ⟨#[]⟩), .v (.int .i64 0), .v (.int .i64 0), .v (.slice none 0 0), .v (.slice none 0 0)]⟩) := by kernel_rfl
theorem pl80_0 : places ty 80 0 = some (0, 6) := by kernel_rfl
theorem fd80_1 : fdd ty 80 1 = some (6, ⟨1, 24, .slice 56, [.v (.slice none 0 0)]⟩) := by kernel_rfl
theorem pl80_1 : places ty 80 1 = some (6, 1) := by kernel_rfl
theorem fd80_2 : fdd ty 80 2 = some (7, ⟨1, 8, .int .i64, [.v (.int .i64 0)]⟩) := by kernel_rfl
theorem pl80_2 : places ty 80 2 = some (7, 1) := by kernel_rfl
theorem fd80_3 : fdd ty 80 3 = some (8, ⟨1, 24, .slice 3, [.v (.slice none 0 0)]⟩) := by kernel_rfl
theorem pl80_3 : places ty 80 3 = some (8, 1) := by kernel_rfl
theorem fd80_4 : fdd ty 80 4 = some (9, ⟨1, 8, .int .i64, [.v (.int .i64 0)]⟩) := by kernel_rfl
theorem pl80_4 : places ty 80 4 = some (9, 1) := by kernel_rfl
theorem at80 : allTy ty ⟨10, 152, .struct [(0, 28), (6, 78), (7, 3), (8, 22), (9, 3)], [.v (.int .i64 0), .v (.string ⟨#[]⟩), .v (.int .i64 0), .v (.int .i64 0), .v (.slice none 0 0), .v (.slice none 0 0), .v (.slice none 0 0), .v (.int .i64 0), .v (.slice none 0 0), .v (.int .i64 0)]⟩ = true := by kernel_rfl
theorem ty82 : ty 82 = some ⟨1, 24, .slice 63, [.v (.slice none 0 0)]⟩ := by kernel_rfl
theorem el82 : elemD ty 82 = some ⟨1, 8, .ptr 84, [.v (.pointer none)]⟩ := by kernel_rfl
theorem ty83 : ty 83 = some ⟨9, 144, .struct [(0, 28), (6, 82), (7, 3), (8, 22)], [.v (.int .i64 0), .v (.string ⟨#[]⟩), .v (.int .i64 0), .v (.int .i64 0), .v (.slice none 0 0), .v (.slice none 0 0), .v (.slice none 0 0), .v (.int .i64 0), .v (.slice none 0 0)]⟩ := by kernel_rfl
theorem sd83 : structD ty 83 = some ⟨9, 144, .struct [(0, 28), (6, 82), (7, 3), (8, 22)], [.v (.int .i64 0), .v (.string ⟨#[]⟩), .v (.int .i64 0), .v (.int .i64 0), .v (.slice none 0 0), .v (.slice none 0 0), .v (.slice none 0 0), .v (.int .i64 0), .v (.slice none 0 0)]⟩ := by kernel_rfl
theorem fd83_0 : fdd ty 83 0 = some (0, ⟨6, 88, .struct [(0, 3), (1, 9), (2, 3), (3, 3), (4, 26), (5, 22)], [.v (.int .i64 0), .v (.string ⟨#[]⟩), .v (.int .i64 0), .v (.int .i64 0), .v (.slice none 0 0), .v (.slice none 0 0)]⟩) := by kernel_rfl
theorem pl83_0 : places ty 83 0 = some (0, 6) := by kernel_rfl
theorem fd83_1 : fdd ty 83 1 = some (6, ⟨1, 24, .slice 63, [.v (.slice none 0 0)]⟩) := by kernel_rfl
theorem pl83_1 : places ty 83 1 = some (6, 1) := by kernel_rfl
theorem fd83_2 : fdd ty 83 2 = some (7, ⟨1, 8, .int .i64, [.v (.int .i64 0)]⟩) := by kernel_rfl
theorem pl83_2 : places ty 83 2 = some (7, 1) := by kernel_rfl
theorem fd83_3 : fdd ty 83 3 = some (8, ⟨1, 24, .slice 3, [.v (.slice none 0 0)]⟩) := by kernel_rfl
theorem pl83_3 : places ty 83 3 = some (8, 1) := by kernel_rfl
theorem at83 : allTy ty ⟨9, 144, .struct [(0, 28), (6, 82), (7, 3), (8, 22)], [.v (.int .i64 0), .v (.string ⟨#[]⟩), .v (.int .i64 0), .v (.int .i64 0), .v (.slice none 0 0), .v (.slice none 0 0), .v (.slice none 0 0), .v (.int .i64 0), .v (.slice none 0 0)]⟩ = true := by kernel_rfl
theorem ty84 : ty 84 = some ⟨9, 144, .struct [(0, 28), (6, 82), (7, 3), (8, 22)], [.v (.int .i64 0), .v (.string ⟨#[]⟩), .v (.int .i64 0), .v (.int .i64 0), .v (.slice none 0 0), .v (.slice none 0 0), .v (.slice none 0 0), .v (.int .i64 0), .v (.slice none 0 0)]⟩ := by kernel_rfl
theorem sd84 : structD ty 84 = some ⟨9, 144, .struct [(0, 28), (6, 82), (7, 3), (8, 22)], [.v (.int .i64 0), .v (.string ⟨#[]⟩), .v (.int .i64 0), .v (.int .i64 0), .v (.slice none 0 0), .v (.slice none 0 0), .v (.slice none 0 0), .v (.int .i64 0), .v (.slice none 0 0)]⟩ := by kernel_rfl
theorem fd84_0 : fdd ty 84 0 = some (0, ⟨6, 88, .struct [(0, 3), (1, 9), (2, 3), (3, 3), (4, 26), (5, 22)], [.v (.int .i64 0), .v (.string ⟨#[]⟩), .v (.int .i64 0), .v (.int .i64 0), .v (.slice none 0 0), .v (.slice none 0 0)]⟩) := by kernel_rfl
theorem pl84_0 : places ty 84 0 = some (0, 6) := by kernel_rfl
theorem fd84_1 : fdd ty 84 1 = some (6, ⟨1, 24, .slice 63, [.v (.slice none 0 0)]⟩) := by kernel_rfl
theorem pl84_1 : places ty 84 1 = some (6, 1) := by kernel_rfl
theorem fd84_2 : fdd ty 84 2 = some (7, ⟨1, 8, .int .i64, [.v (.int .i64 0)]⟩) := by kernel_rfl
theorem pl84_2 : places ty 84 2 = some (7, 1) := by kernel_rfl
theorem fd84_3 : fdd ty 84 3 = some (8, ⟨1, 24, .slice 3, [.v (.slice none 0 0)]⟩) := by kernel_rfl
theorem pl84_3 : places ty 84 3 = some (8, 1) := by kernel_rfl
theorem at84 : allTy ty ⟨9, 144, .struct [(0, 28), (6, 82), (7, 3), (8, 22)], [.v (.int .i64 0), .v (.string ⟨#[]⟩), .v (.int .i64 0), .v (.int .i64 0), .v (.slice none 0 0), .v (.slice none 0 0), .v (.slice none 0 0), .v (.int .i64 0), .v (.slice none 0 0)]⟩ = true := by kernel_rfl
theorem ty85 : ty 85 = some ⟨3, 40, .struct [(0, 3), (1, 33), (2, 3)], [.v (.int .i64 0), .v (.slice none 0 0), .v (.int .i64 0)]⟩ := by kernel_rfl
theorem sd85 : structD ty 85 = some ⟨3, 40, .struct [(0, 3), (1, 33), (2, 3)], [.v (.int .i64 0), .v (.slice none 0 0), .v (.int .i64 0)]⟩ := by kernel_rfl
theorem fd85_0 : fdd ty 85 0 = some (0, ⟨1, 8, .int .i64, [.v (.int .i64 0)]⟩) := by kernel_rfl
theorem pl85_0 : places ty 85 0 = some (0, 1) := by kernel_rfl
theorem fd85_1 : fdd ty 85 1 = some (1, ⟨1, 24, .slice 40, [.v (.slice none 0 0)]⟩) := by kernel_rfl
theorem pl85_1 : places ty 85 1 = some (1, 1) := by kernel_rfl
theorem fd85_2 : fdd ty 85 2 = some (2, ⟨1, 8, .int .i64, [.v (.int .i64 0)]⟩) := by kernel_rfl
theorem pl85_2 : places ty 85 2 = some (2, 1) := by kernel_rfl
theorem at85 : allTy ty ⟨3, 40, .struct [(0, 3), (1, 33), (2, 3)], [.v (.int .i64 0), .v (.slice none 0 0), .v (.int .i64 0)]⟩ = true := by kernel_rfl
theorem ty86 : ty 86 = some ⟨3, 40, .struct [(0, 3), (1, 33), (2, 3)], [.v (.int .i64 0), .v (.slice none 0 0), .v (.int .i64 0)]⟩ := by kernel_rfl
theorem sd86 : structD ty 86 = some ⟨3, 40, .struct [(0, 3), (1, 33), (2, 3)], [.v (.int .i64 0), .v (.slice none 0 0), .v (.int .i64 0)]⟩ := by kernel_rfl
theorem fd86_0 : fdd ty 86 0 = some (0, ⟨1, 8, .int .i64, [.v (.int .i64 0)]⟩) := by kernel_rfl
theorem pl86_0 : places ty 86 0 = some (0, 1) := by kernel_rfl
theorem fd86_1 : fdd ty 86 1 = some (1, ⟨1, 24, .slice 40, [.v (.slice none 0 0)]⟩) := by kernel_rfl
theorem pl86_1 : places ty 86 1 = some (1, 1) := by kernel_rfl
theorem fd86_2 : fdd ty 86 2 = some (2, ⟨1, 8, .int .i64, [.v (.int .i64 0)]⟩) := by kernel_rfl
theorem pl86_2 : places ty 86 2 = some (2, 1) := by kernel_rfl
theorem at86 : allTy ty ⟨3, 40, .struct [(0, 3), (1, 33), (2, 3)], [.v (.int .i64 0), .v (.slice none 0 0), .v (.int .i64 0)]⟩ = true := by kernel_rfl
theorem ty94 : ty 94 = some ⟨256, 256, .array 256 4, [.v (.bool false), .v (.bool false), .v (.bool false), .v (.bool false), .v (.bool false), .v (.bool false), .v (.bool false), .v (.bool false), .v (.bool false), .v (.bool false), .v (.bool false), .v (.bool false), .v (.bool false), .v (.bool false), .v (.bool false), .v (.bool false), .v (.bool false), .v (.bool false), .v (.bool false), .v (.bool false), .v (.bool false), .v (.bool false), .v (.bool false), .v (.bool false), .v (.bool false), .v (.bool false), .v (.bool false), .v (.bool false), .v (.bool false), .v (.bool false), .v (.bool false), .v (.bool false), .v (.bool false), .v (.bool false), .v (.bool false), .v (.bool false), .v (.bool false), .v (.bool false), .v (.bool false), .v (.bool false), .v (.bool false), .v (.bool false), .v (.bool false), .v (.bool false), .v (.bool false), .v (.bool false), .v (.bool false), .v (.bool false), .v (.bool false), .v (.bool false), .v (.bool false), .v (.bool false), .v (.bool false), .v (.bool false), .v (.bool false), .v (.bool false), .v (.bool false), .v (.bool false), .v (.bool false), .v (.bool false), .v (.bool false), .v (.bool false), .v (.bool false), .v (.bool false), .v (.bool false), .v (.bool false), .v (.bool false), .v (.bool false), .v (.bool false), .v (.bool false), .v (.bool false), .v (.bool false), .v (.bool false), .v (.bool false), .v (.bool false), .v (.bool false), .v (.bool false), .v (.bool false), .v (.bool false), .v (.bool false), .v (.bool false), .v (.bool false), .v (.bool false), .v (.bool false), .v (.bool false), .v (.bool false), .v (.bool false), .v (.bool false), .v (.bool false), .v (.bool false), .v (.bool false), .v (.bool false), .v (.bool false), .v (.bool false), .v (.bool false), .v (.bool false), .v (.bool false), .v (.bool false), .v (.bool false), .v (.bool false), .v (.bool false), .v (.bool false), .v (.bool false), .v (.bool false), .v (.bool false), .v (.bool false), .v (.bool false), .v (.bool false), .v (.bool false), .v (.bool false), .v (.bool false), .v (.bool false), .v (.bool false), .v (.bool false), .v (.bool false), .v (.bool false), .v (.bool false), .v (.bool false), .v (.bool false), .v (.bool false), .v (.bool false), .v (.bool false), .v (.bool false), .v (.bool false), .v (.bool false), .v (.bool false), .v (.bool false), .v (.bool false), .v (.bool false), .v (.bool false), .v (.bool false), .v (.bool false), .v (.bool false), .v (.bool false), .v (.bool false), .v (.bool false), .v (.bool false), .v (.bool false), .v (.bool false), .v (.bool false), .v (.bool false), .v (.bool false), .v (.bool false), .v (.bool false), .v (.bool false), .v (.bool false), .v (.bool false), .v (.bool false), .v (.bool false), .v (.bool false), .v (.bool false), .v (.bool false), .v (.bool false), .v (.bool false), .v (.bool false), .v (.bool false), .v (.bool false), .v (.bool false), .v (.bool false), .v (.bool false), .v (.bool false), .v (.bool false), .v (.bool false), .v (.bool false), .v (.bool false), .v (.bool false), .v (.bool false), .v (.bool false), .v (.bool false), .v (.bool false), .v (.bool false), .v (.bool false), .v (.bool false), .v (.bool false), .v (.bool false), .v (.bool false), .v (.bool false), .v (.bool false), .v (.bool false), .v (.bool false), .v (.bool false), .v (.bool false), .v (.bool false), .v (.bool false), .v (.bool false), .v (.bool false), .v (.bool false), .v (.bool false), .v (.bool false), .v (.bool false), .v (.bool false), .v (.bool false), .v (.bool false), .v (.bool false), .v (.bool false), .v (.bool false), .v (.bool false), .v (.bool false), .v (.bool false), .v (.bool false), .v (.bool false), .v (.bool false), .v (.bool false), .v (.bool false), .v (.bool false), .v (.bool false), .v (.bool false), .v (.bool false), .v (.bool false), .v (.bool false), .v (.bool false), .v (.bool false), .v (.bool false), .v (.bool false), .v (.bool false), .v (.bool false), .v (.bool false), .v (.bool false), .v (.bool false), .v (.bool false), .v (.bool false), .v (.bool false), .v (.bool false), .v (.bool false), .v (.bool false), .v (.bool false), .v (.bool false), .v (.bool false), .v (.bool false), .v (.bool false), .v (.bool false), .v (.bool false), .v (.bool false), .v (.bool false), .v (.bool false), .v (.bool false), .v (.bool false), .v (.bool false), .v (.bool false), .v (.bool false), .v (.bool false), .v (.bool false), .v (.bool false), .v (.bool false), .v (.bool false), .v (.bool false), .v (.bool false), .v (.bool false), .v (.bool false), .v (.bool false), .v (.bool false), .v (.bool false), .v (.bool false), .v (.bool false), .v (.bool false), .v (.bool false)]⟩ := by kernel_rfl
theorem ty95 : ty 95 = some ⟨256, 256, .array 256 4, [.v (.bool false), .v (.bool false), .v (.bool false), .v (.bool false), .v (.bool false), .v (.bool false), .v (.bool false), .v (.bool false), .v (.bool false), .v (.bool false), .v (.bool false), .v (.bool false), .v (.bool false), .v (.bool false), .v (.bool false), .v (.bool false), .v (.bool false), .v (.bool false), .v (.bool false), .v (.bool false), .v (.bool false), .v (.bool false), .v (.bool false), .v (.bool false), .v (.bool false), .v (.bool false), .v (.bool false), .v (.bool false), .v (.bool false), .v (.bool false), .v (.bool false), .v (.bool false), .v (.bool false), .v (.bool false), .v (.bool false), .v (.bool false), .v (.bool false), .v (.bool false), .v (.bool false), .v (.bool false), .v (.bool false), .v (.bool false), .v (.bool false), .v (.bool false), .v (.bool false), .v (.bool false), .v (.bool false), .v (.bool false), .v (.bool false), .v (.bool false), .v (.bool false), .v (.bool false), .v (.bool false), .v (.bool false), .v (.bool false), .v (.bool false), .v (.bool false), .v (.bool false), .v (.bool false), .v (.bool false), .v (.bool false), .v (.bool false), .v (.bool false), .v (.bool false), .v (.bool false), .v (.bool false), .v (.bool false), .v (.bool false), .v (.bool false), .v (.bool false), .v (.bool false), .v (.bool false), .v (.bool false), .v (.bool false), .v (.bool false), .v (.bool false), .v (.bool false), .v (.bool false), .v (.bool false), .v (.bool false), .v (.bool false), .v (.bool false), .v (.bool false), .v (.bool false), .v (.bool false), .v (.bool false), .v (.bool false), .v (.bool false), .v (.bool false), .v (.bool false), .v (.bool false), .v (.bool false), .v (.bool false), .v (.bool false), .v (.bool false), .v (.bool false), .v (.bool false), .v (.bool false), .v (.bool false), .v (.bool false), .v (.bool false), .v (.bool false), .v (.bool false), .v (.bool false), .v (.bool false), .v (.bool false), .v (.bool false), .v (.bool false), .v (.bool false), .v (.bool false), .v (.bool false), .v (.bool false), .v (.bool false), .v (.bool false), .v (.bool false), .v (.bool false), .v (.bool false), .v (.bool false), .v (.bool false), .v (.bool false), .v (.bool false), .v (.bool false), .v (.bool false), .v (.bool false), .v (.bool false), .v (.bool false), .v (.bool false), .v (.bool false), .v (.bool false), .v (.bool false), .v (.bool false), .v (.bool false), .v (.bool false), .v (.bool false), .v (.bool false), .v (.bool false), .v (.bool false), .v (.bool false), .v (.bool false), .v (.bool false), .v (.bool false), .v (.bool false), .v (.bool false), .v (.bool false), .v (.bool false), .v (.bool false), .v (.bool false), .v (.bool false), .v (.bool false), .v (.bool false), .v (.bool false), .v (.bool false), .v (.bool false), .v (.bool false), .v (.bool false), .v (.bool false), .v (.bool false), .v (.bool false), .v (.bool false), .v (.bool false), .v (.bool false), .v (.bool false), .v (.bool false), .v (.bool false), .v (.bool false), .v (.bool false), .v (.bool false), .v (.bool false), .v (.bool false), .v (.bool false), .v (.bool false), .v (.bool false), .v (.bool false), .v (.bool false), .v (.bool false), .v (.bool false), .v (.bool false), .v (.bool false), .v (.bool false), .v (.bool false), .v (.bool false), .v (.bool false), .v (.bool false), .v (.bool false), .v (.bool false), .v (.bool false), .v (.bool false), .v (.bool false), .v (.bool false), .v (.bool false), .v (.bool false), .v (.bool false), .v (.bool false), .v (.bool false), .v (.bool false), .v (.bool false), .v (.bool false), .v (.bool false), .v (.bool false), .v (.bool false), .v (.bool false), .v (.bool false), .v (.bool false), .v (.bool false), .v (.bool false), .v (.bool false), .v (.bool false), .v (.bool false), .v (.bool false), .v (.bool false), .v (.bool false), .v (.bool false), .v (.bool false), .v (.bool false), .v (.bool false), .v (.bool false), .v (.bool false), .v (.bool false), .v (.bool false), .v (.bool false), .v (.bool false), .v (.bool false), .v (.bool false), .v (.bool false), .v (.bool false), .v (.bool false), .v (.bool false), .v (.bool false), .v (.bool false), .v (.bool false), .v (.bool false), .v (.bool false), .v (.bool false), .v (.bool false), .v (.bool false), .v (.bool false), .v (.bool false), .v (.bool false), .v (.bool false), .v (.bool false), .v (.bool false), .v (.bool false), .v (.bool false), .v (.bool false), .v (.bool false), .v (.bool false), .v (.bool false), .v (.bool false), .v (.bool false), .v (.bool false), .v (.bool false), .v (.bool false), .v (.bool false), .v (.bool false), .v (.bool false), .v (.bool false)]⟩ := by kernel_rfl
theorem ty99 : ty 99 = some ⟨1, 8, .ptr 95, [.v (.pointer none)]⟩ := by kernel_rfl
theorem ty109 : ty 109 = some ⟨256, 256, .array 256 5, [.v (.int .u8 0), .v (.int .u8 0), .v (.int .u8 0), .v (.int .u8 0), .v (.int .u8 0), .v (.int .u8 0), .v (.int .u8 0), .v (.int .u8 0), .v (.int .u8 0), .v (.int .u8 0), .v (.int .u8 0), .v (.int .u8 0), .v (.int .u8 0), .v (.int .u8 0), .v (.int .u8 0), .v (.int .u8 0), .v (.int .u8 0), .v (.int .u8 0), .v (.int .u8 0), .v (.int .u8 0), .v (.int .u8 0), .v (.int .u8 0), .v (.int .u8 0), .v (.int .u8 0), .v (.int .u8 0), .v (.int .u8 0), .v (.int .u8 0), .v (.int .u8 0), .v (.int .u8 0), .v (.int .u8 0), .v (.int .u8 0), .v (.int .u8 0), .v (.int .u8 0), .v (.int .u8 0), .v (.int .u8 0), .v (.int .u8 0), .v (.int .u8 0), .v (.int .u8 0), .v (.int .u8 0), .v (.int .u8 0), .v (.int .u8 0), .v (.int .u8 0), .v (.int .u8 0), .v (.int .u8 0), .v (.int .u8 0), .v (.int .u8 0), .v (.int .u8 0), .v (.int .u8 0), .v (.int .u8 0), .v (.int .u8 0), .v (.int .u8 0), .v (.int .u8 0), .v (.int .u8 0), .v (.int .u8 0), .v (.int .u8 0), .v (.int .u8 0), .v (.int .u8 0), .v (.int .u8 0), .v (.int .u8 0), .v (.int .u8 0), .v (.int .u8 0), .v (.int .u8 0), .v (.int .u8 0), .v (.int .u8 0), .v (.int .u8 0), .v (.int .u8 0), .v (.int .u8 0), .v (.int .u8 0), .v (.int .u8 0), .v (.int .u8 0), .v (.int .u8 0), .v (.int .u8 0), .v (.int .u8 0), .v (.int .u8 0), .v (.int .u8 0), .v (.int .u8 0), .v (.int .u8 0), .v (.int .u8 0), .v (.int .u8 0), .v (.int .u8 0), .v (.int .u8 0), .v (.int .u8 0), .v (.int .u8 0), .v (.int .u8 0), .v (.int .u8 0), .v (.int .u8 0), .v (.int .u8 0), .v (.int .u8 0), .v (.int .u8 0), .v (.int .u8 0), .v (.int .u8 0), .v (.int .u8 0), .v (.int .u8 0), .v (.int .u8 0), .v (.int .u8 0), .v (.int .u8 0), .v (.int .u8 0), .v (.int .u8 0), .v (.int .u8 0), .v (.int .u8 0), .v (.int .u8 0), .v (.int .u8 0), .v (.int .u8 0), .v (.int .u8 0), .v (.int .u8 0), .v (.int .u8 0), .v (.int .u8 0), .v (.int .u8 0), .v (.int .u8 0), .v (.int .u8 0), .v (.int .u8 0), .v (.int .u8 0), .v (.int .u8 0), .v (.int .u8 0), .v (.int .u8 0), .v (.int .u8 0), .v (.int .u8 0), .v (.int .u8 0), .v (.int .u8 0), .v (.int .u8 0), .v (.int .u8 0), .v (.int .u8 0), .v (.int .u8 0), .v (.int .u8 0), .v (.int .u8 0), .v (.int .u8 0), .v (.int .u8 0), .v (.int .u8 0), .v (.int .u8 0), .v (.int .u8 0), .v (.int .u8 0), .v (.int .u8 0), .v (.int .u8 0), .v (.int .u8 0), .v (.int .u8 0), .v (.int .u8 0), .v (.int .u8 0), .v (.int .u8 0), .v (.int .u8 0), .v (.int .u8 0), .v (.int .u8 0), .v (.int .u8 0), .v (.int .u8 0), .v (.int .u8 0), .v (.int .u8 0), .v (.int .u8 0), .v (.int .u8 0), .v (.int .u8 0), .v (.int .u8 0), .v (.int .u8 0), .v (.int .u8 0), .v (.int .u8 0), .v (.int .u8 0), .v (.int .u8 0), .v (.int .u8 0), .v (.int .u8 0), .v (.int .u8 0), .v (.int .u8 0), .v (.int .u8 0), .v (.int .u8 0), .v (.int .u8 0), .v (.int .u8 0), .v (.int .u8 0), .v (.int .u8 0), .v (.int .u8 0), .v (.int .u8 0), .v (.int .u8 0), .v (.int .u8 0), .v (.int .u8 0), .v (.int .u8 0), .v (.int .u8 0), .v (.int .u8 0), .v (.int .u8 0), .v (.int .u8 0), .v (.int .u8 0), .v (.int .u8 0), .v (.int .u8 0), .v (.int .u8 0), .v (.int .u8 0), .v (.int .u8 0), .v (.int .u8 0), .v (.int .u8 0), .v (.int .u8 0), .v (.int .u8 0), .v (.int .u8 0), .v (.int .u8 0), .v (.int .u8 0), .v (.int .u8 0), .v (.int .u8 0), .v (.int .u8 0), .v (.int .u8 0), .v (.int .u8 0), .v (.int .u8 0), .v (.int .u8 0), .v (.int .u8 0), .v (.int .u8 0), .v (.int .u8 0), .v (.int .u8 0), .v (.int .u8 0), .v (.int .u8 0), .v (.int .u8 0), .v (.int .u8 0), .v (.int .u8 0), .v (.int .u8 0), .v (.int .u8 0), .v (.int .u8 0), .v (.int .u8 0), .v (.int .u8 0), .v (.int .u8 0), .v (.int .u8 0), .v (.int .u8 0), .v (.int .u8 0), .v (.int .u8 0), .v (.int .u8 0), .v (.int .u8 0), .v (.int .u8 0), .v (.int .u8 0), .v (.int .u8 0), .v (.int .u8 0), .v (.int .u8 0), .v (.int .u8 0), .v (.int .u8 0), .v (.int .u8 0), .v (.int .u8 0), .v (.int .u8 0), .v (.int .u8 0), .v (.int .u8 0), .v (.int .u8 0), .v (.int .u8 0), .v (.int .u8 0), .v (.int .u8 0), .v (.int .u8 0), .v (.int .u8 0), .v (.int .u8 0), .v (.int .u8 0), .v (.int .u8 0), .v (.int .u8 0), .v (.int .u8 0), .v (.int .u8 0), .v (.int .u8 0), .v (.int .u8 0), .v (.int .u8 0), .v (.int .u8 0), .v (.int .u8 0), .v (.int .u8 0), .v (.int .u8 0), .v (.int .u8 0), .v (.int .u8 0), .v (.int .u8 0), .v (.int .u8 0), .v (.int .u8 0), .v (.int .u8 0), .v (.int .u8 0), .v (.int .u8 0), .v (.int .u8 0), .v (.int .u8 0)]⟩ := by kernel_rfl
theorem ty110 : ty 110 = some ⟨1, 8, .int .u64, [.v (.int .u64 0)]⟩ := by kernel_rfl
theorem ty111 : ty 111 = some ⟨2, 2, .struct [(0, 5), (1, 5)], [.v (.int .u8 0), .v (.int .u8 0)]⟩ := by kernel_rfl
theorem sd111 : structD ty 111 = some ⟨2, 2, .struct [(0, 5), (1, 5)], [.v (.int .u8 0), .v (.int .u8 0)]⟩ := by kernel_rfl
theorem fd111_0 : fdd ty 111 0 = some (0, ⟨1, 1, .int .u8, [.v (.int .u8 0)]⟩) := by kernel_rfl
theorem pl111_0 : places ty 111 0 = some (0, 1) := by kernel_rfl
theorem fd111_1 : fdd ty 111 1 = some (1, ⟨1, 1, .int .u8, [.v (.int .u8 0)]⟩) := by kernel_rfl
theorem pl111_1 : places ty 111 1 = some (1, 1) := by kernel_rfl
theorem at111 : allTy ty ⟨2, 2, .struct [(0, 5), (1, 5)], [.v (.int .u8 0), .v (.int .u8 0)]⟩ = true := by kernel_rfl
theorem ty112 : ty 112 = some ⟨2, 2, .struct [(0, 5), (1, 5)], [.v (.int .u8 0), .v (.int .u8 0)]⟩ := by kernel_rfl
theorem sd112 : structD ty 112 = some ⟨2, 2, .struct [(0, 5), (1, 5)], [.v (.int .u8 0), .v (.int .u8 0)]⟩ := by kernel_rfl
theorem fd112_0 : fdd ty 112 0 = some (0, ⟨1, 1, .int .u8, [.v (.int .u8 0)]⟩) := by kernel_rfl
theorem pl112_0 : places ty 112 0 = some (0, 1) := by kernel_rfl
theorem fd112_1 : fdd ty 112 1 = some (1, ⟨1, 1, .int .u8, [.v (.int .u8 0)]⟩) := by kernel_rfl
theorem pl112_1 : places ty 112 1 = some (1, 1) := by kernel_rfl
theorem at112 : allTy ty ⟨2, 2, .struct [(0, 5), (1, 5)], [.v (.int .u8 0), .v (.int .u8 0)]⟩ = true := by kernel_rfl
theorem ty113 : ty 113 = some ⟨32, 32, .array 16 112, [.v (.int .u8 0), .v (.int .u8 0), .v (.int .u8 0), .v (.int .u8 0), .v (.int .u8 0), .v (.int .u8 0), .v (.int .u8 0), .v (.int .u8 0), .v (.int .u8 0), .v (.int .u8 0), .v (.int .u8 0), .v (.int .u8 0), .v (.int .u8 0), .v (.int .u8 0), .v (.int .u8 0), .v (.int .u8 0), .v (.int .u8 0), .v (.int .u8 0), .v (.int .u8 0), .v (.int .u8 0), .v (.int .u8 0), .v (.int .u8 0), .v (.int .u8 0), .v (.int .u8 0), .v (.int .u8 0), .v (.int .u8 0), .v (.int .u8 0), .v (.int .u8 0), .v (.int .u8 0), .v (.int .u8 0), .v (.int .u8 0), .v (.int .u8 0)]⟩ := by kernel_rfl
theorem ty117 : ty 117 = some ⟨4, 40, .struct [(0, 17), (1, 17), (2, 17), (3, 9)], [.v (.pointer none), .v (.pointer none), .v (.pointer none), .v (.string ⟨#[]⟩)]⟩ := by kernel_rfl
theorem sd117 : structD ty 117 = some ⟨4, 40, .struct [(0, 17), (1, 17), (2, 17), (3, 9)], [.v (.pointer none), .v (.pointer none), .v (.pointer none), .v (.string ⟨#[]⟩)]⟩ := by kernel_rfl
theorem fd117_0 : fdd ty 117 0 = some (0, ⟨1, 8, .ptr 130, [.v (.pointer none)]⟩) := by kernel_rfl
theorem pl117_0 : places ty 117 0 = some (0, 1) := by kernel_rfl
theorem fd117_1 : fdd ty 117 1 = some (1, ⟨1, 8, .ptr 130, [.v (.pointer none)]⟩) := by kernel_rfl
theorem pl117_1 : places ty 117 1 = some (1, 1) := by kernel_rfl
theorem fd117_2 : fdd ty 117 2 = some (2, ⟨1, 8, .ptr 130, [.v (.pointer none)]⟩) := by kernel_rfl
theorem pl117_2 : places ty 117 2 = some (2, 1) := by kernel_rfl
theorem fd117_3 : fdd ty 117 3 = some (3, ⟨1, 16, .str, [.v (.string ⟨#[]⟩)]⟩) := by kernel_rfl
theorem pl117_3 : places ty 117 3 = some (3, 1) := by kernel_rfl
theorem at117 : allTy ty ⟨4, 40, .struct [(0, 17), (1, 17), (2, 17), (3, 9)], [.v (.pointer none), .v (.pointer none), .v (.pointer none), .v (.string ⟨#[]⟩)]⟩ = true := by kernel_rfl
theorem ty118 : ty 118 = some ⟨4, 40, .struct [(0, 17), (1, 17), (2, 17), (3, 9)], [.v (.pointer none), .v (.pointer none), .v (.pointer none), .v (.string ⟨#[]⟩)]⟩ := by kernel_rfl
theorem sd118 : structD ty 118 = some ⟨4, 40, .struct [(0, 17), (1, 17), (2, 17), (3, 9)], [.v (.pointer none), .v (.pointer none), .v (.pointer none), .v (.string ⟨#[]⟩)]⟩ := by kernel_rfl
theorem fd118_0 : fdd ty 118 0 = some (0, ⟨1, 8, .ptr 130, [.v (.pointer none)]⟩) := by kernel_rfl
theorem pl118_0 : places ty 118 0 = some (0, 1) := by kernel_rfl
theorem fd118_1 : fdd ty 118 1 = some (1, ⟨1, 8, .ptr 130, [.v (.pointer none)]⟩) := by kernel_rfl
theorem pl118_1 : places ty 118 1 = some (1, 1) := by kernel_rfl
theorem fd118_2 : fdd ty 118 2 = some (2, ⟨1, 8, .ptr 130, [.v (.pointer none)]⟩) := by kernel_rfl
theorem pl118_2 : places ty 118 2 = some (2, 1) := by kernel_rfl
theorem fd118_3 : fdd ty 118 3 = some (3, ⟨1, 16, .str, [.v (.string ⟨#[]⟩)]⟩) := by kernel_rfl
theorem pl118_3 : places ty 118 3 = some (3, 1) := by kernel_rfl
theorem at118 : allTy ty ⟨4, 40, .struct [(0, 17), (1, 17), (2, 17), (3, 9)], [.v (.pointer none), .v (.pointer none), .v (.pointer none), .v (.string ⟨#[]⟩)]⟩ = true := by kernel_rfl
theorem ty119 : ty 119 = some ⟨0, 0, .array 0 16, []⟩ := by kernel_rfl
theorem ty120 : ty 120 = some ⟨0, 0, .struct [(0, 119)], []⟩ := by kernel_rfl
theorem sd120 : structD ty 120 = some ⟨0, 0, .struct [(0, 119)], []⟩ := by kernel_rfl
theorem fd120_0 : fdd ty 120 0 = some (0, ⟨0, 0, .array 0 16, []⟩) := by kernel_rfl
theorem pl120_0 : places ty 120 0 = some (0, 0) := by kernel_rfl
theorem at120 : allTy ty ⟨0, 0, .struct [(0, 119)], []⟩ = true := by kernel_rfl
theorem ty121 : ty 121 = some ⟨0, 0, .struct [(0, 119)], []⟩ := by kernel_rfl
theorem sd121 : structD ty 121 = some ⟨0, 0, .struct [(0, 119)], []⟩ := by kernel_rfl
theorem fd121_0 : fdd ty 121 0 = some (0, ⟨0, 0, .array 0 16, []⟩) := by kernel_rfl
theorem pl121_0 : places ty 121 0 = some (0, 0) := by kernel_rfl
theorem at121 : allTy ty ⟨0, 0, .struct [(0, 119)], []⟩ = true := by kernel_rfl
theorem ty122 : ty 122 = some ⟨1, 4, .int .u32, [.v (.int .u32 0)]⟩ := by kernel_rfl
theorem ty123 : ty 123 = some ⟨1, 1, .int .u8, [.v (.int .u8 0)]⟩ := by kernel_rfl
theorem ty124 : ty 124 = some ⟨1, 1, .int .u8, [.v (.int .u8 0)]⟩ := by kernel_rfl
theorem ty126 : ty 126 = some ⟨1, 8, .ptr 5, [.v (.pointer none)]⟩ := by kernel_rfl
theorem ty127 : ty 127 = some ⟨1, 4, .int .i32, [.v (.int .i32 0)]⟩ := by kernel_rfl
theorem ty128 : ty 128 = some ⟨1, 4, .int .i32, [.v (.int .i32 0)]⟩ := by kernel_rfl
theorem ty129 : ty 129 = some ⟨11, 48, .struct [(0, 12), (1, 12), (2, 122), (3, 123), (4, 5), (5, 5), (6, 124), (7, 125), (8, 126), (9, 127), (10, 128)], [.v (.int .u64 0), .v (.int .u64 0), .v (.int .u32 0), .v (.int .u8 0), .v (.int .u8 0), .v (.int .u8 0), .v (.int .u8 0), .v (.nilFunc), .v (.pointer none), .v (.int .i32 0), .v (.int .i32 0)]⟩ := by kernel_rfl
theorem sd129 : structD ty 129 = some ⟨11, 48, .struct [(0, 12), (1, 12), (2, 122), (3, 123), (4, 5), (5, 5), (6, 124), (7, 125), (8, 126), (9, 127), (10, 128)], [.v (.int .u64 0), .v (.int .u64 0), .v (.int .u32 0), .v (.int .u8 0), .v (.int .u8 0), .v (.int .u8 0), .v (.int .u8 0), .v (.nilFunc), .v (.pointer none), .v (.int .i32 0), .v (.int .i32 0)]⟩ := by kernel_rfl
theorem fd129_0 : fdd ty 129 0 = some (0, ⟨1, 8, .int .u64, [.v (.int .u64 0)]⟩) := by kernel_rfl
theorem pl129_0 : places ty 129 0 = some (0, 1) := by kernel_rfl
theorem fd129_1 : fdd ty 129 1 = some (1, ⟨1, 8, .int .u64, [.v (.int .u64 0)]⟩) := by kernel_rfl
theorem pl129_1 : places ty 129 1 = some (1, 1) := by kernel_rfl
theorem fd129_2 : fdd ty 129 2 = some (2, ⟨1, 4, .int .u32, [.v (.int .u32 0)]⟩) := by kernel_rfl
theorem pl129_2 : places ty 129 2 = some (2, 1) := by kernel_rfl
theorem fd129_3 : fdd ty 129 3 = some (3, ⟨1, 1, .int .u8, [.v (.int .u8 0)]⟩) := by kernel_rfl
theorem pl129_3 : places ty 129 3 = some (3, 1) := by kernel_rfl
theorem fd129_4 : fdd ty 129 4 = some (4, ⟨1, 1, .int .u8, [.v (.int .u8 0)]⟩) := by kernel_rfl
theorem pl129_4 : places ty 129 4 = some (4, 1) := by kernel_rfl
theorem fd129_5 : fdd ty 129 5 = some (5, ⟨1, 1, .int .u8, [.v (.int .u8 0)]⟩) := by kernel_rfl
theorem pl129_5 : places ty 129 5 = some (5, 1) := by kernel_rfl
theorem fd129_6 : fdd ty 129 6 = some (6, ⟨1, 1, .int .u8, [.v (.int .u8 0)]⟩) := by kernel_rfl
theorem pl129_6 : places ty 129 6 = some (6, 1) := by kernel_rfl
theorem fd129_8 : fdd ty 129 8 = some (8, ⟨1, 8, .ptr 5, [.v (.pointer none)]⟩) := by kernel_rfl
theorem pl129_8 : places ty 129 8 = some (8, 1) := by kernel_rfl
theorem fd129_9 : fdd ty 129 9 = some (9, ⟨1, 4, .int .i32, [.v (.int .i32 0)]⟩) := by kernel_rfl
theorem pl129_9 : places ty 129 9 = some (9, 1) := by kernel_rfl
theorem fd129_10 : fdd ty 129 10 = some (10, ⟨1, 4, .int .i32, [.v (.int .i32 0)]⟩) := by kernel_rfl
theorem pl129_10 : places ty 129 10 = some (10, 1) := by kernel_rfl
theorem ty130 : ty 130 = some ⟨11, 48, .struct [(0, 12), (1, 12), (2, 122), (3, 123), (4, 5), (5, 5), (6, 124), (7, 125), (8, 126), (9, 127), (10, 128)], [.v (.int .u64 0), .v (.int .u64 0), .v (.int .u32 0), .v (.int .u8 0), .v (.int .u8 0), .v (.int .u8 0), .v (.int .u8 0), .v (.nilFunc), .v (.pointer none), .v (.int .i32 0), .v (.int .i32 0)]⟩ := by kernel_rfl
theorem sd130 : structD ty 130 = some ⟨11, 48, .struct [(0, 12), (1, 12), (2, 122), (3, 123), (4, 5), (5, 5), (6, 124), (7, 125), (8, 126), (9, 127), (10, 128)], [.v (.int .u64 0), .v (.int .u64 0), .v (.int .u32 0), .v (.int .u8 0), .v (.int .u8 0), .v (.int .u8 0), .v (.int .u8 0), .v (.nilFunc), .v (.pointer none), .v (.int .i32 0), .v (.int .i32 0)]⟩ := by kernel_rfl
theorem fd130_0 : fdd ty 130 0 = some (0, ⟨1, 8, .int .u64, [.v (.int .u64 0)]⟩) := by kernel_rfl
theorem pl130_0 : places ty 130 0 = some (0, 1) := by kernel_rfl
theorem fd130_1 : fdd ty 130 1 = some (1, ⟨1, 8, .int .u64, [.v (.int .u64 0)]⟩) := by kernel_rfl
theorem pl130_1 : places ty 130 1 = some (1, 1) := by kernel_rfl
theorem fd130_2 : fdd ty 130 2 = some (2, ⟨1, 4, .int .u32, [.v (.int .u32 0)]⟩) := by kernel_rfl
theorem pl130_2 : places ty 130 2 = some (2, 1) := by kernel_rfl
theorem fd130_3 : fdd ty 130 3 = some (3, ⟨1, 1, .int .u8, [.v (.int .u8 0)]⟩) := by kernel_rfl
theorem pl130_3 : places ty 130 3 = some (3, 1) := by kernel_rfl
theorem fd130_4 : fdd ty 130 4 = some (4, ⟨1, 1, .int .u8, [.v (.int .u8 0)]⟩) := by kernel_rfl
theorem pl130_4 : places ty 130 4 = some (4, 1) := by kernel_rfl
theorem fd130_5 : fdd ty 130 5 = some (5, ⟨1, 1, .int .u8, [.v (.int .u8 0)]⟩) := by kernel_rfl
theorem pl130_5 : places ty 130 5 = some (5, 1) := by kernel_rfl
theorem fd130_6 : fdd ty 130 6 = some (6, ⟨1, 1, .int .u8, [.v (.int .u8 0)]⟩) := by kernel_rfl
theorem pl130_6 : places ty 130 6 = some (6, 1) := by kernel_rfl
theorem fd130_8 : fdd ty 130 8 = some (8, ⟨1, 8, .ptr 5, [.v (.pointer none)]⟩) := by kernel_rfl
theorem pl130_8 : places ty 130 8 = some (8, 1) := by kernel_rfl
theorem fd130_9 : fdd ty 130 9 = some (9, ⟨1, 4, .int .i32, [.v (.int .i32 0)]⟩) := by kernel_rfl
theorem pl130_9 : places ty 130 9 = some (9, 1) := by kernel_rfl
theorem fd130_10 : fdd ty 130 10 = some (10, ⟨1, 4, .int .i32, [.v (.int .i32 0)]⟩) := by kernel_rfl
theorem pl130_10 : places ty 130 10 = some (10, 1) := by kernel_rfl
set_option maxRecDepth 100000
theorem lemA : type_of% (And.intro (@List.getD_cons_zero.{0}) (And.intro (@List.getD_cons_succ.{0}) (And.intro (@List.set_cons_zero.{0}) (And.intro (@List.set_cons_succ.{0}) (And.intro (@List.length_cons.{0}) (And.intro (@List.length_nil.{0}) (And.intro (@List.map_cons.{0, 0}) (And.intro (@List.map_nil.{0, 0}) (And.intro (@List.append_nil.{0}) (And.intro (@List.nil_append.{0}) (And.intro (@List.cons_append.{0}) (And.intro (@List.all_cons.{0}) (And.intro (@List.all_nil.{0}) (And.intro (@Bool.and_true) (And.intro (@Bool.and_self) (And.intro (@Option.bind_some.{0, 0}) (And.intro (@Option.map_some.{0, 0}) (And.intro (@List.getElem?_toArray.{0}) (And.intro (@List.getElem?_cons_zero.{0}) (And.intro (@List.getElem?_cons_succ.{0}) (And.intro (@true_and) (And.intro (@and_true) (And.intro (@and_self) (And.intro (@Option.some.injEq.{0}) (And.intro (@if_true.{1}) (And.intro (@implies_true.{0}) (And.intro (@implies_true.{1}) (And.intro (@imp_self) (And.intro (@List.toList_toArray.{0}) (And.intro (@Bool.false_eq_true) (And.intro (@Bool.true_eq_false) (And.intro (@false_and) (And.intro (@and_false) (And.intro (@List.filterMap_cons.{0, 0}) (And.intro (@beq_true) (And.intro (@beq_false) (And.intro (@Bool.not_eq_true') (And.intro (@Bool.not_eq_false') (And.intro (@true_implies) (And.intro (@Bool.cond_true_left) (And.intro (@Bool.cond_false_right) (And.intro (@Bool.not_not) (And.intro (@Bool.or_false) (And.intro (@Bool.false_or) (And.intro (@Bool.or_true) (And.intro (@Bool.true_or) (And.intro (@Bool.and_false) (And.intro (@Bool.false_and) (And.intro (@Bool.true_and) (And.intro (@Bool.not_true) (And.intro (@Bool.not_false) (And.intro (@cond_true.{1}) (And.intro (@cond_false.{1}) (And.intro (@upd_same) (And.intro (@List.take_succ_cons.{0}) (And.intro (@List.take_zero.{0}) (And.intro (@List.drop_succ_cons.{0}) (And.intro (@List.drop_zero.{0}) (And.intro (@List.take_nil.{0}) (And.intro (@List.drop_nil.{0}) (And.intro (@List.length_map.{0, 0}) (And.intro (@Int.add_sub_cancel) (And.intro (@List.length_set.{0}) (And.intro (@upd_upd) (And.intro (@Option.isSome_some.{0}) (And.intro (@ne_eq.{1}) (@not_false_eq_true))))))))))))))))))))))))))))))))))))))))))))))))))))))))))))))))))) := And.intro (@List.getD_cons_zero.{0}) (And.intro (@List.getD_cons_succ.{0}) (And.intro (@List.set_cons_zero.{0}) (And.intro (@List.set_cons_succ.{0}) (And.intro (@List.length_cons.{0}) (And.intro (@List.length_nil.{0}) (And.intro (@List.map_cons.{0, 0}) (And.intro (@List.map_nil.{0, 0}) (And.intro (@List.append_nil.{0}) (And.intro (@List.nil_append.{0}) (And.intro (@List.cons_append.{0}) (And.intro (@List.all_cons.{0}) (And.intro (@List.all_nil.{0}) (And.intro (@Bool.and_true) (And.intro (@Bool.and_self) (And.intro (@Option.bind_some.{0, 0}) (And.intro (@Option.map_some.{0, 0}) (And.intro (@List.getElem?_toArray.{0}) (And.intro (@List.getElem?_cons_zero.{0}) (And.intro (@List.getElem?_cons_succ.{0}) (And.intro (@true_and) (And.intro (@and_true) (And.intro (@and_self) (And.intro (@Option.some.injEq.{0}) (And.intro (@if_true.{1}) (And.intro (@implies_true.{0}) (And.intro (@implies_true.{1}) (And.intro (@imp_self) (And.intro (@List.toList_toArray.{0}) (And.intro (@Bool.false_eq_true) (And.intro (@Bool.true_eq_false) (And.intro (@false_and) (And.intro (@and_false) (And.intro (@List.filterMap_cons.{0, 0}) (And.intro (@beq_true) (And.intro (@beq_false) (And.intro (@Bool.not_eq_true') (And.intro (@Bool.not_eq_false') (And.intro (@true_implies) (And.intro (@Bool.cond_true_left) (And.intro (@Bool.cond_false_right) (And.intro (@Bool.not_not) (And.intro (@Bool.or_false) (And.intro (@Bool.false_or) (And.intro (@Bool.or_true) (And.intro (@Bool.true_or) (And.intro (@Bool.and_false) (And.intro (@Bool.false_and) (And.intro (@Bool.true_and) (And.intro (@Bool.not_true) (And.intro (@Bool.not_false) (And.intro (@cond_true.{1}) (And.intro (@cond_false.{1}) (And.intro (@upd_same) (And.intro (@List.take_succ_cons.{0}) (And.intro (@List.take_zero.{0}) (And.intro (@List.drop_succ_cons.{0}) (And.intro (@List.drop_zero.{0}) (And.intro (@List.take_nil.{0}) (And.intro (@List.drop_nil.{0}) (And.intro (@List.length_map.{0, 0}) (And.intro (@Int.add_sub_cancel) (And.intro (@List.length_set.{0}) (And.intro (@upd_upd) (And.intro (@Option.isSome_some.{0}) (And.intro (@ne_eq.{1}) (@not_false_eq_true))))))))))))))))))))))))))))))))))))))))))))))))))))))))))))))))))
theorem lemT : type_of% (And.intro (@ty2) (And.intro (@ty3) (And.intro (@ty4) (And.intro (@ty5) (And.intro (@ty6) (And.intro (@ty7) (And.intro (@sd7) (And.intro (@fd7_0) (And.intro (@pl7_0) (And.intro (@fd7_1) (And.intro (@pl7_1) (And.intro (@fd7_2) (And.intro (@pl7_2) (And.intro (@fd7_3) (And.intro (@pl7_3) (And.intro (@at7) (And.intro (@ty8) (And.intro (@sd8) (And.intro (@fd8_0) (And.intro (@pl8_0) (And.intro (@fd8_1) (And.intro (@pl8_1) (And.intro (@fd8_2) (And.intro (@pl8_2) (And.intro (@fd8_3) (And.intro (@pl8_3) (And.intro (@at8) (And.intro (@ty9) (And.intro (@is9) (And.intro (@ty10) (And.intro (@is10) (And.intro (@ty11) (And.intro (@is11) (And.intro (@ty12) (And.intro (@ty13) (And.intro (@sd13) (And.intro (@fd13_0) (And.intro (@pl13_0) (And.intro (@fd13_1) (And.intro (@pl13_1) (And.intro (@at13) (And.intro (@ty14) (And.intro (@sd14) (And.intro (@fd14_0) (And.intro (@pl14_0) (And.intro (@fd14_1) (And.intro (@pl14_1) (And.intro (@at14) (And.intro (@ty15) (And.intro (@ty16) (And.intro (@ty17) (And.intro (@ty18) (And.intro (@sd18) (And.intro (@fd18_0) (And.intro (@pl18_0) (And.intro (@at18) (And.intro (@ty19) (And.intro (@sd19) (And.intro (@fd19_0) (And.intro (@pl19_0) (And.intro (@at19) (And.intro (@ty21) (And.intro (@ty22) (And.intro (@el22) (And.intro (@ty23) (And.intro (@ty24) (And.intro (@sd24) (And.intro (@fd24_0) (And.intro (@pl24_0) (And.intro (@fd24_1) (And.intro (@pl24_1) (And.intro (@at24) (And.intro (@ty25) (And.intro (@sd25) (And.intro (@fd25_0) (And.intro (@pl25_0) (And.intro (@fd25_1) (And.intro (@pl25_1) (And.intro (@at25) (And.intro (@ty26) (And.intro (@el26) (And.intro (@ty27) (And.intro (@sd27) (And.intro (@fd27_0) (And.intro (@pl27_0) (And.intro (@fd27_1) (And.intro (@pl27_1) (And.intro (@fd27_2) (And.intro (@pl27_2) (And.intro (@fd27_3) (And.intro (@pl27_3) (And.intro (@fd27_4) (And.intro (@pl27_4) (And.intro (@fd27_5) (And.intro (@pl27_5) (And.intro (@at27) (And.intro (@ty28) (And.intro (@sd28) (And.intro (@fd28_0) (And.intro (@pl28_0) (And.intro (@fd28_1) (And.intro (@pl28_1) (And.intro (@fd28_2) (And.intro (@pl28_2) (And.intro (@fd28_3) (And.intro (@pl28_3) (And.intro (@fd28_4) (And.intro (@pl28_4) (And.intro (@fd28_5) (And.intro (@pl28_5) (And.intro (@at28) (And.intro (@ty31) (And.intro (@ty33) (And.intro (@el33) (And.intro (@ty39) (And.intro (@sd39) (And.intro (@fd39_0) (And.intro (@pl39_0) (And.intro (@fd39_1) (And.intro (@pl39_1) (And.intro (@at39) (And.intro (@ty40) (And.intro (@sd40) (And.intro (@fd40_0) (And.intro (@pl40_0) (And.intro (@fd40_1) (And.intro (@pl40_1) (And.intro (@at40) (And.intro (@ty45) (And.intro (@ty52) (And.intro (@sd52) (And.intro (@fd52_0) (And.intro (@pl52_0) (And.intro (@at52) (And.intro (@ty53) (And.intro (@sd53) (And.intro (@fd53_0) (And.intro (@pl53_0) (And.intro (@at53) (And.intro (@ty56) (And.intro (@ty58) (And.intro (@ty59) (And.intro (@sd59) (And.intro (@fd59_0) (And.intro (@pl59_0) (And.intro (@fd59_1) (And.intro (@pl59_1) (And.intro (@at59) (And.intro (@ty60) (And.intro (@sd60) (And.intro (@fd60_0) (And.intro (@pl60_0) (And.intro (@fd60_1) (And.intro (@pl60_1) (And.intro (@at60) (And.intro (@ty62) (And.intro (@el62) (And.intro (@ty63) (And.intro (@ty66) (And.intro (@ty72) (And.intro (@el72) (And.intro (@ty75) (And.intro (@ty78) (And.intro (@el78) (And.intro (@ty79) (And.intro (@sd79) (And.intro (@fd79_0) (And.intro (@pl79_0) (And.intro (@fd79_1) (And.intro (@pl79_1) (And.intro (@fd79_2) (And.intro (@pl79_2) (And.intro (@fd79_3) (And.intro (@pl79_3) (And.intro (@fd79_4) (And.intro (@pl79_4) (And.intro (@at79) (And.intro (@ty80) (And.intro (@sd80) (And.intro (@fd80_0) (And.intro (@pl80_0) (And.intro (@fd80_1) (And.intro (@pl80_1) (And.intro (@fd80_2) (And.intro (@pl80_2) (And.intro (@fd80_3) (And.intro (@pl80_3) (And.intro (@fd80_4) (And.intro (@pl80_4) (And.intro (@at80) (And.intro (@ty82) (And.intro (@el82) (And.intro (@ty83) (And.intro (@sd83) (And.intro (@fd83_0) (And.intro (@pl83_0) (And.intro (@fd83_1) (And.intro (@pl83_1) (And.intro (@fd83_2) (And.intro (@pl83_2) (And.intro (@fd83_3) (And.intro (@pl83_3) (And.intro (@at83) (And.intro (@ty84) (And.intro (@sd84) (And.intro (@fd84_0) (And.intro (@pl84_0) (And.intro (@fd84_1) (And.intro (@pl84_1) (And.intro (@fd84_2) (And.intro (@pl84_2) (And.intro (@fd84_3) (And.intro (@pl84_3) (And.intro (@at84) (And.intro (@ty85) (And.intro (@sd85) (And.intro (@fd85_0) (And.intro (@pl85_0) (And.intro (@fd85_1) (And.intro (@pl85_1) (And.intro (@fd85_2) (And.intro (@pl85_2) (And.intro (@at85) (And.intro (@ty86) (And.intro (@sd86) (And.intro (@fd86_0) (And.intro (@pl86_0) (And.intro (@fd86_1) (And.intro (@pl86_1) (And.intro (@fd86_2) (And.intro (@pl86_2) (And.intro (@at86) (And.intro (@ty94) (And.intro (@ty95) (And.intro (@ty99) (And.intro (@ty109) (And.intro (@ty110) (And.intro (@ty111) (And.intro (@sd111) (And.intro (@fd111_0) (And.intro (@pl111_0) (And.intro (@fd111_1) (And.intro (@pl111_1) (And.intro (@at111) (And.intro (@ty112) (And.intro (@sd112) (And.intro (@fd112_0) (And.intro (@pl112_0) (And.intro (@fd112_1) (And.intro (@pl112_1) (And.intro (@at112) (And.intro (@ty113) (And.intro (@ty117) (And.intro (@sd117) (And.intro (@fd117_0) (And.intro (@pl117_0) (And.intro (@fd117_1) (And.intro (@pl117_1) (And.intro (@fd117_2) (And.intro (@pl117_2) (And.intro (@fd117_3) (And.intro (@pl117_3) (And.intro (@at117) (And.intro (@ty118) (And.intro (@sd118) (And.intro (@fd118_0) (And.intro (@pl118_0) (And.intro (@fd118_1) (And.intro (@pl118_1) (And.intro (@fd118_2) (And.intro (@pl118_2) (And.intro (@fd118_3) (And.intro (@pl118_3) (And.intro (@at118) (And.intro (@ty119) (And.intro (@ty120) (And.intro (@sd120) (And.intro (@fd120_0) (And.intro (@pl120_0) (And.intro (@at120) (And.intro (@ty121) (And.intro (@sd121) (And.intro (@fd121_0) (And.intro (@pl121_0) (And.intro (@at121) (And.intro (@ty122) (And.intro (@ty123) (And.intro (@ty124) (And.intro (@ty126) (And.intro (@ty127) (And.intro (@ty128) (And.intro (@ty129) (And.intro (@sd129) (And.intro (@fd129_0) (And.intro (@pl129_0) (And.intro (@fd129_1) (And.intro (@pl129_1) (And.intro (@fd129_2) (And.intro (@pl129_2) (And.intro (@fd129_3) (And.intro (@pl129_3) (And.intro (@fd129_4) (And.intro (@pl129_4) (And.intro (@fd129_5) (And.intro (@pl129_5) (And.intro (@fd129_6) (And.intro (@pl129_6) (And.intro (@fd129_8) (And.intro (@pl129_8) (And.intro (@fd129_9) (And.intro (@pl129_9) (And.intro (@fd129_10) (And.intro (@pl129_10) (And.intro (@ty130) (And.intro (@sd130) (And.intro (@fd130_0) (And.intro (@pl130_0) (And.intro (@fd130_1) (And.intro (@pl130_1) (And.intro (@fd130_2) (And.intro (@pl130_2) (And.intro (@fd130_3) (And.intro (@pl130_3) (And.intro (@fd130_4) (And.intro (@pl130_4) (And.intro (@fd130_5) (And.intro (@pl130_5) (And.intro (@fd130_6) (And.intro (@pl130_6) (And.intro (@fd130_8) (And.intro (@pl130_8) (And.intro (@fd130_9) (And.intro (@pl130_9) (And.intro (@fd130_10) (@pl130_10))))))))))))))))))))))))))))))))))))))))))))))))))))))))))))))))))))))))))))))))))))))))))))))))))))))))))))))))))))))))))))))))))))))))))))))))))))))))))))))))))))))))))))))))))))))))))))))))))))))))))))))))))))))))))))))))))))))))))))))))))))))))))))))))))))))))))))))))))))))))))))))))))))))))))))))))))))))))))))))))))))))))))))))) := And.intro (@ty2) (And.intro (@ty3) (And.intro (@ty4) (And.intro (@ty5) (And.intro (@ty6) (And.intro (@ty7) (And.intro (@sd7) (And.intro (@fd7_0) (And.intro (@pl7_0) (And.intro (@fd7_1) (And.intro (@pl7_1) (And.intro (@fd7_2) (And.intro (@pl7_2) (And.intro (@fd7_3) (And.intro (@pl7_3) (And.intro (@at7) (And.intro (@ty8) (And.intro (@sd8) (And.intro (@fd8_0) (And.intro (@pl8_0) (And.intro (@fd8_1) (And.intro (@pl8_1) (And.intro (@fd8_2) (And.intro (@pl8_2) (And.intro (@fd8_3) (And.intro (@pl8_3) (And.intro (@at8) (And.intro (@ty9) (And.intro (@is9) (And.intro (@ty10) (And.intro (@is10) (And.intro (@ty11) (And.intro (@is11) (And.intro (@ty12) (And.intro (@ty13) (And.intro (@sd13) (And.intro (@fd13_0) (And.intro (@pl13_0) (And.intro (@fd13_1) (And.intro (@pl13_1) (And.intro (@at13) (And.intro (@ty14) (And.intro (@sd14) (And.intro (@fd14_0) (And.intro (@pl14_0) (And.intro (@fd14_1) (And.intro (@pl14_1) (And.intro (@at14) (And.intro (@ty15) (And.intro (@ty16) (And.intro (@ty17) (And.intro (@ty18) (And.intro (@sd18) (And.intro (@fd18_0) (And.intro (@pl18_0) (And.intro (@at18) (And.intro (@ty19) (And.intro (@sd19) (And.intro (@fd19_0) (And.intro (@pl19_0) (And.intro (@at19) (And.intro (@ty21) (And.intro (@ty22) (And.intro (@el22) (And.intro (@ty23) (And.intro (@ty24) (And.intro (@sd24) (And.intro (@fd24_0) (And.intro (@pl24_0) (And.intro (@fd24_1) (And.intro (@pl24_1) (And.intro (@at24) (And.intro (@ty25) (And.intro (@sd25) (And.intro (@fd25_0) (And.intro (@pl25_0) (And.intro (@fd25_1) (And.intro (@pl25_1) (And.intro (@at25) (And.intro (@ty26) (And.intro (@el26) (And.intro (@ty27) (And.intro (@sd27) (And.intro (@fd27_0) (And.intro (@pl27_0) (And.intro (@fd27_1) (And.intro (@pl27_1) (And.intro (@fd27_2) (And.intro (@pl27_2) (And.intro (@fd27_3) (And.intro (@pl27_3) (And.intro (@fd27_4) (And.intro (@pl27_4) (And.intro (@fd27_5) (And.intro (@pl27_5) (And.intro (@at27) (And.intro (@ty28) (And.intro (@sd28) (And.intro (@fd28_0) (And.intro (@pl28_0) (And.intro (@fd28_1) (And.intro (@pl28_1) (And.intro (@fd28_2) (And.intro (@pl28_2) (And.intro (@fd28_3) (And.intro (@pl28_3) (And.intro (@fd28_4) (And.intro (@pl28_4) (And.intro (@fd28_5) (And.intro (@pl28_5) (And.intro (@at28) (And.intro (@ty31) (And.intro (@ty33) (And.intro (@el33) (And.intro (@ty39) (And.intro (@sd39) (And.intro (@fd39_0) (And.intro (@pl39_0) (And.intro (@fd39_1) (And.intro (@pl39_1) (And.intro (@at39) (And.intro (@ty40) (And.intro (@sd40) (And.intro (@fd40_0) (And.intro (@pl40_0) (And.intro (@fd40_1) (And.intro (@pl40_1) (And.intro (@at40) (And.intro (@ty45) (And.intro (@ty52) (And.intro (@sd52) (And.intro (@fd52_0) (And.intro (@pl52_0) (And.intro (@at52) (And.intro (@ty53) (And.intro (@sd53) (And.intro (@fd53_0) (And.intro (@pl53_0) (And.intro (@at53) (And.intro (@ty56) (And.intro (@ty58) (And.intro (@ty59) (And.intro (@sd59) (And.intro (@fd59_0) (And.intro (@pl59_0) (And.intro (@fd59_1) (And.intro (@pl59_1) (And.intro (@at59) (And.intro (@ty60) (And.intro (@sd60) (And.intro (@fd60_0) (And.intro (@pl60_0) (And.intro (@fd60_1) (And.intro (@pl60_1) (And.intro (@at60) (And.intro (@ty62) (And.intro (@el62) (And.intro (@ty63) (And.intro (@ty66) (And.intro (@ty72) (And.intro (@el72) (And.intro (@ty75) (And.intro (@ty78) (And.intro (@el78) (And.intro (@ty79) (And.intro (@sd79) (And.intro (@fd79_0) (And.intro (@pl79_0) (And.intro (@fd79_1) (And.intro (@pl79_1) (And.intro (@fd79_2) (And.intro (@pl79_2) (And.intro (@fd79_3) (And.intro (@pl79_3) (And.intro (@fd79_4) (And.intro (@pl79_4) (And.intro (@at79) (And.intro (@ty80) (And.intro (@sd80) (And.intro (@fd80_0) (And.intro (@pl80_0) (And.intro (@fd80_1) (And.intro (@pl80_1) (And.intro (@fd80_2) (And.intro (@pl80_2) (And.intro (@fd80_3) (And.intro (@pl80_3) (And.intro (@fd80_4) (And.intro (@pl80_4) (And.intro (@at80) (And.intro (@ty82) (And.intro (@el82) (And.intro (@ty83) (And.intro (@sd83) (And.intro (@fd83_0) (And.intro (@pl83_0) (And.intro (@fd83_1) (And.intro (@pl83_1) (And.intro (@fd83_2) (And.intro (@pl83_2) (And.intro (@fd83_3) (And.intro (@pl83_3) (And.intro (@at83) (And.intro (@ty84) (And.intro (@sd84) (And.intro (@fd84_0) (And.intro (@pl84_0) (And.intro (@fd84_1) (And.intro (@pl84_1) (And.intro (@fd84_2) (And.intro (@pl84_2) (And.intro (@fd84_3) (And.intro (@pl84_3) (And.intro (@at84) (And.intro (@ty85) (And.intro (@sd85) (And.intro (@fd85_0) (And.intro (@pl85_0) (And.intro (@fd85_1) (And.intro (@pl85_1) (And.intro (@fd85_2) (And.intro (@pl85_2) (And.intro (@at85) (And.intro (@ty86) (And.intro (@sd86) (And.intro (@fd86_0) (And.intro (@pl86_0) (And.intro (@fd86_1) (And.intro (@pl86_1) (And.intro (@fd86_2) (And.intro (@pl86_2) (And.intro (@at86) (And.intro (@ty94) (And.intro (@ty95) (And.intro (@ty99) (And.intro (@ty109) (And.intro (@ty110) (And.intro (@ty111) (And.intro (@sd111) (And.intro (@fd111_0) (And.intro (@pl111_0) (And.intro (@fd111_1) (And.intro (@pl111_1) (And.intro (@at111) (And.intro (@ty112) (And.intro (@sd112) (And.intro (@fd112_0) (And.intro (@pl112_0) (And.intro (@fd112_1) (And.intro (@pl112_1) (And.intro (@at112) (And.intro (@ty113) (And.intro (@ty117) (And.intro (@sd117) (And.intro (@fd117_0) (And.intro (@pl117_0) (And.intro (@fd117_1) (And.intro (@pl117_1) (And.intro (@fd117_2) (And.intro (@pl117_2) (And.intro (@fd117_3) (And.intro (@pl117_3) (And.intro (@at117) (And.intro (@ty118) (And.intro (@sd118) (And.intro (@fd118_0) (And.intro (@pl118_0) (And.intro (@fd118_1) (And.intro (@pl118_1) (And.intro (@fd118_2) (And.intro (@pl118_2) (And.intro (@fd118_3) (And.intro (@pl118_3) (And.intro (@at118) (And.intro (@ty119) (And.intro (@ty120) (And.intro (@sd120) (And.intro (@fd120_0) (And.intro (@pl120_0) (And.intro (@at120) (And.intro (@ty121) (And.intro (@sd121) (And.intro (@fd121_0) (And.intro (@pl121_0) (And.intro (@at121) (And.intro (@ty122) (And.intro (@ty123) (And.intro (@ty124) (And.intro (@ty126) (And.intro (@ty127) (And.intro (@ty128) (And.intro (@ty129) (And.intro (@sd129) (And.intro (@fd129_0) (And.intro (@pl129_0) (And.intro (@fd129_1) (And.intro (@pl129_1) (And.intro (@fd129_2) (And.intro (@pl129_2) (And.intro (@fd129_3) (And.intro (@pl129_3) (And.intro (@fd129_4) (And.intro (@pl129_4) (And.intro (@fd129_5) (And.intro (@pl129_5) (And.intro (@fd129_6) (And.intro (@pl129_6) (And.intro (@fd129_8) (And.intro (@pl129_8) (And.intro (@fd129_9) (And.intro (@pl129_9) (And.intro (@fd129_10) (And.intro (@pl129_10) (And.intro (@ty130) (And.intro (@sd130) (And.intro (@fd130_0) (And.intro (@pl130_0) (And.intro (@fd130_1) (And.intro (@pl130_1) (And.intro (@fd130_2) (And.intro (@pl130_2) (And.intro (@fd130_3) (And.intro (@pl130_3) (And.intro (@fd130_4) (And.intro (@pl130_4) (And.intro (@fd130_5) (And.intro (@pl130_5) (And.intro (@fd130_6) (And.intro (@pl130_6) (And.intro (@fd130_8) (And.intro (@pl130_8) (And.intro (@fd130_9) (And.intro (@pl130_9) (And.intro (@fd130_10) (@pl130_10))))))))))))))))))))))))))))))))))))))))))))))))))))))))))))))))))))))))))))))))))))))))))))))))))))))))))))))))))))))))))))))))))))))))))))))))))))))))))))))))))))))))))))))))))))))))))))))))))))))))))))))))))))))))))))))))))))))))))))))))))))))))))))))))))))))))))))))))))))))))))))))))))))))))))))))))))))))))))))))))))))))))))))))
attribute [go_sem] vOps retQ resV resL res1 Nat.zero_add St.keep keepL_nil keepL_c1 keepL_c0 keepL_jnk cutLoc jnk_zero jnk_jnk getD_jnk_lt getD_jnk_ge set_jnk_lt set_jnk_ge gStep condG qV binV vV iV sV bV nV arV pickE joinA joinOk isOpt vEff binE vBin iBin sBin arith nilOf nBin boolOk convI storeE newE sliceE appE lenE minE biE bndE cellsAt ldOk ld TyD.isAgg AV.shift AV.isAddr AV.cellsB AV.noLoc rowOf litRow fillA opS uside unw evL cv St.put opsOf Value.oneCell' vIdx stepI vRest reL reI mdL splice bef aft isCallB isCallV lemA lemT
section
variable {c : Cx} {Q : Exit → St → Prop} {s : St} {all : Array Oper} {id : Nat} {y : Code}
theorem uS (md : Option Tmp → Nat) (h : ∀ K1 : St → Prop, (∀ s', vRem Tryd.prog ty md all (aft all.toList) s' (Awp Tryd.prog c y Q) → K1 s') → vOps Tryd.prog ty md all (bef all.toList) s K1) : Awp Tryd.prog c (.seq (.region id all false) y) Q s := wS tyok md h
theorem uR (md : Option Tmp → Nat) (h : ∀ K1 : St → Prop, (∀ s', vRem Tryd.prog ty md all (aft all.toList) s' (Q .normal) → K1 s') → vOps Tryd.prog ty md all (bef all.toList) s K1) : Awp Tryd.prog c (.region id all false) Q s := wR tyok md h
theorem kS (h : ∀ K1 : St → Prop, (∀ s', vRem Tryd.prog ty (mdL []) all (aft all.toList) s' (Awp Tryd.prog c y Q) → K1 s') → vOps Tryd.prog ty (mdL []) all (bef all.toList) s K1) : Awp Tryd.prog c (.seq (.region id all false) y) Q s := wS tyok _ h
theorem kR (h : ∀ K1 : St → Prop, (∀ s', vRem Tryd.prog ty (mdL []) all (aft all.toList) s' (Q .normal) → K1 s') → vOps Tryd.prog ty (mdL []) all (bef all.toList) s K1) : Awp Tryd.prog c (.region id all false) Q s := wR tyok _ h
theorem uD (id : Nat) (md : Option Tmp → Nat) (E0 : List Nat) (pl : List (Nat × List Nat × List Nat)) (n : Nat) (hn : s.sl.length = n) (hok : drawOk md all n E0 pl = true) (h : ∀ K1 : St → Prop, (∀ s', vRst Tryd.prog ty md all pl s' (Awp Tryd.prog c y Q) → K1 s') → vIdx Tryd.prog ty md all E0 s K1) : Awp Tryd.prog c (.seq (.region id all true) y) Q s := awp_seqD2 tyok (by kernel_rfl) md n hn hok h
theorem uE (id : Nat) (md : Option Tmp → Nat) (E0 : List Nat) (pl : List (Nat × List Nat × List Nat)) (n : Nat) (hn : s.sl.length = n) (hok : drawOk md all n E0 pl = true) (h : ∀ K1 : St → Prop, (∀ s', vRst Tryd.prog ty md all pl s' (Q .normal) → K1 s') → vIdx Tryd.prog ty md all E0 s K1) : Awp Tryd.prog c (.region id all true) Q s := awp_draw2 tyok (by kernel_rfl) md n hn hok h
theorem uF (id : Nat) (md : Option Tmp → Nat) (f : Nat) (E0 : List Nat) (pl : List (Nat × List Nat × List Nat)) (n : Nat) (hn : s.sl.length = n) (hok : drawOkF md all n f E0 pl = true) (h : ∀ K1 : St → Prop, (∀ s', vRst Tryd.prog ty md all pl s' (Awp Tryd.prog c y Q) → K1 s') → vIdx Tryd.prog ty md all (f :: E0) s K1) : Awp Tryd.prog c (.seq (.region id all true) y) Q s := awp_seqF2 tyok (by kernel_rfl) md n hn hok h
theorem uG (id : Nat) (md : Option Tmp → Nat) (f : Nat) (E0 : List Nat) (pl : List (Nat × List Nat × List Nat)) (n : Nat) (hn : s.sl.length = n) (hok : drawOkF md all n f E0 pl = true) (h : ∀ K1 : St → Prop, (∀ s', vRst Tryd.prog ty md all pl s' (Q .normal) → K1 s') → vIdx Tryd.prog ty md all (f :: E0) s K1) : Awp Tryd.prog c (.region id all true) Q s := awp_drawF2 tyok (by kernel_rfl) md n hn hok h
end
end Go.Proofs.YtoleejecmefogaaDoor
