/- The types of this program, as facts. -/
import Derived.Test.YtoleejecmefogaaGreatDoorAvRun
import Derived.Test.YtoleejecmefogaaGreatDoorProg
namespace Go.Proofs.YtoleejecmefogaaGreatDoor
open Go
set_option linter.unusedVariables false
set_option linter.unusedSimpArgs false
noncomputable def ty : Nat → Option TyD := tyd Tryz.prog
theorem tyok : TyOk Tryz.prog ty := fun _ _ h => h
theorem ty1 : ty 1 = some ⟨1, 8, .func, [.v (.nilFunc)], []⟩ := by kernel_rfl
theorem ty2 : ty 2 = some ⟨1, 8, .int .i64, [.v (.int .i64 0)], []⟩ := by kernel_rfl
theorem ty3 : ty 3 = some ⟨1, 8, .int .i64, [.v (.int .i64 0)], []⟩ := by kernel_rfl
theorem ty4 : ty 4 = some ⟨1, 1, .bool, [.v (.bool false)], []⟩ := by kernel_rfl
theorem ty5 : ty 5 = some ⟨1, 1, .int .u8, [.v (.int .u8 0)], []⟩ := by kernel_rfl
theorem ty6 : ty 6 = some ⟨1, 1, .int .u8, [.v (.int .u8 0)], []⟩ := by kernel_rfl
theorem ty9 : ty 9 = some ⟨1, 16, .str, [.v (.string ⟨#[]⟩)], []⟩ := by kernel_rfl
theorem is9 : isStr ty 9 = true := by kernel_rfl
theorem ty22 : ty 22 = some ⟨1, 24, .slice 3, [.v (.slice none 0 0)], []⟩ := by kernel_rfl
theorem el22 : elemD ty 22 = some ⟨1, 8, .int .i64, [.v (.int .i64 0)], []⟩ := by kernel_rfl
theorem ty23 : ty 23 = some ⟨1, 8, .ptr 25, [.v (.pointer none)], []⟩ := by kernel_rfl
theorem ty25 : ty 25 = some ⟨2, 32, .struct [(0, 22), (1, 3)], [.v (.slice none 0 0), .v (.int .i64 0)], []⟩ := by kernel_rfl
theorem sd25 : structD ty 25 = some ⟨2, 32, .struct [(0, 22), (1, 3)], [.v (.slice none 0 0), .v (.int .i64 0)], []⟩ := by kernel_rfl
theorem fd25_0 : fdd ty 25 0 = some (0, ⟨1, 24, .slice 3, [.v (.slice none 0 0)], []⟩) := by kernel_rfl
theorem pl25_0 : places ty 25 0 = some (0, 1) := by kernel_rfl
theorem fd25_1 : fdd ty 25 1 = some (1, ⟨1, 8, .int .i64, [.v (.int .i64 0)], []⟩) := by kernel_rfl
theorem pl25_1 : places ty 25 1 = some (1, 1) := by kernel_rfl
theorem at25 : allTy ty ⟨2, 32, .struct [(0, 22), (1, 3)], [.v (.slice none 0 0), .v (.int .i64 0)], []⟩ = true := by kernel_rfl
theorem ty26 : ty 26 = some ⟨1, 24, .slice 28, [.v (.slice none 0 0)], []⟩ := by kernel_rfl
theorem el26 : elemD ty 26 = some ⟨6, 88, .struct [(0, 3), (1, 9), (2, 3), (3, 3), (4, 26), (5, 22)], [.v (.int .i64 0), .v (.string ⟨#[]⟩), .v (.int .i64 0), .v (.int .i64 0), .v (.slice none 0 0), .v (.slice none 0 0)], []⟩ := by kernel_rfl
theorem ty28 : ty 28 = some ⟨6, 88, .struct [(0, 3), (1, 9), (2, 3), (3, 3), (4, 26), (5, 22)], [.v (.int .i64 0), .v (.string ⟨#[]⟩), .v (.int .i64 0), .v (.int .i64 0), .v (.slice none 0 0), .v (.slice none 0 0)], []⟩ := by kernel_rfl
theorem sd28 : structD ty 28 = some ⟨6, 88, .struct [(0, 3), (1, 9), (2, 3), (3, 3), (4, 26), (5, 22)], [.v (.int .i64 0), .v (.string ⟨#[]⟩), .v (.int .i64 0), .v (.int .i64 0), .v (.slice none 0 0), .v (.slice none 0 0)], []⟩ := by kernel_rfl
theorem fd28_0 : fdd ty 28 0 = some (0, ⟨1, 8, .int .i64, [.v (.int .i64 0)], []⟩) := by kernel_rfl
theorem pl28_0 : places ty 28 0 = some (0, 1) := by kernel_rfl
theorem fd28_1 : fdd ty 28 1 = some (1, ⟨1, 16, .str, [.v (.string ⟨#[]⟩)], []⟩) := by kernel_rfl
theorem pl28_1 : places ty 28 1 = some (1, 1) := by kernel_rfl
theorem fd28_2 : fdd ty 28 2 = some (2, ⟨1, 8, .int .i64, [.v (.int .i64 0)], []⟩) := by kernel_rfl
theorem pl28_2 : places ty 28 2 = some (2, 1) := by kernel_rfl
theorem fd28_3 : fdd ty 28 3 = some (3, ⟨1, 8, .int .i64, [.v (.int .i64 0)], []⟩) := by kernel_rfl
theorem pl28_3 : places ty 28 3 = some (3, 1) := by kernel_rfl
theorem fd28_4 : fdd ty 28 4 = some (4, ⟨1, 24, .slice 28, [.v (.slice none 0 0)], []⟩) := by kernel_rfl
theorem pl28_4 : places ty 28 4 = some (4, 1) := by kernel_rfl
theorem fd28_5 : fdd ty 28 5 = some (5, ⟨1, 24, .slice 3, [.v (.slice none 0 0)], []⟩) := by kernel_rfl
theorem pl28_5 : places ty 28 5 = some (5, 1) := by kernel_rfl
theorem at28 : allTy ty ⟨6, 88, .struct [(0, 3), (1, 9), (2, 3), (3, 3), (4, 26), (5, 22)], [.v (.int .i64 0), .v (.string ⟨#[]⟩), .v (.int .i64 0), .v (.int .i64 0), .v (.slice none 0 0), .v (.slice none 0 0)], []⟩ = true := by kernel_rfl
theorem ty30 : ty 30 = some ⟨1, 8, .func, [.v (.nilFunc)], []⟩ := by kernel_rfl
theorem ty31 : ty 31 = some ⟨1, 8, .int .i64, [.v (.int .i64 0)], []⟩ := by kernel_rfl
theorem ty39 : ty 39 = some ⟨1, 24, .slice 54, [.v (.slice none 0 0)], []⟩ := by kernel_rfl
theorem el39 : elemD ty 39 = some ⟨2, 24, .struct [(0, 9), (1, 3)], [.v (.string ⟨#[]⟩), .v (.int .i64 0)], [.s, .i]⟩ := by kernel_rfl
theorem ty50 : ty 50 = some ⟨1, 24, .slice 59, [.v (.slice none 0 0)], []⟩ := by kernel_rfl
theorem el50 : elemD ty 50 = some ⟨5, 48, .struct [(0, 9), (1, 57), (3, 57)], [.v (.string ⟨#[]⟩), .v (.int .i64 0), .v (.int .i64 0), .v (.int .i64 0), .v (.int .i64 0)], []⟩ := by kernel_rfl
theorem ty54 : ty 54 = some ⟨2, 24, .struct [(0, 9), (1, 3)], [.v (.string ⟨#[]⟩), .v (.int .i64 0)], [.s, .i]⟩ := by kernel_rfl
theorem sd54 : structD ty 54 = some ⟨2, 24, .struct [(0, 9), (1, 3)], [.v (.string ⟨#[]⟩), .v (.int .i64 0)], [.s, .i]⟩ := by kernel_rfl
theorem fd54_0 : fdd ty 54 0 = some (0, ⟨1, 16, .str, [.v (.string ⟨#[]⟩)], []⟩) := by kernel_rfl
theorem pl54_0 : places ty 54 0 = some (0, 1) := by kernel_rfl
theorem fd54_1 : fdd ty 54 1 = some (1, ⟨1, 8, .int .i64, [.v (.int .i64 0)], []⟩) := by kernel_rfl
theorem pl54_1 : places ty 54 1 = some (1, 1) := by kernel_rfl
theorem at54 : allTy ty ⟨2, 24, .struct [(0, 9), (1, 3)], [.v (.string ⟨#[]⟩), .v (.int .i64 0)], [.s, .i]⟩ = true := by kernel_rfl
theorem ty57 : ty 57 = some ⟨2, 16, .struct [(0, 3), (1, 3)], [.v (.int .i64 0), .v (.int .i64 0)], [.i, .i]⟩ := by kernel_rfl
theorem sd57 : structD ty 57 = some ⟨2, 16, .struct [(0, 3), (1, 3)], [.v (.int .i64 0), .v (.int .i64 0)], [.i, .i]⟩ := by kernel_rfl
theorem fd57_0 : fdd ty 57 0 = some (0, ⟨1, 8, .int .i64, [.v (.int .i64 0)], []⟩) := by kernel_rfl
theorem pl57_0 : places ty 57 0 = some (0, 1) := by kernel_rfl
theorem fd57_1 : fdd ty 57 1 = some (1, ⟨1, 8, .int .i64, [.v (.int .i64 0)], []⟩) := by kernel_rfl
theorem pl57_1 : places ty 57 1 = some (1, 1) := by kernel_rfl
theorem at57 : allTy ty ⟨2, 16, .struct [(0, 3), (1, 3)], [.v (.int .i64 0), .v (.int .i64 0)], [.i, .i]⟩ = true := by kernel_rfl
theorem ty59 : ty 59 = some ⟨5, 48, .struct [(0, 9), (1, 57), (3, 57)], [.v (.string ⟨#[]⟩), .v (.int .i64 0), .v (.int .i64 0), .v (.int .i64 0), .v (.int .i64 0)], []⟩ := by kernel_rfl
theorem sd59 : structD ty 59 = some ⟨5, 48, .struct [(0, 9), (1, 57), (3, 57)], [.v (.string ⟨#[]⟩), .v (.int .i64 0), .v (.int .i64 0), .v (.int .i64 0), .v (.int .i64 0)], []⟩ := by kernel_rfl
theorem fd59_0 : fdd ty 59 0 = some (0, ⟨1, 16, .str, [.v (.string ⟨#[]⟩)], []⟩) := by kernel_rfl
theorem pl59_0 : places ty 59 0 = some (0, 1) := by kernel_rfl
theorem fd59_1 : fdd ty 59 1 = some (1, ⟨2, 16, .struct [(0, 3), (1, 3)], [.v (.int .i64 0), .v (.int .i64 0)], [.i, .i]⟩) := by kernel_rfl
theorem pl59_1 : places ty 59 1 = some (1, 2) := by kernel_rfl
theorem fd59_2 : fdd ty 59 2 = some (3, ⟨2, 16, .struct [(0, 3), (1, 3)], [.v (.int .i64 0), .v (.int .i64 0)], [.i, .i]⟩) := by kernel_rfl
theorem pl59_2 : places ty 59 2 = some (3, 2) := by kernel_rfl
theorem at59 : allTy ty ⟨5, 48, .struct [(0, 9), (1, 57), (3, 57)], [.v (.string ⟨#[]⟩), .v (.int .i64 0), .v (.int .i64 0), .v (.int .i64 0), .v (.int .i64 0)], []⟩ = true := by kernel_rfl
theorem ty80 : ty 80 = some ⟨1, 24, .slice 9, [.v (.slice none 0 0)], []⟩ := by kernel_rfl
theorem el80 : elemD ty 80 = some ⟨1, 16, .str, [.v (.string ⟨#[]⟩)], []⟩ := by kernel_rfl
theorem ty86 : ty 86 = some ⟨1, 24, .slice 153, [.v (.slice none 0 0)], []⟩ := by kernel_rfl
theorem el86 : elemD ty 86 = some ⟨3, 32, .struct [(0, 9), (1, 89)], [.v (.string ⟨#[]⟩), .v (.int .i64 0), .v (.int .i64 0)], []⟩ := by kernel_rfl
theorem ty89 : ty 89 = some ⟨2, 16, .struct [(0, 3), (1, 3)], [.v (.int .i64 0), .v (.int .i64 0)], [.i, .i]⟩ := by kernel_rfl
theorem sd89 : structD ty 89 = some ⟨2, 16, .struct [(0, 3), (1, 3)], [.v (.int .i64 0), .v (.int .i64 0)], [.i, .i]⟩ := by kernel_rfl
theorem fd89_0 : fdd ty 89 0 = some (0, ⟨1, 8, .int .i64, [.v (.int .i64 0)], []⟩) := by kernel_rfl
theorem pl89_0 : places ty 89 0 = some (0, 1) := by kernel_rfl
theorem fd89_1 : fdd ty 89 1 = some (1, ⟨1, 8, .int .i64, [.v (.int .i64 0)], []⟩) := by kernel_rfl
theorem pl89_1 : places ty 89 1 = some (1, 1) := by kernel_rfl
theorem at89 : allTy ty ⟨2, 16, .struct [(0, 3), (1, 3)], [.v (.int .i64 0), .v (.int .i64 0)], [.i, .i]⟩ = true := by kernel_rfl
theorem ty93 : ty 93 = some ⟨1, 24, .slice 102, [.v (.slice none 0 0)], []⟩ := by kernel_rfl
theorem el93 : elemD ty 93 = some ⟨4, 48, .struct [(0, 9), (1, 9), (2, 3), (3, 3)], [.v (.string ⟨#[]⟩), .v (.string ⟨#[]⟩), .v (.int .i64 0), .v (.int .i64 0)], [.s, .s, .i, .i]⟩ := by kernel_rfl
theorem ty102 : ty 102 = some ⟨4, 48, .struct [(0, 9), (1, 9), (2, 3), (3, 3)], [.v (.string ⟨#[]⟩), .v (.string ⟨#[]⟩), .v (.int .i64 0), .v (.int .i64 0)], [.s, .s, .i, .i]⟩ := by kernel_rfl
theorem sd102 : structD ty 102 = some ⟨4, 48, .struct [(0, 9), (1, 9), (2, 3), (3, 3)], [.v (.string ⟨#[]⟩), .v (.string ⟨#[]⟩), .v (.int .i64 0), .v (.int .i64 0)], [.s, .s, .i, .i]⟩ := by kernel_rfl
theorem fd102_0 : fdd ty 102 0 = some (0, ⟨1, 16, .str, [.v (.string ⟨#[]⟩)], []⟩) := by kernel_rfl
theorem pl102_0 : places ty 102 0 = some (0, 1) := by kernel_rfl
theorem fd102_1 : fdd ty 102 1 = some (1, ⟨1, 16, .str, [.v (.string ⟨#[]⟩)], []⟩) := by kernel_rfl
theorem pl102_1 : places ty 102 1 = some (1, 1) := by kernel_rfl
theorem fd102_2 : fdd ty 102 2 = some (2, ⟨1, 8, .int .i64, [.v (.int .i64 0)], []⟩) := by kernel_rfl
theorem pl102_2 : places ty 102 2 = some (2, 1) := by kernel_rfl
theorem fd102_3 : fdd ty 102 3 = some (3, ⟨1, 8, .int .i64, [.v (.int .i64 0)], []⟩) := by kernel_rfl
theorem pl102_3 : places ty 102 3 = some (3, 1) := by kernel_rfl
theorem at102 : allTy ty ⟨4, 48, .struct [(0, 9), (1, 9), (2, 3), (3, 3)], [.v (.string ⟨#[]⟩), .v (.string ⟨#[]⟩), .v (.int .i64 0), .v (.int .i64 0)], [.s, .s, .i, .i]⟩ = true := by kernel_rfl
theorem ty113 : ty 113 = some ⟨1, 8, .ptr 28, [.v (.pointer none)], []⟩ := by kernel_rfl
theorem ty123 : ty 123 = some ⟨3, 40, .struct [(0, 3), (1, 39), (2, 3)], [.v (.int .i64 0), .v (.slice none 0 0), .v (.int .i64 0)], []⟩ := by kernel_rfl
theorem sd123 : structD ty 123 = some ⟨3, 40, .struct [(0, 3), (1, 39), (2, 3)], [.v (.int .i64 0), .v (.slice none 0 0), .v (.int .i64 0)], []⟩ := by kernel_rfl
theorem fd123_0 : fdd ty 123 0 = some (0, ⟨1, 8, .int .i64, [.v (.int .i64 0)], []⟩) := by kernel_rfl
theorem pl123_0 : places ty 123 0 = some (0, 1) := by kernel_rfl
theorem fd123_1 : fdd ty 123 1 = some (1, ⟨1, 24, .slice 54, [.v (.slice none 0 0)], []⟩) := by kernel_rfl
theorem pl123_1 : places ty 123 1 = some (1, 1) := by kernel_rfl
theorem fd123_2 : fdd ty 123 2 = some (2, ⟨1, 8, .int .i64, [.v (.int .i64 0)], []⟩) := by kernel_rfl
theorem pl123_2 : places ty 123 2 = some (2, 1) := by kernel_rfl
theorem at123 : allTy ty ⟨3, 40, .struct [(0, 3), (1, 39), (2, 3)], [.v (.int .i64 0), .v (.slice none 0 0), .v (.int .i64 0)], []⟩ = true := by kernel_rfl
theorem ty126 : ty 126 = some ⟨1, 24, .slice 31, [.v (.slice none 0 0)], []⟩ := by kernel_rfl
theorem el126 : elemD ty 126 = some ⟨1, 8, .int .i64, [.v (.int .i64 0)], []⟩ := by kernel_rfl
theorem ty127 : ty 127 = some ⟨1, 8, .map 9 133, [.v (.map none)], []⟩ := by kernel_rfl
theorem mp127 : mapD ty 127 = some ⟨1, 8, .ptr 136, [.v (.pointer none)], []⟩ := by kernel_rfl
theorem ty131 : ty 131 = some ⟨1, 8, .func, [.v (.nilFunc)], []⟩ := by kernel_rfl
theorem ty133 : ty 133 = some ⟨1, 8, .ptr 136, [.v (.pointer none)], []⟩ := by kernel_rfl
theorem ty136 : ty 136 = some ⟨2, 16, .struct [(0, 3), (1, 3)], [.v (.int .i64 0), .v (.int .i64 0)], [.i, .i]⟩ := by kernel_rfl
theorem sd136 : structD ty 136 = some ⟨2, 16, .struct [(0, 3), (1, 3)], [.v (.int .i64 0), .v (.int .i64 0)], [.i, .i]⟩ := by kernel_rfl
theorem fd136_0 : fdd ty 136 0 = some (0, ⟨1, 8, .int .i64, [.v (.int .i64 0)], []⟩) := by kernel_rfl
theorem pl136_0 : places ty 136 0 = some (0, 1) := by kernel_rfl
theorem fd136_1 : fdd ty 136 1 = some (1, ⟨1, 8, .int .i64, [.v (.int .i64 0)], []⟩) := by kernel_rfl
theorem pl136_1 : places ty 136 1 = some (1, 1) := by kernel_rfl
theorem at136 : allTy ty ⟨2, 16, .struct [(0, 3), (1, 3)], [.v (.int .i64 0), .v (.int .i64 0)], [.i, .i]⟩ = true := by kernel_rfl
theorem ty148 : ty 148 = some ⟨1, 8, .map 9 4, [.v (.map none)], []⟩ := by kernel_rfl
theorem mp148 : mapD ty 148 = some ⟨1, 1, .bool, [.v (.bool false)], []⟩ := by kernel_rfl
theorem ty153 : ty 153 = some ⟨3, 32, .struct [(0, 9), (1, 89)], [.v (.string ⟨#[]⟩), .v (.int .i64 0), .v (.int .i64 0)], []⟩ := by kernel_rfl
theorem sd153 : structD ty 153 = some ⟨3, 32, .struct [(0, 9), (1, 89)], [.v (.string ⟨#[]⟩), .v (.int .i64 0), .v (.int .i64 0)], []⟩ := by kernel_rfl
theorem fd153_0 : fdd ty 153 0 = some (0, ⟨1, 16, .str, [.v (.string ⟨#[]⟩)], []⟩) := by kernel_rfl
theorem pl153_0 : places ty 153 0 = some (0, 1) := by kernel_rfl
theorem fd153_1 : fdd ty 153 1 = some (1, ⟨2, 16, .struct [(0, 3), (1, 3)], [.v (.int .i64 0), .v (.int .i64 0)], [.i, .i]⟩) := by kernel_rfl
theorem pl153_1 : places ty 153 1 = some (1, 2) := by kernel_rfl
theorem at153 : allTy ty ⟨3, 32, .struct [(0, 9), (1, 89)], [.v (.string ⟨#[]⟩), .v (.int .i64 0), .v (.int .i64 0)], []⟩ = true := by kernel_rfl
theorem ty155 : ty 155 = some ⟨1, 8, .ptr 160, [.v (.pointer none)], []⟩ := by kernel_rfl
theorem ty160 : ty 160 = some ⟨11, 136, .struct [(0, 123), (3, 89), (5, 3), (6, 93), (7, 93), (8, 3), (9, 3), (10, 4)], [.v (.int .i64 0), .v (.slice none 0 0), .v (.int .i64 0), .v (.int .i64 0), .v (.int .i64 0), .v (.int .i64 0), .v (.slice none 0 0), .v (.slice none 0 0), .v (.int .i64 0), .v (.int .i64 0), .v (.bool false)], []⟩ := by kernel_rfl
theorem sd160 : structD ty 160 = some ⟨11, 136, .struct [(0, 123), (3, 89), (5, 3), (6, 93), (7, 93), (8, 3), (9, 3), (10, 4)], [.v (.int .i64 0), .v (.slice none 0 0), .v (.int .i64 0), .v (.int .i64 0), .v (.int .i64 0), .v (.int .i64 0), .v (.slice none 0 0), .v (.slice none 0 0), .v (.int .i64 0), .v (.int .i64 0), .v (.bool false)], []⟩ := by kernel_rfl
theorem fd160_0 : fdd ty 160 0 = some (0, ⟨3, 40, .struct [(0, 3), (1, 39), (2, 3)], [.v (.int .i64 0), .v (.slice none 0 0), .v (.int .i64 0)], []⟩) := by kernel_rfl
theorem pl160_0 : places ty 160 0 = some (0, 3) := by kernel_rfl
theorem fd160_1 : fdd ty 160 1 = some (3, ⟨2, 16, .struct [(0, 3), (1, 3)], [.v (.int .i64 0), .v (.int .i64 0)], [.i, .i]⟩) := by kernel_rfl
theorem pl160_1 : places ty 160 1 = some (3, 2) := by kernel_rfl
theorem fd160_2 : fdd ty 160 2 = some (5, ⟨1, 8, .int .i64, [.v (.int .i64 0)], []⟩) := by kernel_rfl
theorem pl160_2 : places ty 160 2 = some (5, 1) := by kernel_rfl
theorem fd160_3 : fdd ty 160 3 = some (6, ⟨1, 24, .slice 102, [.v (.slice none 0 0)], []⟩) := by kernel_rfl
theorem pl160_3 : places ty 160 3 = some (6, 1) := by kernel_rfl
theorem fd160_4 : fdd ty 160 4 = some (7, ⟨1, 24, .slice 102, [.v (.slice none 0 0)], []⟩) := by kernel_rfl
theorem pl160_4 : places ty 160 4 = some (7, 1) := by kernel_rfl
theorem fd160_5 : fdd ty 160 5 = some (8, ⟨1, 8, .int .i64, [.v (.int .i64 0)], []⟩) := by kernel_rfl
theorem pl160_5 : places ty 160 5 = some (8, 1) := by kernel_rfl
theorem fd160_6 : fdd ty 160 6 = some (9, ⟨1, 8, .int .i64, [.v (.int .i64 0)], []⟩) := by kernel_rfl
theorem pl160_6 : places ty 160 6 = some (9, 1) := by kernel_rfl
theorem fd160_7 : fdd ty 160 7 = some (10, ⟨1, 1, .bool, [.v (.bool false)], []⟩) := by kernel_rfl
theorem pl160_7 : places ty 160 7 = some (10, 1) := by kernel_rfl
theorem at160 : allTy ty ⟨11, 136, .struct [(0, 123), (3, 89), (5, 3), (6, 93), (7, 93), (8, 3), (9, 3), (10, 4)], [.v (.int .i64 0), .v (.slice none 0 0), .v (.int .i64 0), .v (.int .i64 0), .v (.int .i64 0), .v (.int .i64 0), .v (.slice none 0 0), .v (.slice none 0 0), .v (.int .i64 0), .v (.int .i64 0), .v (.bool false)], []⟩ = true := by kernel_rfl
theorem ty162 : ty 162 = some ⟨1, 8, .func, [.v (.nilFunc)], []⟩ := by kernel_rfl
theorem ty164 : ty 164 = some ⟨1, 24, .slice 127, [.v (.slice none 0 0)], []⟩ := by kernel_rfl
theorem el164 : elemD ty 164 = some ⟨1, 8, .map 9 133, [.v (.map none)], []⟩ := by kernel_rfl
theorem ty166 : ty 166 = some ⟨1, 24, .slice 170, [.v (.slice none 0 0)], []⟩ := by kernel_rfl
theorem el166 : elemD ty 166 = some ⟨5, 56, .struct [(0, 102), (4, 4)], [.v (.string ⟨#[]⟩), .v (.string ⟨#[]⟩), .v (.int .i64 0), .v (.int .i64 0), .v (.bool false)], []⟩ := by kernel_rfl
theorem ty170 : ty 170 = some ⟨5, 56, .struct [(0, 102), (4, 4)], [.v (.string ⟨#[]⟩), .v (.string ⟨#[]⟩), .v (.int .i64 0), .v (.int .i64 0), .v (.bool false)], []⟩ := by kernel_rfl
theorem sd170 : structD ty 170 = some ⟨5, 56, .struct [(0, 102), (4, 4)], [.v (.string ⟨#[]⟩), .v (.string ⟨#[]⟩), .v (.int .i64 0), .v (.int .i64 0), .v (.bool false)], []⟩ := by kernel_rfl
theorem fd170_0 : fdd ty 170 0 = some (0, ⟨4, 48, .struct [(0, 9), (1, 9), (2, 3), (3, 3)], [.v (.string ⟨#[]⟩), .v (.string ⟨#[]⟩), .v (.int .i64 0), .v (.int .i64 0)], [.s, .s, .i, .i]⟩) := by kernel_rfl
theorem pl170_0 : places ty 170 0 = some (0, 4) := by kernel_rfl
theorem fd170_1 : fdd ty 170 1 = some (4, ⟨1, 1, .bool, [.v (.bool false)], []⟩) := by kernel_rfl
theorem pl170_1 : places ty 170 1 = some (4, 1) := by kernel_rfl
theorem at170 : allTy ty ⟨5, 56, .struct [(0, 102), (4, 4)], [.v (.string ⟨#[]⟩), .v (.string ⟨#[]⟩), .v (.int .i64 0), .v (.int .i64 0), .v (.bool false)], []⟩ = true := by kernel_rfl
theorem ty200 : ty 200 = some ⟨1, 8, .func, [.v (.nilFunc)], []⟩ := by kernel_rfl
theorem ty203 : ty 203 = some ⟨1, 8, .struct [(0, 3)], [.v (.int .i64 0)], [.i]⟩ := by kernel_rfl
theorem sd203 : structD ty 203 = some ⟨1, 8, .struct [(0, 3)], [.v (.int .i64 0)], [.i]⟩ := by kernel_rfl
theorem fd203_0 : fdd ty 203 0 = some (0, ⟨1, 8, .int .i64, [.v (.int .i64 0)], []⟩) := by kernel_rfl
theorem pl203_0 : places ty 203 0 = some (0, 1) := by kernel_rfl
theorem at203 : allTy ty ⟨1, 8, .struct [(0, 3)], [.v (.int .i64 0)], [.i]⟩ = true := by kernel_rfl
theorem ty207 : ty 207 = some ⟨1, 8, .ptr 252, [.v (.pointer none)], []⟩ := by kernel_rfl
theorem ty209 : ty 209 = some ⟨1, 8, .ptr 211, [.v (.pointer none)], []⟩ := by kernel_rfl
theorem ty211 : ty 211 = some ⟨2, 32, .struct [(0, 39), (1, 3)], [.v (.slice none 0 0), .v (.int .i64 0)], []⟩ := by kernel_rfl
theorem sd211 : structD ty 211 = some ⟨2, 32, .struct [(0, 39), (1, 3)], [.v (.slice none 0 0), .v (.int .i64 0)], []⟩ := by kernel_rfl
theorem fd211_0 : fdd ty 211 0 = some (0, ⟨1, 24, .slice 54, [.v (.slice none 0 0)], []⟩) := by kernel_rfl
theorem pl211_0 : places ty 211 0 = some (0, 1) := by kernel_rfl
theorem fd211_1 : fdd ty 211 1 = some (1, ⟨1, 8, .int .i64, [.v (.int .i64 0)], []⟩) := by kernel_rfl
theorem pl211_1 : places ty 211 1 = some (1, 1) := by kernel_rfl
theorem at211 : allTy ty ⟨2, 32, .struct [(0, 39), (1, 3)], [.v (.slice none 0 0), .v (.int .i64 0)], []⟩ = true := by kernel_rfl
theorem ty213 : ty 213 = some ⟨1, 8, .ptr 257, [.v (.pointer none)], []⟩ := by kernel_rfl
theorem ty216 : ty 216 = some ⟨1, 8, .ptr 39, [.v (.pointer none)], []⟩ := by kernel_rfl
theorem ty221 : ty 221 = some ⟨1, 24, .slice 93, [.v (.slice none 0 0)], []⟩ := by kernel_rfl
theorem el221 : elemD ty 221 = some ⟨1, 24, .slice 102, [.v (.slice none 0 0)], []⟩ := by kernel_rfl
theorem ty248 : ty 248 = some ⟨1, 8, .ptr 203, [.v (.pointer none)], []⟩ := by kernel_rfl
theorem ty250 : ty 250 = some ⟨1, 24, .slice 207, [.v (.slice none 0 0)], []⟩ := by kernel_rfl
theorem el250 : elemD ty 250 = some ⟨1, 8, .ptr 252, [.v (.pointer none)], []⟩ := by kernel_rfl
theorem ty252 : ty 252 = some ⟨10, 152, .struct [(0, 28), (6, 250), (7, 3), (8, 22), (9, 3)], [.v (.int .i64 0), .v (.string ⟨#[]⟩), .v (.int .i64 0), .v (.int .i64 0), .v (.slice none 0 0), .v (.slice none 0 0), .v (.slice none 0 0), .v (.int .i64 0), .v (.slice none 0 0), .v (.int .i64 0)], []⟩ := by kernel_rfl
theorem sd252 : structD ty 252 = some ⟨10, 152, .struct [(0, 28), (6, 250), (7, 3), (8, 22), (9, 3)], [.v (.int .i64 0), .v (.string ⟨#[]⟩), .v (.int .i64 0), .v (.int .i64 0), .v (.slice none 0 0), .v (.slice none 0 0), .v (.slice none 0 0), .v (.int .i64 0), .v (.slice none 0 0), .v (.int .i64 0)], []⟩ := by kernel_rfl
theorem fd252_0 : fdd ty 252 0 = some (0, ⟨6, 88, .struct [(0, 3), (1, 9), (2, 3), (3, 3), (4, 26), (5, 22)], [.v (.int .i64 0), .v (.string ⟨#[]⟩), .v (.int .i64 0), .v (.int .i64 0), .v (.slice none 0 0), .v (.slice none 0 0)], []⟩) := by kernel_rfl
theorem pl252_0 : places ty 252 0 = some (0, 6) := by kernel_rfl
theorem fd252_1 : fdd ty 252 1 = some (6, ⟨1, 24, .slice 207, [.v (.slice none 0 0)], []⟩) := by kernel_rfl
theorem pl252_1 : places ty 252 1 = some (6, 1) := by kernel_rfl
theorem fd252_2 : fdd ty 252 2 = some (7, ⟨1, 8, .int .i64, [.v (.int .i64 0)], []⟩) := by kernel_rfl
theorem pl252_2 : places ty 252 2 = some (7, 1) := by kernel_rfl
theorem fd252_3 : fdd ty 252 3 = some (8, ⟨1, 24, .slice 3, [.v (.slice none 0 0)], []⟩) := by kernel_rfl
theorem pl252_3 : places ty 252 3 = some (8, 1) := by kernel_rfl
theorem fd252_4 : fdd ty 252 4 = some (9, ⟨1, 8, .int .i64, [.v (.int .i64 0)], []⟩) := by kernel_rfl
theorem pl252_4 : places ty 252 4 = some (9, 1) := by kernel_rfl
theorem at252 : allTy ty ⟨10, 152, .struct [(0, 28), (6, 250), (7, 3), (8, 22), (9, 3)], [.v (.int .i64 0), .v (.string ⟨#[]⟩), .v (.int .i64 0), .v (.int .i64 0), .v (.slice none 0 0), .v (.slice none 0 0), .v (.slice none 0 0), .v (.int .i64 0), .v (.slice none 0 0), .v (.int .i64 0)], []⟩ = true := by kernel_rfl
theorem ty254 : ty 254 = some ⟨1, 8, .func, [.v (.nilFunc)], []⟩ := by kernel_rfl
theorem ty255 : ty 255 = some ⟨1, 24, .slice 213, [.v (.slice none 0 0)], []⟩ := by kernel_rfl
theorem el255 : elemD ty 255 = some ⟨1, 8, .ptr 257, [.v (.pointer none)], []⟩ := by kernel_rfl
theorem ty257 : ty 257 = some ⟨9, 144, .struct [(0, 28), (6, 255), (7, 3), (8, 22)], [.v (.int .i64 0), .v (.string ⟨#[]⟩), .v (.int .i64 0), .v (.int .i64 0), .v (.slice none 0 0), .v (.slice none 0 0), .v (.slice none 0 0), .v (.int .i64 0), .v (.slice none 0 0)], []⟩ := by kernel_rfl
theorem sd257 : structD ty 257 = some ⟨9, 144, .struct [(0, 28), (6, 255), (7, 3), (8, 22)], [.v (.int .i64 0), .v (.string ⟨#[]⟩), .v (.int .i64 0), .v (.int .i64 0), .v (.slice none 0 0), .v (.slice none 0 0), .v (.slice none 0 0), .v (.int .i64 0), .v (.slice none 0 0)], []⟩ := by kernel_rfl
theorem fd257_0 : fdd ty 257 0 = some (0, ⟨6, 88, .struct [(0, 3), (1, 9), (2, 3), (3, 3), (4, 26), (5, 22)], [.v (.int .i64 0), .v (.string ⟨#[]⟩), .v (.int .i64 0), .v (.int .i64 0), .v (.slice none 0 0), .v (.slice none 0 0)], []⟩) := by kernel_rfl
theorem pl257_0 : places ty 257 0 = some (0, 6) := by kernel_rfl
theorem fd257_1 : fdd ty 257 1 = some (6, ⟨1, 24, .slice 213, [.v (.slice none 0 0)], []⟩) := by kernel_rfl
theorem pl257_1 : places ty 257 1 = some (6, 1) := by kernel_rfl
theorem fd257_2 : fdd ty 257 2 = some (7, ⟨1, 8, .int .i64, [.v (.int .i64 0)], []⟩) := by kernel_rfl
theorem pl257_2 : places ty 257 2 = some (7, 1) := by kernel_rfl
theorem fd257_3 : fdd ty 257 3 = some (8, ⟨1, 24, .slice 3, [.v (.slice none 0 0)], []⟩) := by kernel_rfl
theorem pl257_3 : places ty 257 3 = some (8, 1) := by kernel_rfl
theorem at257 : allTy ty ⟨9, 144, .struct [(0, 28), (6, 255), (7, 3), (8, 22)], [.v (.int .i64 0), .v (.string ⟨#[]⟩), .v (.int .i64 0), .v (.int .i64 0), .v (.slice none 0 0), .v (.slice none 0 0), .v (.slice none 0 0), .v (.int .i64 0), .v (.slice none 0 0)], []⟩ = true := by kernel_rfl
theorem ty259 : ty 259 = some ⟨1, 8, .func, [.v (.nilFunc)], []⟩ := by kernel_rfl
set_option maxRecDepth 100000
theorem lemA : type_of% (And.intro (@List.getD_cons_zero.{0}) (And.intro (@List.getD_cons_succ.{0}) (And.intro (@List.set_cons_zero.{0}) (And.intro (@List.set_cons_succ.{0}) (And.intro (@List.length_cons.{0}) (And.intro (@List.length_nil.{0}) (And.intro (@List.map_cons.{0, 0}) (And.intro (@List.map_nil.{0, 0}) (And.intro (@List.append_nil.{0}) (And.intro (@List.nil_append.{0}) (And.intro (@List.cons_append.{0}) (And.intro (@List.all_cons.{0}) (And.intro (@List.all_nil.{0}) (And.intro (@Bool.and_true) (And.intro (@Bool.and_self) (And.intro (@Option.bind_some.{0, 0}) (And.intro (@Option.map_some.{0, 0}) (And.intro (@List.getElem?_toArray.{0}) (And.intro (@List.getElem?_cons_zero.{0}) (And.intro (@List.getElem?_cons_succ.{0}) (And.intro (@true_and) (And.intro (@and_true) (And.intro (@and_self) (And.intro (@Option.some.injEq.{0}) (And.intro (@if_true.{1}) (And.intro (@implies_true.{0}) (And.intro (@implies_true.{1}) (And.intro (@imp_self) (And.intro (@List.toList_toArray.{0}) (And.intro (@Bool.false_eq_true) (And.intro (@Bool.true_eq_false) (And.intro (@false_and) (And.intro (@and_false) (And.intro (@List.filterMap_cons.{0, 0}) (And.intro (@beq_true) (And.intro (@beq_false) (And.intro (@Bool.not_eq_true') (And.intro (@Bool.not_eq_false') (And.intro (@true_implies) (And.intro (@Bool.cond_true_left) (And.intro (@Bool.cond_false_right) (And.intro (@Bool.not_not) (And.intro (@Bool.or_false) (And.intro (@Bool.false_or) (And.intro (@Bool.or_true) (And.intro (@Bool.true_or) (And.intro (@Bool.and_false) (And.intro (@Bool.false_and) (And.intro (@Bool.true_and) (And.intro (@Bool.not_true) (And.intro (@Bool.not_false) (And.intro (@cond_true.{1}) (And.intro (@cond_false.{1}) (And.intro (@upd_same) (And.intro (@List.take_succ_cons.{0}) (And.intro (@List.take_zero.{0}) (And.intro (@List.drop_succ_cons.{0}) (And.intro (@List.drop_zero.{0}) (And.intro (@List.take_nil.{0}) (And.intro (@List.drop_nil.{0}) (And.intro (@List.length_map.{0, 0}) (And.intro (@Int.add_sub_cancel) (And.intro (@List.length_set.{0}) (And.intro (@upd_upd) (And.intro (@Option.isSome_some.{0}) (And.intro (@ne_eq.{1}) (@not_false_eq_true))))))))))))))))))))))))))))))))))))))))))))))))))))))))))))))))))) := And.intro (@List.getD_cons_zero.{0}) (And.intro (@List.getD_cons_succ.{0}) (And.intro (@List.set_cons_zero.{0}) (And.intro (@List.set_cons_succ.{0}) (And.intro (@List.length_cons.{0}) (And.intro (@List.length_nil.{0}) (And.intro (@List.map_cons.{0, 0}) (And.intro (@List.map_nil.{0, 0}) (And.intro (@List.append_nil.{0}) (And.intro (@List.nil_append.{0}) (And.intro (@List.cons_append.{0}) (And.intro (@List.all_cons.{0}) (And.intro (@List.all_nil.{0}) (And.intro (@Bool.and_true) (And.intro (@Bool.and_self) (And.intro (@Option.bind_some.{0, 0}) (And.intro (@Option.map_some.{0, 0}) (And.intro (@List.getElem?_toArray.{0}) (And.intro (@List.getElem?_cons_zero.{0}) (And.intro (@List.getElem?_cons_succ.{0}) (And.intro (@true_and) (And.intro (@and_true) (And.intro (@and_self) (And.intro (@Option.some.injEq.{0}) (And.intro (@if_true.{1}) (And.intro (@implies_true.{0}) (And.intro (@implies_true.{1}) (And.intro (@imp_self) (And.intro (@List.toList_toArray.{0}) (And.intro (@Bool.false_eq_true) (And.intro (@Bool.true_eq_false) (And.intro (@false_and) (And.intro (@and_false) (And.intro (@List.filterMap_cons.{0, 0}) (And.intro (@beq_true) (And.intro (@beq_false) (And.intro (@Bool.not_eq_true') (And.intro (@Bool.not_eq_false') (And.intro (@true_implies) (And.intro (@Bool.cond_true_left) (And.intro (@Bool.cond_false_right) (And.intro (@Bool.not_not) (And.intro (@Bool.or_false) (And.intro (@Bool.false_or) (And.intro (@Bool.or_true) (And.intro (@Bool.true_or) (And.intro (@Bool.and_false) (And.intro (@Bool.false_and) (And.intro (@Bool.true_and) (And.intro (@Bool.not_true) (And.intro (@Bool.not_false) (And.intro (@cond_true.{1}) (And.intro (@cond_false.{1}) (And.intro (@upd_same) (And.intro (@List.take_succ_cons.{0}) (And.intro (@List.take_zero.{0}) (And.intro (@List.drop_succ_cons.{0}) (And.intro (@List.drop_zero.{0}) (And.intro (@List.take_nil.{0}) (And.intro (@List.drop_nil.{0}) (And.intro (@List.length_map.{0, 0}) (And.intro (@Int.add_sub_cancel) (And.intro (@List.length_set.{0}) (And.intro (@upd_upd) (And.intro (@Option.isSome_some.{0}) (And.intro (@ne_eq.{1}) (@not_false_eq_true))))))))))))))))))))))))))))))))))))))))))))))))))))))))))))))))))
theorem lemT : type_of% (And.intro (@ty1) (And.intro (@ty2) (And.intro (@ty3) (And.intro (@ty4) (And.intro (@ty5) (And.intro (@ty6) (And.intro (@ty9) (And.intro (@is9) (And.intro (@ty22) (And.intro (@el22) (And.intro (@ty23) (And.intro (@ty25) (And.intro (@sd25) (And.intro (@fd25_0) (And.intro (@pl25_0) (And.intro (@fd25_1) (And.intro (@pl25_1) (And.intro (@at25) (And.intro (@ty26) (And.intro (@el26) (And.intro (@ty28) (And.intro (@sd28) (And.intro (@fd28_0) (And.intro (@pl28_0) (And.intro (@fd28_1) (And.intro (@pl28_1) (And.intro (@fd28_2) (And.intro (@pl28_2) (And.intro (@fd28_3) (And.intro (@pl28_3) (And.intro (@fd28_4) (And.intro (@pl28_4) (And.intro (@fd28_5) (And.intro (@pl28_5) (And.intro (@at28) (And.intro (@ty30) (And.intro (@ty31) (And.intro (@ty39) (And.intro (@el39) (And.intro (@ty50) (And.intro (@el50) (And.intro (@ty54) (And.intro (@sd54) (And.intro (@fd54_0) (And.intro (@pl54_0) (And.intro (@fd54_1) (And.intro (@pl54_1) (And.intro (@at54) (And.intro (@ty57) (And.intro (@sd57) (And.intro (@fd57_0) (And.intro (@pl57_0) (And.intro (@fd57_1) (And.intro (@pl57_1) (And.intro (@at57) (And.intro (@ty59) (And.intro (@sd59) (And.intro (@fd59_0) (And.intro (@pl59_0) (And.intro (@fd59_1) (And.intro (@pl59_1) (And.intro (@fd59_2) (And.intro (@pl59_2) (And.intro (@at59) (And.intro (@ty80) (And.intro (@el80) (And.intro (@ty86) (And.intro (@el86) (And.intro (@ty89) (And.intro (@sd89) (And.intro (@fd89_0) (And.intro (@pl89_0) (And.intro (@fd89_1) (And.intro (@pl89_1) (And.intro (@at89) (And.intro (@ty93) (And.intro (@el93) (And.intro (@ty102) (And.intro (@sd102) (And.intro (@fd102_0) (And.intro (@pl102_0) (And.intro (@fd102_1) (And.intro (@pl102_1) (And.intro (@fd102_2) (And.intro (@pl102_2) (And.intro (@fd102_3) (And.intro (@pl102_3) (And.intro (@at102) (And.intro (@ty113) (And.intro (@ty123) (And.intro (@sd123) (And.intro (@fd123_0) (And.intro (@pl123_0) (And.intro (@fd123_1) (And.intro (@pl123_1) (And.intro (@fd123_2) (And.intro (@pl123_2) (And.intro (@at123) (And.intro (@ty126) (And.intro (@el126) (And.intro (@ty127) (And.intro (@mp127) (And.intro (@ty131) (And.intro (@ty133) (And.intro (@ty136) (And.intro (@sd136) (And.intro (@fd136_0) (And.intro (@pl136_0) (And.intro (@fd136_1) (And.intro (@pl136_1) (And.intro (@at136) (And.intro (@ty148) (And.intro (@mp148) (And.intro (@ty153) (And.intro (@sd153) (And.intro (@fd153_0) (And.intro (@pl153_0) (And.intro (@fd153_1) (And.intro (@pl153_1) (And.intro (@at153) (And.intro (@ty155) (And.intro (@ty160) (And.intro (@sd160) (And.intro (@fd160_0) (And.intro (@pl160_0) (And.intro (@fd160_1) (And.intro (@pl160_1) (And.intro (@fd160_2) (And.intro (@pl160_2) (And.intro (@fd160_3) (And.intro (@pl160_3) (And.intro (@fd160_4) (And.intro (@pl160_4) (And.intro (@fd160_5) (And.intro (@pl160_5) (And.intro (@fd160_6) (And.intro (@pl160_6) (And.intro (@fd160_7) (And.intro (@pl160_7) (And.intro (@at160) (And.intro (@ty162) (And.intro (@ty164) (And.intro (@el164) (And.intro (@ty166) (And.intro (@el166) (And.intro (@ty170) (And.intro (@sd170) (And.intro (@fd170_0) (And.intro (@pl170_0) (And.intro (@fd170_1) (And.intro (@pl170_1) (And.intro (@at170) (And.intro (@ty200) (And.intro (@ty203) (And.intro (@sd203) (And.intro (@fd203_0) (And.intro (@pl203_0) (And.intro (@at203) (And.intro (@ty207) (And.intro (@ty209) (And.intro (@ty211) (And.intro (@sd211) (And.intro (@fd211_0) (And.intro (@pl211_0) (And.intro (@fd211_1) (And.intro (@pl211_1) (And.intro (@at211) (And.intro (@ty213) (And.intro (@ty216) (And.intro (@ty221) (And.intro (@el221) (And.intro (@ty248) (And.intro (@ty250) (And.intro (@el250) (And.intro (@ty252) (And.intro (@sd252) (And.intro (@fd252_0) (And.intro (@pl252_0) (And.intro (@fd252_1) (And.intro (@pl252_1) (And.intro (@fd252_2) (And.intro (@pl252_2) (And.intro (@fd252_3) (And.intro (@pl252_3) (And.intro (@fd252_4) (And.intro (@pl252_4) (And.intro (@at252) (And.intro (@ty254) (And.intro (@ty255) (And.intro (@el255) (And.intro (@ty257) (And.intro (@sd257) (And.intro (@fd257_0) (And.intro (@pl257_0) (And.intro (@fd257_1) (And.intro (@pl257_1) (And.intro (@fd257_2) (And.intro (@pl257_2) (And.intro (@fd257_3) (And.intro (@pl257_3) (And.intro (@at257) (@ty259)))))))))))))))))))))))))))))))))))))))))))))))))))))))))))))))))))))))))))))))))))))))))))))))))))))))))))))))))))))))))))))))))))))))))))))))))))))))))))))))))))))))))))))))))))))))))))))))))))))))))) := And.intro (@ty1) (And.intro (@ty2) (And.intro (@ty3) (And.intro (@ty4) (And.intro (@ty5) (And.intro (@ty6) (And.intro (@ty9) (And.intro (@is9) (And.intro (@ty22) (And.intro (@el22) (And.intro (@ty23) (And.intro (@ty25) (And.intro (@sd25) (And.intro (@fd25_0) (And.intro (@pl25_0) (And.intro (@fd25_1) (And.intro (@pl25_1) (And.intro (@at25) (And.intro (@ty26) (And.intro (@el26) (And.intro (@ty28) (And.intro (@sd28) (And.intro (@fd28_0) (And.intro (@pl28_0) (And.intro (@fd28_1) (And.intro (@pl28_1) (And.intro (@fd28_2) (And.intro (@pl28_2) (And.intro (@fd28_3) (And.intro (@pl28_3) (And.intro (@fd28_4) (And.intro (@pl28_4) (And.intro (@fd28_5) (And.intro (@pl28_5) (And.intro (@at28) (And.intro (@ty30) (And.intro (@ty31) (And.intro (@ty39) (And.intro (@el39) (And.intro (@ty50) (And.intro (@el50) (And.intro (@ty54) (And.intro (@sd54) (And.intro (@fd54_0) (And.intro (@pl54_0) (And.intro (@fd54_1) (And.intro (@pl54_1) (And.intro (@at54) (And.intro (@ty57) (And.intro (@sd57) (And.intro (@fd57_0) (And.intro (@pl57_0) (And.intro (@fd57_1) (And.intro (@pl57_1) (And.intro (@at57) (And.intro (@ty59) (And.intro (@sd59) (And.intro (@fd59_0) (And.intro (@pl59_0) (And.intro (@fd59_1) (And.intro (@pl59_1) (And.intro (@fd59_2) (And.intro (@pl59_2) (And.intro (@at59) (And.intro (@ty80) (And.intro (@el80) (And.intro (@ty86) (And.intro (@el86) (And.intro (@ty89) (And.intro (@sd89) (And.intro (@fd89_0) (And.intro (@pl89_0) (And.intro (@fd89_1) (And.intro (@pl89_1) (And.intro (@at89) (And.intro (@ty93) (And.intro (@el93) (And.intro (@ty102) (And.intro (@sd102) (And.intro (@fd102_0) (And.intro (@pl102_0) (And.intro (@fd102_1) (And.intro (@pl102_1) (And.intro (@fd102_2) (And.intro (@pl102_2) (And.intro (@fd102_3) (And.intro (@pl102_3) (And.intro (@at102) (And.intro (@ty113) (And.intro (@ty123) (And.intro (@sd123) (And.intro (@fd123_0) (And.intro (@pl123_0) (And.intro (@fd123_1) (And.intro (@pl123_1) (And.intro (@fd123_2) (And.intro (@pl123_2) (And.intro (@at123) (And.intro (@ty126) (And.intro (@el126) (And.intro (@ty127) (And.intro (@mp127) (And.intro (@ty131) (And.intro (@ty133) (And.intro (@ty136) (And.intro (@sd136) (And.intro (@fd136_0) (And.intro (@pl136_0) (And.intro (@fd136_1) (And.intro (@pl136_1) (And.intro (@at136) (And.intro (@ty148) (And.intro (@mp148) (And.intro (@ty153) (And.intro (@sd153) (And.intro (@fd153_0) (And.intro (@pl153_0) (And.intro (@fd153_1) (And.intro (@pl153_1) (And.intro (@at153) (And.intro (@ty155) (And.intro (@ty160) (And.intro (@sd160) (And.intro (@fd160_0) (And.intro (@pl160_0) (And.intro (@fd160_1) (And.intro (@pl160_1) (And.intro (@fd160_2) (And.intro (@pl160_2) (And.intro (@fd160_3) (And.intro (@pl160_3) (And.intro (@fd160_4) (And.intro (@pl160_4) (And.intro (@fd160_5) (And.intro (@pl160_5) (And.intro (@fd160_6) (And.intro (@pl160_6) (And.intro (@fd160_7) (And.intro (@pl160_7) (And.intro (@at160) (And.intro (@ty162) (And.intro (@ty164) (And.intro (@el164) (And.intro (@ty166) (And.intro (@el166) (And.intro (@ty170) (And.intro (@sd170) (And.intro (@fd170_0) (And.intro (@pl170_0) (And.intro (@fd170_1) (And.intro (@pl170_1) (And.intro (@at170) (And.intro (@ty200) (And.intro (@ty203) (And.intro (@sd203) (And.intro (@fd203_0) (And.intro (@pl203_0) (And.intro (@at203) (And.intro (@ty207) (And.intro (@ty209) (And.intro (@ty211) (And.intro (@sd211) (And.intro (@fd211_0) (And.intro (@pl211_0) (And.intro (@fd211_1) (And.intro (@pl211_1) (And.intro (@at211) (And.intro (@ty213) (And.intro (@ty216) (And.intro (@ty221) (And.intro (@el221) (And.intro (@ty248) (And.intro (@ty250) (And.intro (@el250) (And.intro (@ty252) (And.intro (@sd252) (And.intro (@fd252_0) (And.intro (@pl252_0) (And.intro (@fd252_1) (And.intro (@pl252_1) (And.intro (@fd252_2) (And.intro (@pl252_2) (And.intro (@fd252_3) (And.intro (@pl252_3) (And.intro (@fd252_4) (And.intro (@pl252_4) (And.intro (@at252) (And.intro (@ty254) (And.intro (@ty255) (And.intro (@el255) (And.intro (@ty257) (And.intro (@sd257) (And.intro (@fd257_0) (And.intro (@pl257_0) (And.intro (@fd257_1) (And.intro (@pl257_1) (And.intro (@fd257_2) (And.intro (@pl257_2) (And.intro (@fd257_3) (And.intro (@pl257_3) (And.intro (@at257) (@ty259)))))))))))))))))))))))))))))))))))))))))))))))))))))))))))))))))))))))))))))))))))))))))))))))))))))))))))))))))))))))))))))))))))))))))))))))))))))))))))))))))))))))))))))))))))))))))))))))))))))))))
attribute [go_sem] vOps retQ resV resL res1 Nat.zero_add St.keep keepL_nil keepL_c1 keepL_c0 keepL_jnk cutLoc jnk_zero jnk_jnk getD_jnk_lt getD_jnk_ge set_jnk_lt set_jnk_ge gStep condG qV binV vV iV sV bV nV arV pickE joinA joinOk isOpt vEff binE vBin iBin sBin arith nilOf nBin boolOk okEqs okEqs1 eqL convI storeE newE sliceE appE lenE minE biE bndE cellsAt ldOk ld TyD.isAgg AV.shift AV.isAddr AV.cellsB AV.noLoc rowOf litRow fillA opS uside unw evL cv St.put opsOf Value.oneCell' vIdx stepI vRest reL reI mdL splice bef aft isCallB isCallV lookE updE lookR zeroA aggK cutE appS elemI rangeE nextE entryE lemA lemT
section
variable {c : Cx} {Q : Exit → St → Prop} {s : St} {all : Array Oper} {id : Nat} {y : Code}
theorem gE {f : Nat} {fn : Func} {code : Code} {args : List AV} {h : Hp} {R : AV → Hp → Prop} (hf : Tryz.prog.funcs[f]? = some fn) (hb : fn.body = some code) (hok : fnOk Tryz.prog f = true) (m : Nat) (hm : fn.ntmps - args.length = m) (hw : ∀ c : Cx, Awp Tryz.prog c code (retQ ty fn.results.toList R) ⟨args ++ jnk m [], [], h⟩) : ACalls Tryz.prog f args h R := acalls_in tyok hf hb hok m hm hw
theorem rI {rs : List ResultVar} {R : AV → Hp → Prop} (h : retQ ty rs R .ret s) : retQ ty rs R .ret s := h
theorem gO {A B : Prop} {t : Bool} [h : Stp Tryz.prog ty A B t] (ht : t = true) (hb : B) : A := h.sound ht hb
theorem gQ {A B : Prop} {t : Bool} [h : Stq Tryz.prog ty A B t] (ht : t = true) (hb : B) : A := h.sound ht hb
theorem gR {A : Prop} {N : St → Prop} {V : (St → Prop) → Prop} [h : Str Tryz.prog ty (mdL []) A N V] (hb : ∀ K1 : St → Prop, (∀ s', N s' → K1 s') → V K1) : A := h.sound tyok hb
theorem gM (md : Option Tmp → Nat) {A : Prop} {N : St → Prop} {V : (St → Prop) → Prop} [h : Str Tryz.prog ty md A N V] (hb : ∀ K1 : St → Prop, (∀ s', N s' → K1 s') → V K1) : A := h.sound tyok hb
theorem uS (md : Option Tmp → Nat) (h : ∀ K1 : St → Prop, (∀ s', vRem Tryz.prog ty md all (aft all.toList) s' (Awp Tryz.prog c y Q) → K1 s') → vOps Tryz.prog ty md all (bef all.toList) s K1) : Awp Tryz.prog c (.seq (.region id all false) y) Q s := wS tyok md h
theorem uR (md : Option Tmp → Nat) (h : ∀ K1 : St → Prop, (∀ s', vRem Tryz.prog ty md all (aft all.toList) s' (Q .normal) → K1 s') → vOps Tryz.prog ty md all (bef all.toList) s K1) : Awp Tryz.prog c (.region id all false) Q s := wR tyok md h
theorem kS (h : ∀ K1 : St → Prop, (∀ s', vRem Tryz.prog ty (mdL []) all (aft all.toList) s' (Awp Tryz.prog c y Q) → K1 s') → vOps Tryz.prog ty (mdL []) all (bef all.toList) s K1) : Awp Tryz.prog c (.seq (.region id all false) y) Q s := wS tyok _ h
theorem kR (h : ∀ K1 : St → Prop, (∀ s', vRem Tryz.prog ty (mdL []) all (aft all.toList) s' (Q .normal) → K1 s') → vOps Tryz.prog ty (mdL []) all (bef all.toList) s K1) : Awp Tryz.prog c (.region id all false) Q s := wR tyok _ h
theorem uD (id : Nat) (md : Option Tmp → Nat) (E0 : List Nat) (pl : List (Nat × List Nat × List Nat)) (n : Nat) (hn : s.sl.length = n) (hok : drawOk md all n E0 pl = true) (h : ∀ K1 : St → Prop, (∀ s', vRst Tryz.prog ty md all pl s' (Awp Tryz.prog c y Q) → K1 s') → vIdx Tryz.prog ty md all E0 s K1) : Awp Tryz.prog c (.seq (.region id all true) y) Q s := awp_seqD2 tyok (by kernel_rfl) md n hn hok h
theorem uE (id : Nat) (md : Option Tmp → Nat) (E0 : List Nat) (pl : List (Nat × List Nat × List Nat)) (n : Nat) (hn : s.sl.length = n) (hok : drawOk md all n E0 pl = true) (h : ∀ K1 : St → Prop, (∀ s', vRst Tryz.prog ty md all pl s' (Q .normal) → K1 s') → vIdx Tryz.prog ty md all E0 s K1) : Awp Tryz.prog c (.region id all true) Q s := awp_draw2 tyok (by kernel_rfl) md n hn hok h
theorem uF (id : Nat) (md : Option Tmp → Nat) (f : Nat) (E0 : List Nat) (pl : List (Nat × List Nat × List Nat)) (n : Nat) (hn : s.sl.length = n) (hok : drawOkF md all n f E0 pl = true) (h : ∀ K1 : St → Prop, (∀ s', vRst Tryz.prog ty md all pl s' (Awp Tryz.prog c y Q) → K1 s') → vIdx Tryz.prog ty md all (f :: E0) s K1) : Awp Tryz.prog c (.seq (.region id all true) y) Q s := awp_seqF2 tyok (by kernel_rfl) md n hn hok h
end
end Go.Proofs.YtoleejecmefogaaGreatDoor

