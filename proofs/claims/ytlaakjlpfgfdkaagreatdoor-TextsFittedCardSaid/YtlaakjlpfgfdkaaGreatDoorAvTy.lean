/- The types of this program, as facts. -/
import Derived.Test.YtlaakjlpfgfdkaaGreatDoorAvRun
import Derived.Test.YtlaakjlpfgfdkaaGreatDoorProg
namespace Go.Proofs.YtlaakjlpfgfdkaaGreatDoor
open Go
set_option linter.unusedVariables false
set_option linter.unusedSimpArgs false
noncomputable def ty : Nat → Option TyD := tyd Tryz.prog
theorem tyok : TyOk Tryz.prog ty := fun _ _ h => h
theorem ty1 : ty 1 = some ⟨1, 8, .func, [.v (.nilFunc)], []⟩ := by kernel_rfl
theorem ty2 : ty 2 = some ⟨1, 8, .int .i64, [.v (.int .i64 0)], []⟩ := by kernel_rfl
theorem ty3 : ty 3 = some ⟨1, 8, .int .i64, [.v (.int .i64 0)], []⟩ := by kernel_rfl
theorem ty4 : ty 4 = some ⟨1, 1, .bool, [.v (.bool false)], []⟩ := by kernel_rfl
theorem ty5 : ty 5 = some ⟨1, 1, .int .u8, [.v (.int .u8 0)], []⟩ := by kernel_rfl
theorem ty6 : ty 6 = some ⟨1, 1, .int .u8, [.v (.int .u8 0)], []⟩ := by kernel_rfl
theorem ty8 : ty 8 = some ⟨4, 24, .struct [(0, 2), (1, 3), (2, 4), (3, 6)], [.v (.int .i64 0), .v (.int .i64 0), .v (.bool false), .v (.int .u8 0)], [.i, .i, .b, .i]⟩ := by kernel_rfl
theorem sd8 : structD ty 8 = some ⟨4, 24, .struct [(0, 2), (1, 3), (2, 4), (3, 6)], [.v (.int .i64 0), .v (.int .i64 0), .v (.bool false), .v (.int .u8 0)], [.i, .i, .b, .i]⟩ := by kernel_rfl
theorem fd8_0 : fdd ty 8 0 = some (0, ⟨1, 8, .int .i64, [.v (.int .i64 0)], []⟩) := by kernel_rfl
theorem pl8_0 : places ty 8 0 = some (0, 1) := by kernel_rfl
theorem fd8_1 : fdd ty 8 1 = some (1, ⟨1, 8, .int .i64, [.v (.int .i64 0)], []⟩) := by kernel_rfl
theorem pl8_1 : places ty 8 1 = some (1, 1) := by kernel_rfl
theorem fd8_2 : fdd ty 8 2 = some (2, ⟨1, 1, .bool, [.v (.bool false)], []⟩) := by kernel_rfl
theorem pl8_2 : places ty 8 2 = some (2, 1) := by kernel_rfl
theorem fd8_3 : fdd ty 8 3 = some (3, ⟨1, 1, .int .u8, [.v (.int .u8 0)], []⟩) := by kernel_rfl
theorem pl8_3 : places ty 8 3 = some (3, 1) := by kernel_rfl
theorem at8 : allTy ty ⟨4, 24, .struct [(0, 2), (1, 3), (2, 4), (3, 6)], [.v (.int .i64 0), .v (.int .i64 0), .v (.bool false), .v (.int .u8 0)], [.i, .i, .b, .i]⟩ = true := by kernel_rfl
theorem ty9 : ty 9 = some ⟨1, 16, .str, [.v (.string ⟨#[]⟩)], []⟩ := by kernel_rfl
theorem is9 : isStr ty 9 = true := by kernel_rfl
theorem ty12 : ty 12 = some ⟨1, 8, .int .u64, [.v (.int .u64 0)], []⟩ := by kernel_rfl
theorem ty21 : ty 21 = some ⟨1, 4, .int .i32, [.v (.int .i32 0)], []⟩ := by kernel_rfl
theorem ty22 : ty 22 = some ⟨1, 24, .slice 3, [.v (.slice none 0 0)], []⟩ := by kernel_rfl
theorem el22 : elemD ty 22 = some ⟨1, 8, .int .i64, [.v (.int .i64 0)], []⟩ := by kernel_rfl
theorem ty23 : ty 23 = some ⟨1, 8, .ptr 25, [.v (.pointer none)], []⟩ := by kernel_rfl
theorem ty25 : ty 25 = some ⟨2, 32, .struct [(0, 22), (1, 3)], [.v (.slice none 0 0), .v (.int .i64 0)], []⟩ := by kernel_rfl
theorem sd25 : structD ty 25 = some ⟨2, 32, .struct [(0, 22), (1, 3)], [.v (.slice none 0 0), .v (.int .i64 0)], []⟩ := by kernel_rfl
theorem fd25_0 : fdd ty 25 0 = some (0, ⟨1, 24, .slice 3, [.v (.slice none 0 0)], []⟩) := by kernel_rfl
theorem pl25_0 : places ty 25 0 = some (0, 1) := by kernel_rfl
theorem fd25_1 : fdd ty 25 1 = some (1, ⟨1, 8, .int .i64, [.v (.int .i64 0)], []⟩) := by kernel_rfl
theorem pl25_1 : places ty 25 1 = some (1, 1) := by kernel_rfl
theorem at25 : allTy ty ⟨2, 32, .struct [(0, 22), (1, 3)], [.v (.slice none 0 0), .v (.int .i64 0)], []⟩ = true := by kernel_rfl
theorem ty26 : ty 26 = some ⟨1, 24, .slice 68, [.v (.slice none 0 0)], []⟩ := by kernel_rfl
theorem el26 : elemD ty 26 = some ⟨3, 24, .struct [(0, 3), (1, 3), (2, 3)], [.v (.int .i64 0), .v (.int .i64 0), .v (.int .i64 0)], [.i, .i, .i]⟩ := by kernel_rfl
theorem ty28 : ty 28 = some ⟨4, 56, .struct [(0, 9), (1, 3), (2, 3), (3, 26)], [.v (.string ⟨#[]⟩), .v (.int .i64 0), .v (.int .i64 0), .v (.slice none 0 0)], []⟩ := by kernel_rfl
theorem sd28 : structD ty 28 = some ⟨4, 56, .struct [(0, 9), (1, 3), (2, 3), (3, 26)], [.v (.string ⟨#[]⟩), .v (.int .i64 0), .v (.int .i64 0), .v (.slice none 0 0)], []⟩ := by kernel_rfl
theorem fd28_0 : fdd ty 28 0 = some (0, ⟨1, 16, .str, [.v (.string ⟨#[]⟩)], []⟩) := by kernel_rfl
theorem pl28_0 : places ty 28 0 = some (0, 1) := by kernel_rfl
theorem fd28_1 : fdd ty 28 1 = some (1, ⟨1, 8, .int .i64, [.v (.int .i64 0)], []⟩) := by kernel_rfl
theorem pl28_1 : places ty 28 1 = some (1, 1) := by kernel_rfl
theorem fd28_2 : fdd ty 28 2 = some (2, ⟨1, 8, .int .i64, [.v (.int .i64 0)], []⟩) := by kernel_rfl
theorem pl28_2 : places ty 28 2 = some (2, 1) := by kernel_rfl
theorem fd28_3 : fdd ty 28 3 = some (3, ⟨1, 24, .slice 68, [.v (.slice none 0 0)], []⟩) := by kernel_rfl
theorem pl28_3 : places ty 28 3 = some (3, 1) := by kernel_rfl
theorem at28 : allTy ty ⟨4, 56, .struct [(0, 9), (1, 3), (2, 3), (3, 26)], [.v (.string ⟨#[]⟩), .v (.int .i64 0), .v (.int .i64 0), .v (.slice none 0 0)], []⟩ = true := by kernel_rfl
theorem ty32 : ty 32 = some ⟨1, 8, .int .i64, [.v (.int .i64 0)], []⟩ := by kernel_rfl
theorem ty37 : ty 37 = some ⟨1, 24, .slice 9, [.v (.slice none 0 0)], []⟩ := by kernel_rfl
theorem el37 : elemD ty 37 = some ⟨1, 16, .str, [.v (.string ⟨#[]⟩)], []⟩ := by kernel_rfl
theorem ty50 : ty 50 = some ⟨1, 24, .slice 28, [.v (.slice none 0 0)], []⟩ := by kernel_rfl
theorem el50 : elemD ty 50 = some ⟨4, 56, .struct [(0, 9), (1, 3), (2, 3), (3, 26)], [.v (.string ⟨#[]⟩), .v (.int .i64 0), .v (.int .i64 0), .v (.slice none 0 0)], []⟩ := by kernel_rfl
theorem ty68 : ty 68 = some ⟨3, 24, .struct [(0, 3), (1, 3), (2, 3)], [.v (.int .i64 0), .v (.int .i64 0), .v (.int .i64 0)], [.i, .i, .i]⟩ := by kernel_rfl
theorem sd68 : structD ty 68 = some ⟨3, 24, .struct [(0, 3), (1, 3), (2, 3)], [.v (.int .i64 0), .v (.int .i64 0), .v (.int .i64 0)], [.i, .i, .i]⟩ := by kernel_rfl
theorem fd68_0 : fdd ty 68 0 = some (0, ⟨1, 8, .int .i64, [.v (.int .i64 0)], []⟩) := by kernel_rfl
theorem pl68_0 : places ty 68 0 = some (0, 1) := by kernel_rfl
theorem fd68_1 : fdd ty 68 1 = some (1, ⟨1, 8, .int .i64, [.v (.int .i64 0)], []⟩) := by kernel_rfl
theorem pl68_1 : places ty 68 1 = some (1, 1) := by kernel_rfl
theorem fd68_2 : fdd ty 68 2 = some (2, ⟨1, 8, .int .i64, [.v (.int .i64 0)], []⟩) := by kernel_rfl
theorem pl68_2 : places ty 68 2 = some (2, 1) := by kernel_rfl
theorem at68 : allTy ty ⟨3, 24, .struct [(0, 3), (1, 3), (2, 3)], [.v (.int .i64 0), .v (.int .i64 0), .v (.int .i64 0)], [.i, .i, .i]⟩ = true := by kernel_rfl
theorem ty71 : ty 71 = some ⟨1, 8, .ptr 74, [.v (.pointer none)], []⟩ := by kernel_rfl
theorem ty72 : ty 72 = some ⟨1, 24, .slice 5, [.v (.slice none 0 0)], []⟩ := by kernel_rfl
theorem el72 : elemD ty 72 = some ⟨1, 1, .int .u8, [.v (.int .u8 0)], []⟩ := by kernel_rfl
theorem ty74 : ty 74 = some ⟨2, 32, .struct [(0, 71), (1, 72)], [.v (.pointer none), .v (.slice none 0 0)], []⟩ := by kernel_rfl
theorem sd74 : structD ty 74 = some ⟨2, 32, .struct [(0, 71), (1, 72)], [.v (.pointer none), .v (.slice none 0 0)], []⟩ := by kernel_rfl
theorem fd74_0 : fdd ty 74 0 = some (0, ⟨1, 8, .ptr 74, [.v (.pointer none)], []⟩) := by kernel_rfl
theorem pl74_0 : places ty 74 0 = some (0, 1) := by kernel_rfl
theorem fd74_1 : fdd ty 74 1 = some (1, ⟨1, 24, .slice 5, [.v (.slice none 0 0)], []⟩) := by kernel_rfl
theorem pl74_1 : places ty 74 1 = some (1, 1) := by kernel_rfl
theorem at74 : allTy ty ⟨2, 32, .struct [(0, 71), (1, 72)], [.v (.pointer none), .v (.slice none 0 0)], []⟩ = true := by kernel_rfl
theorem ty77 : ty 77 = some ⟨1, 16, .iface, [.v (.nilIface)], []⟩ := by kernel_rfl
theorem ty80 : ty 80 = some ⟨1, 8, .func, [.v (.nilFunc)], []⟩ := by kernel_rfl
theorem ty86 : ty 86 = some ⟨1, 24, .slice 32, [.v (.slice none 0 0)], []⟩ := by kernel_rfl
theorem el86 : elemD ty 86 = some ⟨1, 8, .int .i64, [.v (.int .i64 0)], []⟩ := by kernel_rfl
theorem ty88 : ty 88 = some ⟨1, 24, .slice 91, [.v (.slice none 0 0)], []⟩ := by kernel_rfl
theorem el88 : elemD ty 88 = some ⟨1, 24, .slice 90, [.v (.slice none 0 0)], []⟩ := by kernel_rfl
theorem ty90 : ty 90 = some ⟨6, 80, .struct [(0, 9), (1, 3), (2, 9), (3, 3), (4, 4), (5, 88)], [.v (.string ⟨#[]⟩), .v (.int .i64 0), .v (.string ⟨#[]⟩), .v (.int .i64 0), .v (.bool false), .v (.slice none 0 0)], []⟩ := by kernel_rfl
theorem sd90 : structD ty 90 = some ⟨6, 80, .struct [(0, 9), (1, 3), (2, 9), (3, 3), (4, 4), (5, 88)], [.v (.string ⟨#[]⟩), .v (.int .i64 0), .v (.string ⟨#[]⟩), .v (.int .i64 0), .v (.bool false), .v (.slice none 0 0)], []⟩ := by kernel_rfl
theorem fd90_0 : fdd ty 90 0 = some (0, ⟨1, 16, .str, [.v (.string ⟨#[]⟩)], []⟩) := by kernel_rfl
theorem pl90_0 : places ty 90 0 = some (0, 1) := by kernel_rfl
theorem fd90_1 : fdd ty 90 1 = some (1, ⟨1, 8, .int .i64, [.v (.int .i64 0)], []⟩) := by kernel_rfl
theorem pl90_1 : places ty 90 1 = some (1, 1) := by kernel_rfl
theorem fd90_2 : fdd ty 90 2 = some (2, ⟨1, 16, .str, [.v (.string ⟨#[]⟩)], []⟩) := by kernel_rfl
theorem pl90_2 : places ty 90 2 = some (2, 1) := by kernel_rfl
theorem fd90_3 : fdd ty 90 3 = some (3, ⟨1, 8, .int .i64, [.v (.int .i64 0)], []⟩) := by kernel_rfl
theorem pl90_3 : places ty 90 3 = some (3, 1) := by kernel_rfl
theorem fd90_4 : fdd ty 90 4 = some (4, ⟨1, 1, .bool, [.v (.bool false)], []⟩) := by kernel_rfl
theorem pl90_4 : places ty 90 4 = some (4, 1) := by kernel_rfl
theorem fd90_5 : fdd ty 90 5 = some (5, ⟨1, 24, .slice 91, [.v (.slice none 0 0)], []⟩) := by kernel_rfl
theorem pl90_5 : places ty 90 5 = some (5, 1) := by kernel_rfl
theorem at90 : allTy ty ⟨6, 80, .struct [(0, 9), (1, 3), (2, 9), (3, 3), (4, 4), (5, 88)], [.v (.string ⟨#[]⟩), .v (.int .i64 0), .v (.string ⟨#[]⟩), .v (.int .i64 0), .v (.bool false), .v (.slice none 0 0)], []⟩ = true := by kernel_rfl
theorem ty91 : ty 91 = some ⟨1, 24, .slice 90, [.v (.slice none 0 0)], []⟩ := by kernel_rfl
theorem el91 : elemD ty 91 = some ⟨6, 80, .struct [(0, 9), (1, 3), (2, 9), (3, 3), (4, 4), (5, 88)], [.v (.string ⟨#[]⟩), .v (.int .i64 0), .v (.string ⟨#[]⟩), .v (.int .i64 0), .v (.bool false), .v (.slice none 0 0)], []⟩ := by kernel_rfl
theorem ty94 : ty 94 = some ⟨1, 24, .slice 96, [.v (.slice none 0 0)], []⟩ := by kernel_rfl
theorem el94 : elemD ty 94 = some ⟨3, 24, .struct [(0, 3), (1, 3), (2, 3)], [.v (.int .i64 0), .v (.int .i64 0), .v (.int .i64 0)], [.i, .i, .i]⟩ := by kernel_rfl
theorem ty96 : ty 96 = some ⟨3, 24, .struct [(0, 3), (1, 3), (2, 3)], [.v (.int .i64 0), .v (.int .i64 0), .v (.int .i64 0)], [.i, .i, .i]⟩ := by kernel_rfl
theorem sd96 : structD ty 96 = some ⟨3, 24, .struct [(0, 3), (1, 3), (2, 3)], [.v (.int .i64 0), .v (.int .i64 0), .v (.int .i64 0)], [.i, .i, .i]⟩ := by kernel_rfl
theorem fd96_0 : fdd ty 96 0 = some (0, ⟨1, 8, .int .i64, [.v (.int .i64 0)], []⟩) := by kernel_rfl
theorem pl96_0 : places ty 96 0 = some (0, 1) := by kernel_rfl
theorem fd96_1 : fdd ty 96 1 = some (1, ⟨1, 8, .int .i64, [.v (.int .i64 0)], []⟩) := by kernel_rfl
theorem pl96_1 : places ty 96 1 = some (1, 1) := by kernel_rfl
theorem fd96_2 : fdd ty 96 2 = some (2, ⟨1, 8, .int .i64, [.v (.int .i64 0)], []⟩) := by kernel_rfl
theorem pl96_2 : places ty 96 2 = some (2, 1) := by kernel_rfl
theorem at96 : allTy ty ⟨3, 24, .struct [(0, 3), (1, 3), (2, 3)], [.v (.int .i64 0), .v (.int .i64 0), .v (.int .i64 0)], [.i, .i, .i]⟩ = true := by kernel_rfl
theorem ty116 : ty 116 = some ⟨1, 8, .ptr 5, [.v (.pointer none)], []⟩ := by kernel_rfl
theorem ty118 : ty 118 = some ⟨1, 24, .slice 119, [.v (.slice none 0 0)], []⟩ := by kernel_rfl
theorem el118 : elemD ty 118 = some ⟨1, 24, .slice 175, [.v (.slice none 0 0)], []⟩ := by kernel_rfl
theorem ty119 : ty 119 = some ⟨1, 24, .slice 175, [.v (.slice none 0 0)], []⟩ := by kernel_rfl
theorem el119 : elemD ty 119 = some ⟨2, 24, .struct [(0, 9), (1, 3)], [.v (.string ⟨#[]⟩), .v (.int .i64 0)], [.s, .i]⟩ := by kernel_rfl
theorem ty122 : ty 122 = some ⟨1, 8, .func, [.v (.nilFunc)], []⟩ := by kernel_rfl
theorem ty125 : ty 125 = some ⟨1, 24, .slice 189, [.v (.slice none 0 0)], []⟩ := by kernel_rfl
theorem el125 : elemD ty 125 = some ⟨19, 296, .struct [(0, 3), (1, 9), (2, 181), (4, 182), (5, 187), (16, 9), (17, 125), (18, 125)], [.v (.int .i64 0), .v (.string ⟨#[]⟩), .v (.string ⟨#[]⟩), .v (.string ⟨#[]⟩), .v (.slice none 0 0), .v (.int .i64 0), .v (.slice none 0 0), .v (.string ⟨#[]⟩), .v (.string ⟨#[]⟩), .v (.string ⟨#[]⟩), .v (.int .i64 0), .v (.string ⟨#[]⟩), .v (.int .i64 0), .v (.bool false), .v (.string ⟨#[]⟩), .v (.string ⟨#[]⟩), .v (.string ⟨#[]⟩), .v (.slice none 0 0), .v (.slice none 0 0)], []⟩ := by kernel_rfl
theorem ty129 : ty 129 = some ⟨1, 8, .ptr 132, [.v (.pointer none)], []⟩ := by kernel_rfl
theorem ty130 : ty 130 = some ⟨1, 24, .slice 219, [.v (.slice none 0 0)], []⟩ := by kernel_rfl
theorem el130 : elemD ty 130 = some ⟨2, 40, .struct [(0, 9), (1, 91)], [.v (.string ⟨#[]⟩), .v (.slice none 0 0)], []⟩ := by kernel_rfl
theorem ty132 : ty 132 = some ⟨5, 88, .struct [(0, 91), (1, 130), (2, 74), (4, 3)], [.v (.slice none 0 0), .v (.slice none 0 0), .v (.pointer none), .v (.slice none 0 0), .v (.int .i64 0)], []⟩ := by kernel_rfl
theorem sd132 : structD ty 132 = some ⟨5, 88, .struct [(0, 91), (1, 130), (2, 74), (4, 3)], [.v (.slice none 0 0), .v (.slice none 0 0), .v (.pointer none), .v (.slice none 0 0), .v (.int .i64 0)], []⟩ := by kernel_rfl
theorem fd132_0 : fdd ty 132 0 = some (0, ⟨1, 24, .slice 90, [.v (.slice none 0 0)], []⟩) := by kernel_rfl
theorem pl132_0 : places ty 132 0 = some (0, 1) := by kernel_rfl
theorem fd132_1 : fdd ty 132 1 = some (1, ⟨1, 24, .slice 219, [.v (.slice none 0 0)], []⟩) := by kernel_rfl
theorem pl132_1 : places ty 132 1 = some (1, 1) := by kernel_rfl
theorem fd132_2 : fdd ty 132 2 = some (2, ⟨2, 32, .struct [(0, 71), (1, 72)], [.v (.pointer none), .v (.slice none 0 0)], []⟩) := by kernel_rfl
theorem pl132_2 : places ty 132 2 = some (2, 2) := by kernel_rfl
theorem fd132_3 : fdd ty 132 3 = some (4, ⟨1, 8, .int .i64, [.v (.int .i64 0)], []⟩) := by kernel_rfl
theorem pl132_3 : places ty 132 3 = some (4, 1) := by kernel_rfl
theorem at132 : allTy ty ⟨5, 88, .struct [(0, 91), (1, 130), (2, 74), (4, 3)], [.v (.slice none 0 0), .v (.slice none 0 0), .v (.pointer none), .v (.slice none 0 0), .v (.int .i64 0)], []⟩ = true := by kernel_rfl
theorem ty162 : ty 162 = some ⟨1, 8, .func, [.v (.nilFunc)], []⟩ := by kernel_rfl
theorem ty163 : ty 163 = some ⟨256, 256, .array 256 5, [.v (.int .u8 0), .v (.int .u8 0), .v (.int .u8 0), .v (.int .u8 0), .v (.int .u8 0), .v (.int .u8 0), .v (.int .u8 0), .v (.int .u8 0), .v (.int .u8 0), .v (.int .u8 0), .v (.int .u8 0), .v (.int .u8 0), .v (.int .u8 0), .v (.int .u8 0), .v (.int .u8 0), .v (.int .u8 0), .v (.int .u8 0), .v (.int .u8 0), .v (.int .u8 0), .v (.int .u8 0), .v (.int .u8 0), .v (.int .u8 0), .v (.int .u8 0), .v (.int .u8 0), .v (.int .u8 0), .v (.int .u8 0), .v (.int .u8 0), .v (.int .u8 0), .v (.int .u8 0), .v (.int .u8 0), .v (.int .u8 0), .v (.int .u8 0), .v (.int .u8 0), .v (.int .u8 0), .v (.int .u8 0), .v (.int .u8 0), .v (.int .u8 0), .v (.int .u8 0), .v (.int .u8 0), .v (.int .u8 0), .v (.int .u8 0), .v (.int .u8 0), .v (.int .u8 0), .v (.int .u8 0), .v (.int .u8 0), .v (.int .u8 0), .v (.int .u8 0), .v (.int .u8 0), .v (.int .u8 0), .v (.int .u8 0), .v (.int .u8 0), .v (.int .u8 0), .v (.int .u8 0), .v (.int .u8 0), .v (.int .u8 0), .v (.int .u8 0), .v (.int .u8 0), .v (.int .u8 0), .v (.int .u8 0), .v (.int .u8 0), .v (.int .u8 0), .v (.int .u8 0), .v (.int .u8 0), .v (.int .u8 0), .v (.int .u8 0), .v (.int .u8 0), .v (.int .u8 0), .v (.int .u8 0), .v (.int .u8 0), .v (.int .u8 0), .v (.int .u8 0), .v (.int .u8 0), .v (.int .u8 0), .v (.int .u8 0), .v (.int .u8 0), .v (.int .u8 0), .v (.int .u8 0), .v (.int .u8 0), .v (.int .u8 0), .v (.int .u8 0), .v (.int .u8 0), .v (.int .u8 0), .v (.int .u8 0), .v (.int .u8 0), .v (.int .u8 0), .v (.int .u8 0), .v (.int .u8 0), .v (.int .u8 0), .v (.int .u8 0), .v (.int .u8 0), .v (.int .u8 0), .v (.int .u8 0), .v (.int .u8 0), .v (.int .u8 0), .v (.int .u8 0), .v (.int .u8 0), .v (.int .u8 0), .v (.int .u8 0), .v (.int .u8 0), .v (.int .u8 0), .v (.int .u8 0), .v (.int .u8 0), .v (.int .u8 0), .v (.int .u8 0), .v (.int .u8 0), .v (.int .u8 0), .v (.int .u8 0), .v (.int .u8 0), .v (.int .u8 0), .v (.int .u8 0), .v (.int .u8 0), .v (.int .u8 0), .v (.int .u8 0), .v (.int .u8 0), .v (.int .u8 0), .v (.int .u8 0), .v (.int .u8 0), .v (.int .u8 0), .v (.int .u8 0), .v (.int .u8 0), .v (.int .u8 0), .v (.int .u8 0), .v (.int .u8 0), .v (.int .u8 0), .v (.int .u8 0), .v (.int .u8 0), .v (.int .u8 0), .v (.int .u8 0), .v (.int .u8 0), .v (.int .u8 0), .v (.int .u8 0), .v (.int .u8 0), .v (.int .u8 0), .v (.int .u8 0), .v (.int .u8 0), .v (.int .u8 0), .v (.int .u8 0), .v (.int .u8 0), .v (.int .u8 0), .v (.int .u8 0), .v (.int .u8 0), .v (.int .u8 0), .v (.int .u8 0), .v (.int .u8 0), .v (.int .u8 0), .v (.int .u8 0), .v (.int .u8 0), .v (.int .u8 0), .v (.int .u8 0), .v (.int .u8 0), .v (.int .u8 0), .v (.int .u8 0), .v (.int .u8 0), .v (.int .u8 0), .v (.int .u8 0), .v (.int .u8 0), .v (.int .u8 0), .v (.int .u8 0), .v (.int .u8 0), .v (.int .u8 0), .v (.int .u8 0), .v (.int .u8 0), .v (.int .u8 0), .v (.int .u8 0), .v (.int .u8 0), .v (.int .u8 0), .v (.int .u8 0), .v (.int .u8 0), .v (.int .u8 0), .v (.int .u8 0), .v (.int .u8 0), .v (.int .u8 0), .v (.int .u8 0), .v (.int .u8 0), .v (.int .u8 0), .v (.int .u8 0), .v (.int .u8 0), .v (.int .u8 0), .v (.int .u8 0), .v (.int .u8 0), .v (.int .u8 0), .v (.int .u8 0), .v (.int .u8 0), .v (.int .u8 0), .v (.int .u8 0), .v (.int .u8 0), .v (.int .u8 0), .v (.int .u8 0), .v (.int .u8 0), .v (.int .u8 0), .v (.int .u8 0), .v (.int .u8 0), .v (.int .u8 0), .v (.int .u8 0), .v (.int .u8 0), .v (.int .u8 0), .v (.int .u8 0), .v (.int .u8 0), .v (.int .u8 0), .v (.int .u8 0), .v (.int .u8 0), .v (.int .u8 0), .v (.int .u8 0), .v (.int .u8 0), .v (.int .u8 0), .v (.int .u8 0), .v (.int .u8 0), .v (.int .u8 0), .v (.int .u8 0), .v (.int .u8 0), .v (.int .u8 0), .v (.int .u8 0), .v (.int .u8 0), .v (.int .u8 0), .v (.int .u8 0), .v (.int .u8 0), .v (.int .u8 0), .v (.int .u8 0), .v (.int .u8 0), .v (.int .u8 0), .v (.int .u8 0), .v (.int .u8 0), .v (.int .u8 0), .v (.int .u8 0), .v (.int .u8 0), .v (.int .u8 0), .v (.int .u8 0), .v (.int .u8 0), .v (.int .u8 0), .v (.int .u8 0), .v (.int .u8 0), .v (.int .u8 0), .v (.int .u8 0), .v (.int .u8 0), .v (.int .u8 0), .v (.int .u8 0), .v (.int .u8 0), .v (.int .u8 0), .v (.int .u8 0), .v (.int .u8 0), .v (.int .u8 0), .v (.int .u8 0), .v (.int .u8 0), .v (.int .u8 0), .v (.int .u8 0), .v (.int .u8 0), .v (.int .u8 0), .v (.int .u8 0), .v (.int .u8 0), .v (.int .u8 0), .v (.int .u8 0), .v (.int .u8 0), .v (.int .u8 0), .v (.int .u8 0), .v (.int .u8 0), .v (.int .u8 0)], []⟩ := by kernel_rfl
theorem ty164 : ty 164 = some ⟨1, 8, .int .u64, [.v (.int .u64 0)], []⟩ := by kernel_rfl
theorem ty166 : ty 166 = some ⟨2, 2, .struct [(0, 5), (1, 5)], [.v (.int .u8 0), .v (.int .u8 0)], [.i, .i]⟩ := by kernel_rfl
theorem sd166 : structD ty 166 = some ⟨2, 2, .struct [(0, 5), (1, 5)], [.v (.int .u8 0), .v (.int .u8 0)], [.i, .i]⟩ := by kernel_rfl
theorem fd166_0 : fdd ty 166 0 = some (0, ⟨1, 1, .int .u8, [.v (.int .u8 0)], []⟩) := by kernel_rfl
theorem pl166_0 : places ty 166 0 = some (0, 1) := by kernel_rfl
theorem fd166_1 : fdd ty 166 1 = some (1, ⟨1, 1, .int .u8, [.v (.int .u8 0)], []⟩) := by kernel_rfl
theorem pl166_1 : places ty 166 1 = some (1, 1) := by kernel_rfl
theorem at166 : allTy ty ⟨2, 2, .struct [(0, 5), (1, 5)], [.v (.int .u8 0), .v (.int .u8 0)], [.i, .i]⟩ = true := by kernel_rfl
theorem ty167 : ty 167 = some ⟨32, 32, .array 16 166, [.v (.int .u8 0), .v (.int .u8 0), .v (.int .u8 0), .v (.int .u8 0), .v (.int .u8 0), .v (.int .u8 0), .v (.int .u8 0), .v (.int .u8 0), .v (.int .u8 0), .v (.int .u8 0), .v (.int .u8 0), .v (.int .u8 0), .v (.int .u8 0), .v (.int .u8 0), .v (.int .u8 0), .v (.int .u8 0), .v (.int .u8 0), .v (.int .u8 0), .v (.int .u8 0), .v (.int .u8 0), .v (.int .u8 0), .v (.int .u8 0), .v (.int .u8 0), .v (.int .u8 0), .v (.int .u8 0), .v (.int .u8 0), .v (.int .u8 0), .v (.int .u8 0), .v (.int .u8 0), .v (.int .u8 0), .v (.int .u8 0), .v (.int .u8 0)], []⟩ := by kernel_rfl
theorem ty170 : ty 170 = some ⟨1, 24, .slice 173, [.v (.slice none 0 0)], []⟩ := by kernel_rfl
theorem el170 : elemD ty 170 = some ⟨3, 24, .struct [(0, 3), (1, 3), (2, 3)], [.v (.int .i64 0), .v (.int .i64 0), .v (.int .i64 0)], [.i, .i, .i]⟩ := by kernel_rfl
theorem ty173 : ty 173 = some ⟨3, 24, .struct [(0, 3), (1, 3), (2, 3)], [.v (.int .i64 0), .v (.int .i64 0), .v (.int .i64 0)], [.i, .i, .i]⟩ := by kernel_rfl
theorem sd173 : structD ty 173 = some ⟨3, 24, .struct [(0, 3), (1, 3), (2, 3)], [.v (.int .i64 0), .v (.int .i64 0), .v (.int .i64 0)], [.i, .i, .i]⟩ := by kernel_rfl
theorem fd173_0 : fdd ty 173 0 = some (0, ⟨1, 8, .int .i64, [.v (.int .i64 0)], []⟩) := by kernel_rfl
theorem pl173_0 : places ty 173 0 = some (0, 1) := by kernel_rfl
theorem fd173_1 : fdd ty 173 1 = some (1, ⟨1, 8, .int .i64, [.v (.int .i64 0)], []⟩) := by kernel_rfl
theorem pl173_1 : places ty 173 1 = some (1, 1) := by kernel_rfl
theorem fd173_2 : fdd ty 173 2 = some (2, ⟨1, 8, .int .i64, [.v (.int .i64 0)], []⟩) := by kernel_rfl
theorem pl173_2 : places ty 173 2 = some (2, 1) := by kernel_rfl
theorem at173 : allTy ty ⟨3, 24, .struct [(0, 3), (1, 3), (2, 3)], [.v (.int .i64 0), .v (.int .i64 0), .v (.int .i64 0)], [.i, .i, .i]⟩ = true := by kernel_rfl
theorem ty175 : ty 175 = some ⟨2, 24, .struct [(0, 9), (1, 3)], [.v (.string ⟨#[]⟩), .v (.int .i64 0)], [.s, .i]⟩ := by kernel_rfl
theorem sd175 : structD ty 175 = some ⟨2, 24, .struct [(0, 9), (1, 3)], [.v (.string ⟨#[]⟩), .v (.int .i64 0)], [.s, .i]⟩ := by kernel_rfl
theorem fd175_0 : fdd ty 175 0 = some (0, ⟨1, 16, .str, [.v (.string ⟨#[]⟩)], []⟩) := by kernel_rfl
theorem pl175_0 : places ty 175 0 = some (0, 1) := by kernel_rfl
theorem fd175_1 : fdd ty 175 1 = some (1, ⟨1, 8, .int .i64, [.v (.int .i64 0)], []⟩) := by kernel_rfl
theorem pl175_1 : places ty 175 1 = some (1, 1) := by kernel_rfl
theorem at175 : allTy ty ⟨2, 24, .struct [(0, 9), (1, 3)], [.v (.string ⟨#[]⟩), .v (.int .i64 0)], [.s, .i]⟩ = true := by kernel_rfl
theorem ty176 : ty 176 = some ⟨1, 8, .ptr 179, [.v (.pointer none)], []⟩ := by kernel_rfl
theorem ty177 : ty 177 = some ⟨1, 24, .slice 192, [.v (.slice none 0 0)], []⟩ := by kernel_rfl
theorem el177 : elemD ty 177 = some ⟨1, 8, .ptr 191, [.v (.pointer none)], []⟩ := by kernel_rfl
theorem ty179 : ty 179 = some ⟨4, 56, .struct [(0, 9), (1, 3), (2, 177), (3, 4)], [.v (.string ⟨#[]⟩), .v (.int .i64 0), .v (.slice none 0 0), .v (.bool false)], []⟩ := by kernel_rfl
theorem sd179 : structD ty 179 = some ⟨4, 56, .struct [(0, 9), (1, 3), (2, 177), (3, 4)], [.v (.string ⟨#[]⟩), .v (.int .i64 0), .v (.slice none 0 0), .v (.bool false)], []⟩ := by kernel_rfl
theorem fd179_0 : fdd ty 179 0 = some (0, ⟨1, 16, .str, [.v (.string ⟨#[]⟩)], []⟩) := by kernel_rfl
theorem pl179_0 : places ty 179 0 = some (0, 1) := by kernel_rfl
theorem fd179_1 : fdd ty 179 1 = some (1, ⟨1, 8, .int .i64, [.v (.int .i64 0)], []⟩) := by kernel_rfl
theorem pl179_1 : places ty 179 1 = some (1, 1) := by kernel_rfl
theorem fd179_2 : fdd ty 179 2 = some (2, ⟨1, 24, .slice 192, [.v (.slice none 0 0)], []⟩) := by kernel_rfl
theorem pl179_2 : places ty 179 2 = some (2, 1) := by kernel_rfl
theorem fd179_3 : fdd ty 179 3 = some (3, ⟨1, 1, .bool, [.v (.bool false)], []⟩) := by kernel_rfl
theorem pl179_3 : places ty 179 3 = some (3, 1) := by kernel_rfl
theorem at179 : allTy ty ⟨4, 56, .struct [(0, 9), (1, 3), (2, 177), (3, 4)], [.v (.string ⟨#[]⟩), .v (.int .i64 0), .v (.slice none 0 0), .v (.bool false)], []⟩ = true := by kernel_rfl
theorem ty181 : ty 181 = some ⟨2, 32, .struct [(0, 9), (1, 9)], [.v (.string ⟨#[]⟩), .v (.string ⟨#[]⟩)], [.s, .s]⟩ := by kernel_rfl
theorem sd181 : structD ty 181 = some ⟨2, 32, .struct [(0, 9), (1, 9)], [.v (.string ⟨#[]⟩), .v (.string ⟨#[]⟩)], [.s, .s]⟩ := by kernel_rfl
theorem fd181_0 : fdd ty 181 0 = some (0, ⟨1, 16, .str, [.v (.string ⟨#[]⟩)], []⟩) := by kernel_rfl
theorem pl181_0 : places ty 181 0 = some (0, 1) := by kernel_rfl
theorem fd181_1 : fdd ty 181 1 = some (1, ⟨1, 16, .str, [.v (.string ⟨#[]⟩)], []⟩) := by kernel_rfl
theorem pl181_1 : places ty 181 1 = some (1, 1) := by kernel_rfl
theorem at181 : allTy ty ⟨2, 32, .struct [(0, 9), (1, 9)], [.v (.string ⟨#[]⟩), .v (.string ⟨#[]⟩)], [.s, .s]⟩ = true := by kernel_rfl
theorem ty182 : ty 182 = some ⟨1, 24, .slice 247, [.v (.slice none 0 0)], []⟩ := by kernel_rfl
theorem el182 : elemD ty 182 = some ⟨2, 24, .struct [(0, 9), (1, 3)], [.v (.string ⟨#[]⟩), .v (.int .i64 0)], [.s, .i]⟩ := by kernel_rfl
theorem ty183 : ty 183 = some ⟨1, 24, .slice 187, [.v (.slice none 0 0)], []⟩ := by kernel_rfl
theorem el183 : elemD ty 183 = some ⟨11, 152, .struct [(0, 3), (1, 183), (2, 181), (4, 9), (5, 185), (9, 181)], [.v (.int .i64 0), .v (.slice none 0 0), .v (.string ⟨#[]⟩), .v (.string ⟨#[]⟩), .v (.string ⟨#[]⟩), .v (.int .i64 0), .v (.string ⟨#[]⟩), .v (.int .i64 0), .v (.bool false), .v (.string ⟨#[]⟩), .v (.string ⟨#[]⟩)], []⟩ := by kernel_rfl
theorem ty185 : ty 185 = some ⟨4, 40, .struct [(0, 3), (1, 9), (2, 3), (3, 4)], [.v (.int .i64 0), .v (.string ⟨#[]⟩), .v (.int .i64 0), .v (.bool false)], [.i, .s, .i, .b]⟩ := by kernel_rfl
theorem sd185 : structD ty 185 = some ⟨4, 40, .struct [(0, 3), (1, 9), (2, 3), (3, 4)], [.v (.int .i64 0), .v (.string ⟨#[]⟩), .v (.int .i64 0), .v (.bool false)], [.i, .s, .i, .b]⟩ := by kernel_rfl
theorem fd185_0 : fdd ty 185 0 = some (0, ⟨1, 8, .int .i64, [.v (.int .i64 0)], []⟩) := by kernel_rfl
theorem pl185_0 : places ty 185 0 = some (0, 1) := by kernel_rfl
theorem fd185_1 : fdd ty 185 1 = some (1, ⟨1, 16, .str, [.v (.string ⟨#[]⟩)], []⟩) := by kernel_rfl
theorem pl185_1 : places ty 185 1 = some (1, 1) := by kernel_rfl
theorem fd185_2 : fdd ty 185 2 = some (2, ⟨1, 8, .int .i64, [.v (.int .i64 0)], []⟩) := by kernel_rfl
theorem pl185_2 : places ty 185 2 = some (2, 1) := by kernel_rfl
theorem fd185_3 : fdd ty 185 3 = some (3, ⟨1, 1, .bool, [.v (.bool false)], []⟩) := by kernel_rfl
theorem pl185_3 : places ty 185 3 = some (3, 1) := by kernel_rfl
theorem at185 : allTy ty ⟨4, 40, .struct [(0, 3), (1, 9), (2, 3), (3, 4)], [.v (.int .i64 0), .v (.string ⟨#[]⟩), .v (.int .i64 0), .v (.bool false)], [.i, .s, .i, .b]⟩ = true := by kernel_rfl
theorem ty187 : ty 187 = some ⟨11, 152, .struct [(0, 3), (1, 183), (2, 181), (4, 9), (5, 185), (9, 181)], [.v (.int .i64 0), .v (.slice none 0 0), .v (.string ⟨#[]⟩), .v (.string ⟨#[]⟩), .v (.string ⟨#[]⟩), .v (.int .i64 0), .v (.string ⟨#[]⟩), .v (.int .i64 0), .v (.bool false), .v (.string ⟨#[]⟩), .v (.string ⟨#[]⟩)], []⟩ := by kernel_rfl
theorem sd187 : structD ty 187 = some ⟨11, 152, .struct [(0, 3), (1, 183), (2, 181), (4, 9), (5, 185), (9, 181)], [.v (.int .i64 0), .v (.slice none 0 0), .v (.string ⟨#[]⟩), .v (.string ⟨#[]⟩), .v (.string ⟨#[]⟩), .v (.int .i64 0), .v (.string ⟨#[]⟩), .v (.int .i64 0), .v (.bool false), .v (.string ⟨#[]⟩), .v (.string ⟨#[]⟩)], []⟩ := by kernel_rfl
theorem fd187_0 : fdd ty 187 0 = some (0, ⟨1, 8, .int .i64, [.v (.int .i64 0)], []⟩) := by kernel_rfl
theorem pl187_0 : places ty 187 0 = some (0, 1) := by kernel_rfl
theorem fd187_1 : fdd ty 187 1 = some (1, ⟨1, 24, .slice 187, [.v (.slice none 0 0)], []⟩) := by kernel_rfl
theorem pl187_1 : places ty 187 1 = some (1, 1) := by kernel_rfl
theorem fd187_2 : fdd ty 187 2 = some (2, ⟨2, 32, .struct [(0, 9), (1, 9)], [.v (.string ⟨#[]⟩), .v (.string ⟨#[]⟩)], [.s, .s]⟩) := by kernel_rfl
theorem pl187_2 : places ty 187 2 = some (2, 2) := by kernel_rfl
theorem fd187_3 : fdd ty 187 3 = some (4, ⟨1, 16, .str, [.v (.string ⟨#[]⟩)], []⟩) := by kernel_rfl
theorem pl187_3 : places ty 187 3 = some (4, 1) := by kernel_rfl
theorem fd187_4 : fdd ty 187 4 = some (5, ⟨4, 40, .struct [(0, 3), (1, 9), (2, 3), (3, 4)], [.v (.int .i64 0), .v (.string ⟨#[]⟩), .v (.int .i64 0), .v (.bool false)], [.i, .s, .i, .b]⟩) := by kernel_rfl
theorem pl187_4 : places ty 187 4 = some (5, 4) := by kernel_rfl
theorem fd187_5 : fdd ty 187 5 = some (9, ⟨2, 32, .struct [(0, 9), (1, 9)], [.v (.string ⟨#[]⟩), .v (.string ⟨#[]⟩)], [.s, .s]⟩) := by kernel_rfl
theorem pl187_5 : places ty 187 5 = some (9, 2) := by kernel_rfl
theorem at187 : allTy ty ⟨11, 152, .struct [(0, 3), (1, 183), (2, 181), (4, 9), (5, 185), (9, 181)], [.v (.int .i64 0), .v (.slice none 0 0), .v (.string ⟨#[]⟩), .v (.string ⟨#[]⟩), .v (.string ⟨#[]⟩), .v (.int .i64 0), .v (.string ⟨#[]⟩), .v (.int .i64 0), .v (.bool false), .v (.string ⟨#[]⟩), .v (.string ⟨#[]⟩)], []⟩ = true := by kernel_rfl
theorem ty189 : ty 189 = some ⟨19, 296, .struct [(0, 3), (1, 9), (2, 181), (4, 182), (5, 187), (16, 9), (17, 125), (18, 125)], [.v (.int .i64 0), .v (.string ⟨#[]⟩), .v (.string ⟨#[]⟩), .v (.string ⟨#[]⟩), .v (.slice none 0 0), .v (.int .i64 0), .v (.slice none 0 0), .v (.string ⟨#[]⟩), .v (.string ⟨#[]⟩), .v (.string ⟨#[]⟩), .v (.int .i64 0), .v (.string ⟨#[]⟩), .v (.int .i64 0), .v (.bool false), .v (.string ⟨#[]⟩), .v (.string ⟨#[]⟩), .v (.string ⟨#[]⟩), .v (.slice none 0 0), .v (.slice none 0 0)], []⟩ := by kernel_rfl
theorem sd189 : structD ty 189 = some ⟨19, 296, .struct [(0, 3), (1, 9), (2, 181), (4, 182), (5, 187), (16, 9), (17, 125), (18, 125)], [.v (.int .i64 0), .v (.string ⟨#[]⟩), .v (.string ⟨#[]⟩), .v (.string ⟨#[]⟩), .v (.slice none 0 0), .v (.int .i64 0), .v (.slice none 0 0), .v (.string ⟨#[]⟩), .v (.string ⟨#[]⟩), .v (.string ⟨#[]⟩), .v (.int .i64 0), .v (.string ⟨#[]⟩), .v (.int .i64 0), .v (.bool false), .v (.string ⟨#[]⟩), .v (.string ⟨#[]⟩), .v (.string ⟨#[]⟩), .v (.slice none 0 0), .v (.slice none 0 0)], []⟩ := by kernel_rfl
theorem fd189_0 : fdd ty 189 0 = some (0, ⟨1, 8, .int .i64, [.v (.int .i64 0)], []⟩) := by kernel_rfl
theorem pl189_0 : places ty 189 0 = some (0, 1) := by kernel_rfl
theorem fd189_1 : fdd ty 189 1 = some (1, ⟨1, 16, .str, [.v (.string ⟨#[]⟩)], []⟩) := by kernel_rfl
theorem pl189_1 : places ty 189 1 = some (1, 1) := by kernel_rfl
theorem fd189_2 : fdd ty 189 2 = some (2, ⟨2, 32, .struct [(0, 9), (1, 9)], [.v (.string ⟨#[]⟩), .v (.string ⟨#[]⟩)], [.s, .s]⟩) := by kernel_rfl
theorem pl189_2 : places ty 189 2 = some (2, 2) := by kernel_rfl
theorem fd189_3 : fdd ty 189 3 = some (4, ⟨1, 24, .slice 247, [.v (.slice none 0 0)], []⟩) := by kernel_rfl
theorem pl189_3 : places ty 189 3 = some (4, 1) := by kernel_rfl
theorem fd189_4 : fdd ty 189 4 = some (5, ⟨11, 152, .struct [(0, 3), (1, 183), (2, 181), (4, 9), (5, 185), (9, 181)], [.v (.int .i64 0), .v (.slice none 0 0), .v (.string ⟨#[]⟩), .v (.string ⟨#[]⟩), .v (.string ⟨#[]⟩), .v (.int .i64 0), .v (.string ⟨#[]⟩), .v (.int .i64 0), .v (.bool false), .v (.string ⟨#[]⟩), .v (.string ⟨#[]⟩)], []⟩) := by kernel_rfl
theorem pl189_4 : places ty 189 4 = some (5, 11) := by kernel_rfl
theorem fd189_5 : fdd ty 189 5 = some (16, ⟨1, 16, .str, [.v (.string ⟨#[]⟩)], []⟩) := by kernel_rfl
theorem pl189_5 : places ty 189 5 = some (16, 1) := by kernel_rfl
theorem fd189_6 : fdd ty 189 6 = some (17, ⟨1, 24, .slice 189, [.v (.slice none 0 0)], []⟩) := by kernel_rfl
theorem pl189_6 : places ty 189 6 = some (17, 1) := by kernel_rfl
theorem fd189_7 : fdd ty 189 7 = some (18, ⟨1, 24, .slice 189, [.v (.slice none 0 0)], []⟩) := by kernel_rfl
theorem pl189_7 : places ty 189 7 = some (18, 1) := by kernel_rfl
theorem at189 : allTy ty ⟨19, 296, .struct [(0, 3), (1, 9), (2, 181), (4, 182), (5, 187), (16, 9), (17, 125), (18, 125)], [.v (.int .i64 0), .v (.string ⟨#[]⟩), .v (.string ⟨#[]⟩), .v (.string ⟨#[]⟩), .v (.slice none 0 0), .v (.int .i64 0), .v (.slice none 0 0), .v (.string ⟨#[]⟩), .v (.string ⟨#[]⟩), .v (.string ⟨#[]⟩), .v (.int .i64 0), .v (.string ⟨#[]⟩), .v (.int .i64 0), .v (.bool false), .v (.string ⟨#[]⟩), .v (.string ⟨#[]⟩), .v (.string ⟨#[]⟩), .v (.slice none 0 0), .v (.slice none 0 0)], []⟩ = true := by kernel_rfl
theorem ty191 : ty 191 = some ⟨21, 328, .struct [(0, 189), (19, 125), (20, 4)], [.v (.int .i64 0), .v (.string ⟨#[]⟩), .v (.string ⟨#[]⟩), .v (.string ⟨#[]⟩), .v (.slice none 0 0), .v (.int .i64 0), .v (.slice none 0 0), .v (.string ⟨#[]⟩), .v (.string ⟨#[]⟩), .v (.string ⟨#[]⟩), .v (.int .i64 0), .v (.string ⟨#[]⟩), .v (.int .i64 0), .v (.bool false), .v (.string ⟨#[]⟩), .v (.string ⟨#[]⟩), .v (.string ⟨#[]⟩), .v (.slice none 0 0), .v (.slice none 0 0), .v (.slice none 0 0), .v (.bool false)], []⟩ := by kernel_rfl
theorem sd191 : structD ty 191 = some ⟨21, 328, .struct [(0, 189), (19, 125), (20, 4)], [.v (.int .i64 0), .v (.string ⟨#[]⟩), .v (.string ⟨#[]⟩), .v (.string ⟨#[]⟩), .v (.slice none 0 0), .v (.int .i64 0), .v (.slice none 0 0), .v (.string ⟨#[]⟩), .v (.string ⟨#[]⟩), .v (.string ⟨#[]⟩), .v (.int .i64 0), .v (.string ⟨#[]⟩), .v (.int .i64 0), .v (.bool false), .v (.string ⟨#[]⟩), .v (.string ⟨#[]⟩), .v (.string ⟨#[]⟩), .v (.slice none 0 0), .v (.slice none 0 0), .v (.slice none 0 0), .v (.bool false)], []⟩ := by kernel_rfl
theorem fd191_0 : fdd ty 191 0 = some (0, ⟨19, 296, .struct [(0, 3), (1, 9), (2, 181), (4, 182), (5, 187), (16, 9), (17, 125), (18, 125)], [.v (.int .i64 0), .v (.string ⟨#[]⟩), .v (.string ⟨#[]⟩), .v (.string ⟨#[]⟩), .v (.slice none 0 0), .v (.int .i64 0), .v (.slice none 0 0), .v (.string ⟨#[]⟩), .v (.string ⟨#[]⟩), .v (.string ⟨#[]⟩), .v (.int .i64 0), .v (.string ⟨#[]⟩), .v (.int .i64 0), .v (.bool false), .v (.string ⟨#[]⟩), .v (.string ⟨#[]⟩), .v (.string ⟨#[]⟩), .v (.slice none 0 0), .v (.slice none 0 0)], []⟩) := by kernel_rfl
theorem pl191_0 : places ty 191 0 = some (0, 19) := by kernel_rfl
theorem fd191_1 : fdd ty 191 1 = some (19, ⟨1, 24, .slice 189, [.v (.slice none 0 0)], []⟩) := by kernel_rfl
theorem pl191_1 : places ty 191 1 = some (19, 1) := by kernel_rfl
theorem fd191_2 : fdd ty 191 2 = some (20, ⟨1, 1, .bool, [.v (.bool false)], []⟩) := by kernel_rfl
theorem pl191_2 : places ty 191 2 = some (20, 1) := by kernel_rfl
theorem at191 : allTy ty ⟨21, 328, .struct [(0, 189), (19, 125), (20, 4)], [.v (.int .i64 0), .v (.string ⟨#[]⟩), .v (.string ⟨#[]⟩), .v (.string ⟨#[]⟩), .v (.slice none 0 0), .v (.int .i64 0), .v (.slice none 0 0), .v (.string ⟨#[]⟩), .v (.string ⟨#[]⟩), .v (.string ⟨#[]⟩), .v (.int .i64 0), .v (.string ⟨#[]⟩), .v (.int .i64 0), .v (.bool false), .v (.string ⟨#[]⟩), .v (.string ⟨#[]⟩), .v (.string ⟨#[]⟩), .v (.slice none 0 0), .v (.slice none 0 0), .v (.slice none 0 0), .v (.bool false)], []⟩ = true := by kernel_rfl
theorem ty192 : ty 192 = some ⟨1, 8, .ptr 191, [.v (.pointer none)], []⟩ := by kernel_rfl
theorem ty219 : ty 219 = some ⟨2, 40, .struct [(0, 9), (1, 91)], [.v (.string ⟨#[]⟩), .v (.slice none 0 0)], []⟩ := by kernel_rfl
theorem sd219 : structD ty 219 = some ⟨2, 40, .struct [(0, 9), (1, 91)], [.v (.string ⟨#[]⟩), .v (.slice none 0 0)], []⟩ := by kernel_rfl
theorem fd219_0 : fdd ty 219 0 = some (0, ⟨1, 16, .str, [.v (.string ⟨#[]⟩)], []⟩) := by kernel_rfl
theorem pl219_0 : places ty 219 0 = some (0, 1) := by kernel_rfl
theorem fd219_1 : fdd ty 219 1 = some (1, ⟨1, 24, .slice 90, [.v (.slice none 0 0)], []⟩) := by kernel_rfl
theorem pl219_1 : places ty 219 1 = some (1, 1) := by kernel_rfl
theorem at219 : allTy ty ⟨2, 40, .struct [(0, 9), (1, 91)], [.v (.string ⟨#[]⟩), .v (.slice none 0 0)], []⟩ = true := by kernel_rfl
theorem ty247 : ty 247 = some ⟨2, 24, .struct [(0, 9), (1, 3)], [.v (.string ⟨#[]⟩), .v (.int .i64 0)], [.s, .i]⟩ := by kernel_rfl
theorem sd247 : structD ty 247 = some ⟨2, 24, .struct [(0, 9), (1, 3)], [.v (.string ⟨#[]⟩), .v (.int .i64 0)], [.s, .i]⟩ := by kernel_rfl
theorem fd247_0 : fdd ty 247 0 = some (0, ⟨1, 16, .str, [.v (.string ⟨#[]⟩)], []⟩) := by kernel_rfl
theorem pl247_0 : places ty 247 0 = some (0, 1) := by kernel_rfl
theorem fd247_1 : fdd ty 247 1 = some (1, ⟨1, 8, .int .i64, [.v (.int .i64 0)], []⟩) := by kernel_rfl
theorem pl247_1 : places ty 247 1 = some (1, 1) := by kernel_rfl
theorem at247 : allTy ty ⟨2, 24, .struct [(0, 9), (1, 3)], [.v (.string ⟨#[]⟩), .v (.int .i64 0)], [.s, .i]⟩ = true := by kernel_rfl
theorem ty277 : ty 277 = some ⟨1, 8, .func, [.v (.nilFunc)], []⟩ := by kernel_rfl
theorem ty286 : ty 286 = some ⟨1, 8, .ptr 290, [.v (.pointer none)], []⟩ := by kernel_rfl
theorem ty288 : ty 288 = some ⟨4, 48, .struct [(0, 9), (1, 9), (2, 3), (3, 3)], [.v (.string ⟨#[]⟩), .v (.string ⟨#[]⟩), .v (.int .i64 0), .v (.int .i64 0)], [.s, .s, .i, .i]⟩ := by kernel_rfl
theorem sd288 : structD ty 288 = some ⟨4, 48, .struct [(0, 9), (1, 9), (2, 3), (3, 3)], [.v (.string ⟨#[]⟩), .v (.string ⟨#[]⟩), .v (.int .i64 0), .v (.int .i64 0)], [.s, .s, .i, .i]⟩ := by kernel_rfl
theorem fd288_0 : fdd ty 288 0 = some (0, ⟨1, 16, .str, [.v (.string ⟨#[]⟩)], []⟩) := by kernel_rfl
theorem pl288_0 : places ty 288 0 = some (0, 1) := by kernel_rfl
theorem fd288_1 : fdd ty 288 1 = some (1, ⟨1, 16, .str, [.v (.string ⟨#[]⟩)], []⟩) := by kernel_rfl
theorem pl288_1 : places ty 288 1 = some (1, 1) := by kernel_rfl
theorem fd288_2 : fdd ty 288 2 = some (2, ⟨1, 8, .int .i64, [.v (.int .i64 0)], []⟩) := by kernel_rfl
theorem pl288_2 : places ty 288 2 = some (2, 1) := by kernel_rfl
theorem fd288_3 : fdd ty 288 3 = some (3, ⟨1, 8, .int .i64, [.v (.int .i64 0)], []⟩) := by kernel_rfl
theorem pl288_3 : places ty 288 3 = some (3, 1) := by kernel_rfl
theorem at288 : allTy ty ⟨4, 48, .struct [(0, 9), (1, 9), (2, 3), (3, 3)], [.v (.string ⟨#[]⟩), .v (.string ⟨#[]⟩), .v (.int .i64 0), .v (.int .i64 0)], [.s, .s, .i, .i]⟩ = true := by kernel_rfl
theorem ty290 : ty 290 = some ⟨10, 120, .struct [(0, 9), (1, 288), (5, 37), (6, 4), (7, 3), (8, 3), (9, 3)], [.v (.string ⟨#[]⟩), .v (.string ⟨#[]⟩), .v (.string ⟨#[]⟩), .v (.int .i64 0), .v (.int .i64 0), .v (.slice none 0 0), .v (.bool false), .v (.int .i64 0), .v (.int .i64 0), .v (.int .i64 0)], []⟩ := by kernel_rfl
theorem sd290 : structD ty 290 = some ⟨10, 120, .struct [(0, 9), (1, 288), (5, 37), (6, 4), (7, 3), (8, 3), (9, 3)], [.v (.string ⟨#[]⟩), .v (.string ⟨#[]⟩), .v (.string ⟨#[]⟩), .v (.int .i64 0), .v (.int .i64 0), .v (.slice none 0 0), .v (.bool false), .v (.int .i64 0), .v (.int .i64 0), .v (.int .i64 0)], []⟩ := by kernel_rfl
theorem fd290_0 : fdd ty 290 0 = some (0, ⟨1, 16, .str, [.v (.string ⟨#[]⟩)], []⟩) := by kernel_rfl
theorem pl290_0 : places ty 290 0 = some (0, 1) := by kernel_rfl
theorem fd290_1 : fdd ty 290 1 = some (1, ⟨4, 48, .struct [(0, 9), (1, 9), (2, 3), (3, 3)], [.v (.string ⟨#[]⟩), .v (.string ⟨#[]⟩), .v (.int .i64 0), .v (.int .i64 0)], [.s, .s, .i, .i]⟩) := by kernel_rfl
theorem pl290_1 : places ty 290 1 = some (1, 4) := by kernel_rfl
theorem fd290_2 : fdd ty 290 2 = some (5, ⟨1, 24, .slice 9, [.v (.slice none 0 0)], []⟩) := by kernel_rfl
theorem pl290_2 : places ty 290 2 = some (5, 1) := by kernel_rfl
theorem fd290_3 : fdd ty 290 3 = some (6, ⟨1, 1, .bool, [.v (.bool false)], []⟩) := by kernel_rfl
theorem pl290_3 : places ty 290 3 = some (6, 1) := by kernel_rfl
theorem fd290_4 : fdd ty 290 4 = some (7, ⟨1, 8, .int .i64, [.v (.int .i64 0)], []⟩) := by kernel_rfl
theorem pl290_4 : places ty 290 4 = some (7, 1) := by kernel_rfl
theorem fd290_5 : fdd ty 290 5 = some (8, ⟨1, 8, .int .i64, [.v (.int .i64 0)], []⟩) := by kernel_rfl
theorem pl290_5 : places ty 290 5 = some (8, 1) := by kernel_rfl
theorem fd290_6 : fdd ty 290 6 = some (9, ⟨1, 8, .int .i64, [.v (.int .i64 0)], []⟩) := by kernel_rfl
theorem pl290_6 : places ty 290 6 = some (9, 1) := by kernel_rfl
theorem at290 : allTy ty ⟨10, 120, .struct [(0, 9), (1, 288), (5, 37), (6, 4), (7, 3), (8, 3), (9, 3)], [.v (.string ⟨#[]⟩), .v (.string ⟨#[]⟩), .v (.string ⟨#[]⟩), .v (.int .i64 0), .v (.int .i64 0), .v (.slice none 0 0), .v (.bool false), .v (.int .i64 0), .v (.int .i64 0), .v (.int .i64 0)], []⟩ = true := by kernel_rfl
theorem ty291 : ty 291 = some ⟨1, 8, .func, [.v (.nilFunc)], []⟩ := by kernel_rfl
set_option maxRecDepth 100000
theorem lemA : type_of% (And.intro (@List.getD_cons_zero.{0}) (And.intro (@List.getD_cons_succ.{0}) (And.intro (@List.set_cons_zero.{0}) (And.intro (@List.set_cons_succ.{0}) (And.intro (@List.length_cons.{0}) (And.intro (@List.length_nil.{0}) (And.intro (@List.map_cons.{0, 0}) (And.intro (@List.map_nil.{0, 0}) (And.intro (@List.append_nil.{0}) (And.intro (@List.nil_append.{0}) (And.intro (@List.cons_append.{0}) (And.intro (@List.all_cons.{0}) (And.intro (@List.all_nil.{0}) (And.intro (@Bool.and_true) (And.intro (@Bool.and_self) (And.intro (@Option.bind_some.{0, 0}) (And.intro (@Option.map_some.{0, 0}) (And.intro (@List.getElem?_toArray.{0}) (And.intro (@List.getElem?_cons_zero.{0}) (And.intro (@List.getElem?_cons_succ.{0}) (And.intro (@true_and) (And.intro (@and_true) (And.intro (@and_self) (And.intro (@Option.some.injEq.{0}) (And.intro (@if_true.{1}) (And.intro (@implies_true.{0}) (And.intro (@implies_true.{1}) (And.intro (@imp_self) (And.intro (@List.toList_toArray.{0}) (And.intro (@Bool.false_eq_true) (And.intro (@Bool.true_eq_false) (And.intro (@false_and) (And.intro (@and_false) (And.intro (@List.filterMap_cons.{0, 0}) (And.intro (@beq_true) (And.intro (@beq_false) (And.intro (@Bool.not_eq_true') (And.intro (@Bool.not_eq_false') (And.intro (@true_implies) (And.intro (@Bool.cond_true_left) (And.intro (@Bool.cond_false_right) (And.intro (@Bool.not_not) (And.intro (@Bool.or_false) (And.intro (@Bool.false_or) (And.intro (@Bool.or_true) (And.intro (@Bool.true_or) (And.intro (@Bool.and_false) (And.intro (@Bool.false_and) (And.intro (@Bool.true_and) (And.intro (@Bool.not_true) (And.intro (@Bool.not_false) (And.intro (@cond_true.{1}) (And.intro (@cond_false.{1}) (And.intro (@upd_same) (And.intro (@List.take_succ_cons.{0}) (And.intro (@List.take_zero.{0}) (And.intro (@List.drop_succ_cons.{0}) (And.intro (@List.drop_zero.{0}) (And.intro (@List.take_nil.{0}) (And.intro (@List.drop_nil.{0}) (And.intro (@List.length_map.{0, 0}) (And.intro (@Int.add_sub_cancel) (And.intro (@List.length_set.{0}) (And.intro (@upd_upd) (And.intro (@Option.isSome_some.{0}) (And.intro (@ne_eq.{1}) (@not_false_eq_true))))))))))))))))))))))))))))))))))))))))))))))))))))))))))))))))))) := And.intro (@List.getD_cons_zero.{0}) (And.intro (@List.getD_cons_succ.{0}) (And.intro (@List.set_cons_zero.{0}) (And.intro (@List.set_cons_succ.{0}) (And.intro (@List.length_cons.{0}) (And.intro (@List.length_nil.{0}) (And.intro (@List.map_cons.{0, 0}) (And.intro (@List.map_nil.{0, 0}) (And.intro (@List.append_nil.{0}) (And.intro (@List.nil_append.{0}) (And.intro (@List.cons_append.{0}) (And.intro (@List.all_cons.{0}) (And.intro (@List.all_nil.{0}) (And.intro (@Bool.and_true) (And.intro (@Bool.and_self) (And.intro (@Option.bind_some.{0, 0}) (And.intro (@Option.map_some.{0, 0}) (And.intro (@List.getElem?_toArray.{0}) (And.intro (@List.getElem?_cons_zero.{0}) (And.intro (@List.getElem?_cons_succ.{0}) (And.intro (@true_and) (And.intro (@and_true) (And.intro (@and_self) (And.intro (@Option.some.injEq.{0}) (And.intro (@if_true.{1}) (And.intro (@implies_true.{0}) (And.intro (@implies_true.{1}) (And.intro (@imp_self) (And.intro (@List.toList_toArray.{0}) (And.intro (@Bool.false_eq_true) (And.intro (@Bool.true_eq_false) (And.intro (@false_and) (And.intro (@and_false) (And.intro (@List.filterMap_cons.{0, 0}) (And.intro (@beq_true) (And.intro (@beq_false) (And.intro (@Bool.not_eq_true') (And.intro (@Bool.not_eq_false') (And.intro (@true_implies) (And.intro (@Bool.cond_true_left) (And.intro (@Bool.cond_false_right) (And.intro (@Bool.not_not) (And.intro (@Bool.or_false) (And.intro (@Bool.false_or) (And.intro (@Bool.or_true) (And.intro (@Bool.true_or) (And.intro (@Bool.and_false) (And.intro (@Bool.false_and) (And.intro (@Bool.true_and) (And.intro (@Bool.not_true) (And.intro (@Bool.not_false) (And.intro (@cond_true.{1}) (And.intro (@cond_false.{1}) (And.intro (@upd_same) (And.intro (@List.take_succ_cons.{0}) (And.intro (@List.take_zero.{0}) (And.intro (@List.drop_succ_cons.{0}) (And.intro (@List.drop_zero.{0}) (And.intro (@List.take_nil.{0}) (And.intro (@List.drop_nil.{0}) (And.intro (@List.length_map.{0, 0}) (And.intro (@Int.add_sub_cancel) (And.intro (@List.length_set.{0}) (And.intro (@upd_upd) (And.intro (@Option.isSome_some.{0}) (And.intro (@ne_eq.{1}) (@not_false_eq_true))))))))))))))))))))))))))))))))))))))))))))))))))))))))))))))))))
theorem lemT : type_of% (And.intro (@ty1) (And.intro (@ty2) (And.intro (@ty3) (And.intro (@ty4) (And.intro (@ty5) (And.intro (@ty6) (And.intro (@ty8) (And.intro (@sd8) (And.intro (@fd8_0) (And.intro (@pl8_0) (And.intro (@fd8_1) (And.intro (@pl8_1) (And.intro (@fd8_2) (And.intro (@pl8_2) (And.intro (@fd8_3) (And.intro (@pl8_3) (And.intro (@at8) (And.intro (@ty9) (And.intro (@is9) (And.intro (@ty12) (And.intro (@ty21) (And.intro (@ty22) (And.intro (@el22) (And.intro (@ty23) (And.intro (@ty25) (And.intro (@sd25) (And.intro (@fd25_0) (And.intro (@pl25_0) (And.intro (@fd25_1) (And.intro (@pl25_1) (And.intro (@at25) (And.intro (@ty26) (And.intro (@el26) (And.intro (@ty28) (And.intro (@sd28) (And.intro (@fd28_0) (And.intro (@pl28_0) (And.intro (@fd28_1) (And.intro (@pl28_1) (And.intro (@fd28_2) (And.intro (@pl28_2) (And.intro (@fd28_3) (And.intro (@pl28_3) (And.intro (@at28) (And.intro (@ty32) (And.intro (@ty37) (And.intro (@el37) (And.intro (@ty50) (And.intro (@el50) (And.intro (@ty68) (And.intro (@sd68) (And.intro (@fd68_0) (And.intro (@pl68_0) (And.intro (@fd68_1) (And.intro (@pl68_1) (And.intro (@fd68_2) (And.intro (@pl68_2) (And.intro (@at68) (And.intro (@ty71) (And.intro (@ty72) (And.intro (@el72) (And.intro (@ty74) (And.intro (@sd74) (And.intro (@fd74_0) (And.intro (@pl74_0) (And.intro (@fd74_1) (And.intro (@pl74_1) (And.intro (@at74) (And.intro (@ty77) (And.intro (@ty80) (And.intro (@ty86) (And.intro (@el86) (And.intro (@ty88) (And.intro (@el88) (And.intro (@ty90) (And.intro (@sd90) (And.intro (@fd90_0) (And.intro (@pl90_0) (And.intro (@fd90_1) (And.intro (@pl90_1) (And.intro (@fd90_2) (And.intro (@pl90_2) (And.intro (@fd90_3) (And.intro (@pl90_3) (And.intro (@fd90_4) (And.intro (@pl90_4) (And.intro (@fd90_5) (And.intro (@pl90_5) (And.intro (@at90) (And.intro (@ty91) (And.intro (@el91) (And.intro (@ty94) (And.intro (@el94) (And.intro (@ty96) (And.intro (@sd96) (And.intro (@fd96_0) (And.intro (@pl96_0) (And.intro (@fd96_1) (And.intro (@pl96_1) (And.intro (@fd96_2) (And.intro (@pl96_2) (And.intro (@at96) (And.intro (@ty116) (And.intro (@ty118) (And.intro (@el118) (And.intro (@ty119) (And.intro (@el119) (And.intro (@ty122) (And.intro (@ty125) (And.intro (@el125) (And.intro (@ty129) (And.intro (@ty130) (And.intro (@el130) (And.intro (@ty132) (And.intro (@sd132) (And.intro (@fd132_0) (And.intro (@pl132_0) (And.intro (@fd132_1) (And.intro (@pl132_1) (And.intro (@fd132_2) (And.intro (@pl132_2) (And.intro (@fd132_3) (And.intro (@pl132_3) (And.intro (@at132) (And.intro (@ty162) (And.intro (@ty163) (And.intro (@ty164) (And.intro (@ty166) (And.intro (@sd166) (And.intro (@fd166_0) (And.intro (@pl166_0) (And.intro (@fd166_1) (And.intro (@pl166_1) (And.intro (@at166) (And.intro (@ty167) (And.intro (@ty170) (And.intro (@el170) (And.intro (@ty173) (And.intro (@sd173) (And.intro (@fd173_0) (And.intro (@pl173_0) (And.intro (@fd173_1) (And.intro (@pl173_1) (And.intro (@fd173_2) (And.intro (@pl173_2) (And.intro (@at173) (And.intro (@ty175) (And.intro (@sd175) (And.intro (@fd175_0) (And.intro (@pl175_0) (And.intro (@fd175_1) (And.intro (@pl175_1) (And.intro (@at175) (And.intro (@ty176) (And.intro (@ty177) (And.intro (@el177) (And.intro (@ty179) (And.intro (@sd179) (And.intro (@fd179_0) (And.intro (@pl179_0) (And.intro (@fd179_1) (And.intro (@pl179_1) (And.intro (@fd179_2) (And.intro (@pl179_2) (And.intro (@fd179_3) (And.intro (@pl179_3) (And.intro (@at179) (And.intro (@ty181) (And.intro (@sd181) (And.intro (@fd181_0) (And.intro (@pl181_0) (And.intro (@fd181_1) (And.intro (@pl181_1) (And.intro (@at181) (And.intro (@ty182) (And.intro (@el182) (And.intro (@ty183) (And.intro (@el183) (And.intro (@ty185) (And.intro (@sd185) (And.intro (@fd185_0) (And.intro (@pl185_0) (And.intro (@fd185_1) (And.intro (@pl185_1) (And.intro (@fd185_2) (And.intro (@pl185_2) (And.intro (@fd185_3) (And.intro (@pl185_3) (And.intro (@at185) (And.intro (@ty187) (And.intro (@sd187) (And.intro (@fd187_0) (And.intro (@pl187_0) (And.intro (@fd187_1) (And.intro (@pl187_1) (And.intro (@fd187_2) (And.intro (@pl187_2) (And.intro (@fd187_3) (And.intro (@pl187_3) (And.intro (@fd187_4) (And.intro (@pl187_4) (And.intro (@fd187_5) (And.intro (@pl187_5) (And.intro (@at187) (And.intro (@ty189) (And.intro (@sd189) (And.intro (@fd189_0) (And.intro (@pl189_0) (And.intro (@fd189_1) (And.intro (@pl189_1) (And.intro (@fd189_2) (And.intro (@pl189_2) (And.intro (@fd189_3) (And.intro (@pl189_3) (And.intro (@fd189_4) (And.intro (@pl189_4) (And.intro (@fd189_5) (And.intro (@pl189_5) (And.intro (@fd189_6) (And.intro (@pl189_6) (And.intro (@fd189_7) (And.intro (@pl189_7) (And.intro (@at189) (And.intro (@ty191) (And.intro (@sd191) (And.intro (@fd191_0) (And.intro (@pl191_0) (And.intro (@fd191_1) (And.intro (@pl191_1) (And.intro (@fd191_2) (And.intro (@pl191_2) (And.intro (@at191) (And.intro (@ty192) (And.intro (@ty219) (And.intro (@sd219) (And.intro (@fd219_0) (And.intro (@pl219_0) (And.intro (@fd219_1) (And.intro (@pl219_1) (And.intro (@at219) (And.intro (@ty247) (And.intro (@sd247) (And.intro (@fd247_0) (And.intro (@pl247_0) (And.intro (@fd247_1) (And.intro (@pl247_1) (And.intro (@at247) (And.intro (@ty277) (And.intro (@ty286) (And.intro (@ty288) (And.intro (@sd288) (And.intro (@fd288_0) (And.intro (@pl288_0) (And.intro (@fd288_1) (And.intro (@pl288_1) (And.intro (@fd288_2) (And.intro (@pl288_2) (And.intro (@fd288_3) (And.intro (@pl288_3) (And.intro (@at288) (And.intro (@ty290) (And.intro (@sd290) (And.intro (@fd290_0) (And.intro (@pl290_0) (And.intro (@fd290_1) (And.intro (@pl290_1) (And.intro (@fd290_2) (And.intro (@pl290_2) (And.intro (@fd290_3) (And.intro (@pl290_3) (And.intro (@fd290_4) (And.intro (@pl290_4) (And.intro (@fd290_5) (And.intro (@pl290_5) (And.intro (@fd290_6) (And.intro (@pl290_6) (And.intro (@at290) (@ty291)))))))))))))))))))))))))))))))))))))))))))))))))))))))))))))))))))))))))))))))))))))))))))))))))))))))))))))))))))))))))))))))))))))))))))))))))))))))))))))))))))))))))))))))))))))))))))))))))))))))))))))))))))))))))))))))))))))))))))))))))))))))))))))))))))))))))))))))))))))) := And.intro (@ty1) (And.intro (@ty2) (And.intro (@ty3) (And.intro (@ty4) (And.intro (@ty5) (And.intro (@ty6) (And.intro (@ty8) (And.intro (@sd8) (And.intro (@fd8_0) (And.intro (@pl8_0) (And.intro (@fd8_1) (And.intro (@pl8_1) (And.intro (@fd8_2) (And.intro (@pl8_2) (And.intro (@fd8_3) (And.intro (@pl8_3) (And.intro (@at8) (And.intro (@ty9) (And.intro (@is9) (And.intro (@ty12) (And.intro (@ty21) (And.intro (@ty22) (And.intro (@el22) (And.intro (@ty23) (And.intro (@ty25) (And.intro (@sd25) (And.intro (@fd25_0) (And.intro (@pl25_0) (And.intro (@fd25_1) (And.intro (@pl25_1) (And.intro (@at25) (And.intro (@ty26) (And.intro (@el26) (And.intro (@ty28) (And.intro (@sd28) (And.intro (@fd28_0) (And.intro (@pl28_0) (And.intro (@fd28_1) (And.intro (@pl28_1) (And.intro (@fd28_2) (And.intro (@pl28_2) (And.intro (@fd28_3) (And.intro (@pl28_3) (And.intro (@at28) (And.intro (@ty32) (And.intro (@ty37) (And.intro (@el37) (And.intro (@ty50) (And.intro (@el50) (And.intro (@ty68) (And.intro (@sd68) (And.intro (@fd68_0) (And.intro (@pl68_0) (And.intro (@fd68_1) (And.intro (@pl68_1) (And.intro (@fd68_2) (And.intro (@pl68_2) (And.intro (@at68) (And.intro (@ty71) (And.intro (@ty72) (And.intro (@el72) (And.intro (@ty74) (And.intro (@sd74) (And.intro (@fd74_0) (And.intro (@pl74_0) (And.intro (@fd74_1) (And.intro (@pl74_1) (And.intro (@at74) (And.intro (@ty77) (And.intro (@ty80) (And.intro (@ty86) (And.intro (@el86) (And.intro (@ty88) (And.intro (@el88) (And.intro (@ty90) (And.intro (@sd90) (And.intro (@fd90_0) (And.intro (@pl90_0) (And.intro (@fd90_1) (And.intro (@pl90_1) (And.intro (@fd90_2) (And.intro (@pl90_2) (And.intro (@fd90_3) (And.intro (@pl90_3) (And.intro (@fd90_4) (And.intro (@pl90_4) (And.intro (@fd90_5) (And.intro (@pl90_5) (And.intro (@at90) (And.intro (@ty91) (And.intro (@el91) (And.intro (@ty94) (And.intro (@el94) (And.intro (@ty96) (And.intro (@sd96) (And.intro (@fd96_0) (And.intro (@pl96_0) (And.intro (@fd96_1) (And.intro (@pl96_1) (And.intro (@fd96_2) (And.intro (@pl96_2) (And.intro (@at96) (And.intro (@ty116) (And.intro (@ty118) (And.intro (@el118) (And.intro (@ty119) (And.intro (@el119) (And.intro (@ty122) (And.intro (@ty125) (And.intro (@el125) (And.intro (@ty129) (And.intro (@ty130) (And.intro (@el130) (And.intro (@ty132) (And.intro (@sd132) (And.intro (@fd132_0) (And.intro (@pl132_0) (And.intro (@fd132_1) (And.intro (@pl132_1) (And.intro (@fd132_2) (And.intro (@pl132_2) (And.intro (@fd132_3) (And.intro (@pl132_3) (And.intro (@at132) (And.intro (@ty162) (And.intro (@ty163) (And.intro (@ty164) (And.intro (@ty166) (And.intro (@sd166) (And.intro (@fd166_0) (And.intro (@pl166_0) (And.intro (@fd166_1) (And.intro (@pl166_1) (And.intro (@at166) (And.intro (@ty167) (And.intro (@ty170) (And.intro (@el170) (And.intro (@ty173) (And.intro (@sd173) (And.intro (@fd173_0) (And.intro (@pl173_0) (And.intro (@fd173_1) (And.intro (@pl173_1) (And.intro (@fd173_2) (And.intro (@pl173_2) (And.intro (@at173) (And.intro (@ty175) (And.intro (@sd175) (And.intro (@fd175_0) (And.intro (@pl175_0) (And.intro (@fd175_1) (And.intro (@pl175_1) (And.intro (@at175) (And.intro (@ty176) (And.intro (@ty177) (And.intro (@el177) (And.intro (@ty179) (And.intro (@sd179) (And.intro (@fd179_0) (And.intro (@pl179_0) (And.intro (@fd179_1) (And.intro (@pl179_1) (And.intro (@fd179_2) (And.intro (@pl179_2) (And.intro (@fd179_3) (And.intro (@pl179_3) (And.intro (@at179) (And.intro (@ty181) (And.intro (@sd181) (And.intro (@fd181_0) (And.intro (@pl181_0) (And.intro (@fd181_1) (And.intro (@pl181_1) (And.intro (@at181) (And.intro (@ty182) (And.intro (@el182) (And.intro (@ty183) (And.intro (@el183) (And.intro (@ty185) (And.intro (@sd185) (And.intro (@fd185_0) (And.intro (@pl185_0) (And.intro (@fd185_1) (And.intro (@pl185_1) (And.intro (@fd185_2) (And.intro (@pl185_2) (And.intro (@fd185_3) (And.intro (@pl185_3) (And.intro (@at185) (And.intro (@ty187) (And.intro (@sd187) (And.intro (@fd187_0) (And.intro (@pl187_0) (And.intro (@fd187_1) (And.intro (@pl187_1) (And.intro (@fd187_2) (And.intro (@pl187_2) (And.intro (@fd187_3) (And.intro (@pl187_3) (And.intro (@fd187_4) (And.intro (@pl187_4) (And.intro (@fd187_5) (And.intro (@pl187_5) (And.intro (@at187) (And.intro (@ty189) (And.intro (@sd189) (And.intro (@fd189_0) (And.intro (@pl189_0) (And.intro (@fd189_1) (And.intro (@pl189_1) (And.intro (@fd189_2) (And.intro (@pl189_2) (And.intro (@fd189_3) (And.intro (@pl189_3) (And.intro (@fd189_4) (And.intro (@pl189_4) (And.intro (@fd189_5) (And.intro (@pl189_5) (And.intro (@fd189_6) (And.intro (@pl189_6) (And.intro (@fd189_7) (And.intro (@pl189_7) (And.intro (@at189) (And.intro (@ty191) (And.intro (@sd191) (And.intro (@fd191_0) (And.intro (@pl191_0) (And.intro (@fd191_1) (And.intro (@pl191_1) (And.intro (@fd191_2) (And.intro (@pl191_2) (And.intro (@at191) (And.intro (@ty192) (And.intro (@ty219) (And.intro (@sd219) (And.intro (@fd219_0) (And.intro (@pl219_0) (And.intro (@fd219_1) (And.intro (@pl219_1) (And.intro (@at219) (And.intro (@ty247) (And.intro (@sd247) (And.intro (@fd247_0) (And.intro (@pl247_0) (And.intro (@fd247_1) (And.intro (@pl247_1) (And.intro (@at247) (And.intro (@ty277) (And.intro (@ty286) (And.intro (@ty288) (And.intro (@sd288) (And.intro (@fd288_0) (And.intro (@pl288_0) (And.intro (@fd288_1) (And.intro (@pl288_1) (And.intro (@fd288_2) (And.intro (@pl288_2) (And.intro (@fd288_3) (And.intro (@pl288_3) (And.intro (@at288) (And.intro (@ty290) (And.intro (@sd290) (And.intro (@fd290_0) (And.intro (@pl290_0) (And.intro (@fd290_1) (And.intro (@pl290_1) (And.intro (@fd290_2) (And.intro (@pl290_2) (And.intro (@fd290_3) (And.intro (@pl290_3) (And.intro (@fd290_4) (And.intro (@pl290_4) (And.intro (@fd290_5) (And.intro (@pl290_5) (And.intro (@fd290_6) (And.intro (@pl290_6) (And.intro (@at290) (@ty291)))))))))))))))))))))))))))))))))))))))))))))))))))))))))))))))))))))))))))))))))))))))))))))))))))))))))))))))))))))))))))))))))))))))))))))))))))))))))))))))))))))))))))))))))))))))))))))))))))))))))))))))))))))))))))))))))))))))))))))))))))))))))))))))))))))))))))))))))))))
attribute [go_sem] vOps retQ resV resL res1 Nat.zero_add St.keep keepL_nil keepL_c1 keepL_c0 keepL_jnk cutLoc jnk_zero jnk_jnk getD_jnk_lt getD_jnk_ge set_jnk_lt set_jnk_ge gStep condG qV binV vV iV sV bV nV arV pickE joinA joinOk isOpt vEff binE vBin iBin sBin arith nilOf nBin boolOk okEqs okEqs1 eqL convI storeE newE sliceE appE lenE minE biE bndE cellsAt isB8 ldOk ld TyD.isAgg AV.shift AV.isAddr AV.cellsB AV.noLoc rowOf litRow fillA opS uside unw evL cv St.put opsOf Value.oneCell' vIdx stepI vRest reL reI mdL splice bef aft isCallB isCallV lookE updE lookR zeroA aggK cutE appS elemI rangeE nextE entryE rowX fnE ptrS ptrV ptrE arrNil ptrZ cellO lemA lemT
section
variable {c : Cx} {Q : Exit → St → Prop} {s : St} {all : Array Oper} {id : Nat} {y : Code}
theorem gE {f : Nat} {fn : Func} {code : Code} {args : List AV} {h : Hp} {R : AV → Hp → Prop} (hf : Tryz.prog.funcs[f]? = some fn) (hb : fn.body = some code) (hok : fnOk Tryz.prog f = true) (m : Nat) (hm : fn.ntmps - args.length = m) (hw : ∀ c : Cx, Awp Tryz.prog c code (retQ ty fn.results.toList R) ⟨args ++ jnk m [], [], h⟩) : ACalls Tryz.prog f args h R := acalls_in tyok hf hb hok m hm hw
theorem rI {rs : List ResultVar} {R : AV → Hp → Prop} (h : retQ ty rs R .ret s) : retQ ty rs R .ret s := h
theorem gO {A B : Prop} {t : Bool} [h : Stp Tryz.prog ty A B t] (ht : t = true) (hb : B) : A := h.sound ht hb
theorem gQ {A B : Prop} {t : Bool} [h : Stq Tryz.prog ty A B t] (ht : t = true) (hb : B) : A := h.sound ht hb
theorem gR {A : Prop} {N : St → Prop} {V : (St → Prop) → Prop} [h : Str Tryz.prog ty (mdL []) A N V] (hb : ∀ K1 : St → Prop, (∀ s', N s' → K1 s') → V K1) : A := h.sound tyok hb
theorem gM (md : Option Tmp → Nat) {A : Prop} {N : St → Prop} {V : (St → Prop) → Prop} [h : Str Tryz.prog ty md A N V] (hb : ∀ K1 : St → Prop, (∀ s', N s' → K1 s') → V K1) : A := h.sound tyok hb
theorem uD (id : Nat) (md : Option Tmp → Nat) (E0 : List Nat) (pl : List (Nat × List Nat × List Nat)) (n : Nat) (hn : s.sl.length = n) (hok : drawOk md all n E0 pl = true) (h : ∀ K1 : St → Prop, (∀ s', vRst Tryz.prog ty md all pl s' (Awp Tryz.prog c y Q) → K1 s') → vIdx Tryz.prog ty md all E0 s K1) : Awp Tryz.prog c (.seq (.region id all true) y) Q s := awp_seqD2 tyok (by kernel_rfl) md n hn hok h
theorem uE (id : Nat) (md : Option Tmp → Nat) (E0 : List Nat) (pl : List (Nat × List Nat × List Nat)) (n : Nat) (hn : s.sl.length = n) (hok : drawOk md all n E0 pl = true) (h : ∀ K1 : St → Prop, (∀ s', vRst Tryz.prog ty md all pl s' (Q .normal) → K1 s') → vIdx Tryz.prog ty md all E0 s K1) : Awp Tryz.prog c (.region id all true) Q s := awp_draw2 tyok (by kernel_rfl) md n hn hok h
theorem uF (id : Nat) (md : Option Tmp → Nat) (f : Nat) (E0 : List Nat) (pl : List (Nat × List Nat × List Nat)) (n : Nat) (hn : s.sl.length = n) (hok : drawOkF md all n f E0 pl = true) (h : ∀ K1 : St → Prop, (∀ s', vRst Tryz.prog ty md all pl s' (Awp Tryz.prog c y Q) → K1 s') → vIdx Tryz.prog ty md all (f :: E0) s K1) : Awp Tryz.prog c (.seq (.region id all true) y) Q s := awp_seqF2 tyok (by kernel_rfl) md n hn hok h
end
end Go.Proofs.YtlaakjlpfgfdkaaGreatDoor

