/- The types of this program, as facts. -/
import Derived.Test.YtmghfolmgmhabaaGreatDoorAvRun
import Derived.Test.YtmghfolmgmhabaaGreatDoorProg
namespace Go.Proofs.YtmghfolmgmhabaaGreatDoor
open Go
set_option linter.unusedVariables false
set_option linter.unusedSimpArgs false
noncomputable def ty : Nat → Option TyD := tyd Tryz.prog
theorem tyok : TyOk Tryz.prog ty := fun _ _ h => h
theorem ty1 : ty 1 = some ⟨1, 8, .func, [.v (.nilFunc)], []⟩ := by kernel_rfl
theorem ty2 : ty 2 = some ⟨1, 8, .int .i64, [.v (.int .i64 0)], []⟩ := by kernel_rfl
theorem ty3 : ty 3 = some ⟨1, 8, .int .i64, [.v (.int .i64 0)], []⟩ := by kernel_rfl
theorem ty4 : ty 4 = some ⟨1, 1, .bool, [.v (.bool false)], []⟩ := by kernel_rfl
theorem ty5 : ty 5 = some ⟨1, 1, .int .u8, [.v (.int .u8 0)], []⟩ := by kernel_rfl
theorem ty6 : ty 6 = some ⟨1, 1, .int .u8, [.v (.int .u8 0)], []⟩ := by kernel_rfl
theorem ty9 : ty 9 = some ⟨1, 16, .str, [.v (.string ⟨#[]⟩)], []⟩ := by kernel_rfl
theorem is9 : isStr ty 9 = true := by kernel_rfl
theorem ty12 : ty 12 = some ⟨1, 8, .int .u64, [.v (.int .u64 0)], []⟩ := by kernel_rfl
theorem ty22 : ty 22 = some ⟨1, 24, .slice 3, [.v (.slice none 0 0)], []⟩ := by kernel_rfl
theorem el22 : elemD ty 22 = some ⟨1, 8, .int .i64, [.v (.int .i64 0)], []⟩ := by kernel_rfl
theorem ty23 : ty 23 = some ⟨1, 8, .ptr 25, [.v (.pointer none)], []⟩ := by kernel_rfl
theorem ty25 : ty 25 = some ⟨2, 32, .struct [(0, 22), (1, 3)], [.v (.slice none 0 0), .v (.int .i64 0)], []⟩ := by kernel_rfl
theorem sd25 : structD ty 25 = some ⟨2, 32, .struct [(0, 22), (1, 3)], [.v (.slice none 0 0), .v (.int .i64 0)], []⟩ := by kernel_rfl
theorem fd25_0 : fdd ty 25 0 = some (0, ⟨1, 24, .slice 3, [.v (.slice none 0 0)], []⟩) := by kernel_rfl
theorem pl25_0 : places ty 25 0 = some (0, 1) := by kernel_rfl
theorem fd25_1 : fdd ty 25 1 = some (1, ⟨1, 8, .int .i64, [.v (.int .i64 0)], []⟩) := by kernel_rfl
theorem pl25_1 : places ty 25 1 = some (1, 1) := by kernel_rfl
theorem at25 : allTy ty ⟨2, 32, .struct [(0, 22), (1, 3)], [.v (.slice none 0 0), .v (.int .i64 0)], []⟩ = true := by kernel_rfl
theorem ty26 : ty 26 = some ⟨1, 24, .slice 106, [.v (.slice none 0 0)], []⟩ := by kernel_rfl
theorem el26 : elemD ty 26 = some ⟨5, 64, .struct [(0, 9), (1, 29), (2, 36), (4, 4)], [.v (.string ⟨#[]⟩), .v (.slice none 0 0), .v (.int .i64 0), .v (.int .i64 0), .v (.bool false)], []⟩ := by kernel_rfl
theorem ty29 : ty 29 = some ⟨1, 24, .slice 9, [.v (.slice none 0 0)], []⟩ := by kernel_rfl
theorem el29 : elemD ty 29 = some ⟨1, 16, .str, [.v (.string ⟨#[]⟩)], []⟩ := by kernel_rfl
theorem ty31 : ty 31 = some ⟨4, 64, .struct [(0, 9), (1, 9), (2, 3), (3, 29)], [.v (.string ⟨#[]⟩), .v (.string ⟨#[]⟩), .v (.int .i64 0), .v (.slice none 0 0)], []⟩ := by kernel_rfl
theorem sd31 : structD ty 31 = some ⟨4, 64, .struct [(0, 9), (1, 9), (2, 3), (3, 29)], [.v (.string ⟨#[]⟩), .v (.string ⟨#[]⟩), .v (.int .i64 0), .v (.slice none 0 0)], []⟩ := by kernel_rfl
theorem fd31_0 : fdd ty 31 0 = some (0, ⟨1, 16, .str, [.v (.string ⟨#[]⟩)], []⟩) := by kernel_rfl
theorem pl31_0 : places ty 31 0 = some (0, 1) := by kernel_rfl
theorem fd31_1 : fdd ty 31 1 = some (1, ⟨1, 16, .str, [.v (.string ⟨#[]⟩)], []⟩) := by kernel_rfl
theorem pl31_1 : places ty 31 1 = some (1, 1) := by kernel_rfl
theorem fd31_2 : fdd ty 31 2 = some (2, ⟨1, 8, .int .i64, [.v (.int .i64 0)], []⟩) := by kernel_rfl
theorem pl31_2 : places ty 31 2 = some (2, 1) := by kernel_rfl
theorem fd31_3 : fdd ty 31 3 = some (3, ⟨1, 24, .slice 9, [.v (.slice none 0 0)], []⟩) := by kernel_rfl
theorem pl31_3 : places ty 31 3 = some (3, 1) := by kernel_rfl
theorem at31 : allTy ty ⟨4, 64, .struct [(0, 9), (1, 9), (2, 3), (3, 29)], [.v (.string ⟨#[]⟩), .v (.string ⟨#[]⟩), .v (.int .i64 0), .v (.slice none 0 0)], []⟩ = true := by kernel_rfl
theorem ty36 : ty 36 = some ⟨2, 16, .struct [(0, 3), (1, 3)], [.v (.int .i64 0), .v (.int .i64 0)], [.i, .i]⟩ := by kernel_rfl
theorem sd36 : structD ty 36 = some ⟨2, 16, .struct [(0, 3), (1, 3)], [.v (.int .i64 0), .v (.int .i64 0)], [.i, .i]⟩ := by kernel_rfl
theorem fd36_0 : fdd ty 36 0 = some (0, ⟨1, 8, .int .i64, [.v (.int .i64 0)], []⟩) := by kernel_rfl
theorem pl36_0 : places ty 36 0 = some (0, 1) := by kernel_rfl
theorem fd36_1 : fdd ty 36 1 = some (1, ⟨1, 8, .int .i64, [.v (.int .i64 0)], []⟩) := by kernel_rfl
theorem pl36_1 : places ty 36 1 = some (1, 1) := by kernel_rfl
theorem at36 : allTy ty ⟨2, 16, .struct [(0, 3), (1, 3)], [.v (.int .i64 0), .v (.int .i64 0)], [.i, .i]⟩ = true := by kernel_rfl
theorem ty37 : ty 37 = some ⟨1, 8, .int .i64, [.v (.int .i64 0)], []⟩ := by kernel_rfl
theorem ty41 : ty 41 = some ⟨1, 24, .slice 36, [.v (.slice none 0 0)], []⟩ := by kernel_rfl
theorem el41 : elemD ty 41 = some ⟨2, 16, .struct [(0, 3), (1, 3)], [.v (.int .i64 0), .v (.int .i64 0)], [.i, .i]⟩ := by kernel_rfl
theorem ty106 : ty 106 = some ⟨5, 64, .struct [(0, 9), (1, 29), (2, 36), (4, 4)], [.v (.string ⟨#[]⟩), .v (.slice none 0 0), .v (.int .i64 0), .v (.int .i64 0), .v (.bool false)], []⟩ := by kernel_rfl
theorem sd106 : structD ty 106 = some ⟨5, 64, .struct [(0, 9), (1, 29), (2, 36), (4, 4)], [.v (.string ⟨#[]⟩), .v (.slice none 0 0), .v (.int .i64 0), .v (.int .i64 0), .v (.bool false)], []⟩ := by kernel_rfl
theorem fd106_0 : fdd ty 106 0 = some (0, ⟨1, 16, .str, [.v (.string ⟨#[]⟩)], []⟩) := by kernel_rfl
theorem pl106_0 : places ty 106 0 = some (0, 1) := by kernel_rfl
theorem fd106_1 : fdd ty 106 1 = some (1, ⟨1, 24, .slice 9, [.v (.slice none 0 0)], []⟩) := by kernel_rfl
theorem pl106_1 : places ty 106 1 = some (1, 1) := by kernel_rfl
theorem fd106_2 : fdd ty 106 2 = some (2, ⟨2, 16, .struct [(0, 3), (1, 3)], [.v (.int .i64 0), .v (.int .i64 0)], [.i, .i]⟩) := by kernel_rfl
theorem pl106_2 : places ty 106 2 = some (2, 2) := by kernel_rfl
theorem fd106_3 : fdd ty 106 3 = some (4, ⟨1, 1, .bool, [.v (.bool false)], []⟩) := by kernel_rfl
theorem pl106_3 : places ty 106 3 = some (4, 1) := by kernel_rfl
theorem at106 : allTy ty ⟨5, 64, .struct [(0, 9), (1, 29), (2, 36), (4, 4)], [.v (.string ⟨#[]⟩), .v (.slice none 0 0), .v (.int .i64 0), .v (.int .i64 0), .v (.bool false)], []⟩ = true := by kernel_rfl
theorem ty126 : ty 126 = some ⟨1, 24, .slice 29, [.v (.slice none 0 0)], []⟩ := by kernel_rfl
theorem el126 : elemD ty 126 = some ⟨1, 24, .slice 9, [.v (.slice none 0 0)], []⟩ := by kernel_rfl
theorem ty143 : ty 143 = some ⟨1, 24, .slice 145, [.v (.slice none 0 0)], []⟩ := by kernel_rfl
theorem el143 : elemD ty 143 = some ⟨6, 88, .struct [(0, 3), (1, 9), (2, 3), (3, 3), (4, 143), (5, 22)], [.v (.int .i64 0), .v (.string ⟨#[]⟩), .v (.int .i64 0), .v (.int .i64 0), .v (.slice none 0 0), .v (.slice none 0 0)], []⟩ := by kernel_rfl
theorem ty145 : ty 145 = some ⟨6, 88, .struct [(0, 3), (1, 9), (2, 3), (3, 3), (4, 143), (5, 22)], [.v (.int .i64 0), .v (.string ⟨#[]⟩), .v (.int .i64 0), .v (.int .i64 0), .v (.slice none 0 0), .v (.slice none 0 0)], []⟩ := by kernel_rfl
theorem sd145 : structD ty 145 = some ⟨6, 88, .struct [(0, 3), (1, 9), (2, 3), (3, 3), (4, 143), (5, 22)], [.v (.int .i64 0), .v (.string ⟨#[]⟩), .v (.int .i64 0), .v (.int .i64 0), .v (.slice none 0 0), .v (.slice none 0 0)], []⟩ := by kernel_rfl
theorem fd145_0 : fdd ty 145 0 = some (0, ⟨1, 8, .int .i64, [.v (.int .i64 0)], []⟩) := by kernel_rfl
theorem pl145_0 : places ty 145 0 = some (0, 1) := by kernel_rfl
theorem fd145_1 : fdd ty 145 1 = some (1, ⟨1, 16, .str, [.v (.string ⟨#[]⟩)], []⟩) := by kernel_rfl
theorem pl145_1 : places ty 145 1 = some (1, 1) := by kernel_rfl
theorem fd145_2 : fdd ty 145 2 = some (2, ⟨1, 8, .int .i64, [.v (.int .i64 0)], []⟩) := by kernel_rfl
theorem pl145_2 : places ty 145 2 = some (2, 1) := by kernel_rfl
theorem fd145_3 : fdd ty 145 3 = some (3, ⟨1, 8, .int .i64, [.v (.int .i64 0)], []⟩) := by kernel_rfl
theorem pl145_3 : places ty 145 3 = some (3, 1) := by kernel_rfl
theorem fd145_4 : fdd ty 145 4 = some (4, ⟨1, 24, .slice 145, [.v (.slice none 0 0)], []⟩) := by kernel_rfl
theorem pl145_4 : places ty 145 4 = some (4, 1) := by kernel_rfl
theorem fd145_5 : fdd ty 145 5 = some (5, ⟨1, 24, .slice 3, [.v (.slice none 0 0)], []⟩) := by kernel_rfl
theorem pl145_5 : places ty 145 5 = some (5, 1) := by kernel_rfl
theorem at145 : allTy ty ⟨6, 88, .struct [(0, 3), (1, 9), (2, 3), (3, 3), (4, 143), (5, 22)], [.v (.int .i64 0), .v (.string ⟨#[]⟩), .v (.int .i64 0), .v (.int .i64 0), .v (.slice none 0 0), .v (.slice none 0 0)], []⟩ = true := by kernel_rfl
theorem ty148 : ty 148 = some ⟨3, 24, .struct [(0, 36), (2, 3)], [.v (.int .i64 0), .v (.int .i64 0), .v (.int .i64 0)], []⟩ := by kernel_rfl
theorem sd148 : structD ty 148 = some ⟨3, 24, .struct [(0, 36), (2, 3)], [.v (.int .i64 0), .v (.int .i64 0), .v (.int .i64 0)], []⟩ := by kernel_rfl
theorem fd148_0 : fdd ty 148 0 = some (0, ⟨2, 16, .struct [(0, 3), (1, 3)], [.v (.int .i64 0), .v (.int .i64 0)], [.i, .i]⟩) := by kernel_rfl
theorem pl148_0 : places ty 148 0 = some (0, 2) := by kernel_rfl
theorem fd148_1 : fdd ty 148 1 = some (2, ⟨1, 8, .int .i64, [.v (.int .i64 0)], []⟩) := by kernel_rfl
theorem pl148_1 : places ty 148 1 = some (2, 1) := by kernel_rfl
theorem at148 : allTy ty ⟨3, 24, .struct [(0, 36), (2, 3)], [.v (.int .i64 0), .v (.int .i64 0), .v (.int .i64 0)], []⟩ = true := by kernel_rfl
theorem ty149 : ty 149 = some ⟨1, 24, .slice 148, [.v (.slice none 0 0)], []⟩ := by kernel_rfl
theorem el149 : elemD ty 149 = some ⟨3, 24, .struct [(0, 36), (2, 3)], [.v (.int .i64 0), .v (.int .i64 0), .v (.int .i64 0)], []⟩ := by kernel_rfl
theorem ty152 : ty 152 = some ⟨1, 24, .slice 155, [.v (.slice none 0 0)], []⟩ := by kernel_rfl
theorem el152 : elemD ty 152 = some ⟨1, 24, .slice 154, [.v (.slice none 0 0)], []⟩ := by kernel_rfl
theorem ty154 : ty 154 = some ⟨6, 80, .struct [(0, 9), (1, 3), (2, 9), (3, 3), (4, 4), (5, 152)], [.v (.string ⟨#[]⟩), .v (.int .i64 0), .v (.string ⟨#[]⟩), .v (.int .i64 0), .v (.bool false), .v (.slice none 0 0)], []⟩ := by kernel_rfl
theorem sd154 : structD ty 154 = some ⟨6, 80, .struct [(0, 9), (1, 3), (2, 9), (3, 3), (4, 4), (5, 152)], [.v (.string ⟨#[]⟩), .v (.int .i64 0), .v (.string ⟨#[]⟩), .v (.int .i64 0), .v (.bool false), .v (.slice none 0 0)], []⟩ := by kernel_rfl
theorem fd154_0 : fdd ty 154 0 = some (0, ⟨1, 16, .str, [.v (.string ⟨#[]⟩)], []⟩) := by kernel_rfl
theorem pl154_0 : places ty 154 0 = some (0, 1) := by kernel_rfl
theorem fd154_1 : fdd ty 154 1 = some (1, ⟨1, 8, .int .i64, [.v (.int .i64 0)], []⟩) := by kernel_rfl
theorem pl154_1 : places ty 154 1 = some (1, 1) := by kernel_rfl
theorem fd154_2 : fdd ty 154 2 = some (2, ⟨1, 16, .str, [.v (.string ⟨#[]⟩)], []⟩) := by kernel_rfl
theorem pl154_2 : places ty 154 2 = some (2, 1) := by kernel_rfl
theorem fd154_3 : fdd ty 154 3 = some (3, ⟨1, 8, .int .i64, [.v (.int .i64 0)], []⟩) := by kernel_rfl
theorem pl154_3 : places ty 154 3 = some (3, 1) := by kernel_rfl
theorem fd154_4 : fdd ty 154 4 = some (4, ⟨1, 1, .bool, [.v (.bool false)], []⟩) := by kernel_rfl
theorem pl154_4 : places ty 154 4 = some (4, 1) := by kernel_rfl
theorem fd154_5 : fdd ty 154 5 = some (5, ⟨1, 24, .slice 155, [.v (.slice none 0 0)], []⟩) := by kernel_rfl
theorem pl154_5 : places ty 154 5 = some (5, 1) := by kernel_rfl
theorem at154 : allTy ty ⟨6, 80, .struct [(0, 9), (1, 3), (2, 9), (3, 3), (4, 4), (5, 152)], [.v (.string ⟨#[]⟩), .v (.int .i64 0), .v (.string ⟨#[]⟩), .v (.int .i64 0), .v (.bool false), .v (.slice none 0 0)], []⟩ = true := by kernel_rfl
theorem ty155 : ty 155 = some ⟨1, 24, .slice 154, [.v (.slice none 0 0)], []⟩ := by kernel_rfl
theorem el155 : elemD ty 155 = some ⟨6, 80, .struct [(0, 9), (1, 3), (2, 9), (3, 3), (4, 4), (5, 152)], [.v (.string ⟨#[]⟩), .v (.int .i64 0), .v (.string ⟨#[]⟩), .v (.int .i64 0), .v (.bool false), .v (.slice none 0 0)], []⟩ := by kernel_rfl
theorem ty163 : ty 163 = some ⟨1, 8, .int .u64, [.v (.int .u64 0)], []⟩ := by kernel_rfl
theorem ty164 : ty 164 = some ⟨1, 8, .ptr 167, [.v (.pointer none)], []⟩ := by kernel_rfl
theorem ty165 : ty 165 = some ⟨1, 24, .slice 168, [.v (.slice none 0 0)], []⟩ := by kernel_rfl
theorem el165 : elemD ty 165 = some ⟨1, 8, .ptr 224, [.v (.pointer none)], []⟩ := by kernel_rfl
theorem ty167 : ty 167 = some ⟨4, 48, .struct [(0, 3), (1, 3), (2, 3), (3, 165)], [.v (.int .i64 0), .v (.int .i64 0), .v (.int .i64 0), .v (.slice none 0 0)], []⟩ := by kernel_rfl
theorem sd167 : structD ty 167 = some ⟨4, 48, .struct [(0, 3), (1, 3), (2, 3), (3, 165)], [.v (.int .i64 0), .v (.int .i64 0), .v (.int .i64 0), .v (.slice none 0 0)], []⟩ := by kernel_rfl
theorem fd167_0 : fdd ty 167 0 = some (0, ⟨1, 8, .int .i64, [.v (.int .i64 0)], []⟩) := by kernel_rfl
theorem pl167_0 : places ty 167 0 = some (0, 1) := by kernel_rfl
theorem fd167_1 : fdd ty 167 1 = some (1, ⟨1, 8, .int .i64, [.v (.int .i64 0)], []⟩) := by kernel_rfl
theorem pl167_1 : places ty 167 1 = some (1, 1) := by kernel_rfl
theorem fd167_2 : fdd ty 167 2 = some (2, ⟨1, 8, .int .i64, [.v (.int .i64 0)], []⟩) := by kernel_rfl
theorem pl167_2 : places ty 167 2 = some (2, 1) := by kernel_rfl
theorem fd167_3 : fdd ty 167 3 = some (3, ⟨1, 24, .slice 168, [.v (.slice none 0 0)], []⟩) := by kernel_rfl
theorem pl167_3 : places ty 167 3 = some (3, 1) := by kernel_rfl
theorem at167 : allTy ty ⟨4, 48, .struct [(0, 3), (1, 3), (2, 3), (3, 165)], [.v (.int .i64 0), .v (.int .i64 0), .v (.int .i64 0), .v (.slice none 0 0)], []⟩ = true := by kernel_rfl
theorem ty168 : ty 168 = some ⟨1, 8, .ptr 224, [.v (.pointer none)], []⟩ := by kernel_rfl
theorem ty180 : ty 180 = some ⟨1, 24, .slice 287, [.v (.slice none 0 0)], []⟩ := by kernel_rfl
theorem el180 : elemD ty 180 = some ⟨2, 24, .struct [(0, 9), (1, 3)], [.v (.string ⟨#[]⟩), .v (.int .i64 0)], [.s, .i]⟩ := by kernel_rfl
theorem ty182 : ty 182 = some ⟨3, 40, .struct [(0, 3), (1, 180), (2, 3)], [.v (.int .i64 0), .v (.slice none 0 0), .v (.int .i64 0)], []⟩ := by kernel_rfl
theorem sd182 : structD ty 182 = some ⟨3, 40, .struct [(0, 3), (1, 180), (2, 3)], [.v (.int .i64 0), .v (.slice none 0 0), .v (.int .i64 0)], []⟩ := by kernel_rfl
theorem fd182_0 : fdd ty 182 0 = some (0, ⟨1, 8, .int .i64, [.v (.int .i64 0)], []⟩) := by kernel_rfl
theorem pl182_0 : places ty 182 0 = some (0, 1) := by kernel_rfl
theorem fd182_1 : fdd ty 182 1 = some (1, ⟨1, 24, .slice 287, [.v (.slice none 0 0)], []⟩) := by kernel_rfl
theorem pl182_1 : places ty 182 1 = some (1, 1) := by kernel_rfl
theorem fd182_2 : fdd ty 182 2 = some (2, ⟨1, 8, .int .i64, [.v (.int .i64 0)], []⟩) := by kernel_rfl
theorem pl182_2 : places ty 182 2 = some (2, 1) := by kernel_rfl
theorem at182 : allTy ty ⟨3, 40, .struct [(0, 3), (1, 180), (2, 3)], [.v (.int .i64 0), .v (.slice none 0 0), .v (.int .i64 0)], []⟩ = true := by kernel_rfl
theorem ty187 : ty 187 = some ⟨1, 24, .slice 250, [.v (.slice none 0 0)], []⟩ := by kernel_rfl
theorem el187 : elemD ty 187 = some ⟨19, 296, .struct [(0, 3), (1, 9), (2, 242), (4, 243), (5, 248), (16, 9), (17, 187), (18, 187)], [.v (.int .i64 0), .v (.string ⟨#[]⟩), .v (.string ⟨#[]⟩), .v (.string ⟨#[]⟩), .v (.slice none 0 0), .v (.int .i64 0), .v (.slice none 0 0), .v (.string ⟨#[]⟩), .v (.string ⟨#[]⟩), .v (.string ⟨#[]⟩), .v (.int .i64 0), .v (.string ⟨#[]⟩), .v (.int .i64 0), .v (.bool false), .v (.string ⟨#[]⟩), .v (.string ⟨#[]⟩), .v (.string ⟨#[]⟩), .v (.slice none 0 0), .v (.slice none 0 0)], []⟩ := by kernel_rfl
theorem ty191 : ty 191 = some ⟨1, 8, .ptr 198, [.v (.pointer none)], []⟩ := by kernel_rfl
theorem ty192 : ty 192 = some ⟨1, 24, .slice 297, [.v (.slice none 0 0)], []⟩ := by kernel_rfl
theorem el192 : elemD ty 192 = some ⟨2, 40, .struct [(0, 9), (1, 155)], [.v (.string ⟨#[]⟩), .v (.slice none 0 0)], []⟩ := by kernel_rfl
theorem ty193 : ty 193 = some ⟨1, 8, .ptr 196, [.v (.pointer none)], []⟩ := by kernel_rfl
theorem ty194 : ty 194 = some ⟨1, 24, .slice 5, [.v (.slice none 0 0)], []⟩ := by kernel_rfl
theorem el194 : elemD ty 194 = some ⟨1, 1, .int .u8, [.v (.int .u8 0)], []⟩ := by kernel_rfl
theorem ty196 : ty 196 = some ⟨2, 32, .struct [(0, 193), (1, 194)], [.v (.pointer none), .v (.slice none 0 0)], []⟩ := by kernel_rfl
theorem sd196 : structD ty 196 = some ⟨2, 32, .struct [(0, 193), (1, 194)], [.v (.pointer none), .v (.slice none 0 0)], []⟩ := by kernel_rfl
theorem fd196_0 : fdd ty 196 0 = some (0, ⟨1, 8, .ptr 196, [.v (.pointer none)], []⟩) := by kernel_rfl
theorem pl196_0 : places ty 196 0 = some (0, 1) := by kernel_rfl
theorem fd196_1 : fdd ty 196 1 = some (1, ⟨1, 24, .slice 5, [.v (.slice none 0 0)], []⟩) := by kernel_rfl
theorem pl196_1 : places ty 196 1 = some (1, 1) := by kernel_rfl
theorem at196 : allTy ty ⟨2, 32, .struct [(0, 193), (1, 194)], [.v (.pointer none), .v (.slice none 0 0)], []⟩ = true := by kernel_rfl
theorem ty198 : ty 198 = some ⟨5, 88, .struct [(0, 155), (1, 192), (2, 196), (4, 3)], [.v (.slice none 0 0), .v (.slice none 0 0), .v (.pointer none), .v (.slice none 0 0), .v (.int .i64 0)], []⟩ := by kernel_rfl
theorem sd198 : structD ty 198 = some ⟨5, 88, .struct [(0, 155), (1, 192), (2, 196), (4, 3)], [.v (.slice none 0 0), .v (.slice none 0 0), .v (.pointer none), .v (.slice none 0 0), .v (.int .i64 0)], []⟩ := by kernel_rfl
theorem fd198_0 : fdd ty 198 0 = some (0, ⟨1, 24, .slice 154, [.v (.slice none 0 0)], []⟩) := by kernel_rfl
theorem pl198_0 : places ty 198 0 = some (0, 1) := by kernel_rfl
theorem fd198_1 : fdd ty 198 1 = some (1, ⟨1, 24, .slice 297, [.v (.slice none 0 0)], []⟩) := by kernel_rfl
theorem pl198_1 : places ty 198 1 = some (1, 1) := by kernel_rfl
theorem fd198_2 : fdd ty 198 2 = some (2, ⟨2, 32, .struct [(0, 193), (1, 194)], [.v (.pointer none), .v (.slice none 0 0)], []⟩) := by kernel_rfl
theorem pl198_2 : places ty 198 2 = some (2, 2) := by kernel_rfl
theorem fd198_3 : fdd ty 198 3 = some (4, ⟨1, 8, .int .i64, [.v (.int .i64 0)], []⟩) := by kernel_rfl
theorem pl198_3 : places ty 198 3 = some (4, 1) := by kernel_rfl
theorem at198 : allTy ty ⟨5, 88, .struct [(0, 155), (1, 192), (2, 196), (4, 3)], [.v (.slice none 0 0), .v (.slice none 0 0), .v (.pointer none), .v (.slice none 0 0), .v (.int .i64 0)], []⟩ = true := by kernel_rfl
theorem ty211 : ty 211 = some ⟨1, 8, .int .i64, [.v (.int .i64 0)], []⟩ := by kernel_rfl
theorem ty224 : ty 224 = some ⟨6, 56, .struct [(0, 9), (1, 3), (2, 4), (3, 3), (4, 3), (5, 3)], [.v (.string ⟨#[]⟩), .v (.int .i64 0), .v (.bool false), .v (.int .i64 0), .v (.int .i64 0), .v (.int .i64 0)], [.s, .i, .b, .i, .i, .i]⟩ := by kernel_rfl
theorem sd224 : structD ty 224 = some ⟨6, 56, .struct [(0, 9), (1, 3), (2, 4), (3, 3), (4, 3), (5, 3)], [.v (.string ⟨#[]⟩), .v (.int .i64 0), .v (.bool false), .v (.int .i64 0), .v (.int .i64 0), .v (.int .i64 0)], [.s, .i, .b, .i, .i, .i]⟩ := by kernel_rfl
theorem fd224_0 : fdd ty 224 0 = some (0, ⟨1, 16, .str, [.v (.string ⟨#[]⟩)], []⟩) := by kernel_rfl
theorem pl224_0 : places ty 224 0 = some (0, 1) := by kernel_rfl
theorem fd224_1 : fdd ty 224 1 = some (1, ⟨1, 8, .int .i64, [.v (.int .i64 0)], []⟩) := by kernel_rfl
theorem pl224_1 : places ty 224 1 = some (1, 1) := by kernel_rfl
theorem fd224_2 : fdd ty 224 2 = some (2, ⟨1, 1, .bool, [.v (.bool false)], []⟩) := by kernel_rfl
theorem pl224_2 : places ty 224 2 = some (2, 1) := by kernel_rfl
theorem fd224_3 : fdd ty 224 3 = some (3, ⟨1, 8, .int .i64, [.v (.int .i64 0)], []⟩) := by kernel_rfl
theorem pl224_3 : places ty 224 3 = some (3, 1) := by kernel_rfl
theorem fd224_4 : fdd ty 224 4 = some (4, ⟨1, 8, .int .i64, [.v (.int .i64 0)], []⟩) := by kernel_rfl
theorem pl224_4 : places ty 224 4 = some (4, 1) := by kernel_rfl
theorem fd224_5 : fdd ty 224 5 = some (5, ⟨1, 8, .int .i64, [.v (.int .i64 0)], []⟩) := by kernel_rfl
theorem pl224_5 : places ty 224 5 = some (5, 1) := by kernel_rfl
theorem at224 : allTy ty ⟨6, 56, .struct [(0, 9), (1, 3), (2, 4), (3, 3), (4, 3), (5, 3)], [.v (.string ⟨#[]⟩), .v (.int .i64 0), .v (.bool false), .v (.int .i64 0), .v (.int .i64 0), .v (.int .i64 0)], [.s, .i, .b, .i, .i, .i]⟩ = true := by kernel_rfl
theorem ty225 : ty 225 = some ⟨1, 8, .func, [.v (.nilFunc)], []⟩ := by kernel_rfl
theorem ty231 : ty 231 = some ⟨1, 8, .func, [.v (.nilFunc)], []⟩ := by kernel_rfl
theorem ty237 : ty 237 = some ⟨1, 8, .ptr 240, [.v (.pointer none)], []⟩ := by kernel_rfl
theorem ty238 : ty 238 = some ⟨1, 24, .slice 253, [.v (.slice none 0 0)], []⟩ := by kernel_rfl
theorem el238 : elemD ty 238 = some ⟨1, 8, .ptr 252, [.v (.pointer none)], []⟩ := by kernel_rfl
theorem ty240 : ty 240 = some ⟨4, 56, .struct [(0, 9), (1, 3), (2, 238), (3, 4)], [.v (.string ⟨#[]⟩), .v (.int .i64 0), .v (.slice none 0 0), .v (.bool false)], []⟩ := by kernel_rfl
theorem sd240 : structD ty 240 = some ⟨4, 56, .struct [(0, 9), (1, 3), (2, 238), (3, 4)], [.v (.string ⟨#[]⟩), .v (.int .i64 0), .v (.slice none 0 0), .v (.bool false)], []⟩ := by kernel_rfl
theorem fd240_0 : fdd ty 240 0 = some (0, ⟨1, 16, .str, [.v (.string ⟨#[]⟩)], []⟩) := by kernel_rfl
theorem pl240_0 : places ty 240 0 = some (0, 1) := by kernel_rfl
theorem fd240_1 : fdd ty 240 1 = some (1, ⟨1, 8, .int .i64, [.v (.int .i64 0)], []⟩) := by kernel_rfl
theorem pl240_1 : places ty 240 1 = some (1, 1) := by kernel_rfl
theorem fd240_2 : fdd ty 240 2 = some (2, ⟨1, 24, .slice 253, [.v (.slice none 0 0)], []⟩) := by kernel_rfl
theorem pl240_2 : places ty 240 2 = some (2, 1) := by kernel_rfl
theorem fd240_3 : fdd ty 240 3 = some (3, ⟨1, 1, .bool, [.v (.bool false)], []⟩) := by kernel_rfl
theorem pl240_3 : places ty 240 3 = some (3, 1) := by kernel_rfl
theorem at240 : allTy ty ⟨4, 56, .struct [(0, 9), (1, 3), (2, 238), (3, 4)], [.v (.string ⟨#[]⟩), .v (.int .i64 0), .v (.slice none 0 0), .v (.bool false)], []⟩ = true := by kernel_rfl
theorem ty242 : ty 242 = some ⟨2, 32, .struct [(0, 9), (1, 9)], [.v (.string ⟨#[]⟩), .v (.string ⟨#[]⟩)], [.s, .s]⟩ := by kernel_rfl
theorem sd242 : structD ty 242 = some ⟨2, 32, .struct [(0, 9), (1, 9)], [.v (.string ⟨#[]⟩), .v (.string ⟨#[]⟩)], [.s, .s]⟩ := by kernel_rfl
theorem fd242_0 : fdd ty 242 0 = some (0, ⟨1, 16, .str, [.v (.string ⟨#[]⟩)], []⟩) := by kernel_rfl
theorem pl242_0 : places ty 242 0 = some (0, 1) := by kernel_rfl
theorem fd242_1 : fdd ty 242 1 = some (1, ⟨1, 16, .str, [.v (.string ⟨#[]⟩)], []⟩) := by kernel_rfl
theorem pl242_1 : places ty 242 1 = some (1, 1) := by kernel_rfl
theorem at242 : allTy ty ⟨2, 32, .struct [(0, 9), (1, 9)], [.v (.string ⟨#[]⟩), .v (.string ⟨#[]⟩)], [.s, .s]⟩ = true := by kernel_rfl
theorem ty243 : ty 243 = some ⟨1, 24, .slice 335, [.v (.slice none 0 0)], []⟩ := by kernel_rfl
theorem el243 : elemD ty 243 = some ⟨2, 24, .struct [(0, 9), (1, 3)], [.v (.string ⟨#[]⟩), .v (.int .i64 0)], [.s, .i]⟩ := by kernel_rfl
theorem ty248 : ty 248 = some ⟨11, 152, .struct [(0, 3), (1, 244), (2, 242), (4, 9), (5, 246), (9, 242)], [.v (.int .i64 0), .v (.slice none 0 0), .v (.string ⟨#[]⟩), .v (.string ⟨#[]⟩), .v (.string ⟨#[]⟩), .v (.int .i64 0), .v (.string ⟨#[]⟩), .v (.int .i64 0), .v (.bool false), .v (.string ⟨#[]⟩), .v (.string ⟨#[]⟩)], []⟩ := by kernel_rfl
theorem sd248 : structD ty 248 = some ⟨11, 152, .struct [(0, 3), (1, 244), (2, 242), (4, 9), (5, 246), (9, 242)], [.v (.int .i64 0), .v (.slice none 0 0), .v (.string ⟨#[]⟩), .v (.string ⟨#[]⟩), .v (.string ⟨#[]⟩), .v (.int .i64 0), .v (.string ⟨#[]⟩), .v (.int .i64 0), .v (.bool false), .v (.string ⟨#[]⟩), .v (.string ⟨#[]⟩)], []⟩ := by kernel_rfl
theorem fd248_0 : fdd ty 248 0 = some (0, ⟨1, 8, .int .i64, [.v (.int .i64 0)], []⟩) := by kernel_rfl
theorem pl248_0 : places ty 248 0 = some (0, 1) := by kernel_rfl
theorem fd248_1 : fdd ty 248 1 = some (1, ⟨1, 24, .slice 248, [.v (.slice none 0 0)], []⟩) := by kernel_rfl
theorem pl248_1 : places ty 248 1 = some (1, 1) := by kernel_rfl
theorem fd248_2 : fdd ty 248 2 = some (2, ⟨2, 32, .struct [(0, 9), (1, 9)], [.v (.string ⟨#[]⟩), .v (.string ⟨#[]⟩)], [.s, .s]⟩) := by kernel_rfl
theorem pl248_2 : places ty 248 2 = some (2, 2) := by kernel_rfl
theorem fd248_3 : fdd ty 248 3 = some (4, ⟨1, 16, .str, [.v (.string ⟨#[]⟩)], []⟩) := by kernel_rfl
theorem pl248_3 : places ty 248 3 = some (4, 1) := by kernel_rfl
theorem fd248_4 : fdd ty 248 4 = some (5, ⟨4, 40, .struct [(0, 3), (1, 9), (2, 3), (3, 4)], [.v (.int .i64 0), .v (.string ⟨#[]⟩), .v (.int .i64 0), .v (.bool false)], [.i, .s, .i, .b]⟩) := by kernel_rfl
theorem pl248_4 : places ty 248 4 = some (5, 4) := by kernel_rfl
theorem fd248_5 : fdd ty 248 5 = some (9, ⟨2, 32, .struct [(0, 9), (1, 9)], [.v (.string ⟨#[]⟩), .v (.string ⟨#[]⟩)], [.s, .s]⟩) := by kernel_rfl
theorem pl248_5 : places ty 248 5 = some (9, 2) := by kernel_rfl
theorem at248 : allTy ty ⟨11, 152, .struct [(0, 3), (1, 244), (2, 242), (4, 9), (5, 246), (9, 242)], [.v (.int .i64 0), .v (.slice none 0 0), .v (.string ⟨#[]⟩), .v (.string ⟨#[]⟩), .v (.string ⟨#[]⟩), .v (.int .i64 0), .v (.string ⟨#[]⟩), .v (.int .i64 0), .v (.bool false), .v (.string ⟨#[]⟩), .v (.string ⟨#[]⟩)], []⟩ = true := by kernel_rfl
theorem ty250 : ty 250 = some ⟨19, 296, .struct [(0, 3), (1, 9), (2, 242), (4, 243), (5, 248), (16, 9), (17, 187), (18, 187)], [.v (.int .i64 0), .v (.string ⟨#[]⟩), .v (.string ⟨#[]⟩), .v (.string ⟨#[]⟩), .v (.slice none 0 0), .v (.int .i64 0), .v (.slice none 0 0), .v (.string ⟨#[]⟩), .v (.string ⟨#[]⟩), .v (.string ⟨#[]⟩), .v (.int .i64 0), .v (.string ⟨#[]⟩), .v (.int .i64 0), .v (.bool false), .v (.string ⟨#[]⟩), .v (.string ⟨#[]⟩), .v (.string ⟨#[]⟩), .v (.slice none 0 0), .v (.slice none 0 0)], []⟩ := by kernel_rfl
theorem sd250 : structD ty 250 = some ⟨19, 296, .struct [(0, 3), (1, 9), (2, 242), (4, 243), (5, 248), (16, 9), (17, 187), (18, 187)], [.v (.int .i64 0), .v (.string ⟨#[]⟩), .v (.string ⟨#[]⟩), .v (.string ⟨#[]⟩), .v (.slice none 0 0), .v (.int .i64 0), .v (.slice none 0 0), .v (.string ⟨#[]⟩), .v (.string ⟨#[]⟩), .v (.string ⟨#[]⟩), .v (.int .i64 0), .v (.string ⟨#[]⟩), .v (.int .i64 0), .v (.bool false), .v (.string ⟨#[]⟩), .v (.string ⟨#[]⟩), .v (.string ⟨#[]⟩), .v (.slice none 0 0), .v (.slice none 0 0)], []⟩ := by kernel_rfl
theorem fd250_0 : fdd ty 250 0 = some (0, ⟨1, 8, .int .i64, [.v (.int .i64 0)], []⟩) := by kernel_rfl
theorem pl250_0 : places ty 250 0 = some (0, 1) := by kernel_rfl
theorem fd250_1 : fdd ty 250 1 = some (1, ⟨1, 16, .str, [.v (.string ⟨#[]⟩)], []⟩) := by kernel_rfl
theorem pl250_1 : places ty 250 1 = some (1, 1) := by kernel_rfl
theorem fd250_2 : fdd ty 250 2 = some (2, ⟨2, 32, .struct [(0, 9), (1, 9)], [.v (.string ⟨#[]⟩), .v (.string ⟨#[]⟩)], [.s, .s]⟩) := by kernel_rfl
theorem pl250_2 : places ty 250 2 = some (2, 2) := by kernel_rfl
theorem fd250_3 : fdd ty 250 3 = some (4, ⟨1, 24, .slice 335, [.v (.slice none 0 0)], []⟩) := by kernel_rfl
theorem pl250_3 : places ty 250 3 = some (4, 1) := by kernel_rfl
theorem fd250_4 : fdd ty 250 4 = some (5, ⟨11, 152, .struct [(0, 3), (1, 244), (2, 242), (4, 9), (5, 246), (9, 242)], [.v (.int .i64 0), .v (.slice none 0 0), .v (.string ⟨#[]⟩), .v (.string ⟨#[]⟩), .v (.string ⟨#[]⟩), .v (.int .i64 0), .v (.string ⟨#[]⟩), .v (.int .i64 0), .v (.bool false), .v (.string ⟨#[]⟩), .v (.string ⟨#[]⟩)], []⟩) := by kernel_rfl
theorem pl250_4 : places ty 250 4 = some (5, 11) := by kernel_rfl
theorem fd250_5 : fdd ty 250 5 = some (16, ⟨1, 16, .str, [.v (.string ⟨#[]⟩)], []⟩) := by kernel_rfl
theorem pl250_5 : places ty 250 5 = some (16, 1) := by kernel_rfl
theorem fd250_6 : fdd ty 250 6 = some (17, ⟨1, 24, .slice 250, [.v (.slice none 0 0)], []⟩) := by kernel_rfl
theorem pl250_6 : places ty 250 6 = some (17, 1) := by kernel_rfl
theorem fd250_7 : fdd ty 250 7 = some (18, ⟨1, 24, .slice 250, [.v (.slice none 0 0)], []⟩) := by kernel_rfl
theorem pl250_7 : places ty 250 7 = some (18, 1) := by kernel_rfl
theorem at250 : allTy ty ⟨19, 296, .struct [(0, 3), (1, 9), (2, 242), (4, 243), (5, 248), (16, 9), (17, 187), (18, 187)], [.v (.int .i64 0), .v (.string ⟨#[]⟩), .v (.string ⟨#[]⟩), .v (.string ⟨#[]⟩), .v (.slice none 0 0), .v (.int .i64 0), .v (.slice none 0 0), .v (.string ⟨#[]⟩), .v (.string ⟨#[]⟩), .v (.string ⟨#[]⟩), .v (.int .i64 0), .v (.string ⟨#[]⟩), .v (.int .i64 0), .v (.bool false), .v (.string ⟨#[]⟩), .v (.string ⟨#[]⟩), .v (.string ⟨#[]⟩), .v (.slice none 0 0), .v (.slice none 0 0)], []⟩ = true := by kernel_rfl
theorem ty252 : ty 252 = some ⟨21, 328, .struct [(0, 250), (19, 187), (20, 4)], [.v (.int .i64 0), .v (.string ⟨#[]⟩), .v (.string ⟨#[]⟩), .v (.string ⟨#[]⟩), .v (.slice none 0 0), .v (.int .i64 0), .v (.slice none 0 0), .v (.string ⟨#[]⟩), .v (.string ⟨#[]⟩), .v (.string ⟨#[]⟩), .v (.int .i64 0), .v (.string ⟨#[]⟩), .v (.int .i64 0), .v (.bool false), .v (.string ⟨#[]⟩), .v (.string ⟨#[]⟩), .v (.string ⟨#[]⟩), .v (.slice none 0 0), .v (.slice none 0 0), .v (.slice none 0 0), .v (.bool false)], []⟩ := by kernel_rfl
theorem sd252 : structD ty 252 = some ⟨21, 328, .struct [(0, 250), (19, 187), (20, 4)], [.v (.int .i64 0), .v (.string ⟨#[]⟩), .v (.string ⟨#[]⟩), .v (.string ⟨#[]⟩), .v (.slice none 0 0), .v (.int .i64 0), .v (.slice none 0 0), .v (.string ⟨#[]⟩), .v (.string ⟨#[]⟩), .v (.string ⟨#[]⟩), .v (.int .i64 0), .v (.string ⟨#[]⟩), .v (.int .i64 0), .v (.bool false), .v (.string ⟨#[]⟩), .v (.string ⟨#[]⟩), .v (.string ⟨#[]⟩), .v (.slice none 0 0), .v (.slice none 0 0), .v (.slice none 0 0), .v (.bool false)], []⟩ := by kernel_rfl
theorem fd252_0 : fdd ty 252 0 = some (0, ⟨19, 296, .struct [(0, 3), (1, 9), (2, 242), (4, 243), (5, 248), (16, 9), (17, 187), (18, 187)], [.v (.int .i64 0), .v (.string ⟨#[]⟩), .v (.string ⟨#[]⟩), .v (.string ⟨#[]⟩), .v (.slice none 0 0), .v (.int .i64 0), .v (.slice none 0 0), .v (.string ⟨#[]⟩), .v (.string ⟨#[]⟩), .v (.string ⟨#[]⟩), .v (.int .i64 0), .v (.string ⟨#[]⟩), .v (.int .i64 0), .v (.bool false), .v (.string ⟨#[]⟩), .v (.string ⟨#[]⟩), .v (.string ⟨#[]⟩), .v (.slice none 0 0), .v (.slice none 0 0)], []⟩) := by kernel_rfl
theorem pl252_0 : places ty 252 0 = some (0, 19) := by kernel_rfl
theorem fd252_1 : fdd ty 252 1 = some (19, ⟨1, 24, .slice 250, [.v (.slice none 0 0)], []⟩) := by kernel_rfl
theorem pl252_1 : places ty 252 1 = some (19, 1) := by kernel_rfl
theorem fd252_2 : fdd ty 252 2 = some (20, ⟨1, 1, .bool, [.v (.bool false)], []⟩) := by kernel_rfl
theorem pl252_2 : places ty 252 2 = some (20, 1) := by kernel_rfl
theorem at252 : allTy ty ⟨21, 328, .struct [(0, 250), (19, 187), (20, 4)], [.v (.int .i64 0), .v (.string ⟨#[]⟩), .v (.string ⟨#[]⟩), .v (.string ⟨#[]⟩), .v (.slice none 0 0), .v (.int .i64 0), .v (.slice none 0 0), .v (.string ⟨#[]⟩), .v (.string ⟨#[]⟩), .v (.string ⟨#[]⟩), .v (.int .i64 0), .v (.string ⟨#[]⟩), .v (.int .i64 0), .v (.bool false), .v (.string ⟨#[]⟩), .v (.string ⟨#[]⟩), .v (.string ⟨#[]⟩), .v (.slice none 0 0), .v (.slice none 0 0), .v (.slice none 0 0), .v (.bool false)], []⟩ = true := by kernel_rfl
theorem ty253 : ty 253 = some ⟨1, 8, .ptr 252, [.v (.pointer none)], []⟩ := by kernel_rfl
theorem ty256 : ty 256 = some ⟨1, 8, .ptr 5, [.v (.pointer none)], []⟩ := by kernel_rfl
theorem ty278 : ty 278 = some ⟨1, 8, .struct [(0, 3)], [.v (.int .i64 0)], [.i]⟩ := by kernel_rfl
theorem sd278 : structD ty 278 = some ⟨1, 8, .struct [(0, 3)], [.v (.int .i64 0)], [.i]⟩ := by kernel_rfl
theorem fd278_0 : fdd ty 278 0 = some (0, ⟨1, 8, .int .i64, [.v (.int .i64 0)], []⟩) := by kernel_rfl
theorem pl278_0 : places ty 278 0 = some (0, 1) := by kernel_rfl
theorem at278 : allTy ty ⟨1, 8, .struct [(0, 3)], [.v (.int .i64 0)], [.i]⟩ = true := by kernel_rfl
theorem ty280 : ty 280 = some ⟨1, 8, .ptr 317, [.v (.pointer none)], []⟩ := by kernel_rfl
theorem ty282 : ty 282 = some ⟨1, 8, .ptr 284, [.v (.pointer none)], []⟩ := by kernel_rfl
theorem ty284 : ty 284 = some ⟨2, 32, .struct [(0, 180), (1, 3)], [.v (.slice none 0 0), .v (.int .i64 0)], []⟩ := by kernel_rfl
theorem sd284 : structD ty 284 = some ⟨2, 32, .struct [(0, 180), (1, 3)], [.v (.slice none 0 0), .v (.int .i64 0)], []⟩ := by kernel_rfl
theorem fd284_0 : fdd ty 284 0 = some (0, ⟨1, 24, .slice 287, [.v (.slice none 0 0)], []⟩) := by kernel_rfl
theorem pl284_0 : places ty 284 0 = some (0, 1) := by kernel_rfl
theorem fd284_1 : fdd ty 284 1 = some (1, ⟨1, 8, .int .i64, [.v (.int .i64 0)], []⟩) := by kernel_rfl
theorem pl284_1 : places ty 284 1 = some (1, 1) := by kernel_rfl
theorem at284 : allTy ty ⟨2, 32, .struct [(0, 180), (1, 3)], [.v (.slice none 0 0), .v (.int .i64 0)], []⟩ = true := by kernel_rfl
theorem ty287 : ty 287 = some ⟨2, 24, .struct [(0, 9), (1, 3)], [.v (.string ⟨#[]⟩), .v (.int .i64 0)], [.s, .i]⟩ := by kernel_rfl
theorem sd287 : structD ty 287 = some ⟨2, 24, .struct [(0, 9), (1, 3)], [.v (.string ⟨#[]⟩), .v (.int .i64 0)], [.s, .i]⟩ := by kernel_rfl
theorem fd287_0 : fdd ty 287 0 = some (0, ⟨1, 16, .str, [.v (.string ⟨#[]⟩)], []⟩) := by kernel_rfl
theorem pl287_0 : places ty 287 0 = some (0, 1) := by kernel_rfl
theorem fd287_1 : fdd ty 287 1 = some (1, ⟨1, 8, .int .i64, [.v (.int .i64 0)], []⟩) := by kernel_rfl
theorem pl287_1 : places ty 287 1 = some (1, 1) := by kernel_rfl
theorem at287 : allTy ty ⟨2, 24, .struct [(0, 9), (1, 3)], [.v (.string ⟨#[]⟩), .v (.int .i64 0)], [.s, .i]⟩ = true := by kernel_rfl
theorem ty297 : ty 297 = some ⟨2, 40, .struct [(0, 9), (1, 155)], [.v (.string ⟨#[]⟩), .v (.slice none 0 0)], []⟩ := by kernel_rfl
theorem sd297 : structD ty 297 = some ⟨2, 40, .struct [(0, 9), (1, 155)], [.v (.string ⟨#[]⟩), .v (.slice none 0 0)], []⟩ := by kernel_rfl
theorem fd297_0 : fdd ty 297 0 = some (0, ⟨1, 16, .str, [.v (.string ⟨#[]⟩)], []⟩) := by kernel_rfl
theorem pl297_0 : places ty 297 0 = some (0, 1) := by kernel_rfl
theorem fd297_1 : fdd ty 297 1 = some (1, ⟨1, 24, .slice 154, [.v (.slice none 0 0)], []⟩) := by kernel_rfl
theorem pl297_1 : places ty 297 1 = some (1, 1) := by kernel_rfl
theorem at297 : allTy ty ⟨2, 40, .struct [(0, 9), (1, 155)], [.v (.string ⟨#[]⟩), .v (.slice none 0 0)], []⟩ = true := by kernel_rfl
theorem ty304 : ty 304 = some ⟨1, 8, .func, [.v (.nilFunc)], []⟩ := by kernel_rfl
theorem ty312 : ty 312 = some ⟨1, 8, .ptr 278, [.v (.pointer none)], []⟩ := by kernel_rfl
theorem ty314 : ty 314 = some ⟨1, 8, .func, [.v (.nilFunc)], []⟩ := by kernel_rfl
theorem ty315 : ty 315 = some ⟨1, 24, .slice 280, [.v (.slice none 0 0)], []⟩ := by kernel_rfl
theorem el315 : elemD ty 315 = some ⟨1, 8, .ptr 317, [.v (.pointer none)], []⟩ := by kernel_rfl
theorem ty317 : ty 317 = some ⟨10, 152, .struct [(0, 145), (6, 315), (7, 3), (8, 22), (9, 3)], [.v (.int .i64 0), .v (.string ⟨#[]⟩), .v (.int .i64 0), .v (.int .i64 0), .v (.slice none 0 0), .v (.slice none 0 0), .v (.slice none 0 0), .v (.int .i64 0), .v (.slice none 0 0), .v (.int .i64 0)], []⟩ := by kernel_rfl
theorem sd317 : structD ty 317 = some ⟨10, 152, .struct [(0, 145), (6, 315), (7, 3), (8, 22), (9, 3)], [.v (.int .i64 0), .v (.string ⟨#[]⟩), .v (.int .i64 0), .v (.int .i64 0), .v (.slice none 0 0), .v (.slice none 0 0), .v (.slice none 0 0), .v (.int .i64 0), .v (.slice none 0 0), .v (.int .i64 0)], []⟩ := by kernel_rfl
theorem fd317_0 : fdd ty 317 0 = some (0, ⟨6, 88, .struct [(0, 3), (1, 9), (2, 3), (3, 3), (4, 143), (5, 22)], [.v (.int .i64 0), .v (.string ⟨#[]⟩), .v (.int .i64 0), .v (.int .i64 0), .v (.slice none 0 0), .v (.slice none 0 0)], []⟩) := by kernel_rfl
theorem pl317_0 : places ty 317 0 = some (0, 6) := by kernel_rfl
theorem fd317_1 : fdd ty 317 1 = some (6, ⟨1, 24, .slice 280, [.v (.slice none 0 0)], []⟩) := by kernel_rfl
theorem pl317_1 : places ty 317 1 = some (6, 1) := by kernel_rfl
theorem fd317_2 : fdd ty 317 2 = some (7, ⟨1, 8, .int .i64, [.v (.int .i64 0)], []⟩) := by kernel_rfl
theorem pl317_2 : places ty 317 2 = some (7, 1) := by kernel_rfl
theorem fd317_3 : fdd ty 317 3 = some (8, ⟨1, 24, .slice 3, [.v (.slice none 0 0)], []⟩) := by kernel_rfl
theorem pl317_3 : places ty 317 3 = some (8, 1) := by kernel_rfl
theorem fd317_4 : fdd ty 317 4 = some (9, ⟨1, 8, .int .i64, [.v (.int .i64 0)], []⟩) := by kernel_rfl
theorem pl317_4 : places ty 317 4 = some (9, 1) := by kernel_rfl
theorem at317 : allTy ty ⟨10, 152, .struct [(0, 145), (6, 315), (7, 3), (8, 22), (9, 3)], [.v (.int .i64 0), .v (.string ⟨#[]⟩), .v (.int .i64 0), .v (.int .i64 0), .v (.slice none 0 0), .v (.slice none 0 0), .v (.slice none 0 0), .v (.int .i64 0), .v (.slice none 0 0), .v (.int .i64 0)], []⟩ = true := by kernel_rfl
theorem ty320 : ty 320 = some ⟨1, 8, .func, [.v (.nilFunc)], []⟩ := by kernel_rfl
theorem ty335 : ty 335 = some ⟨2, 24, .struct [(0, 9), (1, 3)], [.v (.string ⟨#[]⟩), .v (.int .i64 0)], [.s, .i]⟩ := by kernel_rfl
theorem sd335 : structD ty 335 = some ⟨2, 24, .struct [(0, 9), (1, 3)], [.v (.string ⟨#[]⟩), .v (.int .i64 0)], [.s, .i]⟩ := by kernel_rfl
theorem fd335_0 : fdd ty 335 0 = some (0, ⟨1, 16, .str, [.v (.string ⟨#[]⟩)], []⟩) := by kernel_rfl
theorem pl335_0 : places ty 335 0 = some (0, 1) := by kernel_rfl
theorem fd335_1 : fdd ty 335 1 = some (1, ⟨1, 8, .int .i64, [.v (.int .i64 0)], []⟩) := by kernel_rfl
theorem pl335_1 : places ty 335 1 = some (1, 1) := by kernel_rfl
theorem at335 : allTy ty ⟨2, 24, .struct [(0, 9), (1, 3)], [.v (.string ⟨#[]⟩), .v (.int .i64 0)], [.s, .i]⟩ = true := by kernel_rfl
theorem ty343 : ty 343 = some ⟨256, 256, .array 256 5, [.v (.int .u8 0), .v (.int .u8 0), .v (.int .u8 0), .v (.int .u8 0), .v (.int .u8 0), .v (.int .u8 0), .v (.int .u8 0), .v (.int .u8 0), .v (.int .u8 0), .v (.int .u8 0), .v (.int .u8 0), .v (.int .u8 0), .v (.int .u8 0), .v (.int .u8 0), .v (.int .u8 0), .v (.int .u8 0), .v (.int .u8 0), .v (.int .u8 0), .v (.int .u8 0), .v (.int .u8 0), .v (.int .u8 0), .v (.int .u8 0), .v (.int .u8 0), .v (.int .u8 0), .v (.int .u8 0), .v (.int .u8 0), .v (.int .u8 0), .v (.int .u8 0), .v (.int .u8 0), .v (.int .u8 0), .v (.int .u8 0), .v (.int .u8 0), .v (.int .u8 0), .v (.int .u8 0), .v (.int .u8 0), .v (.int .u8 0), .v (.int .u8 0), .v (.int .u8 0), .v (.int .u8 0), .v (.int .u8 0), .v (.int .u8 0), .v (.int .u8 0), .v (.int .u8 0), .v (.int .u8 0), .v (.int .u8 0), .v (.int .u8 0), .v (.int .u8 0), .v (.int .u8 0), .v (.int .u8 0), .v (.int .u8 0), .v (.int .u8 0), .v (.int .u8 0), .v (.int .u8 0), .v (.int .u8 0), .v (.int .u8 0), .v (.int .u8 0), .v (.int .u8 0), .v (.int .u8 0), .v (.int .u8 0), .v (.int .u8 0), .v (.int .u8 0), .v (.int .u8 0), .v (.int .u8 0), .v (.int .u8 0), .v (.int .u8 0), .v (.int .u8 0), .v (.int .u8 0), .v (.int .u8 0), .v (.int .u8 0), .v (.int .u8 0), .v (.int .u8 0), .v (.int .u8 0), .v (.int .u8 0), .v (.int .u8 0), .v (.int .u8 0), .v (.int .u8 0), .v (.int .u8 0), .v (.int .u8 0), .v (.int .u8 0), .v (.int .u8 0), .v (.int .u8 0), .v (.int .u8 0), .v (.int .u8 0), .v (.int .u8 0), .v (.int .u8 0), .v (.int .u8 0), .v (.int .u8 0), .v (.int .u8 0), .v (.int .u8 0), .v (.int .u8 0), .v (.int .u8 0), .v (.int .u8 0), .v (.int .u8 0), .v (.int .u8 0), .v (.int .u8 0), .v (.int .u8 0), .v (.int .u8 0), .v (.int .u8 0), .v (.int .u8 0), .v (.int .u8 0), .v (.int .u8 0), .v (.int .u8 0), .v (.int .u8 0), .v (.int .u8 0), .v (.int .u8 0), .v (.int .u8 0), .v (.int .u8 0), .v (.int .u8 0), .v (.int .u8 0), .v (.int .u8 0), .v (.int .u8 0), .v (.int .u8 0), .v (.int .u8 0), .v (.int .u8 0), .v (.int .u8 0), .v (.int .u8 0), .v (.int .u8 0), .v (.int .u8 0), .v (.int .u8 0), .v (.int .u8 0), .v (.int .u8 0), .v (.int .u8 0), .v (.int .u8 0), .v (.int .u8 0), .v (.int .u8 0), .v (.int .u8 0), .v (.int .u8 0), .v (.int .u8 0), .v (.int .u8 0), .v (.int .u8 0), .v (.int .u8 0), .v (.int .u8 0), .v (.int .u8 0), .v (.int .u8 0), .v (.int .u8 0), .v (.int .u8 0), .v (.int .u8 0), .v (.int .u8 0), .v (.int .u8 0), .v (.int .u8 0), .v (.int .u8 0), .v (.int .u8 0), .v (.int .u8 0), .v (.int .u8 0), .v (.int .u8 0), .v (.int .u8 0), .v (.int .u8 0), .v (.int .u8 0), .v (.int .u8 0), .v (.int .u8 0), .v (.int .u8 0), .v (.int .u8 0), .v (.int .u8 0), .v (.int .u8 0), .v (.int .u8 0), .v (.int .u8 0), .v (.int .u8 0), .v (.int .u8 0), .v (.int .u8 0), .v (.int .u8 0), .v (.int .u8 0), .v (.int .u8 0), .v (.int .u8 0), .v (.int .u8 0), .v (.int .u8 0), .v (.int .u8 0), .v (.int .u8 0), .v (.int .u8 0), .v (.int .u8 0), .v (.int .u8 0), .v (.int .u8 0), .v (.int .u8 0), .v (.int .u8 0), .v (.int .u8 0), .v (.int .u8 0), .v (.int .u8 0), .v (.int .u8 0), .v (.int .u8 0), .v (.int .u8 0), .v (.int .u8 0), .v (.int .u8 0), .v (.int .u8 0), .v (.int .u8 0), .v (.int .u8 0), .v (.int .u8 0), .v (.int .u8 0), .v (.int .u8 0), .v (.int .u8 0), .v (.int .u8 0), .v (.int .u8 0), .v (.int .u8 0), .v (.int .u8 0), .v (.int .u8 0), .v (.int .u8 0), .v (.int .u8 0), .v (.int .u8 0), .v (.int .u8 0), .v (.int .u8 0), .v (.int .u8 0), .v (.int .u8 0), .v (.int .u8 0), .v (.int .u8 0), .v (.int .u8 0), .v (.int .u8 0), .v (.int .u8 0), .v (.int .u8 0), .v (.int .u8 0), .v (.int .u8 0), .v (.int .u8 0), .v (.int .u8 0), .v (.int .u8 0), .v (.int .u8 0), .v (.int .u8 0), .v (.int .u8 0), .v (.int .u8 0), .v (.int .u8 0), .v (.int .u8 0), .v (.int .u8 0), .v (.int .u8 0), .v (.int .u8 0), .v (.int .u8 0), .v (.int .u8 0), .v (.int .u8 0), .v (.int .u8 0), .v (.int .u8 0), .v (.int .u8 0), .v (.int .u8 0), .v (.int .u8 0), .v (.int .u8 0), .v (.int .u8 0), .v (.int .u8 0), .v (.int .u8 0), .v (.int .u8 0), .v (.int .u8 0), .v (.int .u8 0), .v (.int .u8 0), .v (.int .u8 0), .v (.int .u8 0), .v (.int .u8 0), .v (.int .u8 0), .v (.int .u8 0), .v (.int .u8 0), .v (.int .u8 0), .v (.int .u8 0), .v (.int .u8 0), .v (.int .u8 0), .v (.int .u8 0), .v (.int .u8 0), .v (.int .u8 0), .v (.int .u8 0), .v (.int .u8 0), .v (.int .u8 0), .v (.int .u8 0), .v (.int .u8 0), .v (.int .u8 0), .v (.int .u8 0)], []⟩ := by kernel_rfl
theorem ty345 : ty 345 = some ⟨2, 2, .struct [(0, 5), (1, 5)], [.v (.int .u8 0), .v (.int .u8 0)], [.i, .i]⟩ := by kernel_rfl
theorem sd345 : structD ty 345 = some ⟨2, 2, .struct [(0, 5), (1, 5)], [.v (.int .u8 0), .v (.int .u8 0)], [.i, .i]⟩ := by kernel_rfl
theorem fd345_0 : fdd ty 345 0 = some (0, ⟨1, 1, .int .u8, [.v (.int .u8 0)], []⟩) := by kernel_rfl
theorem pl345_0 : places ty 345 0 = some (0, 1) := by kernel_rfl
theorem fd345_1 : fdd ty 345 1 = some (1, ⟨1, 1, .int .u8, [.v (.int .u8 0)], []⟩) := by kernel_rfl
theorem pl345_1 : places ty 345 1 = some (1, 1) := by kernel_rfl
theorem at345 : allTy ty ⟨2, 2, .struct [(0, 5), (1, 5)], [.v (.int .u8 0), .v (.int .u8 0)], [.i, .i]⟩ = true := by kernel_rfl
theorem ty346 : ty 346 = some ⟨32, 32, .array 16 345, [.v (.int .u8 0), .v (.int .u8 0), .v (.int .u8 0), .v (.int .u8 0), .v (.int .u8 0), .v (.int .u8 0), .v (.int .u8 0), .v (.int .u8 0), .v (.int .u8 0), .v (.int .u8 0), .v (.int .u8 0), .v (.int .u8 0), .v (.int .u8 0), .v (.int .u8 0), .v (.int .u8 0), .v (.int .u8 0), .v (.int .u8 0), .v (.int .u8 0), .v (.int .u8 0), .v (.int .u8 0), .v (.int .u8 0), .v (.int .u8 0), .v (.int .u8 0), .v (.int .u8 0), .v (.int .u8 0), .v (.int .u8 0), .v (.int .u8 0), .v (.int .u8 0), .v (.int .u8 0), .v (.int .u8 0), .v (.int .u8 0), .v (.int .u8 0)], []⟩ := by kernel_rfl
theorem ty366 : ty 366 = some ⟨1, 8, .func, [.v (.nilFunc)], []⟩ := by kernel_rfl
set_option maxRecDepth 100000
theorem lemA : type_of% (And.intro (@List.getD_cons_zero.{0}) (And.intro (@List.getD_cons_succ.{0}) (And.intro (@List.set_cons_zero.{0}) (And.intro (@List.set_cons_succ.{0}) (And.intro (@List.length_cons.{0}) (And.intro (@List.length_nil.{0}) (And.intro (@List.map_cons.{0, 0}) (And.intro (@List.map_nil.{0, 0}) (And.intro (@List.append_nil.{0}) (And.intro (@List.nil_append.{0}) (And.intro (@List.cons_append.{0}) (And.intro (@List.all_cons.{0}) (And.intro (@List.all_nil.{0}) (And.intro (@Bool.and_true) (And.intro (@Bool.and_self) (And.intro (@Option.bind_some.{0, 0}) (And.intro (@Option.map_some.{0, 0}) (And.intro (@List.getElem?_toArray.{0}) (And.intro (@List.getElem?_cons_zero.{0}) (And.intro (@List.getElem?_cons_succ.{0}) (And.intro (@true_and) (And.intro (@and_true) (And.intro (@and_self) (And.intro (@Option.some.injEq.{0}) (And.intro (@if_true.{1}) (And.intro (@implies_true.{0}) (And.intro (@implies_true.{1}) (And.intro (@imp_self) (And.intro (@List.toList_toArray.{0}) (And.intro (@Bool.false_eq_true) (And.intro (@Bool.true_eq_false) (And.intro (@false_and) (And.intro (@and_false) (And.intro (@List.filterMap_cons.{0, 0}) (And.intro (@beq_true) (And.intro (@beq_false) (And.intro (@Bool.not_eq_true') (And.intro (@Bool.not_eq_false') (And.intro (@true_implies) (And.intro (@Bool.cond_true_left) (And.intro (@Bool.cond_false_right) (And.intro (@Bool.not_not) (And.intro (@Bool.or_false) (And.intro (@Bool.false_or) (And.intro (@Bool.or_true) (And.intro (@Bool.true_or) (And.intro (@Bool.and_false) (And.intro (@Bool.false_and) (And.intro (@Bool.true_and) (And.intro (@Bool.not_true) (And.intro (@Bool.not_false) (And.intro (@cond_true.{1}) (And.intro (@cond_false.{1}) (And.intro (@upd_same) (And.intro (@List.take_succ_cons.{0}) (And.intro (@List.take_zero.{0}) (And.intro (@List.drop_succ_cons.{0}) (And.intro (@List.drop_zero.{0}) (And.intro (@List.take_nil.{0}) (And.intro (@List.drop_nil.{0}) (And.intro (@List.length_map.{0, 0}) (And.intro (@Int.add_sub_cancel) (And.intro (@List.length_set.{0}) (And.intro (@upd_upd) (And.intro (@Option.isSome_some.{0}) (And.intro (@ne_eq.{1}) (@not_false_eq_true))))))))))))))))))))))))))))))))))))))))))))))))))))))))))))))))))) := And.intro (@List.getD_cons_zero.{0}) (And.intro (@List.getD_cons_succ.{0}) (And.intro (@List.set_cons_zero.{0}) (And.intro (@List.set_cons_succ.{0}) (And.intro (@List.length_cons.{0}) (And.intro (@List.length_nil.{0}) (And.intro (@List.map_cons.{0, 0}) (And.intro (@List.map_nil.{0, 0}) (And.intro (@List.append_nil.{0}) (And.intro (@List.nil_append.{0}) (And.intro (@List.cons_append.{0}) (And.intro (@List.all_cons.{0}) (And.intro (@List.all_nil.{0}) (And.intro (@Bool.and_true) (And.intro (@Bool.and_self) (And.intro (@Option.bind_some.{0, 0}) (And.intro (@Option.map_some.{0, 0}) (And.intro (@List.getElem?_toArray.{0}) (And.intro (@List.getElem?_cons_zero.{0}) (And.intro (@List.getElem?_cons_succ.{0}) (And.intro (@true_and) (And.intro (@and_true) (And.intro (@and_self) (And.intro (@Option.some.injEq.{0}) (And.intro (@if_true.{1}) (And.intro (@implies_true.{0}) (And.intro (@implies_true.{1}) (And.intro (@imp_self) (And.intro (@List.toList_toArray.{0}) (And.intro (@Bool.false_eq_true) (And.intro (@Bool.true_eq_false) (And.intro (@false_and) (And.intro (@and_false) (And.intro (@List.filterMap_cons.{0, 0}) (And.intro (@beq_true) (And.intro (@beq_false) (And.intro (@Bool.not_eq_true') (And.intro (@Bool.not_eq_false') (And.intro (@true_implies) (And.intro (@Bool.cond_true_left) (And.intro (@Bool.cond_false_right) (And.intro (@Bool.not_not) (And.intro (@Bool.or_false) (And.intro (@Bool.false_or) (And.intro (@Bool.or_true) (And.intro (@Bool.true_or) (And.intro (@Bool.and_false) (And.intro (@Bool.false_and) (And.intro (@Bool.true_and) (And.intro (@Bool.not_true) (And.intro (@Bool.not_false) (And.intro (@cond_true.{1}) (And.intro (@cond_false.{1}) (And.intro (@upd_same) (And.intro (@List.take_succ_cons.{0}) (And.intro (@List.take_zero.{0}) (And.intro (@List.drop_succ_cons.{0}) (And.intro (@List.drop_zero.{0}) (And.intro (@List.take_nil.{0}) (And.intro (@List.drop_nil.{0}) (And.intro (@List.length_map.{0, 0}) (And.intro (@Int.add_sub_cancel) (And.intro (@List.length_set.{0}) (And.intro (@upd_upd) (And.intro (@Option.isSome_some.{0}) (And.intro (@ne_eq.{1}) (@not_false_eq_true))))))))))))))))))))))))))))))))))))))))))))))))))))))))))))))))))
theorem lemT : type_of% (And.intro (@ty1) (And.intro (@ty2) (And.intro (@ty3) (And.intro (@ty4) (And.intro (@ty5) (And.intro (@ty6) (And.intro (@ty9) (And.intro (@is9) (And.intro (@ty12) (And.intro (@ty22) (And.intro (@el22) (And.intro (@ty23) (And.intro (@ty25) (And.intro (@sd25) (And.intro (@fd25_0) (And.intro (@pl25_0) (And.intro (@fd25_1) (And.intro (@pl25_1) (And.intro (@at25) (And.intro (@ty26) (And.intro (@el26) (And.intro (@ty29) (And.intro (@el29) (And.intro (@ty31) (And.intro (@sd31) (And.intro (@fd31_0) (And.intro (@pl31_0) (And.intro (@fd31_1) (And.intro (@pl31_1) (And.intro (@fd31_2) (And.intro (@pl31_2) (And.intro (@fd31_3) (And.intro (@pl31_3) (And.intro (@at31) (And.intro (@ty36) (And.intro (@sd36) (And.intro (@fd36_0) (And.intro (@pl36_0) (And.intro (@fd36_1) (And.intro (@pl36_1) (And.intro (@at36) (And.intro (@ty37) (And.intro (@ty41) (And.intro (@el41) (And.intro (@ty106) (And.intro (@sd106) (And.intro (@fd106_0) (And.intro (@pl106_0) (And.intro (@fd106_1) (And.intro (@pl106_1) (And.intro (@fd106_2) (And.intro (@pl106_2) (And.intro (@fd106_3) (And.intro (@pl106_3) (And.intro (@at106) (And.intro (@ty126) (And.intro (@el126) (And.intro (@ty143) (And.intro (@el143) (And.intro (@ty145) (And.intro (@sd145) (And.intro (@fd145_0) (And.intro (@pl145_0) (And.intro (@fd145_1) (And.intro (@pl145_1) (And.intro (@fd145_2) (And.intro (@pl145_2) (And.intro (@fd145_3) (And.intro (@pl145_3) (And.intro (@fd145_4) (And.intro (@pl145_4) (And.intro (@fd145_5) (And.intro (@pl145_5) (And.intro (@at145) (And.intro (@ty148) (And.intro (@sd148) (And.intro (@fd148_0) (And.intro (@pl148_0) (And.intro (@fd148_1) (And.intro (@pl148_1) (And.intro (@at148) (And.intro (@ty149) (And.intro (@el149) (And.intro (@ty152) (And.intro (@el152) (And.intro (@ty154) (And.intro (@sd154) (And.intro (@fd154_0) (And.intro (@pl154_0) (And.intro (@fd154_1) (And.intro (@pl154_1) (And.intro (@fd154_2) (And.intro (@pl154_2) (And.intro (@fd154_3) (And.intro (@pl154_3) (And.intro (@fd154_4) (And.intro (@pl154_4) (And.intro (@fd154_5) (And.intro (@pl154_5) (And.intro (@at154) (And.intro (@ty155) (And.intro (@el155) (And.intro (@ty163) (And.intro (@ty164) (And.intro (@ty165) (And.intro (@el165) (And.intro (@ty167) (And.intro (@sd167) (And.intro (@fd167_0) (And.intro (@pl167_0) (And.intro (@fd167_1) (And.intro (@pl167_1) (And.intro (@fd167_2) (And.intro (@pl167_2) (And.intro (@fd167_3) (And.intro (@pl167_3) (And.intro (@at167) (And.intro (@ty168) (And.intro (@ty180) (And.intro (@el180) (And.intro (@ty182) (And.intro (@sd182) (And.intro (@fd182_0) (And.intro (@pl182_0) (And.intro (@fd182_1) (And.intro (@pl182_1) (And.intro (@fd182_2) (And.intro (@pl182_2) (And.intro (@at182) (And.intro (@ty187) (And.intro (@el187) (And.intro (@ty191) (And.intro (@ty192) (And.intro (@el192) (And.intro (@ty193) (And.intro (@ty194) (And.intro (@el194) (And.intro (@ty196) (And.intro (@sd196) (And.intro (@fd196_0) (And.intro (@pl196_0) (And.intro (@fd196_1) (And.intro (@pl196_1) (And.intro (@at196) (And.intro (@ty198) (And.intro (@sd198) (And.intro (@fd198_0) (And.intro (@pl198_0) (And.intro (@fd198_1) (And.intro (@pl198_1) (And.intro (@fd198_2) (And.intro (@pl198_2) (And.intro (@fd198_3) (And.intro (@pl198_3) (And.intro (@at198) (And.intro (@ty211) (And.intro (@ty224) (And.intro (@sd224) (And.intro (@fd224_0) (And.intro (@pl224_0) (And.intro (@fd224_1) (And.intro (@pl224_1) (And.intro (@fd224_2) (And.intro (@pl224_2) (And.intro (@fd224_3) (And.intro (@pl224_3) (And.intro (@fd224_4) (And.intro (@pl224_4) (And.intro (@fd224_5) (And.intro (@pl224_5) (And.intro (@at224) (And.intro (@ty225) (And.intro (@ty231) (And.intro (@ty237) (And.intro (@ty238) (And.intro (@el238) (And.intro (@ty240) (And.intro (@sd240) (And.intro (@fd240_0) (And.intro (@pl240_0) (And.intro (@fd240_1) (And.intro (@pl240_1) (And.intro (@fd240_2) (And.intro (@pl240_2) (And.intro (@fd240_3) (And.intro (@pl240_3) (And.intro (@at240) (And.intro (@ty242) (And.intro (@sd242) (And.intro (@fd242_0) (And.intro (@pl242_0) (And.intro (@fd242_1) (And.intro (@pl242_1) (And.intro (@at242) (And.intro (@ty243) (And.intro (@el243) (And.intro (@ty248) (And.intro (@sd248) (And.intro (@fd248_0) (And.intro (@pl248_0) (And.intro (@fd248_1) (And.intro (@pl248_1) (And.intro (@fd248_2) (And.intro (@pl248_2) (And.intro (@fd248_3) (And.intro (@pl248_3) (And.intro (@fd248_4) (And.intro (@pl248_4) (And.intro (@fd248_5) (And.intro (@pl248_5) (And.intro (@at248) (And.intro (@ty250) (And.intro (@sd250) (And.intro (@fd250_0) (And.intro (@pl250_0) (And.intro (@fd250_1) (And.intro (@pl250_1) (And.intro (@fd250_2) (And.intro (@pl250_2) (And.intro (@fd250_3) (And.intro (@pl250_3) (And.intro (@fd250_4) (And.intro (@pl250_4) (And.intro (@fd250_5) (And.intro (@pl250_5) (And.intro (@fd250_6) (And.intro (@pl250_6) (And.intro (@fd250_7) (And.intro (@pl250_7) (And.intro (@at250) (And.intro (@ty252) (And.intro (@sd252) (And.intro (@fd252_0) (And.intro (@pl252_0) (And.intro (@fd252_1) (And.intro (@pl252_1) (And.intro (@fd252_2) (And.intro (@pl252_2) (And.intro (@at252) (And.intro (@ty253) (And.intro (@ty256) (And.intro (@ty278) (And.intro (@sd278) (And.intro (@fd278_0) (And.intro (@pl278_0) (And.intro (@at278) (And.intro (@ty280) (And.intro (@ty282) (And.intro (@ty284) (And.intro (@sd284) (And.intro (@fd284_0) (And.intro (@pl284_0) (And.intro (@fd284_1) (And.intro (@pl284_1) (And.intro (@at284) (And.intro (@ty287) (And.intro (@sd287) (And.intro (@fd287_0) (And.intro (@pl287_0) (And.intro (@fd287_1) (And.intro (@pl287_1) (And.intro (@at287) (And.intro (@ty297) (And.intro (@sd297) (And.intro (@fd297_0) (And.intro (@pl297_0) (And.intro (@fd297_1) (And.intro (@pl297_1) (And.intro (@at297) (And.intro (@ty304) (And.intro (@ty312) (And.intro (@ty314) (And.intro (@ty315) (And.intro (@el315) (And.intro (@ty317) (And.intro (@sd317) (And.intro (@fd317_0) (And.intro (@pl317_0) (And.intro (@fd317_1) (And.intro (@pl317_1) (And.intro (@fd317_2) (And.intro (@pl317_2) (And.intro (@fd317_3) (And.intro (@pl317_3) (And.intro (@fd317_4) (And.intro (@pl317_4) (And.intro (@at317) (And.intro (@ty320) (And.intro (@ty335) (And.intro (@sd335) (And.intro (@fd335_0) (And.intro (@pl335_0) (And.intro (@fd335_1) (And.intro (@pl335_1) (And.intro (@at335) (And.intro (@ty343) (And.intro (@ty345) (And.intro (@sd345) (And.intro (@fd345_0) (And.intro (@pl345_0) (And.intro (@fd345_1) (And.intro (@pl345_1) (And.intro (@at345) (And.intro (@ty346) (@ty366))))))))))))))))))))))))))))))))))))))))))))))))))))))))))))))))))))))))))))))))))))))))))))))))))))))))))))))))))))))))))))))))))))))))))))))))))))))))))))))))))))))))))))))))))))))))))))))))))))))))))))))))))))))))))))))))))))))))))))))))))))))))))))))))))))))))))))))))))))))))))))))))))))))))))))))))) := And.intro (@ty1) (And.intro (@ty2) (And.intro (@ty3) (And.intro (@ty4) (And.intro (@ty5) (And.intro (@ty6) (And.intro (@ty9) (And.intro (@is9) (And.intro (@ty12) (And.intro (@ty22) (And.intro (@el22) (And.intro (@ty23) (And.intro (@ty25) (And.intro (@sd25) (And.intro (@fd25_0) (And.intro (@pl25_0) (And.intro (@fd25_1) (And.intro (@pl25_1) (And.intro (@at25) (And.intro (@ty26) (And.intro (@el26) (And.intro (@ty29) (And.intro (@el29) (And.intro (@ty31) (And.intro (@sd31) (And.intro (@fd31_0) (And.intro (@pl31_0) (And.intro (@fd31_1) (And.intro (@pl31_1) (And.intro (@fd31_2) (And.intro (@pl31_2) (And.intro (@fd31_3) (And.intro (@pl31_3) (And.intro (@at31) (And.intro (@ty36) (And.intro (@sd36) (And.intro (@fd36_0) (And.intro (@pl36_0) (And.intro (@fd36_1) (And.intro (@pl36_1) (And.intro (@at36) (And.intro (@ty37) (And.intro (@ty41) (And.intro (@el41) (And.intro (@ty106) (And.intro (@sd106) (And.intro (@fd106_0) (And.intro (@pl106_0) (And.intro (@fd106_1) (And.intro (@pl106_1) (And.intro (@fd106_2) (And.intro (@pl106_2) (And.intro (@fd106_3) (And.intro (@pl106_3) (And.intro (@at106) (And.intro (@ty126) (And.intro (@el126) (And.intro (@ty143) (And.intro (@el143) (And.intro (@ty145) (And.intro (@sd145) (And.intro (@fd145_0) (And.intro (@pl145_0) (And.intro (@fd145_1) (And.intro (@pl145_1) (And.intro (@fd145_2) (And.intro (@pl145_2) (And.intro (@fd145_3) (And.intro (@pl145_3) (And.intro (@fd145_4) (And.intro (@pl145_4) (And.intro (@fd145_5) (And.intro (@pl145_5) (And.intro (@at145) (And.intro (@ty148) (And.intro (@sd148) (And.intro (@fd148_0) (And.intro (@pl148_0) (And.intro (@fd148_1) (And.intro (@pl148_1) (And.intro (@at148) (And.intro (@ty149) (And.intro (@el149) (And.intro (@ty152) (And.intro (@el152) (And.intro (@ty154) (And.intro (@sd154) (And.intro (@fd154_0) (And.intro (@pl154_0) (And.intro (@fd154_1) (And.intro (@pl154_1) (And.intro (@fd154_2) (And.intro (@pl154_2) (And.intro (@fd154_3) (And.intro (@pl154_3) (And.intro (@fd154_4) (And.intro (@pl154_4) (And.intro (@fd154_5) (And.intro (@pl154_5) (And.intro (@at154) (And.intro (@ty155) (And.intro (@el155) (And.intro (@ty163) (And.intro (@ty164) (And.intro (@ty165) (And.intro (@el165) (And.intro (@ty167) (And.intro (@sd167) (And.intro (@fd167_0) (And.intro (@pl167_0) (And.intro (@fd167_1) (And.intro (@pl167_1) (And.intro (@fd167_2) (And.intro (@pl167_2) (And.intro (@fd167_3) (And.intro (@pl167_3) (And.intro (@at167) (And.intro (@ty168) (And.intro (@ty180) (And.intro (@el180) (And.intro (@ty182) (And.intro (@sd182) (And.intro (@fd182_0) (And.intro (@pl182_0) (And.intro (@fd182_1) (And.intro (@pl182_1) (And.intro (@fd182_2) (And.intro (@pl182_2) (And.intro (@at182) (And.intro (@ty187) (And.intro (@el187) (And.intro (@ty191) (And.intro (@ty192) (And.intro (@el192) (And.intro (@ty193) (And.intro (@ty194) (And.intro (@el194) (And.intro (@ty196) (And.intro (@sd196) (And.intro (@fd196_0) (And.intro (@pl196_0) (And.intro (@fd196_1) (And.intro (@pl196_1) (And.intro (@at196) (And.intro (@ty198) (And.intro (@sd198) (And.intro (@fd198_0) (And.intro (@pl198_0) (And.intro (@fd198_1) (And.intro (@pl198_1) (And.intro (@fd198_2) (And.intro (@pl198_2) (And.intro (@fd198_3) (And.intro (@pl198_3) (And.intro (@at198) (And.intro (@ty211) (And.intro (@ty224) (And.intro (@sd224) (And.intro (@fd224_0) (And.intro (@pl224_0) (And.intro (@fd224_1) (And.intro (@pl224_1) (And.intro (@fd224_2) (And.intro (@pl224_2) (And.intro (@fd224_3) (And.intro (@pl224_3) (And.intro (@fd224_4) (And.intro (@pl224_4) (And.intro (@fd224_5) (And.intro (@pl224_5) (And.intro (@at224) (And.intro (@ty225) (And.intro (@ty231) (And.intro (@ty237) (And.intro (@ty238) (And.intro (@el238) (And.intro (@ty240) (And.intro (@sd240) (And.intro (@fd240_0) (And.intro (@pl240_0) (And.intro (@fd240_1) (And.intro (@pl240_1) (And.intro (@fd240_2) (And.intro (@pl240_2) (And.intro (@fd240_3) (And.intro (@pl240_3) (And.intro (@at240) (And.intro (@ty242) (And.intro (@sd242) (And.intro (@fd242_0) (And.intro (@pl242_0) (And.intro (@fd242_1) (And.intro (@pl242_1) (And.intro (@at242) (And.intro (@ty243) (And.intro (@el243) (And.intro (@ty248) (And.intro (@sd248) (And.intro (@fd248_0) (And.intro (@pl248_0) (And.intro (@fd248_1) (And.intro (@pl248_1) (And.intro (@fd248_2) (And.intro (@pl248_2) (And.intro (@fd248_3) (And.intro (@pl248_3) (And.intro (@fd248_4) (And.intro (@pl248_4) (And.intro (@fd248_5) (And.intro (@pl248_5) (And.intro (@at248) (And.intro (@ty250) (And.intro (@sd250) (And.intro (@fd250_0) (And.intro (@pl250_0) (And.intro (@fd250_1) (And.intro (@pl250_1) (And.intro (@fd250_2) (And.intro (@pl250_2) (And.intro (@fd250_3) (And.intro (@pl250_3) (And.intro (@fd250_4) (And.intro (@pl250_4) (And.intro (@fd250_5) (And.intro (@pl250_5) (And.intro (@fd250_6) (And.intro (@pl250_6) (And.intro (@fd250_7) (And.intro (@pl250_7) (And.intro (@at250) (And.intro (@ty252) (And.intro (@sd252) (And.intro (@fd252_0) (And.intro (@pl252_0) (And.intro (@fd252_1) (And.intro (@pl252_1) (And.intro (@fd252_2) (And.intro (@pl252_2) (And.intro (@at252) (And.intro (@ty253) (And.intro (@ty256) (And.intro (@ty278) (And.intro (@sd278) (And.intro (@fd278_0) (And.intro (@pl278_0) (And.intro (@at278) (And.intro (@ty280) (And.intro (@ty282) (And.intro (@ty284) (And.intro (@sd284) (And.intro (@fd284_0) (And.intro (@pl284_0) (And.intro (@fd284_1) (And.intro (@pl284_1) (And.intro (@at284) (And.intro (@ty287) (And.intro (@sd287) (And.intro (@fd287_0) (And.intro (@pl287_0) (And.intro (@fd287_1) (And.intro (@pl287_1) (And.intro (@at287) (And.intro (@ty297) (And.intro (@sd297) (And.intro (@fd297_0) (And.intro (@pl297_0) (And.intro (@fd297_1) (And.intro (@pl297_1) (And.intro (@at297) (And.intro (@ty304) (And.intro (@ty312) (And.intro (@ty314) (And.intro (@ty315) (And.intro (@el315) (And.intro (@ty317) (And.intro (@sd317) (And.intro (@fd317_0) (And.intro (@pl317_0) (And.intro (@fd317_1) (And.intro (@pl317_1) (And.intro (@fd317_2) (And.intro (@pl317_2) (And.intro (@fd317_3) (And.intro (@pl317_3) (And.intro (@fd317_4) (And.intro (@pl317_4) (And.intro (@at317) (And.intro (@ty320) (And.intro (@ty335) (And.intro (@sd335) (And.intro (@fd335_0) (And.intro (@pl335_0) (And.intro (@fd335_1) (And.intro (@pl335_1) (And.intro (@at335) (And.intro (@ty343) (And.intro (@ty345) (And.intro (@sd345) (And.intro (@fd345_0) (And.intro (@pl345_0) (And.intro (@fd345_1) (And.intro (@pl345_1) (And.intro (@at345) (And.intro (@ty346) (@ty366))))))))))))))))))))))))))))))))))))))))))))))))))))))))))))))))))))))))))))))))))))))))))))))))))))))))))))))))))))))))))))))))))))))))))))))))))))))))))))))))))))))))))))))))))))))))))))))))))))))))))))))))))))))))))))))))))))))))))))))))))))))))))))))))))))))))))))))))))))))))))))))))))))))))))))))))
attribute [go_sem] vOps retQ resV resL res1 Nat.zero_add St.keep keepL_nil keepL_c1 keepL_c0 keepL_jnk cutLoc jnk_zero jnk_jnk getD_jnk_lt getD_jnk_ge set_jnk_lt set_jnk_ge gStep condG qV binV vV iV sV bV nV arV pickE joinA joinOk isOpt vEff binE vBin iBin sBin arith nilOf nBin boolOk okEqs okEqs1 eqL convI storeE newE sliceE appE lenE minE biE bndE cellsAt isB8 ldOk ld TyD.isAgg AV.shift AV.isAddr AV.cellsB AV.noLoc rowOf litRow fillA opS uside unw evL cv St.put opsOf Value.oneCell' vIdx stepI vRest reL reI mdL splice bef aft isCallB isCallV lookE updE lookR zeroA aggK cutE appS elemI rangeE nextE entryE rowX fnE ptrS ptrV ptrE arrNil ptrZ cellO lemA lemT
section
variable {c : Cx} {Q : Exit → St → Prop} {s : St} {all : Array Oper} {id : Nat} {y : Code}
theorem gE {f : Nat} {fn : Func} {code : Code} {args : List AV} {h : Hp} {R : AV → Hp → Prop} (hf : Tryz.prog.funcs[f]? = some fn) (hb : fn.body = some code) (hok : fnOk Tryz.prog f = true) (m : Nat) (hm : fn.ntmps - args.length = m) (hw : ∀ c : Cx, Awp Tryz.prog c code (retQ ty fn.results.toList R) ⟨args ++ jnk m [], [], h⟩) : ACalls Tryz.prog f args h R := acalls_in tyok hf hb hok m hm hw
theorem rI {rs : List ResultVar} {R : AV → Hp → Prop} (h : retQ ty rs R .ret s) : retQ ty rs R .ret s := h
theorem gO {A B : Prop} {t : Bool} [h : Stp Tryz.prog ty A B t] (ht : t = true) (hb : B) : A := h.sound ht hb
theorem gQ {A B : Prop} {t : Bool} [h : Stq Tryz.prog ty A B t] (ht : t = true) (hb : B) : A := h.sound ht hb
theorem gR {A : Prop} {N : St → Prop} {V : (St → Prop) → Prop} [h : Str Tryz.prog ty (mdL []) A N V] (hb : ∀ K1 : St → Prop, (∀ s', N s' → K1 s') → V K1) : A := h.sound tyok hb
theorem gM (md : Option Tmp → Nat) {A : Prop} {N : St → Prop} {V : (St → Prop) → Prop} [h : Str Tryz.prog ty md A N V] (hb : ∀ K1 : St → Prop, (∀ s', N s' → K1 s') → V K1) : A := h.sound tyok hb
theorem uD (id : Nat) (md : Option Tmp → Nat) (E0 : List Nat) (pl : List (Nat × List Nat × List Nat)) (n : Nat) (hn : s.sl.length = n) (hok : drawOk md all n E0 pl = true) (h : ∀ K1 : St → Prop, (∀ s', vRst Tryz.prog ty md all pl s' (Awp Tryz.prog c y Q) → K1 s') → vIdx Tryz.prog ty md all E0 s K1) : Awp Tryz.prog c (.seq (.region id all true) y) Q s := awp_seqD2 tyok (by kernel_rfl) md n hn hok h
theorem uE (id : Nat) (md : Option Tmp → Nat) (E0 : List Nat) (pl : List (Nat × List Nat × List Nat)) (n : Nat) (hn : s.sl.length = n) (hok : drawOk md all n E0 pl = true) (h : ∀ K1 : St → Prop, (∀ s', vRst Tryz.prog ty md all pl s' (Q .normal) → K1 s') → vIdx Tryz.prog ty md all E0 s K1) : Awp Tryz.prog c (.region id all true) Q s := awp_draw2 tyok (by kernel_rfl) md n hn hok h
theorem uF (id : Nat) (md : Option Tmp → Nat) (f : Nat) (E0 : List Nat) (pl : List (Nat × List Nat × List Nat)) (n : Nat) (hn : s.sl.length = n) (hok : drawOkF md all n f E0 pl = true) (h : ∀ K1 : St → Prop, (∀ s', vRst Tryz.prog ty md all pl s' (Awp Tryz.prog c y Q) → K1 s') → vIdx Tryz.prog ty md all (f :: E0) s K1) : Awp Tryz.prog c (.seq (.region id all true) y) Q s := awp_seqF2 tyok (by kernel_rfl) md n hn hok h
end
end Go.Proofs.YtmghfolmgmhabaaGreatDoor

