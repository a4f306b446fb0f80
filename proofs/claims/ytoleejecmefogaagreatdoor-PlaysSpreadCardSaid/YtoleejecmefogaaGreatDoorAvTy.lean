/- The types of this program, as facts. -/
import Derived.Test.YtoleejecmefogaaGreatDoorAvRun
import Derived.Test.YtoleejecmefogaaGreatDoorProg
namespace Go.Proofs.YtoleejecmefogaaGreatDoor
open Go
set_option linter.unusedVariables false
set_option linter.unusedSimpArgs false
noncomputable def ty : Nat → Option TyD := tyd Tryz.prog
theorem tyok : TyOk Tryz.prog ty := fun _ _ h => h
theorem ty1 : ty 1 = some ⟨1, 8, .func, [.v (.nilFunc)], []⟩ := by kernel_rfl
theorem ty2 : ty 2 = some ⟨1, 8, .int .i64, [.v (.int .i64 0)], []⟩ := by kernel_rfl
theorem ty3 : ty 3 = some ⟨1, 8, .int .i64, [.v (.int .i64 0)], []⟩ := by kernel_rfl
theorem ty4 : ty 4 = some ⟨1, 1, .bool, [.v (.bool false)], []⟩ := by kernel_rfl
theorem ty5 : ty 5 = some ⟨1, 1, .int .u8, [.v (.int .u8 0)], []⟩ := by kernel_rfl
theorem ty6 : ty 6 = some ⟨1, 1, .int .u8, [.v (.int .u8 0)], []⟩ := by kernel_rfl
theorem ty9 : ty 9 = some ⟨1, 16, .str, [.v (.string ⟨#[]⟩)], []⟩ := by kernel_rfl
theorem is9 : isStr ty 9 = true := by kernel_rfl
theorem ty22 : ty 22 = some ⟨1, 24, .slice 3, [.v (.slice none 0 0)], []⟩ := by kernel_rfl
theorem el22 : elemD ty 22 = some ⟨1, 8, .int .i64, [.v (.int .i64 0)], []⟩ := by kernel_rfl
theorem ty23 : ty 23 = some ⟨1, 8, .ptr 25, [.v (.pointer none)], []⟩ := by kernel_rfl
theorem ty25 : ty 25 = some ⟨2, 32, .struct [(0, 22), (1, 3)], [.v (.slice none 0 0), .v (.int .i64 0)], []⟩ := by kernel_rfl
theorem sd25 : structD ty 25 = some ⟨2, 32, .struct [(0, 22), (1, 3)], [.v (.slice none 0 0), .v (.int .i64 0)], []⟩ := by kernel_rfl
theorem fd25_0 : fdd ty 25 0 = some (0, ⟨1, 24, .slice 3, [.v (.slice none 0 0)], []⟩) := by kernel_rfl
theorem pl25_0 : places ty 25 0 = some (0, 1) := by kernel_rfl
theorem fd25_1 : fdd ty 25 1 = some (1, ⟨1, 8, .int .i64, [.v (.int .i64 0)], []⟩) := by kernel_rfl
theorem pl25_1 : places ty 25 1 = some (1, 1) := by kernel_rfl
theorem at25 : allTy ty ⟨2, 32, .struct [(0, 22), (1, 3)], [.v (.slice none 0 0), .v (.int .i64 0)], []⟩ = true := by kernel_rfl
theorem ty26 : ty 26 = some ⟨1, 24, .slice 28, [.v (.slice none 0 0)], []⟩ := by kernel_rfl
theorem el26 : elemD ty 26 = some ⟨6, 88, .struct [(0, 3), (1, 9), (2, 3), (3, 3), (4, 26), (5, 22)], [.v (.int .i64 0), .v (.string ⟨#[]⟩), .v (.int .i64 0), .v (.int .i64 0), .v (.slice none 0 0), .v (.slice none 0 0)], []⟩ := by kernel_rfl
theorem ty28 : ty 28 = some ⟨6, 88, .struct [(0, 3), (1, 9), (2, 3), (3, 3), (4, 26), (5, 22)], [.v (.int .i64 0), .v (.string ⟨#[]⟩), .v (.int .i64 0), .v (.int .i64 0), .v (.slice none 0 0), .v (.slice none 0 0)], []⟩ := by kernel_rfl
theorem sd28 : structD ty 28 = some ⟨6, 88, .struct [(0, 3), (1, 9), (2, 3), (3, 3), (4, 26), (5, 22)], [.v (.int .i64 0), .v (.string ⟨#[]⟩), .v (.int .i64 0), .v (.int .i64 0), .v (.slice none 0 0), .v (.slice none 0 0)], []⟩ := by kernel_rfl
theorem fd28_0 : fdd ty 28 0 = some (0, ⟨1, 8, .int .i64, [.v (.int .i64 0)], []⟩) := by kernel_rfl
theorem pl28_0 : places ty 28 0 = some (0, 1) := by kernel_rfl
theorem fd28_1 : fdd ty 28 1 = some (1, ⟨1, 16, .str, [.v (.string ⟨#[]⟩)], []⟩) := by kernel_rfl
theorem pl28_1 : places ty 28 1 = some (1, 1) := by kernel_rfl
theorem fd28_2 : fdd ty 28 2 = some (2, ⟨1, 8, .int .i64, [.v (.int .i64 0)], []⟩) := by kernel_rfl
theorem pl28_2 : places ty 28 2 = some (2, 1) := by kernel_rfl
theorem fd28_3 : fdd ty 28 3 = some (3, ⟨1, 8, .int .i64, [.v (.int .i64 0)], []⟩) := by kernel_rfl
theorem pl28_3 : places ty 28 3 = some (3, 1) := by kernel_rfl
theorem fd28_4 : fdd ty 28 4 = some (4, ⟨1, 24, .slice 28, [.v (.slice none 0 0)], []⟩) := by kernel_rfl
theorem pl28_4 : places ty 28 4 = some (4, 1) := by kernel_rfl
theorem fd28_5 : fdd ty 28 5 = some (5, ⟨1, 24, .slice 3, [.v (.slice none 0 0)], []⟩) := by kernel_rfl
theorem pl28_5 : places ty 28 5 = some (5, 1) := by kernel_rfl
theorem at28 : allTy ty ⟨6, 88, .struct [(0, 3), (1, 9), (2, 3), (3, 3), (4, 26), (5, 22)], [.v (.int .i64 0), .v (.string ⟨#[]⟩), .v (.int .i64 0), .v (.int .i64 0), .v (.slice none 0 0), .v (.slice none 0 0)], []⟩ = true := by kernel_rfl
theorem ty30 : ty 30 = some ⟨1, 8, .func, [.v (.nilFunc)], []⟩ := by kernel_rfl
theorem ty31 : ty 31 = some ⟨1, 8, .int .i64, [.v (.int .i64 0)], []⟩ := by kernel_rfl
theorem ty39 : ty 39 = some ⟨1, 24, .slice 54, [.v (.slice none 0 0)], []⟩ := by kernel_rfl
theorem el39 : elemD ty 39 = some ⟨2, 24, .struct [(0, 9), (1, 3)], [.v (.string ⟨#[]⟩), .v (.int .i64 0)], [.s, .i]⟩ := by kernel_rfl
theorem ty43 : ty 43 = some ⟨1, 8, .func, [.v (.nilFunc)], []⟩ := by kernel_rfl
theorem ty54 : ty 54 = some ⟨2, 24, .struct [(0, 9), (1, 3)], [.v (.string ⟨#[]⟩), .v (.int .i64 0)], [.s, .i]⟩ := by kernel_rfl
theorem sd54 : structD ty 54 = some ⟨2, 24, .struct [(0, 9), (1, 3)], [.v (.string ⟨#[]⟩), .v (.int .i64 0)], [.s, .i]⟩ := by kernel_rfl
theorem fd54_0 : fdd ty 54 0 = some (0, ⟨1, 16, .str, [.v (.string ⟨#[]⟩)], []⟩) := by kernel_rfl
theorem pl54_0 : places ty 54 0 = some (0, 1) := by kernel_rfl
theorem fd54_1 : fdd ty 54 1 = some (1, ⟨1, 8, .int .i64, [.v (.int .i64 0)], []⟩) := by kernel_rfl
theorem pl54_1 : places ty 54 1 = some (1, 1) := by kernel_rfl
theorem at54 : allTy ty ⟨2, 24, .struct [(0, 9), (1, 3)], [.v (.string ⟨#[]⟩), .v (.int .i64 0)], [.s, .i]⟩ = true := by kernel_rfl
theorem ty71 : ty 71 = some ⟨1, 24, .slice 77, [.v (.slice none 0 0)], []⟩ := by kernel_rfl
theorem el71 : elemD ty 71 = some ⟨3, 32, .struct [(0, 9), (1, 3), (2, 3)], [.v (.string ⟨#[]⟩), .v (.int .i64 0), .v (.int .i64 0)], [.s, .i, .i]⟩ := by kernel_rfl
theorem ty77 : ty 77 = some ⟨3, 32, .struct [(0, 9), (1, 3), (2, 3)], [.v (.string ⟨#[]⟩), .v (.int .i64 0), .v (.int .i64 0)], [.s, .i, .i]⟩ := by kernel_rfl
theorem sd77 : structD ty 77 = some ⟨3, 32, .struct [(0, 9), (1, 3), (2, 3)], [.v (.string ⟨#[]⟩), .v (.int .i64 0), .v (.int .i64 0)], [.s, .i, .i]⟩ := by kernel_rfl
theorem fd77_0 : fdd ty 77 0 = some (0, ⟨1, 16, .str, [.v (.string ⟨#[]⟩)], []⟩) := by kernel_rfl
theorem pl77_0 : places ty 77 0 = some (0, 1) := by kernel_rfl
theorem fd77_1 : fdd ty 77 1 = some (1, ⟨1, 8, .int .i64, [.v (.int .i64 0)], []⟩) := by kernel_rfl
theorem pl77_1 : places ty 77 1 = some (1, 1) := by kernel_rfl
theorem fd77_2 : fdd ty 77 2 = some (2, ⟨1, 8, .int .i64, [.v (.int .i64 0)], []⟩) := by kernel_rfl
theorem pl77_2 : places ty 77 2 = some (2, 1) := by kernel_rfl
theorem at77 : allTy ty ⟨3, 32, .struct [(0, 9), (1, 3), (2, 3)], [.v (.string ⟨#[]⟩), .v (.int .i64 0), .v (.int .i64 0)], [.s, .i, .i]⟩ = true := by kernel_rfl
theorem ty80 : ty 80 = some ⟨1, 24, .slice 9, [.v (.slice none 0 0)], []⟩ := by kernel_rfl
theorem el80 : elemD ty 80 = some ⟨1, 16, .str, [.v (.string ⟨#[]⟩)], []⟩ := by kernel_rfl
theorem ty113 : ty 113 = some ⟨1, 8, .ptr 28, [.v (.pointer none)], []⟩ := by kernel_rfl
theorem ty123 : ty 123 = some ⟨3, 40, .struct [(0, 3), (1, 39), (2, 3)], [.v (.int .i64 0), .v (.slice none 0 0), .v (.int .i64 0)], []⟩ := by kernel_rfl
theorem sd123 : structD ty 123 = some ⟨3, 40, .struct [(0, 3), (1, 39), (2, 3)], [.v (.int .i64 0), .v (.slice none 0 0), .v (.int .i64 0)], []⟩ := by kernel_rfl
theorem fd123_0 : fdd ty 123 0 = some (0, ⟨1, 8, .int .i64, [.v (.int .i64 0)], []⟩) := by kernel_rfl
theorem pl123_0 : places ty 123 0 = some (0, 1) := by kernel_rfl
theorem fd123_1 : fdd ty 123 1 = some (1, ⟨1, 24, .slice 54, [.v (.slice none 0 0)], []⟩) := by kernel_rfl
theorem pl123_1 : places ty 123 1 = some (1, 1) := by kernel_rfl
theorem fd123_2 : fdd ty 123 2 = some (2, ⟨1, 8, .int .i64, [.v (.int .i64 0)], []⟩) := by kernel_rfl
theorem pl123_2 : places ty 123 2 = some (2, 1) := by kernel_rfl
theorem at123 : allTy ty ⟨3, 40, .struct [(0, 3), (1, 39), (2, 3)], [.v (.int .i64 0), .v (.slice none 0 0), .v (.int .i64 0)], []⟩ = true := by kernel_rfl
theorem ty131 : ty 131 = some ⟨1, 8, .func, [.v (.nilFunc)], []⟩ := by kernel_rfl
theorem ty143 : ty 143 = some ⟨1, 8, .ptr 77, [.v (.pointer none)], []⟩ := by kernel_rfl
theorem ty144 : ty 144 = some ⟨1, 8, .map 9 3, [.v (.map none)], []⟩ := by kernel_rfl
theorem mp144 : mapD ty 144 = some ⟨1, 8, .int .i64, [.v (.int .i64 0)], []⟩ := by kernel_rfl
theorem ty145 : ty 145 = some ⟨1, 8, .map 9 143, [.v (.map none)], []⟩ := by kernel_rfl
theorem mp145 : mapD ty 145 = some ⟨1, 8, .ptr 77, [.v (.pointer none)], []⟩ := by kernel_rfl
theorem ty147 : ty 147 = some ⟨1, 8, .ptr 150, [.v (.pointer none)], []⟩ := by kernel_rfl
theorem ty148 : ty 148 = some ⟨1, 8, .map 9 4, [.v (.map none)], []⟩ := by kernel_rfl
theorem mp148 : mapD ty 148 = some ⟨1, 1, .bool, [.v (.bool false)], []⟩ := by kernel_rfl
theorem ty150 : ty 150 = some ⟨5, 104, .struct [(0, 71), (1, 22), (2, 22), (3, 80), (4, 148)], [.v (.slice none 0 0), .v (.slice none 0 0), .v (.slice none 0 0), .v (.slice none 0 0), .v (.map none)], []⟩ := by kernel_rfl
theorem sd150 : structD ty 150 = some ⟨5, 104, .struct [(0, 71), (1, 22), (2, 22), (3, 80), (4, 148)], [.v (.slice none 0 0), .v (.slice none 0 0), .v (.slice none 0 0), .v (.slice none 0 0), .v (.map none)], []⟩ := by kernel_rfl
theorem fd150_0 : fdd ty 150 0 = some (0, ⟨1, 24, .slice 77, [.v (.slice none 0 0)], []⟩) := by kernel_rfl
theorem pl150_0 : places ty 150 0 = some (0, 1) := by kernel_rfl
theorem fd150_1 : fdd ty 150 1 = some (1, ⟨1, 24, .slice 3, [.v (.slice none 0 0)], []⟩) := by kernel_rfl
theorem pl150_1 : places ty 150 1 = some (1, 1) := by kernel_rfl
theorem fd150_2 : fdd ty 150 2 = some (2, ⟨1, 24, .slice 3, [.v (.slice none 0 0)], []⟩) := by kernel_rfl
theorem pl150_2 : places ty 150 2 = some (2, 1) := by kernel_rfl
theorem fd150_3 : fdd ty 150 3 = some (3, ⟨1, 24, .slice 9, [.v (.slice none 0 0)], []⟩) := by kernel_rfl
theorem pl150_3 : places ty 150 3 = some (3, 1) := by kernel_rfl
theorem fd150_4 : fdd ty 150 4 = some (4, ⟨1, 8, .map 9 4, [.v (.map none)], []⟩) := by kernel_rfl
theorem pl150_4 : places ty 150 4 = some (4, 1) := by kernel_rfl
theorem at150 : allTy ty ⟨5, 104, .struct [(0, 71), (1, 22), (2, 22), (3, 80), (4, 148)], [.v (.slice none 0 0), .v (.slice none 0 0), .v (.slice none 0 0), .v (.slice none 0 0), .v (.map none)], []⟩ = true := by kernel_rfl
theorem ty174 : ty 174 = some ⟨1, 8, .ptr 177, [.v (.pointer none)], []⟩ := by kernel_rfl
theorem ty175 : ty 175 = some ⟨1, 24, .slice 5, [.v (.slice none 0 0)], []⟩ := by kernel_rfl
theorem el175 : elemD ty 175 = some ⟨1, 1, .int .u8, [.v (.int .u8 0)], []⟩ := by kernel_rfl
theorem ty177 : ty 177 = some ⟨2, 32, .struct [(0, 174), (1, 175)], [.v (.pointer none), .v (.slice none 0 0)], []⟩ := by kernel_rfl
theorem sd177 : structD ty 177 = some ⟨2, 32, .struct [(0, 174), (1, 175)], [.v (.pointer none), .v (.slice none 0 0)], []⟩ := by kernel_rfl
theorem fd177_0 : fdd ty 177 0 = some (0, ⟨1, 8, .ptr 177, [.v (.pointer none)], []⟩) := by kernel_rfl
theorem pl177_0 : places ty 177 0 = some (0, 1) := by kernel_rfl
theorem fd177_1 : fdd ty 177 1 = some (1, ⟨1, 24, .slice 5, [.v (.slice none 0 0)], []⟩) := by kernel_rfl
theorem pl177_1 : places ty 177 1 = some (1, 1) := by kernel_rfl
theorem at177 : allTy ty ⟨2, 32, .struct [(0, 174), (1, 175)], [.v (.pointer none), .v (.slice none 0 0)], []⟩ = true := by kernel_rfl
theorem ty200 : ty 200 = some ⟨1, 8, .func, [.v (.nilFunc)], []⟩ := by kernel_rfl
theorem ty203 : ty 203 = some ⟨1, 8, .struct [(0, 3)], [.v (.int .i64 0)], [.i]⟩ := by kernel_rfl
theorem sd203 : structD ty 203 = some ⟨1, 8, .struct [(0, 3)], [.v (.int .i64 0)], [.i]⟩ := by kernel_rfl
theorem fd203_0 : fdd ty 203 0 = some (0, ⟨1, 8, .int .i64, [.v (.int .i64 0)], []⟩) := by kernel_rfl
theorem pl203_0 : places ty 203 0 = some (0, 1) := by kernel_rfl
theorem at203 : allTy ty ⟨1, 8, .struct [(0, 3)], [.v (.int .i64 0)], [.i]⟩ = true := by kernel_rfl
theorem ty207 : ty 207 = some ⟨1, 8, .ptr 252, [.v (.pointer none)], []⟩ := by kernel_rfl
theorem ty209 : ty 209 = some ⟨1, 8, .ptr 211, [.v (.pointer none)], []⟩ := by kernel_rfl
theorem ty211 : ty 211 = some ⟨2, 32, .struct [(0, 39), (1, 3)], [.v (.slice none 0 0), .v (.int .i64 0)], []⟩ := by kernel_rfl
theorem sd211 : structD ty 211 = some ⟨2, 32, .struct [(0, 39), (1, 3)], [.v (.slice none 0 0), .v (.int .i64 0)], []⟩ := by kernel_rfl
theorem fd211_0 : fdd ty 211 0 = some (0, ⟨1, 24, .slice 54, [.v (.slice none 0 0)], []⟩) := by kernel_rfl
theorem pl211_0 : places ty 211 0 = some (0, 1) := by kernel_rfl
theorem fd211_1 : fdd ty 211 1 = some (1, ⟨1, 8, .int .i64, [.v (.int .i64 0)], []⟩) := by kernel_rfl
theorem pl211_1 : places ty 211 1 = some (1, 1) := by kernel_rfl
theorem at211 : allTy ty ⟨2, 32, .struct [(0, 39), (1, 3)], [.v (.slice none 0 0), .v (.int .i64 0)], []⟩ = true := by kernel_rfl
theorem ty213 : ty 213 = some ⟨1, 8, .ptr 257, [.v (.pointer none)], []⟩ := by kernel_rfl
theorem ty216 : ty 216 = some ⟨1, 8, .ptr 39, [.v (.pointer none)], []⟩ := by kernel_rfl
theorem ty248 : ty 248 = some ⟨1, 8, .ptr 203, [.v (.pointer none)], []⟩ := by kernel_rfl
theorem ty250 : ty 250 = some ⟨1, 24, .slice 207, [.v (.slice none 0 0)], []⟩ := by kernel_rfl
theorem el250 : elemD ty 250 = some ⟨1, 8, .ptr 252, [.v (.pointer none)], []⟩ := by kernel_rfl
theorem ty252 : ty 252 = some ⟨10, 152, .struct [(0, 28), (6, 250), (7, 3), (8, 22), (9, 3)], [.v (.int .i64 0), .v (.string ⟨#[]⟩), .v (.int .i64 0), .v (.int .i64 0), .v (.slice none 0 0), .v (.slice none 0 0), .v (.slice none 0 0), .v (.int .i64 0), .v (.slice none 0 0), .v (.int .i64 0)], []⟩ := by kernel_rfl
theorem sd252 : structD ty 252 = some ⟨10, 152, .struct [(0, 28), (6, 250), (7, 3), (8, 22), (9, 3)], [.v (.int .i64 0), .v (.string ⟨#[]⟩), .v (.int .i64 0), .v (.int .i64 0), .v (.slice none 0 0), .v (.slice none 0 0), .v (.slice none 0 0), .v (.int .i64 0), .v (.slice none 0 0), .v (.int .i64 0)], []⟩ := by kernel_rfl
theorem fd252_0 : fdd ty 252 0 = some (0, ⟨6, 88, .struct [(0, 3), (1, 9), (2, 3), (3, 3), (4, 26), (5, 22)], [.v (.int .i64 0), .v (.string ⟨#[]⟩), .v (.int .i64 0), .v (.int .i64 0), .v (.slice none 0 0), .v (.slice none 0 0)], []⟩) := by kernel_rfl
theorem pl252_0 : places ty 252 0 = some (0, 6) := by kernel_rfl
theorem fd252_1 : fdd ty 252 1 = some (6, ⟨1, 24, .slice 207, [.v (.slice none 0 0)], []⟩) := by kernel_rfl
theorem pl252_1 : places ty 252 1 = some (6, 1) := by kernel_rfl
theorem fd252_2 : fdd ty 252 2 = some (7, ⟨1, 8, .int .i64, [.v (.int .i64 0)], []⟩) := by kernel_rfl
theorem pl252_2 : places ty 252 2 = some (7, 1) := by kernel_rfl
theorem fd252_3 : fdd ty 252 3 = some (8, ⟨1, 24, .slice 3, [.v (.slice none 0 0)], []⟩) := by kernel_rfl
theorem pl252_3 : places ty 252 3 = some (8, 1) := by kernel_rfl
theorem fd252_4 : fdd ty 252 4 = some (9, ⟨1, 8, .int .i64, [.v (.int .i64 0)], []⟩) := by kernel_rfl
theorem pl252_4 : places ty 252 4 = some (9, 1) := by kernel_rfl
theorem at252 : allTy ty ⟨10, 152, .struct [(0, 28), (6, 250), (7, 3), (8, 22), (9, 3)], [.v (.int .i64 0), .v (.string ⟨#[]⟩), .v (.int .i64 0), .v (.int .i64 0), .v (.slice none 0 0), .v (.slice none 0 0), .v (.slice none 0 0), .v (.int .i64 0), .v (.slice none 0 0), .v (.int .i64 0)], []⟩ = true := by kernel_rfl
theorem ty254 : ty 254 = some ⟨1, 8, .func, [.v (.nilFunc)], []⟩ := by kernel_rfl
theorem ty255 : ty 255 = some ⟨1, 24, .slice 213, [.v (.slice none 0 0)], []⟩ := by kernel_rfl
theorem el255 : elemD ty 255 = some ⟨1, 8, .ptr 257, [.v (.pointer none)], []⟩ := by kernel_rfl
theorem ty257 : ty 257 = some ⟨9, 144, .struct [(0, 28), (6, 255), (7, 3), (8, 22)], [.v (.int .i64 0), .v (.string ⟨#[]⟩), .v (.int .i64 0), .v (.int .i64 0), .v (.slice none 0 0), .v (.slice none 0 0), .v (.slice none 0 0), .v (.int .i64 0), .v (.slice none 0 0)], []⟩ := by kernel_rfl
theorem sd257 : structD ty 257 = some ⟨9, 144, .struct [(0, 28), (6, 255), (7, 3), (8, 22)], [.v (.int .i64 0), .v (.string ⟨#[]⟩), .v (.int .i64 0), .v (.int .i64 0), .v (.slice none 0 0), .v (.slice none 0 0), .v (.slice none 0 0), .v (.int .i64 0), .v (.slice none 0 0)], []⟩ := by kernel_rfl
theorem fd257_0 : fdd ty 257 0 = some (0, ⟨6, 88, .struct [(0, 3), (1, 9), (2, 3), (3, 3), (4, 26), (5, 22)], [.v (.int .i64 0), .v (.string ⟨#[]⟩), .v (.int .i64 0), .v (.int .i64 0), .v (.slice none 0 0), .v (.slice none 0 0)], []⟩) := by kernel_rfl
theorem pl257_0 : places ty 257 0 = some (0, 6) := by kernel_rfl
theorem fd257_1 : fdd ty 257 1 = some (6, ⟨1, 24, .slice 213, [.v (.slice none 0 0)], []⟩) := by kernel_rfl
theorem pl257_1 : places ty 257 1 = some (6, 1) := by kernel_rfl
theorem fd257_2 : fdd ty 257 2 = some (7, ⟨1, 8, .int .i64, [.v (.int .i64 0)], []⟩) := by kernel_rfl
theorem pl257_2 : places ty 257 2 = some (7, 1) := by kernel_rfl
theorem fd257_3 : fdd ty 257 3 = some (8, ⟨1, 24, .slice 3, [.v (.slice none 0 0)], []⟩) := by kernel_rfl
theorem pl257_3 : places ty 257 3 = some (8, 1) := by kernel_rfl
theorem at257 : allTy ty ⟨9, 144, .struct [(0, 28), (6, 255), (7, 3), (8, 22)], [.v (.int .i64 0), .v (.string ⟨#[]⟩), .v (.int .i64 0), .v (.int .i64 0), .v (.slice none 0 0), .v (.slice none 0 0), .v (.slice none 0 0), .v (.int .i64 0), .v (.slice none 0 0)], []⟩ = true := by kernel_rfl
theorem ty259 : ty 259 = some ⟨1, 8, .func, [.v (.nilFunc)], []⟩ := by kernel_rfl
set_option maxRecDepth 100000
theorem lemA : type_of% (And.intro (@List.getD_cons_zero.{0}) (And.intro (@List.getD_cons_succ.{0}) (And.intro (@List.set_cons_zero.{0}) (And.intro (@List.set_cons_succ.{0}) (And.intro (@List.length_cons.{0}) (And.intro (@List.length_nil.{0}) (And.intro (@List.map_cons.{0, 0}) (And.intro (@List.map_nil.{0, 0}) (And.intro (@List.append_nil.{0}) (And.intro (@List.nil_append.{0}) (And.intro (@List.cons_append.{0}) (And.intro (@List.all_cons.{0}) (And.intro (@List.all_nil.{0}) (And.intro (@Bool.and_true) (And.intro (@Bool.and_self) (And.intro (@Option.bind_some.{0, 0}) (And.intro (@Option.map_some.{0, 0}) (And.intro (@List.getElem?_toArray.{0}) (And.intro (@List.getElem?_cons_zero.{0}) (And.intro (@List.getElem?_cons_succ.{0}) (And.intro (@true_and) (And.intro (@and_true) (And.intro (@and_self) (And.intro (@Option.some.injEq.{0}) (And.intro (@if_true.{1}) (And.intro (@implies_true.{0}) (And.intro (@implies_true.{1}) (And.intro (@imp_self) (And.intro (@List.toList_toArray.{0}) (And.intro (@Bool.false_eq_true) (And.intro (@Bool.true_eq_false) (And.intro (@false_and) (And.intro (@and_false) (And.intro (@List.filterMap_cons.{0, 0}) (And.intro (@beq_true) (And.intro (@beq_false) (And.intro (@Bool.not_eq_true') (And.intro (@Bool.not_eq_false') (And.intro (@true_implies) (And.intro (@Bool.cond_true_left) (And.intro (@Bool.cond_false_right) (And.intro (@Bool.not_not) (And.intro (@Bool.or_false) (And.intro (@Bool.false_or) (And.intro (@Bool.or_true) (And.intro (@Bool.true_or) (And.intro (@Bool.and_false) (And.intro (@Bool.false_and) (And.intro (@Bool.true_and) (And.intro (@Bool.not_true) (And.intro (@Bool.not_false) (And.intro (@cond_true.{1}) (And.intro (@cond_false.{1}) (And.intro (@upd_same) (And.intro (@List.take_succ_cons.{0}) (And.intro (@List.take_zero.{0}) (And.intro (@List.drop_succ_cons.{0}) (And.intro (@List.drop_zero.{0}) (And.intro (@List.take_nil.{0}) (And.intro (@List.drop_nil.{0}) (And.intro (@List.length_map.{0, 0}) (And.intro (@Int.add_sub_cancel) (And.intro (@List.length_set.{0}) (And.intro (@upd_upd) (And.intro (@Option.isSome_some.{0}) (And.intro (@ne_eq.{1}) (@not_false_eq_true))))))))))))))))))))))))))))))))))))))))))))))))))))))))))))))))))) := And.intro (@List.getD_cons_zero.{0}) (And.intro (@List.getD_cons_succ.{0}) (And.intro (@List.set_cons_zero.{0}) (And.intro (@List.set_cons_succ.{0}) (And.intro (@List.length_cons.{0}) (And.intro (@List.length_nil.{0}) (And.intro (@List.map_cons.{0, 0}) (And.intro (@List.map_nil.{0, 0}) (And.intro (@List.append_nil.{0}) (And.intro (@List.nil_append.{0}) (And.intro (@List.cons_append.{0}) (And.intro (@List.all_cons.{0}) (And.intro (@List.all_nil.{0}) (And.intro (@Bool.and_true) (And.intro (@Bool.and_self) (And.intro (@Option.bind_some.{0, 0}) (And.intro (@Option.map_some.{0, 0}) (And.intro (@List.getElem?_toArray.{0}) (And.intro (@List.getElem?_cons_zero.{0}) (And.intro (@List.getElem?_cons_succ.{0}) (And.intro (@true_and) (And.intro (@and_true) (And.intro (@and_self) (And.intro (@Option.some.injEq.{0}) (And.intro (@if_true.{1}) (And.intro (@implies_true.{0}) (And.intro (@implies_true.{1}) (And.intro (@imp_self) (And.intro (@List.toList_toArray.{0}) (And.intro (@Bool.false_eq_true) (And.intro (@Bool.true_eq_false) (And.intro (@false_and) (And.intro (@and_false) (And.intro (@List.filterMap_cons.{0, 0}) (And.intro (@beq_true) (And.intro (@beq_false) (And.intro (@Bool.not_eq_true') (And.intro (@Bool.not_eq_false') (And.intro (@true_implies) (And.intro (@Bool.cond_true_left) (And.intro (@Bool.cond_false_right) (And.intro (@Bool.not_not) (And.intro (@Bool.or_false) (And.intro (@Bool.false_or) (And.intro (@Bool.or_true) (And.intro (@Bool.true_or) (And.intro (@Bool.and_false) (And.intro (@Bool.false_and) (And.intro (@Bool.true_and) (And.intro (@Bool.not_true) (And.intro (@Bool.not_false) (And.intro (@cond_true.{1}) (And.intro (@cond_false.{1}) (And.intro (@upd_same) (And.intro (@List.take_succ_cons.{0}) (And.intro (@List.take_zero.{0}) (And.intro (@List.drop_succ_cons.{0}) (And.intro (@List.drop_zero.{0}) (And.intro (@List.take_nil.{0}) (And.intro (@List.drop_nil.{0}) (And.intro (@List.length_map.{0, 0}) (And.intro (@Int.add_sub_cancel) (And.intro (@List.length_set.{0}) (And.intro (@upd_upd) (And.intro (@Option.isSome_some.{0}) (And.intro (@ne_eq.{1}) (@not_false_eq_true))))))))))))))))))))))))))))))))))))))))))))))))))))))))))))))))))
theorem lemT : type_of% (And.intro (@ty1) (And.intro (@ty2) (And.intro (@ty3) (And.intro (@ty4) (And.intro (@ty5) (And.intro (@ty6) (And.intro (@ty9) (And.intro (@is9) (And.intro (@ty22) (And.intro (@el22) (And.intro (@ty23) (And.intro (@ty25) (And.intro (@sd25) (And.intro (@fd25_0) (And.intro (@pl25_0) (And.intro (@fd25_1) (And.intro (@pl25_1) (And.intro (@at25) (And.intro (@ty26) (And.intro (@el26) (And.intro (@ty28) (And.intro (@sd28) (And.intro (@fd28_0) (And.intro (@pl28_0) (And.intro (@fd28_1) (And.intro (@pl28_1) (And.intro (@fd28_2) (And.intro (@pl28_2) (And.intro (@fd28_3) (And.intro (@pl28_3) (And.intro (@fd28_4) (And.intro (@pl28_4) (And.intro (@fd28_5) (And.intro (@pl28_5) (And.intro (@at28) (And.intro (@ty30) (And.intro (@ty31) (And.intro (@ty39) (And.intro (@el39) (And.intro (@ty43) (And.intro (@ty54) (And.intro (@sd54) (And.intro (@fd54_0) (And.intro (@pl54_0) (And.intro (@fd54_1) (And.intro (@pl54_1) (And.intro (@at54) (And.intro (@ty71) (And.intro (@el71) (And.intro (@ty77) (And.intro (@sd77) (And.intro (@fd77_0) (And.intro (@pl77_0) (And.intro (@fd77_1) (And.intro (@pl77_1) (And.intro (@fd77_2) (And.intro (@pl77_2) (And.intro (@at77) (And.intro (@ty80) (And.intro (@el80) (And.intro (@ty113) (And.intro (@ty123) (And.intro (@sd123) (And.intro (@fd123_0) (And.intro (@pl123_0) (And.intro (@fd123_1) (And.intro (@pl123_1) (And.intro (@fd123_2) (And.intro (@pl123_2) (And.intro (@at123) (And.intro (@ty131) (And.intro (@ty143) (And.intro (@ty144) (And.intro (@mp144) (And.intro (@ty145) (And.intro (@mp145) (And.intro (@ty147) (And.intro (@ty148) (And.intro (@mp148) (And.intro (@ty150) (And.intro (@sd150) (And.intro (@fd150_0) (And.intro (@pl150_0) (And.intro (@fd150_1) (And.intro (@pl150_1) (And.intro (@fd150_2) (And.intro (@pl150_2) (And.intro (@fd150_3) (And.intro (@pl150_3) (And.intro (@fd150_4) (And.intro (@pl150_4) (And.intro (@at150) (And.intro (@ty174) (And.intro (@ty175) (And.intro (@el175) (And.intro (@ty177) (And.intro (@sd177) (And.intro (@fd177_0) (And.intro (@pl177_0) (And.intro (@fd177_1) (And.intro (@pl177_1) (And.intro (@at177) (And.intro (@ty200) (And.intro (@ty203) (And.intro (@sd203) (And.intro (@fd203_0) (And.intro (@pl203_0) (And.intro (@at203) (And.intro (@ty207) (And.intro (@ty209) (And.intro (@ty211) (And.intro (@sd211) (And.intro (@fd211_0) (And.intro (@pl211_0) (And.intro (@fd211_1) (And.intro (@pl211_1) (And.intro (@at211) (And.intro (@ty213) (And.intro (@ty216) (And.intro (@ty248) (And.intro (@ty250) (And.intro (@el250) (And.intro (@ty252) (And.intro (@sd252) (And.intro (@fd252_0) (And.intro (@pl252_0) (And.intro (@fd252_1) (And.intro (@pl252_1) (And.intro (@fd252_2) (And.intro (@pl252_2) (And.intro (@fd252_3) (And.intro (@pl252_3) (And.intro (@fd252_4) (And.intro (@pl252_4) (And.intro (@at252) (And.intro (@ty254) (And.intro (@ty255) (And.intro (@el255) (And.intro (@ty257) (And.intro (@sd257) (And.intro (@fd257_0) (And.intro (@pl257_0) (And.intro (@fd257_1) (And.intro (@pl257_1) (And.intro (@fd257_2) (And.intro (@pl257_2) (And.intro (@fd257_3) (And.intro (@pl257_3) (And.intro (@at257) (@ty259)))))))))))))))))))))))))))))))))))))))))))))))))))))))))))))))))))))))))))))))))))))))))))))))))))))))))))))))))))))))))))))))))))))))))))))))))))))) := And.intro (@ty1) (And.intro (@ty2) (And.intro (@ty3) (And.intro (@ty4) (And.intro (@ty5) (And.intro (@ty6) (And.intro (@ty9) (And.intro (@is9) (And.intro (@ty22) (And.intro (@el22) (And.intro (@ty23) (And.intro (@ty25) (And.intro (@sd25) (And.intro (@fd25_0) (And.intro (@pl25_0) (And.intro (@fd25_1) (And.intro (@pl25_1) (And.intro (@at25) (And.intro (@ty26) (And.intro (@el26) (And.intro (@ty28) (And.intro (@sd28) (And.intro (@fd28_0) (And.intro (@pl28_0) (And.intro (@fd28_1) (And.intro (@pl28_1) (And.intro (@fd28_2) (And.intro (@pl28_2) (And.intro (@fd28_3) (And.intro (@pl28_3) (And.intro (@fd28_4) (And.intro (@pl28_4) (And.intro (@fd28_5) (And.intro (@pl28_5) (And.intro (@at28) (And.intro (@ty30) (And.intro (@ty31) (And.intro (@ty39) (And.intro (@el39) (And.intro (@ty43) (And.intro (@ty54) (And.intro (@sd54) (And.intro (@fd54_0) (And.intro (@pl54_0) (And.intro (@fd54_1) (And.intro (@pl54_1) (And.intro (@at54) (And.intro (@ty71) (And.intro (@el71) (And.intro (@ty77) (And.intro (@sd77) (And.intro (@fd77_0) (And.intro (@pl77_0) (And.intro (@fd77_1) (And.intro (@pl77_1) (And.intro (@fd77_2) (And.intro (@pl77_2) (And.intro (@at77) (And.intro (@ty80) (And.intro (@el80) (And.intro (@ty113) (And.intro (@ty123) (And.intro (@sd123) (And.intro (@fd123_0) (And.intro (@pl123_0) (And.intro (@fd123_1) (And.intro (@pl123_1) (And.intro (@fd123_2) (And.intro (@pl123_2) (And.intro (@at123) (And.intro (@ty131) (And.intro (@ty143) (And.intro (@ty144) (And.intro (@mp144) (And.intro (@ty145) (And.intro (@mp145) (And.intro (@ty147) (And.intro (@ty148) (And.intro (@mp148) (And.intro (@ty150) (And.intro (@sd150) (And.intro (@fd150_0) (And.intro (@pl150_0) (And.intro (@fd150_1) (And.intro (@pl150_1) (And.intro (@fd150_2) (And.intro (@pl150_2) (And.intro (@fd150_3) (And.intro (@pl150_3) (And.intro (@fd150_4) (And.intro (@pl150_4) (And.intro (@at150) (And.intro (@ty174) (And.intro (@ty175) (And.intro (@el175) (And.intro (@ty177) (And.intro (@sd177) (And.intro (@fd177_0) (And.intro (@pl177_0) (And.intro (@fd177_1) (And.intro (@pl177_1) (And.intro (@at177) (And.intro (@ty200) (And.intro (@ty203) (And.intro (@sd203) (And.intro (@fd203_0) (And.intro (@pl203_0) (And.intro (@at203) (And.intro (@ty207) (And.intro (@ty209) (And.intro (@ty211) (And.intro (@sd211) (And.intro (@fd211_0) (And.intro (@pl211_0) (And.intro (@fd211_1) (And.intro (@pl211_1) (And.intro (@at211) (And.intro (@ty213) (And.intro (@ty216) (And.intro (@ty248) (And.intro (@ty250) (And.intro (@el250) (And.intro (@ty252) (And.intro (@sd252) (And.intro (@fd252_0) (And.intro (@pl252_0) (And.intro (@fd252_1) (And.intro (@pl252_1) (And.intro (@fd252_2) (And.intro (@pl252_2) (And.intro (@fd252_3) (And.intro (@pl252_3) (And.intro (@fd252_4) (And.intro (@pl252_4) (And.intro (@at252) (And.intro (@ty254) (And.intro (@ty255) (And.intro (@el255) (And.intro (@ty257) (And.intro (@sd257) (And.intro (@fd257_0) (And.intro (@pl257_0) (And.intro (@fd257_1) (And.intro (@pl257_1) (And.intro (@fd257_2) (And.intro (@pl257_2) (And.intro (@fd257_3) (And.intro (@pl257_3) (And.intro (@at257) (@ty259)))))))))))))))))))))))))))))))))))))))))))))))))))))))))))))))))))))))))))))))))))))))))))))))))))))))))))))))))))))))))))))))))))))))))))))))))))))
attribute [go_sem] vOps retQ resV resL res1 Nat.zero_add St.keep keepL_nil keepL_c1 keepL_c0 keepL_jnk cutLoc jnk_zero jnk_jnk getD_jnk_lt getD_jnk_ge set_jnk_lt set_jnk_ge gStep condG qV binV vV iV sV bV nV arV pickE joinA joinOk isOpt vEff binE vBin iBin sBin arith nilOf nBin boolOk okEqs okEqs1 eqL convI storeE newE sliceE appE lenE minE biE bndE cellsAt ldOk ld TyD.isAgg AV.shift AV.isAddr AV.cellsB AV.noLoc rowOf litRow fillA opS uside unw evL cv St.put opsOf Value.oneCell' vIdx stepI vRest reL reI mdL splice bef aft isCallB isCallV lookE updE lookR zeroA aggK cutE appS elemI lemA lemT
section
variable {c : Cx} {Q : Exit → St → Prop} {s : St} {all : Array Oper} {id : Nat} {y : Code}
theorem gE {f : Nat} {fn : Func} {code : Code} {args : List AV} {h : Hp} {R : AV → Hp → Prop} (hf : Tryz.prog.funcs[f]? = some fn) (hb : fn.body = some code) (hok : fnOk Tryz.prog f = true) (m : Nat) (hm : fn.ntmps - args.length = m) (hw : ∀ c : Cx, Awp Tryz.prog c code (retQ ty fn.results.toList R) ⟨args ++ jnk m [], [], h⟩) : ACalls Tryz.prog f args h R := acalls_in tyok hf hb hok m hm hw
theorem rI {rs : List ResultVar} {R : AV → Hp → Prop} (h : retQ ty rs R .ret s) : retQ ty rs R .ret s := h
theorem gO {A B : Prop} {t : Bool} [h : Stp Tryz.prog ty A B t] (ht : t = true) (hb : B) : A := h.sound ht hb
theorem gQ {A B : Prop} {t : Bool} [h : Stq Tryz.prog ty A B t] (ht : t = true) (hb : B) : A := h.sound ht hb
theorem gR {A : Prop} {N : St → Prop} {V : (St → Prop) → Prop} [h : Str Tryz.prog ty (mdL []) A N V] (hb : ∀ K1 : St → Prop, (∀ s', N s' → K1 s') → V K1) : A := h.sound tyok hb
theorem gM (md : Option Tmp → Nat) {A : Prop} {N : St → Prop} {V : (St → Prop) → Prop} [h : Str Tryz.prog ty md A N V] (hb : ∀ K1 : St → Prop, (∀ s', N s' → K1 s') → V K1) : A := h.sound tyok hb
theorem uS (md : Option Tmp → Nat) (h : ∀ K1 : St → Prop, (∀ s', vRem Tryz.prog ty md all (aft all.toList) s' (Awp Tryz.prog c y Q) → K1 s') → vOps Tryz.prog ty md all (bef all.toList) s K1) : Awp Tryz.prog c (.seq (.region id all false) y) Q s := wS tyok md h
theorem uR (md : Option Tmp → Nat) (h : ∀ K1 : St → Prop, (∀ s', vRem Tryz.prog ty md all (aft all.toList) s' (Q .normal) → K1 s') → vOps Tryz.prog ty md all (bef all.toList) s K1) : Awp Tryz.prog c (.region id all false) Q s := wR tyok md h
theorem kS (h : ∀ K1 : St → Prop, (∀ s', vRem Tryz.prog ty (mdL []) all (aft all.toList) s' (Awp Tryz.prog c y Q) → K1 s') → vOps Tryz.prog ty (mdL []) all (bef all.toList) s K1) : Awp Tryz.prog c (.seq (.region id all false) y) Q s := wS tyok _ h
theorem kR (h : ∀ K1 : St → Prop, (∀ s', vRem Tryz.prog ty (mdL []) all (aft all.toList) s' (Q .normal) → K1 s') → vOps Tryz.prog ty (mdL []) all (bef all.toList) s K1) : Awp Tryz.prog c (.region id all false) Q s := wR tyok _ h
theorem uD (id : Nat) (md : Option Tmp → Nat) (E0 : List Nat) (pl : List (Nat × List Nat × List Nat)) (n : Nat) (hn : s.sl.length = n) (hok : drawOk md all n E0 pl = true) (h : ∀ K1 : St → Prop, (∀ s', vRst Tryz.prog ty md all pl s' (Awp Tryz.prog c y Q) → K1 s') → vIdx Tryz.prog ty md all E0 s K1) : Awp Tryz.prog c (.seq (.region id all true) y) Q s := awp_seqD2 tyok (by kernel_rfl) md n hn hok h
theorem uE (id : Nat) (md : Option Tmp → Nat) (E0 : List Nat) (pl : List (Nat × List Nat × List Nat)) (n : Nat) (hn : s.sl.length = n) (hok : drawOk md all n E0 pl = true) (h : ∀ K1 : St → Prop, (∀ s', vRst Tryz.prog ty md all pl s' (Q .normal) → K1 s') → vIdx Tryz.prog ty md all E0 s K1) : Awp Tryz.prog c (.region id all true) Q s := awp_draw2 tyok (by kernel_rfl) md n hn hok h
theorem uF (id : Nat) (md : Option Tmp → Nat) (f : Nat) (E0 : List Nat) (pl : List (Nat × List Nat × List Nat)) (n : Nat) (hn : s.sl.length = n) (hok : drawOkF md all n f E0 pl = true) (h : ∀ K1 : St → Prop, (∀ s', vRst Tryz.prog ty md all pl s' (Awp Tryz.prog c y Q) → K1 s') → vIdx Tryz.prog ty md all (f :: E0) s K1) : Awp Tryz.prog c (.seq (.region id all true) y) Q s := awp_seqF2 tyok (by kernel_rfl) md n hn hok h
end
end Go.Proofs.YtoleejecmefogaaGreatDoor

