/- The types of this program, as facts. -/
import Derived.Test.YtgnknjlgcinboaaGreatDoorAvRun
import Derived.Test.YtgnknjlgcinboaaGreatDoorProg
namespace Go.Proofs.YtgnknjlgcinboaaGreatDoor
open Go
set_option linter.unusedVariables false
set_option linter.unusedSimpArgs false
noncomputable def ty : Nat → Option TyD := tyd Tryz.prog
theorem tyok : TyOk Tryz.prog ty := fun _ _ h => h
theorem ty1 : ty 1 = some ⟨1, 8, .func, [.v (.nilFunc)], []⟩ := by kernel_rfl
theorem ty2 : ty 2 = some ⟨1, 8, .int .i64, [.v (.int .i64 0)], []⟩ := by kernel_rfl
theorem ty3 : ty 3 = some ⟨1, 8, .int .i64, [.v (.int .i64 0)], []⟩ := by kernel_rfl
theorem ty4 : ty 4 = some ⟨1, 1, .bool, [.v (.bool false)], []⟩ := by kernel_rfl
theorem ty5 : ty 5 = some ⟨1, 1, .int .u8, [.v (.int .u8 0)], []⟩ := by kernel_rfl
theorem ty9 : ty 9 = some ⟨1, 16, .str, [.v (.string ⟨#[]⟩)], []⟩ := by kernel_rfl
theorem is9 : isStr ty 9 = true := by kernel_rfl
theorem ty12 : ty 12 = some ⟨1, 8, .int .u64, [.v (.int .u64 0)], []⟩ := by kernel_rfl
theorem ty22 : ty 22 = some ⟨1, 24, .slice 3, [.v (.slice none 0 0)], []⟩ := by kernel_rfl
theorem el22 : elemD ty 22 = some ⟨1, 8, .int .i64, [.v (.int .i64 0)], []⟩ := by kernel_rfl
theorem ty28 : ty 28 = some ⟨1, 8, .ptr 80, [.v (.pointer none)], []⟩ := by kernel_rfl
theorem ty29 : ty 29 = some ⟨1, 8, .int .i64, [.v (.int .i64 0)], []⟩ := by kernel_rfl
theorem ty38 : ty 38 = some ⟨1, 24, .slice 9, [.v (.slice none 0 0)], []⟩ := by kernel_rfl
theorem el38 : elemD ty 38 = some ⟨1, 16, .str, [.v (.string ⟨#[]⟩)], []⟩ := by kernel_rfl
theorem ty78 : ty 78 = some ⟨1, 24, .slice 87, [.v (.slice none 0 0)], []⟩ := by kernel_rfl
theorem el78 : elemD ty 78 = some ⟨1, 8, .ptr 90, [.v (.pointer none)], []⟩ := by kernel_rfl
theorem ty80 : ty 80 = some ⟨4, 48, .struct [(0, 3), (1, 3), (2, 3), (3, 78)], [.v (.int .i64 0), .v (.int .i64 0), .v (.int .i64 0), .v (.slice none 0 0)], []⟩ := by kernel_rfl
theorem sd80 : structD ty 80 = some ⟨4, 48, .struct [(0, 3), (1, 3), (2, 3), (3, 78)], [.v (.int .i64 0), .v (.int .i64 0), .v (.int .i64 0), .v (.slice none 0 0)], []⟩ := by kernel_rfl
theorem fd80_0 : fdd ty 80 0 = some (0, ⟨1, 8, .int .i64, [.v (.int .i64 0)], []⟩) := by kernel_rfl
theorem pl80_0 : places ty 80 0 = some (0, 1) := by kernel_rfl
theorem fd80_1 : fdd ty 80 1 = some (1, ⟨1, 8, .int .i64, [.v (.int .i64 0)], []⟩) := by kernel_rfl
theorem pl80_1 : places ty 80 1 = some (1, 1) := by kernel_rfl
theorem fd80_2 : fdd ty 80 2 = some (2, ⟨1, 8, .int .i64, [.v (.int .i64 0)], []⟩) := by kernel_rfl
theorem pl80_2 : places ty 80 2 = some (2, 1) := by kernel_rfl
theorem fd80_3 : fdd ty 80 3 = some (3, ⟨1, 24, .slice 87, [.v (.slice none 0 0)], []⟩) := by kernel_rfl
theorem pl80_3 : places ty 80 3 = some (3, 1) := by kernel_rfl
theorem at80 : allTy ty ⟨4, 48, .struct [(0, 3), (1, 3), (2, 3), (3, 78)], [.v (.int .i64 0), .v (.int .i64 0), .v (.int .i64 0), .v (.slice none 0 0)], []⟩ = true := by kernel_rfl
theorem ty87 : ty 87 = some ⟨1, 8, .ptr 90, [.v (.pointer none)], []⟩ := by kernel_rfl
theorem ty90 : ty 90 = some ⟨6, 56, .struct [(0, 9), (1, 3), (2, 4), (3, 3), (4, 3), (5, 3)], [.v (.string ⟨#[]⟩), .v (.int .i64 0), .v (.bool false), .v (.int .i64 0), .v (.int .i64 0), .v (.int .i64 0)], [.s, .i, .b, .i, .i, .i]⟩ := by kernel_rfl
theorem sd90 : structD ty 90 = some ⟨6, 56, .struct [(0, 9), (1, 3), (2, 4), (3, 3), (4, 3), (5, 3)], [.v (.string ⟨#[]⟩), .v (.int .i64 0), .v (.bool false), .v (.int .i64 0), .v (.int .i64 0), .v (.int .i64 0)], [.s, .i, .b, .i, .i, .i]⟩ := by kernel_rfl
theorem fd90_0 : fdd ty 90 0 = some (0, ⟨1, 16, .str, [.v (.string ⟨#[]⟩)], []⟩) := by kernel_rfl
theorem pl90_0 : places ty 90 0 = some (0, 1) := by kernel_rfl
theorem fd90_1 : fdd ty 90 1 = some (1, ⟨1, 8, .int .i64, [.v (.int .i64 0)], []⟩) := by kernel_rfl
theorem pl90_1 : places ty 90 1 = some (1, 1) := by kernel_rfl
theorem fd90_2 : fdd ty 90 2 = some (2, ⟨1, 1, .bool, [.v (.bool false)], []⟩) := by kernel_rfl
theorem pl90_2 : places ty 90 2 = some (2, 1) := by kernel_rfl
theorem fd90_3 : fdd ty 90 3 = some (3, ⟨1, 8, .int .i64, [.v (.int .i64 0)], []⟩) := by kernel_rfl
theorem pl90_3 : places ty 90 3 = some (3, 1) := by kernel_rfl
theorem fd90_4 : fdd ty 90 4 = some (4, ⟨1, 8, .int .i64, [.v (.int .i64 0)], []⟩) := by kernel_rfl
theorem pl90_4 : places ty 90 4 = some (4, 1) := by kernel_rfl
theorem fd90_5 : fdd ty 90 5 = some (5, ⟨1, 8, .int .i64, [.v (.int .i64 0)], []⟩) := by kernel_rfl
theorem pl90_5 : places ty 90 5 = some (5, 1) := by kernel_rfl
theorem at90 : allTy ty ⟨6, 56, .struct [(0, 9), (1, 3), (2, 4), (3, 3), (4, 3), (5, 3)], [.v (.string ⟨#[]⟩), .v (.int .i64 0), .v (.bool false), .v (.int .i64 0), .v (.int .i64 0), .v (.int .i64 0)], [.s, .i, .b, .i, .i, .i]⟩ = true := by kernel_rfl
theorem ty93 : ty 93 = some ⟨1, 8, .func, [.v (.nilFunc)], []⟩ := by kernel_rfl
theorem ty121 : ty 121 = some ⟨1, 24, .slice 123, [.v (.slice none 0 0)], []⟩ := by kernel_rfl
theorem el121 : elemD ty 121 = some ⟨6, 88, .struct [(0, 3), (1, 9), (2, 3), (3, 3), (4, 121), (5, 22)], [.v (.int .i64 0), .v (.string ⟨#[]⟩), .v (.int .i64 0), .v (.int .i64 0), .v (.slice none 0 0), .v (.slice none 0 0)], []⟩ := by kernel_rfl
theorem ty123 : ty 123 = some ⟨6, 88, .struct [(0, 3), (1, 9), (2, 3), (3, 3), (4, 121), (5, 22)], [.v (.int .i64 0), .v (.string ⟨#[]⟩), .v (.int .i64 0), .v (.int .i64 0), .v (.slice none 0 0), .v (.slice none 0 0)], []⟩ := by kernel_rfl
theorem sd123 : structD ty 123 = some ⟨6, 88, .struct [(0, 3), (1, 9), (2, 3), (3, 3), (4, 121), (5, 22)], [.v (.int .i64 0), .v (.string ⟨#[]⟩), .v (.int .i64 0), .v (.int .i64 0), .v (.slice none 0 0), .v (.slice none 0 0)], []⟩ := by kernel_rfl
theorem fd123_0 : fdd ty 123 0 = some (0, ⟨1, 8, .int .i64, [.v (.int .i64 0)], []⟩) := by kernel_rfl
theorem pl123_0 : places ty 123 0 = some (0, 1) := by kernel_rfl
theorem fd123_1 : fdd ty 123 1 = some (1, ⟨1, 16, .str, [.v (.string ⟨#[]⟩)], []⟩) := by kernel_rfl
theorem pl123_1 : places ty 123 1 = some (1, 1) := by kernel_rfl
theorem fd123_2 : fdd ty 123 2 = some (2, ⟨1, 8, .int .i64, [.v (.int .i64 0)], []⟩) := by kernel_rfl
theorem pl123_2 : places ty 123 2 = some (2, 1) := by kernel_rfl
theorem fd123_3 : fdd ty 123 3 = some (3, ⟨1, 8, .int .i64, [.v (.int .i64 0)], []⟩) := by kernel_rfl
theorem pl123_3 : places ty 123 3 = some (3, 1) := by kernel_rfl
theorem fd123_4 : fdd ty 123 4 = some (4, ⟨1, 24, .slice 123, [.v (.slice none 0 0)], []⟩) := by kernel_rfl
theorem pl123_4 : places ty 123 4 = some (4, 1) := by kernel_rfl
theorem fd123_5 : fdd ty 123 5 = some (5, ⟨1, 24, .slice 3, [.v (.slice none 0 0)], []⟩) := by kernel_rfl
theorem pl123_5 : places ty 123 5 = some (5, 1) := by kernel_rfl
theorem at123 : allTy ty ⟨6, 88, .struct [(0, 3), (1, 9), (2, 3), (3, 3), (4, 121), (5, 22)], [.v (.int .i64 0), .v (.string ⟨#[]⟩), .v (.int .i64 0), .v (.int .i64 0), .v (.slice none 0 0), .v (.slice none 0 0)], []⟩ = true := by kernel_rfl
theorem ty127 : ty 127 = some ⟨2, 16, .struct [(0, 3), (1, 3)], [.v (.int .i64 0), .v (.int .i64 0)], [.i, .i]⟩ := by kernel_rfl
theorem sd127 : structD ty 127 = some ⟨2, 16, .struct [(0, 3), (1, 3)], [.v (.int .i64 0), .v (.int .i64 0)], [.i, .i]⟩ := by kernel_rfl
theorem fd127_0 : fdd ty 127 0 = some (0, ⟨1, 8, .int .i64, [.v (.int .i64 0)], []⟩) := by kernel_rfl
theorem pl127_0 : places ty 127 0 = some (0, 1) := by kernel_rfl
theorem fd127_1 : fdd ty 127 1 = some (1, ⟨1, 8, .int .i64, [.v (.int .i64 0)], []⟩) := by kernel_rfl
theorem pl127_1 : places ty 127 1 = some (1, 1) := by kernel_rfl
theorem at127 : allTy ty ⟨2, 16, .struct [(0, 3), (1, 3)], [.v (.int .i64 0), .v (.int .i64 0)], [.i, .i]⟩ = true := by kernel_rfl
theorem ty129 : ty 129 = some ⟨3, 24, .struct [(0, 127), (2, 3)], [.v (.int .i64 0), .v (.int .i64 0), .v (.int .i64 0)], []⟩ := by kernel_rfl
theorem sd129 : structD ty 129 = some ⟨3, 24, .struct [(0, 127), (2, 3)], [.v (.int .i64 0), .v (.int .i64 0), .v (.int .i64 0)], []⟩ := by kernel_rfl
theorem fd129_0 : fdd ty 129 0 = some (0, ⟨2, 16, .struct [(0, 3), (1, 3)], [.v (.int .i64 0), .v (.int .i64 0)], [.i, .i]⟩) := by kernel_rfl
theorem pl129_0 : places ty 129 0 = some (0, 2) := by kernel_rfl
theorem fd129_1 : fdd ty 129 1 = some (2, ⟨1, 8, .int .i64, [.v (.int .i64 0)], []⟩) := by kernel_rfl
theorem pl129_1 : places ty 129 1 = some (2, 1) := by kernel_rfl
theorem at129 : allTy ty ⟨3, 24, .struct [(0, 127), (2, 3)], [.v (.int .i64 0), .v (.int .i64 0), .v (.int .i64 0)], []⟩ = true := by kernel_rfl
theorem ty130 : ty 130 = some ⟨1, 24, .slice 129, [.v (.slice none 0 0)], []⟩ := by kernel_rfl
theorem el130 : elemD ty 130 = some ⟨3, 24, .struct [(0, 127), (2, 3)], [.v (.int .i64 0), .v (.int .i64 0), .v (.int .i64 0)], []⟩ := by kernel_rfl
theorem ty133 : ty 133 = some ⟨1, 24, .slice 136, [.v (.slice none 0 0)], []⟩ := by kernel_rfl
theorem el133 : elemD ty 133 = some ⟨1, 24, .slice 135, [.v (.slice none 0 0)], []⟩ := by kernel_rfl
theorem ty135 : ty 135 = some ⟨6, 80, .struct [(0, 9), (1, 3), (2, 9), (3, 3), (4, 4), (5, 133)], [.v (.string ⟨#[]⟩), .v (.int .i64 0), .v (.string ⟨#[]⟩), .v (.int .i64 0), .v (.bool false), .v (.slice none 0 0)], []⟩ := by kernel_rfl
theorem sd135 : structD ty 135 = some ⟨6, 80, .struct [(0, 9), (1, 3), (2, 9), (3, 3), (4, 4), (5, 133)], [.v (.string ⟨#[]⟩), .v (.int .i64 0), .v (.string ⟨#[]⟩), .v (.int .i64 0), .v (.bool false), .v (.slice none 0 0)], []⟩ := by kernel_rfl
theorem fd135_0 : fdd ty 135 0 = some (0, ⟨1, 16, .str, [.v (.string ⟨#[]⟩)], []⟩) := by kernel_rfl
theorem pl135_0 : places ty 135 0 = some (0, 1) := by kernel_rfl
theorem fd135_1 : fdd ty 135 1 = some (1, ⟨1, 8, .int .i64, [.v (.int .i64 0)], []⟩) := by kernel_rfl
theorem pl135_1 : places ty 135 1 = some (1, 1) := by kernel_rfl
theorem fd135_2 : fdd ty 135 2 = some (2, ⟨1, 16, .str, [.v (.string ⟨#[]⟩)], []⟩) := by kernel_rfl
theorem pl135_2 : places ty 135 2 = some (2, 1) := by kernel_rfl
theorem fd135_3 : fdd ty 135 3 = some (3, ⟨1, 8, .int .i64, [.v (.int .i64 0)], []⟩) := by kernel_rfl
theorem pl135_3 : places ty 135 3 = some (3, 1) := by kernel_rfl
theorem fd135_4 : fdd ty 135 4 = some (4, ⟨1, 1, .bool, [.v (.bool false)], []⟩) := by kernel_rfl
theorem pl135_4 : places ty 135 4 = some (4, 1) := by kernel_rfl
theorem fd135_5 : fdd ty 135 5 = some (5, ⟨1, 24, .slice 136, [.v (.slice none 0 0)], []⟩) := by kernel_rfl
theorem pl135_5 : places ty 135 5 = some (5, 1) := by kernel_rfl
theorem at135 : allTy ty ⟨6, 80, .struct [(0, 9), (1, 3), (2, 9), (3, 3), (4, 4), (5, 133)], [.v (.string ⟨#[]⟩), .v (.int .i64 0), .v (.string ⟨#[]⟩), .v (.int .i64 0), .v (.bool false), .v (.slice none 0 0)], []⟩ = true := by kernel_rfl
theorem ty136 : ty 136 = some ⟨1, 24, .slice 135, [.v (.slice none 0 0)], []⟩ := by kernel_rfl
theorem el136 : elemD ty 136 = some ⟨6, 80, .struct [(0, 9), (1, 3), (2, 9), (3, 3), (4, 4), (5, 133)], [.v (.string ⟨#[]⟩), .v (.int .i64 0), .v (.string ⟨#[]⟩), .v (.int .i64 0), .v (.bool false), .v (.slice none 0 0)], []⟩ := by kernel_rfl
theorem ty139 : ty 139 = some ⟨1, 8, .int .u64, [.v (.int .u64 0)], []⟩ := by kernel_rfl
theorem ty165 : ty 165 = some ⟨1, 8, .func, [.v (.nilFunc)], []⟩ := by kernel_rfl
theorem ty168 : ty 168 = some ⟨1, 8, .ptr 171, [.v (.pointer none)], []⟩ := by kernel_rfl
theorem ty169 : ty 169 = some ⟨1, 24, .slice 5, [.v (.slice none 0 0)], []⟩ := by kernel_rfl
theorem el169 : elemD ty 169 = some ⟨1, 1, .int .u8, [.v (.int .u8 0)], []⟩ := by kernel_rfl
theorem ty171 : ty 171 = some ⟨2, 32, .struct [(0, 168), (1, 169)], [.v (.pointer none), .v (.slice none 0 0)], []⟩ := by kernel_rfl
theorem sd171 : structD ty 171 = some ⟨2, 32, .struct [(0, 168), (1, 169)], [.v (.pointer none), .v (.slice none 0 0)], []⟩ := by kernel_rfl
theorem fd171_0 : fdd ty 171 0 = some (0, ⟨1, 8, .ptr 171, [.v (.pointer none)], []⟩) := by kernel_rfl
theorem pl171_0 : places ty 171 0 = some (0, 1) := by kernel_rfl
theorem fd171_1 : fdd ty 171 1 = some (1, ⟨1, 24, .slice 5, [.v (.slice none 0 0)], []⟩) := by kernel_rfl
theorem pl171_1 : places ty 171 1 = some (1, 1) := by kernel_rfl
theorem at171 : allTy ty ⟨2, 32, .struct [(0, 168), (1, 169)], [.v (.pointer none), .v (.slice none 0 0)], []⟩ = true := by kernel_rfl
theorem ty178 : ty 178 = some ⟨256, 256, .array 256 5, [.v (.int .u8 0), .v (.int .u8 0), .v (.int .u8 0), .v (.int .u8 0), .v (.int .u8 0), .v (.int .u8 0), .v (.int .u8 0), .v (.int .u8 0), .v (.int .u8 0), .v (.int .u8 0), .v (.int .u8 0), .v (.int .u8 0), .v (.int .u8 0), .v (.int .u8 0), .v (.int .u8 0), .v (.int .u8 0), .v (.int .u8 0), .v (.int .u8 0), .v (.int .u8 0), .v (.int .u8 0), .v (.int .u8 0), .v (.int .u8 0), .v (.int .u8 0), .v (.int .u8 0), .v (.int .u8 0), .v (.int .u8 0), .v (.int .u8 0), .v (.int .u8 0), .v (.int .u8 0), .v (.int .u8 0), .v (.int .u8 0), .v (.int .u8 0), .v (.int .u8 0), .v (.int .u8 0), .v (.int .u8 0), .v (.int .u8 0), .v (.int .u8 0), .v (.int .u8 0), .v (.int .u8 0), .v (.int .u8 0), .v (.int .u8 0), .v (.int .u8 0), .v (.int .u8 0), .v (.int .u8 0), .v (.int .u8 0), .v (.int .u8 0), .v (.int .u8 0), .v (.int .u8 0), .v (.int .u8 0), .v (.int .u8 0), .v (.int .u8 0), .v (.int .u8 0), .v (.int .u8 0), .v (.int .u8 0), .v (.int .u8 0), .v (.int .u8 0), .v (.int .u8 0), .v (.int .u8 0), .v (.int .u8 0), .v (.int .u8 0), .v (.int .u8 0), .v (.int .u8 0), .v (.int .u8 0), .v (.int .u8 0), .v (.int .u8 0), .v (.int .u8 0), .v (.int .u8 0), .v (.int .u8 0), .v (.int .u8 0), .v (.int .u8 0), .v (.int .u8 0), .v (.int .u8 0), .v (.int .u8 0), .v (.int .u8 0), .v (.int .u8 0), .v (.int .u8 0), .v (.int .u8 0), .v (.int .u8 0), .v (.int .u8 0), .v (.int .u8 0), .v (.int .u8 0), .v (.int .u8 0), .v (.int .u8 0), .v (.int .u8 0), .v (.int .u8 0), .v (.int .u8 0), .v (.int .u8 0), .v (.int .u8 0), .v (.int .u8 0), .v (.int .u8 0), .v (.int .u8 0), .v (.int .u8 0), .v (.int .u8 0), .v (.int .u8 0), .v (.int .u8 0), .v (.int .u8 0), .v (.int .u8 0), .v (.int .u8 0), .v (.int .u8 0), .v (.int .u8 0), .v (.int .u8 0), .v (.int .u8 0), .v (.int .u8 0), .v (.int .u8 0), .v (.int .u8 0), .v (.int .u8 0), .v (.int .u8 0), .v (.int .u8 0), .v (.int .u8 0), .v (.int .u8 0), .v (.int .u8 0), .v (.int .u8 0), .v (.int .u8 0), .v (.int .u8 0), .v (.int .u8 0), .v (.int .u8 0), .v (.int .u8 0), .v (.int .u8 0), .v (.int .u8 0), .v (.int .u8 0), .v (.int .u8 0), .v (.int .u8 0), .v (.int .u8 0), .v (.int .u8 0), .v (.int .u8 0), .v (.int .u8 0), .v (.int .u8 0), .v (.int .u8 0), .v (.int .u8 0), .v (.int .u8 0), .v (.int .u8 0), .v (.int .u8 0), .v (.int .u8 0), .v (.int .u8 0), .v (.int .u8 0), .v (.int .u8 0), .v (.int .u8 0), .v (.int .u8 0), .v (.int .u8 0), .v (.int .u8 0), .v (.int .u8 0), .v (.int .u8 0), .v (.int .u8 0), .v (.int .u8 0), .v (.int .u8 0), .v (.int .u8 0), .v (.int .u8 0), .v (.int .u8 0), .v (.int .u8 0), .v (.int .u8 0), .v (.int .u8 0), .v (.int .u8 0), .v (.int .u8 0), .v (.int .u8 0), .v (.int .u8 0), .v (.int .u8 0), .v (.int .u8 0), .v (.int .u8 0), .v (.int .u8 0), .v (.int .u8 0), .v (.int .u8 0), .v (.int .u8 0), .v (.int .u8 0), .v (.int .u8 0), .v (.int .u8 0), .v (.int .u8 0), .v (.int .u8 0), .v (.int .u8 0), .v (.int .u8 0), .v (.int .u8 0), .v (.int .u8 0), .v (.int .u8 0), .v (.int .u8 0), .v (.int .u8 0), .v (.int .u8 0), .v (.int .u8 0), .v (.int .u8 0), .v (.int .u8 0), .v (.int .u8 0), .v (.int .u8 0), .v (.int .u8 0), .v (.int .u8 0), .v (.int .u8 0), .v (.int .u8 0), .v (.int .u8 0), .v (.int .u8 0), .v (.int .u8 0), .v (.int .u8 0), .v (.int .u8 0), .v (.int .u8 0), .v (.int .u8 0), .v (.int .u8 0), .v (.int .u8 0), .v (.int .u8 0), .v (.int .u8 0), .v (.int .u8 0), .v (.int .u8 0), .v (.int .u8 0), .v (.int .u8 0), .v (.int .u8 0), .v (.int .u8 0), .v (.int .u8 0), .v (.int .u8 0), .v (.int .u8 0), .v (.int .u8 0), .v (.int .u8 0), .v (.int .u8 0), .v (.int .u8 0), .v (.int .u8 0), .v (.int .u8 0), .v (.int .u8 0), .v (.int .u8 0), .v (.int .u8 0), .v (.int .u8 0), .v (.int .u8 0), .v (.int .u8 0), .v (.int .u8 0), .v (.int .u8 0), .v (.int .u8 0), .v (.int .u8 0), .v (.int .u8 0), .v (.int .u8 0), .v (.int .u8 0), .v (.int .u8 0), .v (.int .u8 0), .v (.int .u8 0), .v (.int .u8 0), .v (.int .u8 0), .v (.int .u8 0), .v (.int .u8 0), .v (.int .u8 0), .v (.int .u8 0), .v (.int .u8 0), .v (.int .u8 0), .v (.int .u8 0), .v (.int .u8 0), .v (.int .u8 0), .v (.int .u8 0), .v (.int .u8 0), .v (.int .u8 0), .v (.int .u8 0), .v (.int .u8 0), .v (.int .u8 0), .v (.int .u8 0), .v (.int .u8 0), .v (.int .u8 0), .v (.int .u8 0), .v (.int .u8 0), .v (.int .u8 0), .v (.int .u8 0), .v (.int .u8 0), .v (.int .u8 0), .v (.int .u8 0), .v (.int .u8 0), .v (.int .u8 0), .v (.int .u8 0)], []⟩ := by kernel_rfl
theorem ty181 : ty 181 = some ⟨1, 24, .slice 301, [.v (.slice none 0 0)], []⟩ := by kernel_rfl
theorem el181 : elemD ty 181 = some ⟨2, 24, .struct [(0, 9), (1, 3)], [.v (.string ⟨#[]⟩), .v (.int .i64 0)], [.s, .i]⟩ := by kernel_rfl
theorem ty183 : ty 183 = some ⟨3, 40, .struct [(0, 3), (1, 181), (2, 3)], [.v (.int .i64 0), .v (.slice none 0 0), .v (.int .i64 0)], []⟩ := by kernel_rfl
theorem sd183 : structD ty 183 = some ⟨3, 40, .struct [(0, 3), (1, 181), (2, 3)], [.v (.int .i64 0), .v (.slice none 0 0), .v (.int .i64 0)], []⟩ := by kernel_rfl
theorem fd183_0 : fdd ty 183 0 = some (0, ⟨1, 8, .int .i64, [.v (.int .i64 0)], []⟩) := by kernel_rfl
theorem pl183_0 : places ty 183 0 = some (0, 1) := by kernel_rfl
theorem fd183_1 : fdd ty 183 1 = some (1, ⟨1, 24, .slice 301, [.v (.slice none 0 0)], []⟩) := by kernel_rfl
theorem pl183_1 : places ty 183 1 = some (1, 1) := by kernel_rfl
theorem fd183_2 : fdd ty 183 2 = some (2, ⟨1, 8, .int .i64, [.v (.int .i64 0)], []⟩) := by kernel_rfl
theorem pl183_2 : places ty 183 2 = some (2, 1) := by kernel_rfl
theorem at183 : allTy ty ⟨3, 40, .struct [(0, 3), (1, 181), (2, 3)], [.v (.int .i64 0), .v (.slice none 0 0), .v (.int .i64 0)], []⟩ = true := by kernel_rfl
theorem ty188 : ty 188 = some ⟨1, 24, .slice 251, [.v (.slice none 0 0)], []⟩ := by kernel_rfl
theorem el188 : elemD ty 188 = some ⟨19, 296, .struct [(0, 3), (1, 9), (2, 243), (4, 244), (5, 249), (16, 9), (17, 188), (18, 188)], [.v (.int .i64 0), .v (.string ⟨#[]⟩), .v (.string ⟨#[]⟩), .v (.string ⟨#[]⟩), .v (.slice none 0 0), .v (.int .i64 0), .v (.slice none 0 0), .v (.string ⟨#[]⟩), .v (.string ⟨#[]⟩), .v (.string ⟨#[]⟩), .v (.int .i64 0), .v (.string ⟨#[]⟩), .v (.int .i64 0), .v (.bool false), .v (.string ⟨#[]⟩), .v (.string ⟨#[]⟩), .v (.string ⟨#[]⟩), .v (.slice none 0 0), .v (.slice none 0 0)], []⟩ := by kernel_rfl
theorem ty192 : ty 192 = some ⟨1, 8, .ptr 195, [.v (.pointer none)], []⟩ := by kernel_rfl
theorem ty193 : ty 193 = some ⟨1, 24, .slice 311, [.v (.slice none 0 0)], []⟩ := by kernel_rfl
theorem el193 : elemD ty 193 = some ⟨2, 40, .struct [(0, 9), (1, 136)], [.v (.string ⟨#[]⟩), .v (.slice none 0 0)], []⟩ := by kernel_rfl
theorem ty195 : ty 195 = some ⟨5, 88, .struct [(0, 136), (1, 193), (2, 171), (4, 3)], [.v (.slice none 0 0), .v (.slice none 0 0), .v (.pointer none), .v (.slice none 0 0), .v (.int .i64 0)], []⟩ := by kernel_rfl
theorem sd195 : structD ty 195 = some ⟨5, 88, .struct [(0, 136), (1, 193), (2, 171), (4, 3)], [.v (.slice none 0 0), .v (.slice none 0 0), .v (.pointer none), .v (.slice none 0 0), .v (.int .i64 0)], []⟩ := by kernel_rfl
theorem fd195_0 : fdd ty 195 0 = some (0, ⟨1, 24, .slice 135, [.v (.slice none 0 0)], []⟩) := by kernel_rfl
theorem pl195_0 : places ty 195 0 = some (0, 1) := by kernel_rfl
theorem fd195_1 : fdd ty 195 1 = some (1, ⟨1, 24, .slice 311, [.v (.slice none 0 0)], []⟩) := by kernel_rfl
theorem pl195_1 : places ty 195 1 = some (1, 1) := by kernel_rfl
theorem fd195_2 : fdd ty 195 2 = some (2, ⟨2, 32, .struct [(0, 168), (1, 169)], [.v (.pointer none), .v (.slice none 0 0)], []⟩) := by kernel_rfl
theorem pl195_2 : places ty 195 2 = some (2, 2) := by kernel_rfl
theorem fd195_3 : fdd ty 195 3 = some (4, ⟨1, 8, .int .i64, [.v (.int .i64 0)], []⟩) := by kernel_rfl
theorem pl195_3 : places ty 195 3 = some (4, 1) := by kernel_rfl
theorem at195 : allTy ty ⟨5, 88, .struct [(0, 136), (1, 193), (2, 171), (4, 3)], [.v (.slice none 0 0), .v (.slice none 0 0), .v (.pointer none), .v (.slice none 0 0), .v (.int .i64 0)], []⟩ = true := by kernel_rfl
theorem ty198 : ty 198 = some ⟨1, 8, .int .i64, [.v (.int .i64 0)], []⟩ := by kernel_rfl
theorem ty238 : ty 238 = some ⟨1, 8, .ptr 241, [.v (.pointer none)], []⟩ := by kernel_rfl
theorem ty239 : ty 239 = some ⟨1, 24, .slice 254, [.v (.slice none 0 0)], []⟩ := by kernel_rfl
theorem el239 : elemD ty 239 = some ⟨1, 8, .ptr 253, [.v (.pointer none)], []⟩ := by kernel_rfl
theorem ty241 : ty 241 = some ⟨4, 56, .struct [(0, 9), (1, 3), (2, 239), (3, 4)], [.v (.string ⟨#[]⟩), .v (.int .i64 0), .v (.slice none 0 0), .v (.bool false)], []⟩ := by kernel_rfl
theorem sd241 : structD ty 241 = some ⟨4, 56, .struct [(0, 9), (1, 3), (2, 239), (3, 4)], [.v (.string ⟨#[]⟩), .v (.int .i64 0), .v (.slice none 0 0), .v (.bool false)], []⟩ := by kernel_rfl
theorem fd241_0 : fdd ty 241 0 = some (0, ⟨1, 16, .str, [.v (.string ⟨#[]⟩)], []⟩) := by kernel_rfl
theorem pl241_0 : places ty 241 0 = some (0, 1) := by kernel_rfl
theorem fd241_1 : fdd ty 241 1 = some (1, ⟨1, 8, .int .i64, [.v (.int .i64 0)], []⟩) := by kernel_rfl
theorem pl241_1 : places ty 241 1 = some (1, 1) := by kernel_rfl
theorem fd241_2 : fdd ty 241 2 = some (2, ⟨1, 24, .slice 254, [.v (.slice none 0 0)], []⟩) := by kernel_rfl
theorem pl241_2 : places ty 241 2 = some (2, 1) := by kernel_rfl
theorem fd241_3 : fdd ty 241 3 = some (3, ⟨1, 1, .bool, [.v (.bool false)], []⟩) := by kernel_rfl
theorem pl241_3 : places ty 241 3 = some (3, 1) := by kernel_rfl
theorem at241 : allTy ty ⟨4, 56, .struct [(0, 9), (1, 3), (2, 239), (3, 4)], [.v (.string ⟨#[]⟩), .v (.int .i64 0), .v (.slice none 0 0), .v (.bool false)], []⟩ = true := by kernel_rfl
theorem ty243 : ty 243 = some ⟨2, 32, .struct [(0, 9), (1, 9)], [.v (.string ⟨#[]⟩), .v (.string ⟨#[]⟩)], [.s, .s]⟩ := by kernel_rfl
theorem sd243 : structD ty 243 = some ⟨2, 32, .struct [(0, 9), (1, 9)], [.v (.string ⟨#[]⟩), .v (.string ⟨#[]⟩)], [.s, .s]⟩ := by kernel_rfl
theorem fd243_0 : fdd ty 243 0 = some (0, ⟨1, 16, .str, [.v (.string ⟨#[]⟩)], []⟩) := by kernel_rfl
theorem pl243_0 : places ty 243 0 = some (0, 1) := by kernel_rfl
theorem fd243_1 : fdd ty 243 1 = some (1, ⟨1, 16, .str, [.v (.string ⟨#[]⟩)], []⟩) := by kernel_rfl
theorem pl243_1 : places ty 243 1 = some (1, 1) := by kernel_rfl
theorem at243 : allTy ty ⟨2, 32, .struct [(0, 9), (1, 9)], [.v (.string ⟨#[]⟩), .v (.string ⟨#[]⟩)], [.s, .s]⟩ = true := by kernel_rfl
theorem ty244 : ty 244 = some ⟨1, 24, .slice 340, [.v (.slice none 0 0)], []⟩ := by kernel_rfl
theorem el244 : elemD ty 244 = some ⟨2, 24, .struct [(0, 9), (1, 3)], [.v (.string ⟨#[]⟩), .v (.int .i64 0)], [.s, .i]⟩ := by kernel_rfl
theorem ty249 : ty 249 = some ⟨11, 152, .struct [(0, 3), (1, 245), (2, 243), (4, 9), (5, 247), (9, 243)], [.v (.int .i64 0), .v (.slice none 0 0), .v (.string ⟨#[]⟩), .v (.string ⟨#[]⟩), .v (.string ⟨#[]⟩), .v (.int .i64 0), .v (.string ⟨#[]⟩), .v (.int .i64 0), .v (.bool false), .v (.string ⟨#[]⟩), .v (.string ⟨#[]⟩)], []⟩ := by kernel_rfl
theorem sd249 : structD ty 249 = some ⟨11, 152, .struct [(0, 3), (1, 245), (2, 243), (4, 9), (5, 247), (9, 243)], [.v (.int .i64 0), .v (.slice none 0 0), .v (.string ⟨#[]⟩), .v (.string ⟨#[]⟩), .v (.string ⟨#[]⟩), .v (.int .i64 0), .v (.string ⟨#[]⟩), .v (.int .i64 0), .v (.bool false), .v (.string ⟨#[]⟩), .v (.string ⟨#[]⟩)], []⟩ := by kernel_rfl
theorem fd249_0 : fdd ty 249 0 = some (0, ⟨1, 8, .int .i64, [.v (.int .i64 0)], []⟩) := by kernel_rfl
theorem pl249_0 : places ty 249 0 = some (0, 1) := by kernel_rfl
theorem fd249_1 : fdd ty 249 1 = some (1, ⟨1, 24, .slice 249, [.v (.slice none 0 0)], []⟩) := by kernel_rfl
theorem pl249_1 : places ty 249 1 = some (1, 1) := by kernel_rfl
theorem fd249_2 : fdd ty 249 2 = some (2, ⟨2, 32, .struct [(0, 9), (1, 9)], [.v (.string ⟨#[]⟩), .v (.string ⟨#[]⟩)], [.s, .s]⟩) := by kernel_rfl
theorem pl249_2 : places ty 249 2 = some (2, 2) := by kernel_rfl
theorem fd249_3 : fdd ty 249 3 = some (4, ⟨1, 16, .str, [.v (.string ⟨#[]⟩)], []⟩) := by kernel_rfl
theorem pl249_3 : places ty 249 3 = some (4, 1) := by kernel_rfl
theorem fd249_4 : fdd ty 249 4 = some (5, ⟨4, 40, .struct [(0, 3), (1, 9), (2, 3), (3, 4)], [.v (.int .i64 0), .v (.string ⟨#[]⟩), .v (.int .i64 0), .v (.bool false)], [.i, .s, .i, .b]⟩) := by kernel_rfl
theorem pl249_4 : places ty 249 4 = some (5, 4) := by kernel_rfl
theorem fd249_5 : fdd ty 249 5 = some (9, ⟨2, 32, .struct [(0, 9), (1, 9)], [.v (.string ⟨#[]⟩), .v (.string ⟨#[]⟩)], [.s, .s]⟩) := by kernel_rfl
theorem pl249_5 : places ty 249 5 = some (9, 2) := by kernel_rfl
theorem at249 : allTy ty ⟨11, 152, .struct [(0, 3), (1, 245), (2, 243), (4, 9), (5, 247), (9, 243)], [.v (.int .i64 0), .v (.slice none 0 0), .v (.string ⟨#[]⟩), .v (.string ⟨#[]⟩), .v (.string ⟨#[]⟩), .v (.int .i64 0), .v (.string ⟨#[]⟩), .v (.int .i64 0), .v (.bool false), .v (.string ⟨#[]⟩), .v (.string ⟨#[]⟩)], []⟩ = true := by kernel_rfl
theorem ty251 : ty 251 = some ⟨19, 296, .struct [(0, 3), (1, 9), (2, 243), (4, 244), (5, 249), (16, 9), (17, 188), (18, 188)], [.v (.int .i64 0), .v (.string ⟨#[]⟩), .v (.string ⟨#[]⟩), .v (.string ⟨#[]⟩), .v (.slice none 0 0), .v (.int .i64 0), .v (.slice none 0 0), .v (.string ⟨#[]⟩), .v (.string ⟨#[]⟩), .v (.string ⟨#[]⟩), .v (.int .i64 0), .v (.string ⟨#[]⟩), .v (.int .i64 0), .v (.bool false), .v (.string ⟨#[]⟩), .v (.string ⟨#[]⟩), .v (.string ⟨#[]⟩), .v (.slice none 0 0), .v (.slice none 0 0)], []⟩ := by kernel_rfl
theorem sd251 : structD ty 251 = some ⟨19, 296, .struct [(0, 3), (1, 9), (2, 243), (4, 244), (5, 249), (16, 9), (17, 188), (18, 188)], [.v (.int .i64 0), .v (.string ⟨#[]⟩), .v (.string ⟨#[]⟩), .v (.string ⟨#[]⟩), .v (.slice none 0 0), .v (.int .i64 0), .v (.slice none 0 0), .v (.string ⟨#[]⟩), .v (.string ⟨#[]⟩), .v (.string ⟨#[]⟩), .v (.int .i64 0), .v (.string ⟨#[]⟩), .v (.int .i64 0), .v (.bool false), .v (.string ⟨#[]⟩), .v (.string ⟨#[]⟩), .v (.string ⟨#[]⟩), .v (.slice none 0 0), .v (.slice none 0 0)], []⟩ := by kernel_rfl
theorem fd251_0 : fdd ty 251 0 = some (0, ⟨1, 8, .int .i64, [.v (.int .i64 0)], []⟩) := by kernel_rfl
theorem pl251_0 : places ty 251 0 = some (0, 1) := by kernel_rfl
theorem fd251_1 : fdd ty 251 1 = some (1, ⟨1, 16, .str, [.v (.string ⟨#[]⟩)], []⟩) := by kernel_rfl
theorem pl251_1 : places ty 251 1 = some (1, 1) := by kernel_rfl
theorem fd251_2 : fdd ty 251 2 = some (2, ⟨2, 32, .struct [(0, 9), (1, 9)], [.v (.string ⟨#[]⟩), .v (.string ⟨#[]⟩)], [.s, .s]⟩) := by kernel_rfl
theorem pl251_2 : places ty 251 2 = some (2, 2) := by kernel_rfl
theorem fd251_3 : fdd ty 251 3 = some (4, ⟨1, 24, .slice 340, [.v (.slice none 0 0)], []⟩) := by kernel_rfl
theorem pl251_3 : places ty 251 3 = some (4, 1) := by kernel_rfl
theorem fd251_4 : fdd ty 251 4 = some (5, ⟨11, 152, .struct [(0, 3), (1, 245), (2, 243), (4, 9), (5, 247), (9, 243)], [.v (.int .i64 0), .v (.slice none 0 0), .v (.string ⟨#[]⟩), .v (.string ⟨#[]⟩), .v (.string ⟨#[]⟩), .v (.int .i64 0), .v (.string ⟨#[]⟩), .v (.int .i64 0), .v (.bool false), .v (.string ⟨#[]⟩), .v (.string ⟨#[]⟩)], []⟩) := by kernel_rfl
theorem pl251_4 : places ty 251 4 = some (5, 11) := by kernel_rfl
theorem fd251_5 : fdd ty 251 5 = some (16, ⟨1, 16, .str, [.v (.string ⟨#[]⟩)], []⟩) := by kernel_rfl
theorem pl251_5 : places ty 251 5 = some (16, 1) := by kernel_rfl
theorem fd251_6 : fdd ty 251 6 = some (17, ⟨1, 24, .slice 251, [.v (.slice none 0 0)], []⟩) := by kernel_rfl
theorem pl251_6 : places ty 251 6 = some (17, 1) := by kernel_rfl
theorem fd251_7 : fdd ty 251 7 = some (18, ⟨1, 24, .slice 251, [.v (.slice none 0 0)], []⟩) := by kernel_rfl
theorem pl251_7 : places ty 251 7 = some (18, 1) := by kernel_rfl
theorem at251 : allTy ty ⟨19, 296, .struct [(0, 3), (1, 9), (2, 243), (4, 244), (5, 249), (16, 9), (17, 188), (18, 188)], [.v (.int .i64 0), .v (.string ⟨#[]⟩), .v (.string ⟨#[]⟩), .v (.string ⟨#[]⟩), .v (.slice none 0 0), .v (.int .i64 0), .v (.slice none 0 0), .v (.string ⟨#[]⟩), .v (.string ⟨#[]⟩), .v (.string ⟨#[]⟩), .v (.int .i64 0), .v (.string ⟨#[]⟩), .v (.int .i64 0), .v (.bool false), .v (.string ⟨#[]⟩), .v (.string ⟨#[]⟩), .v (.string ⟨#[]⟩), .v (.slice none 0 0), .v (.slice none 0 0)], []⟩ = true := by kernel_rfl
theorem ty253 : ty 253 = some ⟨21, 328, .struct [(0, 251), (19, 188), (20, 4)], [.v (.int .i64 0), .v (.string ⟨#[]⟩), .v (.string ⟨#[]⟩), .v (.string ⟨#[]⟩), .v (.slice none 0 0), .v (.int .i64 0), .v (.slice none 0 0), .v (.string ⟨#[]⟩), .v (.string ⟨#[]⟩), .v (.string ⟨#[]⟩), .v (.int .i64 0), .v (.string ⟨#[]⟩), .v (.int .i64 0), .v (.bool false), .v (.string ⟨#[]⟩), .v (.string ⟨#[]⟩), .v (.string ⟨#[]⟩), .v (.slice none 0 0), .v (.slice none 0 0), .v (.slice none 0 0), .v (.bool false)], []⟩ := by kernel_rfl
theorem sd253 : structD ty 253 = some ⟨21, 328, .struct [(0, 251), (19, 188), (20, 4)], [.v (.int .i64 0), .v (.string ⟨#[]⟩), .v (.string ⟨#[]⟩), .v (.string ⟨#[]⟩), .v (.slice none 0 0), .v (.int .i64 0), .v (.slice none 0 0), .v (.string ⟨#[]⟩), .v (.string ⟨#[]⟩), .v (.string ⟨#[]⟩), .v (.int .i64 0), .v (.string ⟨#[]⟩), .v (.int .i64 0), .v (.bool false), .v (.string ⟨#[]⟩), .v (.string ⟨#[]⟩), .v (.string ⟨#[]⟩), .v (.slice none 0 0), .v (.slice none 0 0), .v (.slice none 0 0), .v (.bool false)], []⟩ := by kernel_rfl
theorem fd253_0 : fdd ty 253 0 = some (0, ⟨19, 296, .struct [(0, 3), (1, 9), (2, 243), (4, 244), (5, 249), (16, 9), (17, 188), (18, 188)], [.v (.int .i64 0), .v (.string ⟨#[]⟩), .v (.string ⟨#[]⟩), .v (.string ⟨#[]⟩), .v (.slice none 0 0), .v (.int .i64 0), .v (.slice none 0 0), .v (.string ⟨#[]⟩), .v (.string ⟨#[]⟩), .v (.string ⟨#[]⟩), .v (.int .i64 0), .v (.string ⟨#[]⟩), .v (.int .i64 0), .v (.bool false), .v (.string ⟨#[]⟩), .v (.string ⟨#[]⟩), .v (.string ⟨#[]⟩), .v (.slice none 0 0), .v (.slice none 0 0)], []⟩) := by kernel_rfl
theorem pl253_0 : places ty 253 0 = some (0, 19) := by kernel_rfl
theorem fd253_1 : fdd ty 253 1 = some (19, ⟨1, 24, .slice 251, [.v (.slice none 0 0)], []⟩) := by kernel_rfl
theorem pl253_1 : places ty 253 1 = some (19, 1) := by kernel_rfl
theorem fd253_2 : fdd ty 253 2 = some (20, ⟨1, 1, .bool, [.v (.bool false)], []⟩) := by kernel_rfl
theorem pl253_2 : places ty 253 2 = some (20, 1) := by kernel_rfl
theorem at253 : allTy ty ⟨21, 328, .struct [(0, 251), (19, 188), (20, 4)], [.v (.int .i64 0), .v (.string ⟨#[]⟩), .v (.string ⟨#[]⟩), .v (.string ⟨#[]⟩), .v (.slice none 0 0), .v (.int .i64 0), .v (.slice none 0 0), .v (.string ⟨#[]⟩), .v (.string ⟨#[]⟩), .v (.string ⟨#[]⟩), .v (.int .i64 0), .v (.string ⟨#[]⟩), .v (.int .i64 0), .v (.bool false), .v (.string ⟨#[]⟩), .v (.string ⟨#[]⟩), .v (.string ⟨#[]⟩), .v (.slice none 0 0), .v (.slice none 0 0), .v (.slice none 0 0), .v (.bool false)], []⟩ = true := by kernel_rfl
theorem ty254 : ty 254 = some ⟨1, 8, .ptr 253, [.v (.pointer none)], []⟩ := by kernel_rfl
theorem ty292 : ty 292 = some ⟨1, 8, .struct [(0, 3)], [.v (.int .i64 0)], [.i]⟩ := by kernel_rfl
theorem sd292 : structD ty 292 = some ⟨1, 8, .struct [(0, 3)], [.v (.int .i64 0)], [.i]⟩ := by kernel_rfl
theorem fd292_0 : fdd ty 292 0 = some (0, ⟨1, 8, .int .i64, [.v (.int .i64 0)], []⟩) := by kernel_rfl
theorem pl292_0 : places ty 292 0 = some (0, 1) := by kernel_rfl
theorem at292 : allTy ty ⟨1, 8, .struct [(0, 3)], [.v (.int .i64 0)], [.i]⟩ = true := by kernel_rfl
theorem ty294 : ty 294 = some ⟨1, 8, .ptr 326, [.v (.pointer none)], []⟩ := by kernel_rfl
theorem ty296 : ty 296 = some ⟨1, 8, .ptr 298, [.v (.pointer none)], []⟩ := by kernel_rfl
theorem ty298 : ty 298 = some ⟨2, 32, .struct [(0, 181), (1, 3)], [.v (.slice none 0 0), .v (.int .i64 0)], []⟩ := by kernel_rfl
theorem sd298 : structD ty 298 = some ⟨2, 32, .struct [(0, 181), (1, 3)], [.v (.slice none 0 0), .v (.int .i64 0)], []⟩ := by kernel_rfl
theorem fd298_0 : fdd ty 298 0 = some (0, ⟨1, 24, .slice 301, [.v (.slice none 0 0)], []⟩) := by kernel_rfl
theorem pl298_0 : places ty 298 0 = some (0, 1) := by kernel_rfl
theorem fd298_1 : fdd ty 298 1 = some (1, ⟨1, 8, .int .i64, [.v (.int .i64 0)], []⟩) := by kernel_rfl
theorem pl298_1 : places ty 298 1 = some (1, 1) := by kernel_rfl
theorem at298 : allTy ty ⟨2, 32, .struct [(0, 181), (1, 3)], [.v (.slice none 0 0), .v (.int .i64 0)], []⟩ = true := by kernel_rfl
theorem ty301 : ty 301 = some ⟨2, 24, .struct [(0, 9), (1, 3)], [.v (.string ⟨#[]⟩), .v (.int .i64 0)], [.s, .i]⟩ := by kernel_rfl
theorem sd301 : structD ty 301 = some ⟨2, 24, .struct [(0, 9), (1, 3)], [.v (.string ⟨#[]⟩), .v (.int .i64 0)], [.s, .i]⟩ := by kernel_rfl
theorem fd301_0 : fdd ty 301 0 = some (0, ⟨1, 16, .str, [.v (.string ⟨#[]⟩)], []⟩) := by kernel_rfl
theorem pl301_0 : places ty 301 0 = some (0, 1) := by kernel_rfl
theorem fd301_1 : fdd ty 301 1 = some (1, ⟨1, 8, .int .i64, [.v (.int .i64 0)], []⟩) := by kernel_rfl
theorem pl301_1 : places ty 301 1 = some (1, 1) := by kernel_rfl
theorem at301 : allTy ty ⟨2, 24, .struct [(0, 9), (1, 3)], [.v (.string ⟨#[]⟩), .v (.int .i64 0)], [.s, .i]⟩ = true := by kernel_rfl
theorem ty311 : ty 311 = some ⟨2, 40, .struct [(0, 9), (1, 136)], [.v (.string ⟨#[]⟩), .v (.slice none 0 0)], []⟩ := by kernel_rfl
theorem sd311 : structD ty 311 = some ⟨2, 40, .struct [(0, 9), (1, 136)], [.v (.string ⟨#[]⟩), .v (.slice none 0 0)], []⟩ := by kernel_rfl
theorem fd311_0 : fdd ty 311 0 = some (0, ⟨1, 16, .str, [.v (.string ⟨#[]⟩)], []⟩) := by kernel_rfl
theorem pl311_0 : places ty 311 0 = some (0, 1) := by kernel_rfl
theorem fd311_1 : fdd ty 311 1 = some (1, ⟨1, 24, .slice 135, [.v (.slice none 0 0)], []⟩) := by kernel_rfl
theorem pl311_1 : places ty 311 1 = some (1, 1) := by kernel_rfl
theorem at311 : allTy ty ⟨2, 40, .struct [(0, 9), (1, 136)], [.v (.string ⟨#[]⟩), .v (.slice none 0 0)], []⟩ = true := by kernel_rfl
theorem ty321 : ty 321 = some ⟨1, 8, .ptr 292, [.v (.pointer none)], []⟩ := by kernel_rfl
theorem ty323 : ty 323 = some ⟨1, 8, .func, [.v (.nilFunc)], []⟩ := by kernel_rfl
theorem ty324 : ty 324 = some ⟨1, 24, .slice 294, [.v (.slice none 0 0)], []⟩ := by kernel_rfl
theorem el324 : elemD ty 324 = some ⟨1, 8, .ptr 326, [.v (.pointer none)], []⟩ := by kernel_rfl
theorem ty326 : ty 326 = some ⟨10, 152, .struct [(0, 123), (6, 324), (7, 3), (8, 22), (9, 3)], [.v (.int .i64 0), .v (.string ⟨#[]⟩), .v (.int .i64 0), .v (.int .i64 0), .v (.slice none 0 0), .v (.slice none 0 0), .v (.slice none 0 0), .v (.int .i64 0), .v (.slice none 0 0), .v (.int .i64 0)], []⟩ := by kernel_rfl
theorem sd326 : structD ty 326 = some ⟨10, 152, .struct [(0, 123), (6, 324), (7, 3), (8, 22), (9, 3)], [.v (.int .i64 0), .v (.string ⟨#[]⟩), .v (.int .i64 0), .v (.int .i64 0), .v (.slice none 0 0), .v (.slice none 0 0), .v (.slice none 0 0), .v (.int .i64 0), .v (.slice none 0 0), .v (.int .i64 0)], []⟩ := by kernel_rfl
theorem fd326_0 : fdd ty 326 0 = some (0, ⟨6, 88, .struct [(0, 3), (1, 9), (2, 3), (3, 3), (4, 121), (5, 22)], [.v (.int .i64 0), .v (.string ⟨#[]⟩), .v (.int .i64 0), .v (.int .i64 0), .v (.slice none 0 0), .v (.slice none 0 0)], []⟩) := by kernel_rfl
theorem pl326_0 : places ty 326 0 = some (0, 6) := by kernel_rfl
theorem fd326_1 : fdd ty 326 1 = some (6, ⟨1, 24, .slice 294, [.v (.slice none 0 0)], []⟩) := by kernel_rfl
theorem pl326_1 : places ty 326 1 = some (6, 1) := by kernel_rfl
theorem fd326_2 : fdd ty 326 2 = some (7, ⟨1, 8, .int .i64, [.v (.int .i64 0)], []⟩) := by kernel_rfl
theorem pl326_2 : places ty 326 2 = some (7, 1) := by kernel_rfl
theorem fd326_3 : fdd ty 326 3 = some (8, ⟨1, 24, .slice 3, [.v (.slice none 0 0)], []⟩) := by kernel_rfl
theorem pl326_3 : places ty 326 3 = some (8, 1) := by kernel_rfl
theorem fd326_4 : fdd ty 326 4 = some (9, ⟨1, 8, .int .i64, [.v (.int .i64 0)], []⟩) := by kernel_rfl
theorem pl326_4 : places ty 326 4 = some (9, 1) := by kernel_rfl
theorem at326 : allTy ty ⟨10, 152, .struct [(0, 123), (6, 324), (7, 3), (8, 22), (9, 3)], [.v (.int .i64 0), .v (.string ⟨#[]⟩), .v (.int .i64 0), .v (.int .i64 0), .v (.slice none 0 0), .v (.slice none 0 0), .v (.slice none 0 0), .v (.int .i64 0), .v (.slice none 0 0), .v (.int .i64 0)], []⟩ = true := by kernel_rfl
theorem ty329 : ty 329 = some ⟨1, 8, .func, [.v (.nilFunc)], []⟩ := by kernel_rfl
theorem ty340 : ty 340 = some ⟨2, 24, .struct [(0, 9), (1, 3)], [.v (.string ⟨#[]⟩), .v (.int .i64 0)], [.s, .i]⟩ := by kernel_rfl
theorem sd340 : structD ty 340 = some ⟨2, 24, .struct [(0, 9), (1, 3)], [.v (.string ⟨#[]⟩), .v (.int .i64 0)], [.s, .i]⟩ := by kernel_rfl
theorem fd340_0 : fdd ty 340 0 = some (0, ⟨1, 16, .str, [.v (.string ⟨#[]⟩)], []⟩) := by kernel_rfl
theorem pl340_0 : places ty 340 0 = some (0, 1) := by kernel_rfl
theorem fd340_1 : fdd ty 340 1 = some (1, ⟨1, 8, .int .i64, [.v (.int .i64 0)], []⟩) := by kernel_rfl
theorem pl340_1 : places ty 340 1 = some (1, 1) := by kernel_rfl
theorem at340 : allTy ty ⟨2, 24, .struct [(0, 9), (1, 3)], [.v (.string ⟨#[]⟩), .v (.int .i64 0)], [.s, .i]⟩ = true := by kernel_rfl
theorem ty347 : ty 347 = some ⟨2, 2, .struct [(0, 5), (1, 5)], [.v (.int .u8 0), .v (.int .u8 0)], [.i, .i]⟩ := by kernel_rfl
theorem sd347 : structD ty 347 = some ⟨2, 2, .struct [(0, 5), (1, 5)], [.v (.int .u8 0), .v (.int .u8 0)], [.i, .i]⟩ := by kernel_rfl
theorem fd347_0 : fdd ty 347 0 = some (0, ⟨1, 1, .int .u8, [.v (.int .u8 0)], []⟩) := by kernel_rfl
theorem pl347_0 : places ty 347 0 = some (0, 1) := by kernel_rfl
theorem fd347_1 : fdd ty 347 1 = some (1, ⟨1, 1, .int .u8, [.v (.int .u8 0)], []⟩) := by kernel_rfl
theorem pl347_1 : places ty 347 1 = some (1, 1) := by kernel_rfl
theorem at347 : allTy ty ⟨2, 2, .struct [(0, 5), (1, 5)], [.v (.int .u8 0), .v (.int .u8 0)], [.i, .i]⟩ = true := by kernel_rfl
theorem ty348 : ty 348 = some ⟨32, 32, .array 16 347, [.v (.int .u8 0), .v (.int .u8 0), .v (.int .u8 0), .v (.int .u8 0), .v (.int .u8 0), .v (.int .u8 0), .v (.int .u8 0), .v (.int .u8 0), .v (.int .u8 0), .v (.int .u8 0), .v (.int .u8 0), .v (.int .u8 0), .v (.int .u8 0), .v (.int .u8 0), .v (.int .u8 0), .v (.int .u8 0), .v (.int .u8 0), .v (.int .u8 0), .v (.int .u8 0), .v (.int .u8 0), .v (.int .u8 0), .v (.int .u8 0), .v (.int .u8 0), .v (.int .u8 0), .v (.int .u8 0), .v (.int .u8 0), .v (.int .u8 0), .v (.int .u8 0), .v (.int .u8 0), .v (.int .u8 0), .v (.int .u8 0), .v (.int .u8 0)], []⟩ := by kernel_rfl
theorem ty364 : ty 364 = some ⟨1, 8, .func, [.v (.nilFunc)], []⟩ := by kernel_rfl
set_option maxRecDepth 100000
theorem lemA : type_of% (And.intro (@List.getD_cons_zero.{0}) (And.intro (@List.getD_cons_succ.{0}) (And.intro (@List.set_cons_zero.{0}) (And.intro (@List.set_cons_succ.{0}) (And.intro (@List.length_cons.{0}) (And.intro (@List.length_nil.{0}) (And.intro (@List.map_cons.{0, 0}) (And.intro (@List.map_nil.{0, 0}) (And.intro (@List.append_nil.{0}) (And.intro (@List.nil_append.{0}) (And.intro (@List.cons_append.{0}) (And.intro (@List.all_cons.{0}) (And.intro (@List.all_nil.{0}) (And.intro (@Bool.and_true) (And.intro (@Bool.and_self) (And.intro (@Option.bind_some.{0, 0}) (And.intro (@Option.map_some.{0, 0}) (And.intro (@List.getElem?_toArray.{0}) (And.intro (@List.getElem?_cons_zero.{0}) (And.intro (@List.getElem?_cons_succ.{0}) (And.intro (@true_and) (And.intro (@and_true) (And.intro (@and_self) (And.intro (@Option.some.injEq.{0}) (And.intro (@if_true.{1}) (And.intro (@implies_true.{0}) (And.intro (@implies_true.{1}) (And.intro (@imp_self) (And.intro (@List.toList_toArray.{0}) (And.intro (@Bool.false_eq_true) (And.intro (@Bool.true_eq_false) (And.intro (@false_and) (And.intro (@and_false) (And.intro (@List.filterMap_cons.{0, 0}) (And.intro (@beq_true) (And.intro (@beq_false) (And.intro (@Bool.not_eq_true') (And.intro (@Bool.not_eq_false') (And.intro (@true_implies) (And.intro (@Bool.cond_true_left) (And.intro (@Bool.cond_false_right) (And.intro (@Bool.not_not) (And.intro (@Bool.or_false) (And.intro (@Bool.false_or) (And.intro (@Bool.or_true) (And.intro (@Bool.true_or) (And.intro (@Bool.and_false) (And.intro (@Bool.false_and) (And.intro (@Bool.true_and) (And.intro (@Bool.not_true) (And.intro (@Bool.not_false) (And.intro (@cond_true.{1}) (And.intro (@cond_false.{1}) (And.intro (@upd_same) (And.intro (@List.take_succ_cons.{0}) (And.intro (@List.take_zero.{0}) (And.intro (@List.drop_succ_cons.{0}) (And.intro (@List.drop_zero.{0}) (And.intro (@List.take_nil.{0}) (And.intro (@List.drop_nil.{0}) (And.intro (@List.length_map.{0, 0}) (And.intro (@Int.add_sub_cancel) (And.intro (@List.length_set.{0}) (And.intro (@upd_upd) (And.intro (@Option.isSome_some.{0}) (And.intro (@ne_eq.{1}) (@not_false_eq_true))))))))))))))))))))))))))))))))))))))))))))))))))))))))))))))))))) := And.intro (@List.getD_cons_zero.{0}) (And.intro (@List.getD_cons_succ.{0}) (And.intro (@List.set_cons_zero.{0}) (And.intro (@List.set_cons_succ.{0}) (And.intro (@List.length_cons.{0}) (And.intro (@List.length_nil.{0}) (And.intro (@List.map_cons.{0, 0}) (And.intro (@List.map_nil.{0, 0}) (And.intro (@List.append_nil.{0}) (And.intro (@List.nil_append.{0}) (And.intro (@List.cons_append.{0}) (And.intro (@List.all_cons.{0}) (And.intro (@List.all_nil.{0}) (And.intro (@Bool.and_true) (And.intro (@Bool.and_self) (And.intro (@Option.bind_some.{0, 0}) (And.intro (@Option.map_some.{0, 0}) (And.intro (@List.getElem?_toArray.{0}) (And.intro (@List.getElem?_cons_zero.{0}) (And.intro (@List.getElem?_cons_succ.{0}) (And.intro (@true_and) (And.intro (@and_true) (And.intro (@and_self) (And.intro (@Option.some.injEq.{0}) (And.intro (@if_true.{1}) (And.intro (@implies_true.{0}) (And.intro (@implies_true.{1}) (And.intro (@imp_self) (And.intro (@List.toList_toArray.{0}) (And.intro (@Bool.false_eq_true) (And.intro (@Bool.true_eq_false) (And.intro (@false_and) (And.intro (@and_false) (And.intro (@List.filterMap_cons.{0, 0}) (And.intro (@beq_true) (And.intro (@beq_false) (And.intro (@Bool.not_eq_true') (And.intro (@Bool.not_eq_false') (And.intro (@true_implies) (And.intro (@Bool.cond_true_left) (And.intro (@Bool.cond_false_right) (And.intro (@Bool.not_not) (And.intro (@Bool.or_false) (And.intro (@Bool.false_or) (And.intro (@Bool.or_true) (And.intro (@Bool.true_or) (And.intro (@Bool.and_false) (And.intro (@Bool.false_and) (And.intro (@Bool.true_and) (And.intro (@Bool.not_true) (And.intro (@Bool.not_false) (And.intro (@cond_true.{1}) (And.intro (@cond_false.{1}) (And.intro (@upd_same) (And.intro (@List.take_succ_cons.{0}) (And.intro (@List.take_zero.{0}) (And.intro (@List.drop_succ_cons.{0}) (And.intro (@List.drop_zero.{0}) (And.intro (@List.take_nil.{0}) (And.intro (@List.drop_nil.{0}) (And.intro (@List.length_map.{0, 0}) (And.intro (@Int.add_sub_cancel) (And.intro (@List.length_set.{0}) (And.intro (@upd_upd) (And.intro (@Option.isSome_some.{0}) (And.intro (@ne_eq.{1}) (@not_false_eq_true))))))))))))))))))))))))))))))))))))))))))))))))))))))))))))))))))
theorem lemT : type_of% (And.intro (@ty1) (And.intro (@ty2) (And.intro (@ty3) (And.intro (@ty4) (And.intro (@ty5) (And.intro (@ty9) (And.intro (@is9) (And.intro (@ty12) (And.intro (@ty22) (And.intro (@el22) (And.intro (@ty28) (And.intro (@ty29) (And.intro (@ty38) (And.intro (@el38) (And.intro (@ty78) (And.intro (@el78) (And.intro (@ty80) (And.intro (@sd80) (And.intro (@fd80_0) (And.intro (@pl80_0) (And.intro (@fd80_1) (And.intro (@pl80_1) (And.intro (@fd80_2) (And.intro (@pl80_2) (And.intro (@fd80_3) (And.intro (@pl80_3) (And.intro (@at80) (And.intro (@ty87) (And.intro (@ty90) (And.intro (@sd90) (And.intro (@fd90_0) (And.intro (@pl90_0) (And.intro (@fd90_1) (And.intro (@pl90_1) (And.intro (@fd90_2) (And.intro (@pl90_2) (And.intro (@fd90_3) (And.intro (@pl90_3) (And.intro (@fd90_4) (And.intro (@pl90_4) (And.intro (@fd90_5) (And.intro (@pl90_5) (And.intro (@at90) (And.intro (@ty93) (And.intro (@ty121) (And.intro (@el121) (And.intro (@ty123) (And.intro (@sd123) (And.intro (@fd123_0) (And.intro (@pl123_0) (And.intro (@fd123_1) (And.intro (@pl123_1) (And.intro (@fd123_2) (And.intro (@pl123_2) (And.intro (@fd123_3) (And.intro (@pl123_3) (And.intro (@fd123_4) (And.intro (@pl123_4) (And.intro (@fd123_5) (And.intro (@pl123_5) (And.intro (@at123) (And.intro (@ty127) (And.intro (@sd127) (And.intro (@fd127_0) (And.intro (@pl127_0) (And.intro (@fd127_1) (And.intro (@pl127_1) (And.intro (@at127) (And.intro (@ty129) (And.intro (@sd129) (And.intro (@fd129_0) (And.intro (@pl129_0) (And.intro (@fd129_1) (And.intro (@pl129_1) (And.intro (@at129) (And.intro (@ty130) (And.intro (@el130) (And.intro (@ty133) (And.intro (@el133) (And.intro (@ty135) (And.intro (@sd135) (And.intro (@fd135_0) (And.intro (@pl135_0) (And.intro (@fd135_1) (And.intro (@pl135_1) (And.intro (@fd135_2) (And.intro (@pl135_2) (And.intro (@fd135_3) (And.intro (@pl135_3) (And.intro (@fd135_4) (And.intro (@pl135_4) (And.intro (@fd135_5) (And.intro (@pl135_5) (And.intro (@at135) (And.intro (@ty136) (And.intro (@el136) (And.intro (@ty139) (And.intro (@ty165) (And.intro (@ty168) (And.intro (@ty169) (And.intro (@el169) (And.intro (@ty171) (And.intro (@sd171) (And.intro (@fd171_0) (And.intro (@pl171_0) (And.intro (@fd171_1) (And.intro (@pl171_1) (And.intro (@at171) (And.intro (@ty178) (And.intro (@ty181) (And.intro (@el181) (And.intro (@ty183) (And.intro (@sd183) (And.intro (@fd183_0) (And.intro (@pl183_0) (And.intro (@fd183_1) (And.intro (@pl183_1) (And.intro (@fd183_2) (And.intro (@pl183_2) (And.intro (@at183) (And.intro (@ty188) (And.intro (@el188) (And.intro (@ty192) (And.intro (@ty193) (And.intro (@el193) (And.intro (@ty195) (And.intro (@sd195) (And.intro (@fd195_0) (And.intro (@pl195_0) (And.intro (@fd195_1) (And.intro (@pl195_1) (And.intro (@fd195_2) (And.intro (@pl195_2) (And.intro (@fd195_3) (And.intro (@pl195_3) (And.intro (@at195) (And.intro (@ty198) (And.intro (@ty238) (And.intro (@ty239) (And.intro (@el239) (And.intro (@ty241) (And.intro (@sd241) (And.intro (@fd241_0) (And.intro (@pl241_0) (And.intro (@fd241_1) (And.intro (@pl241_1) (And.intro (@fd241_2) (And.intro (@pl241_2) (And.intro (@fd241_3) (And.intro (@pl241_3) (And.intro (@at241) (And.intro (@ty243) (And.intro (@sd243) (And.intro (@fd243_0) (And.intro (@pl243_0) (And.intro (@fd243_1) (And.intro (@pl243_1) (And.intro (@at243) (And.intro (@ty244) (And.intro (@el244) (And.intro (@ty249) (And.intro (@sd249) (And.intro (@fd249_0) (And.intro (@pl249_0) (And.intro (@fd249_1) (And.intro (@pl249_1) (And.intro (@fd249_2) (And.intro (@pl249_2) (And.intro (@fd249_3) (And.intro (@pl249_3) (And.intro (@fd249_4) (And.intro (@pl249_4) (And.intro (@fd249_5) (And.intro (@pl249_5) (And.intro (@at249) (And.intro (@ty251) (And.intro (@sd251) (And.intro (@fd251_0) (And.intro (@pl251_0) (And.intro (@fd251_1) (And.intro (@pl251_1) (And.intro (@fd251_2) (And.intro (@pl251_2) (And.intro (@fd251_3) (And.intro (@pl251_3) (And.intro (@fd251_4) (And.intro (@pl251_4) (And.intro (@fd251_5) (And.intro (@pl251_5) (And.intro (@fd251_6) (And.intro (@pl251_6) (And.intro (@fd251_7) (And.intro (@pl251_7) (And.intro (@at251) (And.intro (@ty253) (And.intro (@sd253) (And.intro (@fd253_0) (And.intro (@pl253_0) (And.intro (@fd253_1) (And.intro (@pl253_1) (And.intro (@fd253_2) (And.intro (@pl253_2) (And.intro (@at253) (And.intro (@ty254) (And.intro (@ty292) (And.intro (@sd292) (And.intro (@fd292_0) (And.intro (@pl292_0) (And.intro (@at292) (And.intro (@ty294) (And.intro (@ty296) (And.intro (@ty298) (And.intro (@sd298) (And.intro (@fd298_0) (And.intro (@pl298_0) (And.intro (@fd298_1) (And.intro (@pl298_1) (And.intro (@at298) (And.intro (@ty301) (And.intro (@sd301) (And.intro (@fd301_0) (And.intro (@pl301_0) (And.intro (@fd301_1) (And.intro (@pl301_1) (And.intro (@at301) (And.intro (@ty311) (And.intro (@sd311) (And.intro (@fd311_0) (And.intro (@pl311_0) (And.intro (@fd311_1) (And.intro (@pl311_1) (And.intro (@at311) (And.intro (@ty321) (And.intro (@ty323) (And.intro (@ty324) (And.intro (@el324) (And.intro (@ty326) (And.intro (@sd326) (And.intro (@fd326_0) (And.intro (@pl326_0) (And.intro (@fd326_1) (And.intro (@pl326_1) (And.intro (@fd326_2) (And.intro (@pl326_2) (And.intro (@fd326_3) (And.intro (@pl326_3) (And.intro (@fd326_4) (And.intro (@pl326_4) (And.intro (@at326) (And.intro (@ty329) (And.intro (@ty340) (And.intro (@sd340) (And.intro (@fd340_0) (And.intro (@pl340_0) (And.intro (@fd340_1) (And.intro (@pl340_1) (And.intro (@at340) (And.intro (@ty347) (And.intro (@sd347) (And.intro (@fd347_0) (And.intro (@pl347_0) (And.intro (@fd347_1) (And.intro (@pl347_1) (And.intro (@at347) (And.intro (@ty348) (@ty364)))))))))))))))))))))))))))))))))))))))))))))))))))))))))))))))))))))))))))))))))))))))))))))))))))))))))))))))))))))))))))))))))))))))))))))))))))))))))))))))))))))))))))))))))))))))))))))))))))))))))))))))))))))))))))))))))))))))))))))))))))))))))))))))))))))))))) := And.intro (@ty1) (And.intro (@ty2) (And.intro (@ty3) (And.intro (@ty4) (And.intro (@ty5) (And.intro (@ty9) (And.intro (@is9) (And.intro (@ty12) (And.intro (@ty22) (And.intro (@el22) (And.intro (@ty28) (And.intro (@ty29) (And.intro (@ty38) (And.intro (@el38) (And.intro (@ty78) (And.intro (@el78) (And.intro (@ty80) (And.intro (@sd80) (And.intro (@fd80_0) (And.intro (@pl80_0) (And.intro (@fd80_1) (And.intro (@pl80_1) (And.intro (@fd80_2) (And.intro (@pl80_2) (And.intro (@fd80_3) (And.intro (@pl80_3) (And.intro (@at80) (And.intro (@ty87) (And.intro (@ty90) (And.intro (@sd90) (And.intro (@fd90_0) (And.intro (@pl90_0) (And.intro (@fd90_1) (And.intro (@pl90_1) (And.intro (@fd90_2) (And.intro (@pl90_2) (And.intro (@fd90_3) (And.intro (@pl90_3) (And.intro (@fd90_4) (And.intro (@pl90_4) (And.intro (@fd90_5) (And.intro (@pl90_5) (And.intro (@at90) (And.intro (@ty93) (And.intro (@ty121) (And.intro (@el121) (And.intro (@ty123) (And.intro (@sd123) (And.intro (@fd123_0) (And.intro (@pl123_0) (And.intro (@fd123_1) (And.intro (@pl123_1) (And.intro (@fd123_2) (And.intro (@pl123_2) (And.intro (@fd123_3) (And.intro (@pl123_3) (And.intro (@fd123_4) (And.intro (@pl123_4) (And.intro (@fd123_5) (And.intro (@pl123_5) (And.intro (@at123) (And.intro (@ty127) (And.intro (@sd127) (And.intro (@fd127_0) (And.intro (@pl127_0) (And.intro (@fd127_1) (And.intro (@pl127_1) (And.intro (@at127) (And.intro (@ty129) (And.intro (@sd129) (And.intro (@fd129_0) (And.intro (@pl129_0) (And.intro (@fd129_1) (And.intro (@pl129_1) (And.intro (@at129) (And.intro (@ty130) (And.intro (@el130) (And.intro (@ty133) (And.intro (@el133) (And.intro (@ty135) (And.intro (@sd135) (And.intro (@fd135_0) (And.intro (@pl135_0) (And.intro (@fd135_1) (And.intro (@pl135_1) (And.intro (@fd135_2) (And.intro (@pl135_2) (And.intro (@fd135_3) (And.intro (@pl135_3) (And.intro (@fd135_4) (And.intro (@pl135_4) (And.intro (@fd135_5) (And.intro (@pl135_5) (And.intro (@at135) (And.intro (@ty136) (And.intro (@el136) (And.intro (@ty139) (And.intro (@ty165) (And.intro (@ty168) (And.intro (@ty169) (And.intro (@el169) (And.intro (@ty171) (And.intro (@sd171) (And.intro (@fd171_0) (And.intro (@pl171_0) (And.intro (@fd171_1) (And.intro (@pl171_1) (And.intro (@at171) (And.intro (@ty178) (And.intro (@ty181) (And.intro (@el181) (And.intro (@ty183) (And.intro (@sd183) (And.intro (@fd183_0) (And.intro (@pl183_0) (And.intro (@fd183_1) (And.intro (@pl183_1) (And.intro (@fd183_2) (And.intro (@pl183_2) (And.intro (@at183) (And.intro (@ty188) (And.intro (@el188) (And.intro (@ty192) (And.intro (@ty193) (And.intro (@el193) (And.intro (@ty195) (And.intro (@sd195) (And.intro (@fd195_0) (And.intro (@pl195_0) (And.intro (@fd195_1) (And.intro (@pl195_1) (And.intro (@fd195_2) (And.intro (@pl195_2) (And.intro (@fd195_3) (And.intro (@pl195_3) (And.intro (@at195) (And.intro (@ty198) (And.intro (@ty238) (And.intro (@ty239) (And.intro (@el239) (And.intro (@ty241) (And.intro (@sd241) (And.intro (@fd241_0) (And.intro (@pl241_0) (And.intro (@fd241_1) (And.intro (@pl241_1) (And.intro (@fd241_2) (And.intro (@pl241_2) (And.intro (@fd241_3) (And.intro (@pl241_3) (And.intro (@at241) (And.intro (@ty243) (And.intro (@sd243) (And.intro (@fd243_0) (And.intro (@pl243_0) (And.intro (@fd243_1) (And.intro (@pl243_1) (And.intro (@at243) (And.intro (@ty244) (And.intro (@el244) (And.intro (@ty249) (And.intro (@sd249) (And.intro (@fd249_0) (And.intro (@pl249_0) (And.intro (@fd249_1) (And.intro (@pl249_1) (And.intro (@fd249_2) (And.intro (@pl249_2) (And.intro (@fd249_3) (And.intro (@pl249_3) (And.intro (@fd249_4) (And.intro (@pl249_4) (And.intro (@fd249_5) (And.intro (@pl249_5) (And.intro (@at249) (And.intro (@ty251) (And.intro (@sd251) (And.intro (@fd251_0) (And.intro (@pl251_0) (And.intro (@fd251_1) (And.intro (@pl251_1) (And.intro (@fd251_2) (And.intro (@pl251_2) (And.intro (@fd251_3) (And.intro (@pl251_3) (And.intro (@fd251_4) (And.intro (@pl251_4) (And.intro (@fd251_5) (And.intro (@pl251_5) (And.intro (@fd251_6) (And.intro (@pl251_6) (And.intro (@fd251_7) (And.intro (@pl251_7) (And.intro (@at251) (And.intro (@ty253) (And.intro (@sd253) (And.intro (@fd253_0) (And.intro (@pl253_0) (And.intro (@fd253_1) (And.intro (@pl253_1) (And.intro (@fd253_2) (And.intro (@pl253_2) (And.intro (@at253) (And.intro (@ty254) (And.intro (@ty292) (And.intro (@sd292) (And.intro (@fd292_0) (And.intro (@pl292_0) (And.intro (@at292) (And.intro (@ty294) (And.intro (@ty296) (And.intro (@ty298) (And.intro (@sd298) (And.intro (@fd298_0) (And.intro (@pl298_0) (And.intro (@fd298_1) (And.intro (@pl298_1) (And.intro (@at298) (And.intro (@ty301) (And.intro (@sd301) (And.intro (@fd301_0) (And.intro (@pl301_0) (And.intro (@fd301_1) (And.intro (@pl301_1) (And.intro (@at301) (And.intro (@ty311) (And.intro (@sd311) (And.intro (@fd311_0) (And.intro (@pl311_0) (And.intro (@fd311_1) (And.intro (@pl311_1) (And.intro (@at311) (And.intro (@ty321) (And.intro (@ty323) (And.intro (@ty324) (And.intro (@el324) (And.intro (@ty326) (And.intro (@sd326) (And.intro (@fd326_0) (And.intro (@pl326_0) (And.intro (@fd326_1) (And.intro (@pl326_1) (And.intro (@fd326_2) (And.intro (@pl326_2) (And.intro (@fd326_3) (And.intro (@pl326_3) (And.intro (@fd326_4) (And.intro (@pl326_4) (And.intro (@at326) (And.intro (@ty329) (And.intro (@ty340) (And.intro (@sd340) (And.intro (@fd340_0) (And.intro (@pl340_0) (And.intro (@fd340_1) (And.intro (@pl340_1) (And.intro (@at340) (And.intro (@ty347) (And.intro (@sd347) (And.intro (@fd347_0) (And.intro (@pl347_0) (And.intro (@fd347_1) (And.intro (@pl347_1) (And.intro (@at347) (And.intro (@ty348) (@ty364)))))))))))))))))))))))))))))))))))))))))))))))))))))))))))))))))))))))))))))))))))))))))))))))))))))))))))))))))))))))))))))))))))))))))))))))))))))))))))))))))))))))))))))))))))))))))))))))))))))))))))))))))))))))))))))))))))))))))))))))))))))))))))))))))))))))))
attribute [go_sem] vOps retQ resV resL res1 Nat.zero_add St.keep keepL_nil keepL_c1 keepL_c0 keepL_jnk cutLoc jnk_zero jnk_jnk getD_jnk_lt getD_jnk_ge set_jnk_lt set_jnk_ge gStep condG qV binV vV iV sV bV nV arV pickE joinA joinOk isOpt vEff binE vBin iBin sBin arith nilOf nBin boolOk okEqs okEqs1 eqL convI storeE newE sliceE appE lenE minE biE bndE cellsAt ldOk ld TyD.isAgg AV.shift AV.isAddr AV.cellsB AV.noLoc rowOf litRow fillA opS uside unw evL cv St.put opsOf Value.oneCell' vIdx stepI vRest reL reI mdL splice bef aft isCallB isCallV lookE updE lookR zeroA aggK cutE appS elemI rangeE nextE entryE rowX fnE ptrS ptrV ptrE arrNil ptrZ cellO lemA lemT
section
variable {c : Cx} {Q : Exit → St → Prop} {s : St} {all : Array Oper} {id : Nat} {y : Code}
theorem gE {f : Nat} {fn : Func} {code : Code} {args : List AV} {h : Hp} {R : AV → Hp → Prop} (hf : Tryz.prog.funcs[f]? = some fn) (hb : fn.body = some code) (hok : fnOk Tryz.prog f = true) (m : Nat) (hm : fn.ntmps - args.length = m) (hw : ∀ c : Cx, Awp Tryz.prog c code (retQ ty fn.results.toList R) ⟨args ++ jnk m [], [], h⟩) : ACalls Tryz.prog f args h R := acalls_in tyok hf hb hok m hm hw
theorem rI {rs : List ResultVar} {R : AV → Hp → Prop} (h : retQ ty rs R .ret s) : retQ ty rs R .ret s := h
theorem gO {A B : Prop} {t : Bool} [h : Stp Tryz.prog ty A B t] (ht : t = true) (hb : B) : A := h.sound ht hb
theorem gQ {A B : Prop} {t : Bool} [h : Stq Tryz.prog ty A B t] (ht : t = true) (hb : B) : A := h.sound ht hb
theorem gR {A : Prop} {N : St → Prop} {V : (St → Prop) → Prop} [h : Str Tryz.prog ty (mdL []) A N V] (hb : ∀ K1 : St → Prop, (∀ s', N s' → K1 s') → V K1) : A := h.sound tyok hb
theorem gM (md : Option Tmp → Nat) {A : Prop} {N : St → Prop} {V : (St → Prop) → Prop} [h : Str Tryz.prog ty md A N V] (hb : ∀ K1 : St → Prop, (∀ s', N s' → K1 s') → V K1) : A := h.sound tyok hb
theorem uD (id : Nat) (md : Option Tmp → Nat) (E0 : List Nat) (pl : List (Nat × List Nat × List Nat)) (n : Nat) (hn : s.sl.length = n) (hok : drawOk md all n E0 pl = true) (h : ∀ K1 : St → Prop, (∀ s', vRst Tryz.prog ty md all pl s' (Awp Tryz.prog c y Q) → K1 s') → vIdx Tryz.prog ty md all E0 s K1) : Awp Tryz.prog c (.seq (.region id all true) y) Q s := awp_seqD2 tyok (by kernel_rfl) md n hn hok h
theorem uE (id : Nat) (md : Option Tmp → Nat) (E0 : List Nat) (pl : List (Nat × List Nat × List Nat)) (n : Nat) (hn : s.sl.length = n) (hok : drawOk md all n E0 pl = true) (h : ∀ K1 : St → Prop, (∀ s', vRst Tryz.prog ty md all pl s' (Q .normal) → K1 s') → vIdx Tryz.prog ty md all E0 s K1) : Awp Tryz.prog c (.region id all true) Q s := awp_draw2 tyok (by kernel_rfl) md n hn hok h
theorem uF (id : Nat) (md : Option Tmp → Nat) (f : Nat) (E0 : List Nat) (pl : List (Nat × List Nat × List Nat)) (n : Nat) (hn : s.sl.length = n) (hok : drawOkF md all n f E0 pl = true) (h : ∀ K1 : St → Prop, (∀ s', vRst Tryz.prog ty md all pl s' (Awp Tryz.prog c y Q) → K1 s') → vIdx Tryz.prog ty md all (f :: E0) s K1) : Awp Tryz.prog c (.seq (.region id all true) y) Q s := awp_seqF2 tyok (by kernel_rfl) md n hn hok h
end
end Go.Proofs.YtgnknjlgcinboaaGreatDoor

