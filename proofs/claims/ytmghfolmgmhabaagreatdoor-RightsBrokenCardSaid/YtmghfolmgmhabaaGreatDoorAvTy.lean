/- The types of this program, as facts. -/
import Derived.Test.YtmghfolmgmhabaaGreatDoorAvRun
import Derived.Test.YtmghfolmgmhabaaGreatDoorProg
namespace Go.Proofs.YtmghfolmgmhabaaGreatDoor
open Go
set_option linter.unusedVariables false
set_option linter.unusedSimpArgs false
noncomputable def ty : Nat → Option TyD := tyd Tryz.prog
theorem tyok : TyOk Tryz.prog ty := fun _ _ h => h
theorem ty1 : ty 1 = some ⟨1, 8, .func, [.v (.nilFunc)], []⟩ := by kernel_rfl
theorem ty2 : ty 2 = some ⟨1, 8, .int .i64, [.v (.int .i64 0)], []⟩ := by kernel_rfl
theorem ty3 : ty 3 = some ⟨1, 8, .int .i64, [.v (.int .i64 0)], []⟩ := by kernel_rfl
theorem ty4 : ty 4 = some ⟨1, 1, .bool, [.v (.bool false)], []⟩ := by kernel_rfl
theorem ty5 : ty 5 = some ⟨1, 1, .int .u8, [.v (.int .u8 0)], []⟩ := by kernel_rfl
theorem ty6 : ty 6 = some ⟨1, 1, .int .u8, [.v (.int .u8 0)], []⟩ := by kernel_rfl
theorem ty9 : ty 9 = some ⟨1, 16, .str, [.v (.string ⟨#[]⟩)], []⟩ := by kernel_rfl
theorem is9 : isStr ty 9 = true := by kernel_rfl
theorem ty22 : ty 22 = some ⟨1, 24, .slice 3, [.v (.slice none 0 0)], []⟩ := by kernel_rfl
theorem el22 : elemD ty 22 = some ⟨1, 8, .int .i64, [.v (.int .i64 0)], []⟩ := by kernel_rfl
theorem ty23 : ty 23 = some ⟨1, 8, .ptr 25, [.v (.pointer none)], []⟩ := by kernel_rfl
theorem ty25 : ty 25 = some ⟨2, 32, .struct [(0, 22), (1, 3)], [.v (.slice none 0 0), .v (.int .i64 0)], []⟩ := by kernel_rfl
theorem sd25 : structD ty 25 = some ⟨2, 32, .struct [(0, 22), (1, 3)], [.v (.slice none 0 0), .v (.int .i64 0)], []⟩ := by kernel_rfl
theorem fd25_0 : fdd ty 25 0 = some (0, ⟨1, 24, .slice 3, [.v (.slice none 0 0)], []⟩) := by kernel_rfl
theorem pl25_0 : places ty 25 0 = some (0, 1) := by kernel_rfl
theorem fd25_1 : fdd ty 25 1 = some (1, ⟨1, 8, .int .i64, [.v (.int .i64 0)], []⟩) := by kernel_rfl
theorem pl25_1 : places ty 25 1 = some (1, 1) := by kernel_rfl
theorem at25 : allTy ty ⟨2, 32, .struct [(0, 22), (1, 3)], [.v (.slice none 0 0), .v (.int .i64 0)], []⟩ = true := by kernel_rfl
theorem ty26 : ty 26 = some ⟨1, 24, .slice 106, [.v (.slice none 0 0)], []⟩ := by kernel_rfl
theorem el26 : elemD ty 26 = some ⟨5, 64, .struct [(0, 9), (1, 29), (2, 36), (4, 4)], [.v (.string ⟨#[]⟩), .v (.slice none 0 0), .v (.int .i64 0), .v (.int .i64 0), .v (.bool false)], []⟩ := by kernel_rfl
theorem ty29 : ty 29 = some ⟨1, 24, .slice 9, [.v (.slice none 0 0)], []⟩ := by kernel_rfl
theorem el29 : elemD ty 29 = some ⟨1, 16, .str, [.v (.string ⟨#[]⟩)], []⟩ := by kernel_rfl
theorem ty31 : ty 31 = some ⟨4, 64, .struct [(0, 9), (1, 9), (2, 3), (3, 29)], [.v (.string ⟨#[]⟩), .v (.string ⟨#[]⟩), .v (.int .i64 0), .v (.slice none 0 0)], []⟩ := by kernel_rfl
theorem sd31 : structD ty 31 = some ⟨4, 64, .struct [(0, 9), (1, 9), (2, 3), (3, 29)], [.v (.string ⟨#[]⟩), .v (.string ⟨#[]⟩), .v (.int .i64 0), .v (.slice none 0 0)], []⟩ := by kernel_rfl
theorem fd31_0 : fdd ty 31 0 = some (0, ⟨1, 16, .str, [.v (.string ⟨#[]⟩)], []⟩) := by kernel_rfl
theorem pl31_0 : places ty 31 0 = some (0, 1) := by kernel_rfl
theorem fd31_1 : fdd ty 31 1 = some (1, ⟨1, 16, .str, [.v (.string ⟨#[]⟩)], []⟩) := by kernel_rfl
theorem pl31_1 : places ty 31 1 = some (1, 1) := by kernel_rfl
theorem fd31_2 : fdd ty 31 2 = some (2, ⟨1, 8, .int .i64, [.v (.int .i64 0)], []⟩) := by kernel_rfl
theorem pl31_2 : places ty 31 2 = some (2, 1) := by kernel_rfl
theorem fd31_3 : fdd ty 31 3 = some (3, ⟨1, 24, .slice 9, [.v (.slice none 0 0)], []⟩) := by kernel_rfl
theorem pl31_3 : places ty 31 3 = some (3, 1) := by kernel_rfl
theorem at31 : allTy ty ⟨4, 64, .struct [(0, 9), (1, 9), (2, 3), (3, 29)], [.v (.string ⟨#[]⟩), .v (.string ⟨#[]⟩), .v (.int .i64 0), .v (.slice none 0 0)], []⟩ = true := by kernel_rfl
theorem ty36 : ty 36 = some ⟨2, 16, .struct [(0, 3), (1, 3)], [.v (.int .i64 0), .v (.int .i64 0)], [.i, .i]⟩ := by kernel_rfl
theorem sd36 : structD ty 36 = some ⟨2, 16, .struct [(0, 3), (1, 3)], [.v (.int .i64 0), .v (.int .i64 0)], [.i, .i]⟩ := by kernel_rfl
theorem fd36_0 : fdd ty 36 0 = some (0, ⟨1, 8, .int .i64, [.v (.int .i64 0)], []⟩) := by kernel_rfl
theorem pl36_0 : places ty 36 0 = some (0, 1) := by kernel_rfl
theorem fd36_1 : fdd ty 36 1 = some (1, ⟨1, 8, .int .i64, [.v (.int .i64 0)], []⟩) := by kernel_rfl
theorem pl36_1 : places ty 36 1 = some (1, 1) := by kernel_rfl
theorem at36 : allTy ty ⟨2, 16, .struct [(0, 3), (1, 3)], [.v (.int .i64 0), .v (.int .i64 0)], [.i, .i]⟩ = true := by kernel_rfl
theorem ty37 : ty 37 = some ⟨1, 8, .int .i64, [.v (.int .i64 0)], []⟩ := by kernel_rfl
theorem ty41 : ty 41 = some ⟨1, 24, .slice 36, [.v (.slice none 0 0)], []⟩ := by kernel_rfl
theorem el41 : elemD ty 41 = some ⟨2, 16, .struct [(0, 3), (1, 3)], [.v (.int .i64 0), .v (.int .i64 0)], [.i, .i]⟩ := by kernel_rfl
theorem ty57 : ty 57 = some ⟨1, 24, .slice 31, [.v (.slice none 0 0)], []⟩ := by kernel_rfl
theorem el57 : elemD ty 57 = some ⟨4, 64, .struct [(0, 9), (1, 9), (2, 3), (3, 29)], [.v (.string ⟨#[]⟩), .v (.string ⟨#[]⟩), .v (.int .i64 0), .v (.slice none 0 0)], []⟩ := by kernel_rfl
theorem ty59 : ty 59 = some ⟨1, 24, .slice 102, [.v (.slice none 0 0)], []⟩ := by kernel_rfl
theorem el59 : elemD ty 59 = some ⟨4, 48, .struct [(0, 9), (1, 9), (2, 3), (3, 3)], [.v (.string ⟨#[]⟩), .v (.string ⟨#[]⟩), .v (.int .i64 0), .v (.int .i64 0)], [.s, .s, .i, .i]⟩ := by kernel_rfl
theorem ty102 : ty 102 = some ⟨4, 48, .struct [(0, 9), (1, 9), (2, 3), (3, 3)], [.v (.string ⟨#[]⟩), .v (.string ⟨#[]⟩), .v (.int .i64 0), .v (.int .i64 0)], [.s, .s, .i, .i]⟩ := by kernel_rfl
theorem sd102 : structD ty 102 = some ⟨4, 48, .struct [(0, 9), (1, 9), (2, 3), (3, 3)], [.v (.string ⟨#[]⟩), .v (.string ⟨#[]⟩), .v (.int .i64 0), .v (.int .i64 0)], [.s, .s, .i, .i]⟩ := by kernel_rfl
theorem fd102_0 : fdd ty 102 0 = some (0, ⟨1, 16, .str, [.v (.string ⟨#[]⟩)], []⟩) := by kernel_rfl
theorem pl102_0 : places ty 102 0 = some (0, 1) := by kernel_rfl
theorem fd102_1 : fdd ty 102 1 = some (1, ⟨1, 16, .str, [.v (.string ⟨#[]⟩)], []⟩) := by kernel_rfl
theorem pl102_1 : places ty 102 1 = some (1, 1) := by kernel_rfl
theorem fd102_2 : fdd ty 102 2 = some (2, ⟨1, 8, .int .i64, [.v (.int .i64 0)], []⟩) := by kernel_rfl
theorem pl102_2 : places ty 102 2 = some (2, 1) := by kernel_rfl
theorem fd102_3 : fdd ty 102 3 = some (3, ⟨1, 8, .int .i64, [.v (.int .i64 0)], []⟩) := by kernel_rfl
theorem pl102_3 : places ty 102 3 = some (3, 1) := by kernel_rfl
theorem at102 : allTy ty ⟨4, 48, .struct [(0, 9), (1, 9), (2, 3), (3, 3)], [.v (.string ⟨#[]⟩), .v (.string ⟨#[]⟩), .v (.int .i64 0), .v (.int .i64 0)], [.s, .s, .i, .i]⟩ = true := by kernel_rfl
theorem ty106 : ty 106 = some ⟨5, 64, .struct [(0, 9), (1, 29), (2, 36), (4, 4)], [.v (.string ⟨#[]⟩), .v (.slice none 0 0), .v (.int .i64 0), .v (.int .i64 0), .v (.bool false)], []⟩ := by kernel_rfl
theorem sd106 : structD ty 106 = some ⟨5, 64, .struct [(0, 9), (1, 29), (2, 36), (4, 4)], [.v (.string ⟨#[]⟩), .v (.slice none 0 0), .v (.int .i64 0), .v (.int .i64 0), .v (.bool false)], []⟩ := by kernel_rfl
theorem fd106_0 : fdd ty 106 0 = some (0, ⟨1, 16, .str, [.v (.string ⟨#[]⟩)], []⟩) := by kernel_rfl
theorem pl106_0 : places ty 106 0 = some (0, 1) := by kernel_rfl
theorem fd106_1 : fdd ty 106 1 = some (1, ⟨1, 24, .slice 9, [.v (.slice none 0 0)], []⟩) := by kernel_rfl
theorem pl106_1 : places ty 106 1 = some (1, 1) := by kernel_rfl
theorem fd106_2 : fdd ty 106 2 = some (2, ⟨2, 16, .struct [(0, 3), (1, 3)], [.v (.int .i64 0), .v (.int .i64 0)], [.i, .i]⟩) := by kernel_rfl
theorem pl106_2 : places ty 106 2 = some (2, 2) := by kernel_rfl
theorem fd106_3 : fdd ty 106 3 = some (4, ⟨1, 1, .bool, [.v (.bool false)], []⟩) := by kernel_rfl
theorem pl106_3 : places ty 106 3 = some (4, 1) := by kernel_rfl
theorem at106 : allTy ty ⟨5, 64, .struct [(0, 9), (1, 29), (2, 36), (4, 4)], [.v (.string ⟨#[]⟩), .v (.slice none 0 0), .v (.int .i64 0), .v (.int .i64 0), .v (.bool false)], []⟩ = true := by kernel_rfl
theorem ty112 : ty 112 = some ⟨1, 8, .func, [.v (.nilFunc)], []⟩ := by kernel_rfl
theorem ty117 : ty 117 = some ⟨1, 24, .slice 37, [.v (.slice none 0 0)], []⟩ := by kernel_rfl
theorem el117 : elemD ty 117 = some ⟨1, 8, .int .i64, [.v (.int .i64 0)], []⟩ := by kernel_rfl
theorem ty126 : ty 126 = some ⟨1, 24, .slice 29, [.v (.slice none 0 0)], []⟩ := by kernel_rfl
theorem el126 : elemD ty 126 = some ⟨1, 24, .slice 9, [.v (.slice none 0 0)], []⟩ := by kernel_rfl
theorem ty128 : ty 128 = some ⟨1, 8, .map 9 3, [.v (.map none)], []⟩ := by kernel_rfl
theorem mp128 : mapD ty 128 = some ⟨1, 8, .int .i64, [.v (.int .i64 0)], []⟩ := by kernel_rfl
theorem ty163 : ty 163 = some ⟨1, 8, .int .u64, [.v (.int .u64 0)], []⟩ := by kernel_rfl
theorem ty164 : ty 164 = some ⟨1, 8, .ptr 167, [.v (.pointer none)], []⟩ := by kernel_rfl
theorem ty165 : ty 165 = some ⟨1, 24, .slice 168, [.v (.slice none 0 0)], []⟩ := by kernel_rfl
theorem el165 : elemD ty 165 = some ⟨1, 8, .ptr 224, [.v (.pointer none)], []⟩ := by kernel_rfl
theorem ty167 : ty 167 = some ⟨4, 48, .struct [(0, 3), (1, 3), (2, 3), (3, 165)], [.v (.int .i64 0), .v (.int .i64 0), .v (.int .i64 0), .v (.slice none 0 0)], []⟩ := by kernel_rfl
theorem sd167 : structD ty 167 = some ⟨4, 48, .struct [(0, 3), (1, 3), (2, 3), (3, 165)], [.v (.int .i64 0), .v (.int .i64 0), .v (.int .i64 0), .v (.slice none 0 0)], []⟩ := by kernel_rfl
theorem fd167_0 : fdd ty 167 0 = some (0, ⟨1, 8, .int .i64, [.v (.int .i64 0)], []⟩) := by kernel_rfl
theorem pl167_0 : places ty 167 0 = some (0, 1) := by kernel_rfl
theorem fd167_1 : fdd ty 167 1 = some (1, ⟨1, 8, .int .i64, [.v (.int .i64 0)], []⟩) := by kernel_rfl
theorem pl167_1 : places ty 167 1 = some (1, 1) := by kernel_rfl
theorem fd167_2 : fdd ty 167 2 = some (2, ⟨1, 8, .int .i64, [.v (.int .i64 0)], []⟩) := by kernel_rfl
theorem pl167_2 : places ty 167 2 = some (2, 1) := by kernel_rfl
theorem fd167_3 : fdd ty 167 3 = some (3, ⟨1, 24, .slice 168, [.v (.slice none 0 0)], []⟩) := by kernel_rfl
theorem pl167_3 : places ty 167 3 = some (3, 1) := by kernel_rfl
theorem at167 : allTy ty ⟨4, 48, .struct [(0, 3), (1, 3), (2, 3), (3, 165)], [.v (.int .i64 0), .v (.int .i64 0), .v (.int .i64 0), .v (.slice none 0 0)], []⟩ = true := by kernel_rfl
theorem ty168 : ty 168 = some ⟨1, 8, .ptr 224, [.v (.pointer none)], []⟩ := by kernel_rfl
theorem ty177 : ty 177 = some ⟨1, 8, .func, [.v (.nilFunc)], []⟩ := by kernel_rfl
theorem ty211 : ty 211 = some ⟨1, 8, .int .i64, [.v (.int .i64 0)], []⟩ := by kernel_rfl
theorem ty224 : ty 224 = some ⟨6, 56, .struct [(0, 9), (1, 3), (2, 4), (3, 3), (4, 3), (5, 3)], [.v (.string ⟨#[]⟩), .v (.int .i64 0), .v (.bool false), .v (.int .i64 0), .v (.int .i64 0), .v (.int .i64 0)], [.s, .i, .b, .i, .i, .i]⟩ := by kernel_rfl
theorem sd224 : structD ty 224 = some ⟨6, 56, .struct [(0, 9), (1, 3), (2, 4), (3, 3), (4, 3), (5, 3)], [.v (.string ⟨#[]⟩), .v (.int .i64 0), .v (.bool false), .v (.int .i64 0), .v (.int .i64 0), .v (.int .i64 0)], [.s, .i, .b, .i, .i, .i]⟩ := by kernel_rfl
theorem fd224_0 : fdd ty 224 0 = some (0, ⟨1, 16, .str, [.v (.string ⟨#[]⟩)], []⟩) := by kernel_rfl
theorem pl224_0 : places ty 224 0 = some (0, 1) := by kernel_rfl
theorem fd224_1 : fdd ty 224 1 = some (1, ⟨1, 8, .int .i64, [.v (.int .i64 0)], []⟩) := by kernel_rfl
theorem pl224_1 : places ty 224 1 = some (1, 1) := by kernel_rfl
theorem fd224_2 : fdd ty 224 2 = some (2, ⟨1, 1, .bool, [.v (.bool false)], []⟩) := by kernel_rfl
theorem pl224_2 : places ty 224 2 = some (2, 1) := by kernel_rfl
theorem fd224_3 : fdd ty 224 3 = some (3, ⟨1, 8, .int .i64, [.v (.int .i64 0)], []⟩) := by kernel_rfl
theorem pl224_3 : places ty 224 3 = some (3, 1) := by kernel_rfl
theorem fd224_4 : fdd ty 224 4 = some (4, ⟨1, 8, .int .i64, [.v (.int .i64 0)], []⟩) := by kernel_rfl
theorem pl224_4 : places ty 224 4 = some (4, 1) := by kernel_rfl
theorem fd224_5 : fdd ty 224 5 = some (5, ⟨1, 8, .int .i64, [.v (.int .i64 0)], []⟩) := by kernel_rfl
theorem pl224_5 : places ty 224 5 = some (5, 1) := by kernel_rfl
theorem at224 : allTy ty ⟨6, 56, .struct [(0, 9), (1, 3), (2, 4), (3, 3), (4, 3), (5, 3)], [.v (.string ⟨#[]⟩), .v (.int .i64 0), .v (.bool false), .v (.int .i64 0), .v (.int .i64 0), .v (.int .i64 0)], [.s, .i, .b, .i, .i, .i]⟩ = true := by kernel_rfl
theorem ty225 : ty 225 = some ⟨1, 8, .func, [.v (.nilFunc)], []⟩ := by kernel_rfl
theorem ty231 : ty 231 = some ⟨1, 8, .func, [.v (.nilFunc)], []⟩ := by kernel_rfl
theorem ty304 : ty 304 = some ⟨1, 8, .func, [.v (.nilFunc)], []⟩ := by kernel_rfl
set_option maxRecDepth 100000
theorem lemA : type_of% (And.intro (@List.getD_cons_zero.{0}) (And.intro (@List.getD_cons_succ.{0}) (And.intro (@List.set_cons_zero.{0}) (And.intro (@List.set_cons_succ.{0}) (And.intro (@List.length_cons.{0}) (And.intro (@List.length_nil.{0}) (And.intro (@List.map_cons.{0, 0}) (And.intro (@List.map_nil.{0, 0}) (And.intro (@List.append_nil.{0}) (And.intro (@List.nil_append.{0}) (And.intro (@List.cons_append.{0}) (And.intro (@List.all_cons.{0}) (And.intro (@List.all_nil.{0}) (And.intro (@Bool.and_true) (And.intro (@Bool.and_self) (And.intro (@Option.bind_some.{0, 0}) (And.intro (@Option.map_some.{0, 0}) (And.intro (@List.getElem?_toArray.{0}) (And.intro (@List.getElem?_cons_zero.{0}) (And.intro (@List.getElem?_cons_succ.{0}) (And.intro (@true_and) (And.intro (@and_true) (And.intro (@and_self) (And.intro (@Option.some.injEq.{0}) (And.intro (@if_true.{1}) (And.intro (@implies_true.{0}) (And.intro (@implies_true.{1}) (And.intro (@imp_self) (And.intro (@List.toList_toArray.{0}) (And.intro (@Bool.false_eq_true) (And.intro (@Bool.true_eq_false) (And.intro (@false_and) (And.intro (@and_false) (And.intro (@List.filterMap_cons.{0, 0}) (And.intro (@beq_true) (And.intro (@beq_false) (And.intro (@Bool.not_eq_true') (And.intro (@Bool.not_eq_false') (And.intro (@true_implies) (And.intro (@Bool.cond_true_left) (And.intro (@Bool.cond_false_right) (And.intro (@Bool.not_not) (And.intro (@Bool.or_false) (And.intro (@Bool.false_or) (And.intro (@Bool.or_true) (And.intro (@Bool.true_or) (And.intro (@Bool.and_false) (And.intro (@Bool.false_and) (And.intro (@Bool.true_and) (And.intro (@Bool.not_true) (And.intro (@Bool.not_false) (And.intro (@cond_true.{1}) (And.intro (@cond_false.{1}) (And.intro (@upd_same) (And.intro (@List.take_succ_cons.{0}) (And.intro (@List.take_zero.{0}) (And.intro (@List.drop_succ_cons.{0}) (And.intro (@List.drop_zero.{0}) (And.intro (@List.take_nil.{0}) (And.intro (@List.drop_nil.{0}) (And.intro (@List.length_map.{0, 0}) (And.intro (@Int.add_sub_cancel) (And.intro (@List.length_set.{0}) (And.intro (@upd_upd) (And.intro (@Option.isSome_some.{0}) (And.intro (@ne_eq.{1}) (@not_false_eq_true))))))))))))))))))))))))))))))))))))))))))))))))))))))))))))))))))) := And.intro (@List.getD_cons_zero.{0}) (And.intro (@List.getD_cons_succ.{0}) (And.intro (@List.set_cons_zero.{0}) (And.intro (@List.set_cons_succ.{0}) (And.intro (@List.length_cons.{0}) (And.intro (@List.length_nil.{0}) (And.intro (@List.map_cons.{0, 0}) (And.intro (@List.map_nil.{0, 0}) (And.intro (@List.append_nil.{0}) (And.intro (@List.nil_append.{0}) (And.intro (@List.cons_append.{0}) (And.intro (@List.all_cons.{0}) (And.intro (@List.all_nil.{0}) (And.intro (@Bool.and_true) (And.intro (@Bool.and_self) (And.intro (@Option.bind_some.{0, 0}) (And.intro (@Option.map_some.{0, 0}) (And.intro (@List.getElem?_toArray.{0}) (And.intro (@List.getElem?_cons_zero.{0}) (And.intro (@List.getElem?_cons_succ.{0}) (And.intro (@true_and) (And.intro (@and_true) (And.intro (@and_self) (And.intro (@Option.some.injEq.{0}) (And.intro (@if_true.{1}) (And.intro (@implies_true.{0}) (And.intro (@implies_true.{1}) (And.intro (@imp_self) (And.intro (@List.toList_toArray.{0}) (And.intro (@Bool.false_eq_true) (And.intro (@Bool.true_eq_false) (And.intro (@false_and) (And.intro (@and_false) (And.intro (@List.filterMap_cons.{0, 0}) (And.intro (@beq_true) (And.intro (@beq_false) (And.intro (@Bool.not_eq_true') (And.intro (@Bool.not_eq_false') (And.intro (@true_implies) (And.intro (@Bool.cond_true_left) (And.intro (@Bool.cond_false_right) (And.intro (@Bool.not_not) (And.intro (@Bool.or_false) (And.intro (@Bool.false_or) (And.intro (@Bool.or_true) (And.intro (@Bool.true_or) (And.intro (@Bool.and_false) (And.intro (@Bool.false_and) (And.intro (@Bool.true_and) (And.intro (@Bool.not_true) (And.intro (@Bool.not_false) (And.intro (@cond_true.{1}) (And.intro (@cond_false.{1}) (And.intro (@upd_same) (And.intro (@List.take_succ_cons.{0}) (And.intro (@List.take_zero.{0}) (And.intro (@List.drop_succ_cons.{0}) (And.intro (@List.drop_zero.{0}) (And.intro (@List.take_nil.{0}) (And.intro (@List.drop_nil.{0}) (And.intro (@List.length_map.{0, 0}) (And.intro (@Int.add_sub_cancel) (And.intro (@List.length_set.{0}) (And.intro (@upd_upd) (And.intro (@Option.isSome_some.{0}) (And.intro (@ne_eq.{1}) (@not_false_eq_true))))))))))))))))))))))))))))))))))))))))))))))))))))))))))))))))))
theorem lemT : type_of% (And.intro (@ty1) (And.intro (@ty2) (And.intro (@ty3) (And.intro (@ty4) (And.intro (@ty5) (And.intro (@ty6) (And.intro (@ty9) (And.intro (@is9) (And.intro (@ty22) (And.intro (@el22) (And.intro (@ty23) (And.intro (@ty25) (And.intro (@sd25) (And.intro (@fd25_0) (And.intro (@pl25_0) (And.intro (@fd25_1) (And.intro (@pl25_1) (And.intro (@at25) (And.intro (@ty26) (And.intro (@el26) (And.intro (@ty29) (And.intro (@el29) (And.intro (@ty31) (And.intro (@sd31) (And.intro (@fd31_0) (And.intro (@pl31_0) (And.intro (@fd31_1) (And.intro (@pl31_1) (And.intro (@fd31_2) (And.intro (@pl31_2) (And.intro (@fd31_3) (And.intro (@pl31_3) (And.intro (@at31) (And.intro (@ty36) (And.intro (@sd36) (And.intro (@fd36_0) (And.intro (@pl36_0) (And.intro (@fd36_1) (And.intro (@pl36_1) (And.intro (@at36) (And.intro (@ty37) (And.intro (@ty41) (And.intro (@el41) (And.intro (@ty57) (And.intro (@el57) (And.intro (@ty59) (And.intro (@el59) (And.intro (@ty102) (And.intro (@sd102) (And.intro (@fd102_0) (And.intro (@pl102_0) (And.intro (@fd102_1) (And.intro (@pl102_1) (And.intro (@fd102_2) (And.intro (@pl102_2) (And.intro (@fd102_3) (And.intro (@pl102_3) (And.intro (@at102) (And.intro (@ty106) (And.intro (@sd106) (And.intro (@fd106_0) (And.intro (@pl106_0) (And.intro (@fd106_1) (And.intro (@pl106_1) (And.intro (@fd106_2) (And.intro (@pl106_2) (And.intro (@fd106_3) (And.intro (@pl106_3) (And.intro (@at106) (And.intro (@ty112) (And.intro (@ty117) (And.intro (@el117) (And.intro (@ty126) (And.intro (@el126) (And.intro (@ty128) (And.intro (@mp128) (And.intro (@ty163) (And.intro (@ty164) (And.intro (@ty165) (And.intro (@el165) (And.intro (@ty167) (And.intro (@sd167) (And.intro (@fd167_0) (And.intro (@pl167_0) (And.intro (@fd167_1) (And.intro (@pl167_1) (And.intro (@fd167_2) (And.intro (@pl167_2) (And.intro (@fd167_3) (And.intro (@pl167_3) (And.intro (@at167) (And.intro (@ty168) (And.intro (@ty177) (And.intro (@ty211) (And.intro (@ty224) (And.intro (@sd224) (And.intro (@fd224_0) (And.intro (@pl224_0) (And.intro (@fd224_1) (And.intro (@pl224_1) (And.intro (@fd224_2) (And.intro (@pl224_2) (And.intro (@fd224_3) (And.intro (@pl224_3) (And.intro (@fd224_4) (And.intro (@pl224_4) (And.intro (@fd224_5) (And.intro (@pl224_5) (And.intro (@at224) (And.intro (@ty225) (And.intro (@ty231) (@ty304)))))))))))))))))))))))))))))))))))))))))))))))))))))))))))))))))))))))))))))))))))))))))))))))))))))))))))))))) := And.intro (@ty1) (And.intro (@ty2) (And.intro (@ty3) (And.intro (@ty4) (And.intro (@ty5) (And.intro (@ty6) (And.intro (@ty9) (And.intro (@is9) (And.intro (@ty22) (And.intro (@el22) (And.intro (@ty23) (And.intro (@ty25) (And.intro (@sd25) (And.intro (@fd25_0) (And.intro (@pl25_0) (And.intro (@fd25_1) (And.intro (@pl25_1) (And.intro (@at25) (And.intro (@ty26) (And.intro (@el26) (And.intro (@ty29) (And.intro (@el29) (And.intro (@ty31) (And.intro (@sd31) (And.intro (@fd31_0) (And.intro (@pl31_0) (And.intro (@fd31_1) (And.intro (@pl31_1) (And.intro (@fd31_2) (And.intro (@pl31_2) (And.intro (@fd31_3) (And.intro (@pl31_3) (And.intro (@at31) (And.intro (@ty36) (And.intro (@sd36) (And.intro (@fd36_0) (And.intro (@pl36_0) (And.intro (@fd36_1) (And.intro (@pl36_1) (And.intro (@at36) (And.intro (@ty37) (And.intro (@ty41) (And.intro (@el41) (And.intro (@ty57) (And.intro (@el57) (And.intro (@ty59) (And.intro (@el59) (And.intro (@ty102) (And.intro (@sd102) (And.intro (@fd102_0) (And.intro (@pl102_0) (And.intro (@fd102_1) (And.intro (@pl102_1) (And.intro (@fd102_2) (And.intro (@pl102_2) (And.intro (@fd102_3) (And.intro (@pl102_3) (And.intro (@at102) (And.intro (@ty106) (And.intro (@sd106) (And.intro (@fd106_0) (And.intro (@pl106_0) (And.intro (@fd106_1) (And.intro (@pl106_1) (And.intro (@fd106_2) (And.intro (@pl106_2) (And.intro (@fd106_3) (And.intro (@pl106_3) (And.intro (@at106) (And.intro (@ty112) (And.intro (@ty117) (And.intro (@el117) (And.intro (@ty126) (And.intro (@el126) (And.intro (@ty128) (And.intro (@mp128) (And.intro (@ty163) (And.intro (@ty164) (And.intro (@ty165) (And.intro (@el165) (And.intro (@ty167) (And.intro (@sd167) (And.intro (@fd167_0) (And.intro (@pl167_0) (And.intro (@fd167_1) (And.intro (@pl167_1) (And.intro (@fd167_2) (And.intro (@pl167_2) (And.intro (@fd167_3) (And.intro (@pl167_3) (And.intro (@at167) (And.intro (@ty168) (And.intro (@ty177) (And.intro (@ty211) (And.intro (@ty224) (And.intro (@sd224) (And.intro (@fd224_0) (And.intro (@pl224_0) (And.intro (@fd224_1) (And.intro (@pl224_1) (And.intro (@fd224_2) (And.intro (@pl224_2) (And.intro (@fd224_3) (And.intro (@pl224_3) (And.intro (@fd224_4) (And.intro (@pl224_4) (And.intro (@fd224_5) (And.intro (@pl224_5) (And.intro (@at224) (And.intro (@ty225) (And.intro (@ty231) (@ty304)))))))))))))))))))))))))))))))))))))))))))))))))))))))))))))))))))))))))))))))))))))))))))))))))))))))))))))))
attribute [go_sem] vOps retQ resV resL res1 Nat.zero_add St.keep keepL_nil keepL_c1 keepL_c0 keepL_jnk cutLoc jnk_zero jnk_jnk getD_jnk_lt getD_jnk_ge set_jnk_lt set_jnk_ge gStep condG qV binV vV iV sV bV nV arV pickE joinA joinOk isOpt vEff binE vBin iBin sBin arith nilOf nBin boolOk okEqs okEqs1 eqL convI storeE newE sliceE appE lenE minE biE bndE cellsAt isB8 ldOk ld TyD.isAgg AV.shift AV.isAddr AV.cellsB AV.noLoc rowOf litRow fillA opS uside unw evL cv St.put opsOf Value.oneCell' vIdx stepI vRest reL reI mdL splice bef aft isCallB isCallV lookE updE lookR zeroA aggK cutE appS elemI rangeE nextE entryE rowX fnE ptrS ptrV ptrE arrNil ptrZ cellO lemA lemT
section
variable {c : Cx} {Q : Exit → St → Prop} {s : St} {all : Array Oper} {id : Nat} {y : Code}
theorem gE {f : Nat} {fn : Func} {code : Code} {args : List AV} {h : Hp} {R : AV → Hp → Prop} (hf : Tryz.prog.funcs[f]? = some fn) (hb : fn.body = some code) (hok : fnOk Tryz.prog f = true) (m : Nat) (hm : fn.ntmps - args.length = m) (hw : ∀ c : Cx, Awp Tryz.prog c code (retQ ty fn.results.toList R) ⟨args ++ jnk m [], [], h⟩) : ACalls Tryz.prog f args h R := acalls_in tyok hf hb hok m hm hw
theorem rI {rs : List ResultVar} {R : AV → Hp → Prop} (h : retQ ty rs R .ret s) : retQ ty rs R .ret s := h
theorem gO {A B : Prop} {t : Bool} [h : Stp Tryz.prog ty A B t] (ht : t = true) (hb : B) : A := h.sound ht hb
theorem gQ {A B : Prop} {t : Bool} [h : Stq Tryz.prog ty A B t] (ht : t = true) (hb : B) : A := h.sound ht hb
theorem gR {A : Prop} {N : St → Prop} {V : (St → Prop) → Prop} [h : Str Tryz.prog ty (mdL []) A N V] (hb : ∀ K1 : St → Prop, (∀ s', N s' → K1 s') → V K1) : A := h.sound tyok hb
theorem gM (md : Option Tmp → Nat) {A : Prop} {N : St → Prop} {V : (St → Prop) → Prop} [h : Str Tryz.prog ty md A N V] (hb : ∀ K1 : St → Prop, (∀ s', N s' → K1 s') → V K1) : A := h.sound tyok hb
theorem uD (id : Nat) (md : Option Tmp → Nat) (E0 : List Nat) (pl : List (Nat × List Nat × List Nat)) (n : Nat) (hn : s.sl.length = n) (hok : drawOk md all n E0 pl = true) (h : ∀ K1 : St → Prop, (∀ s', vRst Tryz.prog ty md all pl s' (Awp Tryz.prog c y Q) → K1 s') → vIdx Tryz.prog ty md all E0 s K1) : Awp Tryz.prog c (.seq (.region id all true) y) Q s := awp_seqD2 tyok (by kernel_rfl) md n hn hok h
theorem uE (id : Nat) (md : Option Tmp → Nat) (E0 : List Nat) (pl : List (Nat × List Nat × List Nat)) (n : Nat) (hn : s.sl.length = n) (hok : drawOk md all n E0 pl = true) (h : ∀ K1 : St → Prop, (∀ s', vRst Tryz.prog ty md all pl s' (Q .normal) → K1 s') → vIdx Tryz.prog ty md all E0 s K1) : Awp Tryz.prog c (.region id all true) Q s := awp_draw2 tyok (by kernel_rfl) md n hn hok h
theorem uF (id : Nat) (md : Option Tmp → Nat) (f : Nat) (E0 : List Nat) (pl : List (Nat × List Nat × List Nat)) (n : Nat) (hn : s.sl.length = n) (hok : drawOkF md all n f E0 pl = true) (h : ∀ K1 : St → Prop, (∀ s', vRst Tryz.prog ty md all pl s' (Awp Tryz.prog c y Q) → K1 s') → vIdx Tryz.prog ty md all (f :: E0) s K1) : Awp Tryz.prog c (.seq (.region id all true) y) Q s := awp_seqF2 tyok (by kernel_rfl) md n hn hok h
end
end Go.Proofs.YtmghfolmgmhabaaGreatDoor

