/- The types of this program, as facts. -/
import Derived.Test.YtpnfkfbapfnboaaGreatDoorAvRun
import Derived.Test.YtpnfkfbapfnboaaGreatDoorProg
namespace Go.Proofs.YtpnfkfbapfnboaaGreatDoor
open Go
set_option linter.unusedVariables false
set_option linter.unusedSimpArgs false
noncomputable def ty : Nat → Option TyD := tyd Tryz.prog
theorem tyok : TyOk Tryz.prog ty := fun _ _ h => h
theorem ty1 : ty 1 = some ⟨1, 8, .func, [.v (.nilFunc)], []⟩ := by kernel_rfl
theorem ty2 : ty 2 = some ⟨1, 8, .int .i64, [.v (.int .i64 0)], []⟩ := by kernel_rfl
theorem ty3 : ty 3 = some ⟨1, 8, .int .i64, [.v (.int .i64 0)], []⟩ := by kernel_rfl
theorem ty4 : ty 4 = some ⟨1, 1, .bool, [.v (.bool false)], []⟩ := by kernel_rfl
theorem ty5 : ty 5 = some ⟨1, 1, .int .u8, [.v (.int .u8 0)], []⟩ := by kernel_rfl
theorem ty6 : ty 6 = some ⟨1, 1, .int .u8, [.v (.int .u8 0)], []⟩ := by kernel_rfl
theorem ty9 : ty 9 = some ⟨1, 16, .str, [.v (.string ⟨#[]⟩)], []⟩ := by kernel_rfl
theorem is9 : isStr ty 9 = true := by kernel_rfl
theorem ty11 : ty 11 = some ⟨1, 16, .str, [.v (.string ⟨#[]⟩)], []⟩ := by kernel_rfl
theorem is11 : isStr ty 11 = true := by kernel_rfl
theorem ty22 : ty 22 = some ⟨1, 24, .slice 3, [.v (.slice none 0 0)], []⟩ := by kernel_rfl
theorem el22 : elemD ty 22 = some ⟨1, 8, .int .i64, [.v (.int .i64 0)], []⟩ := by kernel_rfl
theorem ty23 : ty 23 = some ⟨1, 8, .ptr 25, [.v (.pointer none)], []⟩ := by kernel_rfl
theorem ty25 : ty 25 = some ⟨2, 32, .struct [(0, 22), (1, 3)], [.v (.slice none 0 0), .v (.int .i64 0)], []⟩ := by kernel_rfl
theorem sd25 : structD ty 25 = some ⟨2, 32, .struct [(0, 22), (1, 3)], [.v (.slice none 0 0), .v (.int .i64 0)], []⟩ := by kernel_rfl
theorem fd25_0 : fdd ty 25 0 = some (0, ⟨1, 24, .slice 3, [.v (.slice none 0 0)], []⟩) := by kernel_rfl
theorem pl25_0 : places ty 25 0 = some (0, 1) := by kernel_rfl
theorem fd25_1 : fdd ty 25 1 = some (1, ⟨1, 8, .int .i64, [.v (.int .i64 0)], []⟩) := by kernel_rfl
theorem pl25_1 : places ty 25 1 = some (1, 1) := by kernel_rfl
theorem at25 : allTy ty ⟨2, 32, .struct [(0, 22), (1, 3)], [.v (.slice none 0 0), .v (.int .i64 0)], []⟩ = true := by kernel_rfl
theorem ty26 : ty 26 = some ⟨1, 24, .slice 9, [.v (.slice none 0 0)], []⟩ := by kernel_rfl
theorem el26 : elemD ty 26 = some ⟨1, 16, .str, [.v (.string ⟨#[]⟩)], []⟩ := by kernel_rfl
theorem ty28 : ty 28 = some ⟨5, 56, .struct [(0, 26), (1, 3), (2, 3), (3, 3), (4, 3)], [.v (.slice none 0 0), .v (.int .i64 0), .v (.int .i64 0), .v (.int .i64 0), .v (.int .i64 0)], []⟩ := by kernel_rfl
theorem sd28 : structD ty 28 = some ⟨5, 56, .struct [(0, 26), (1, 3), (2, 3), (3, 3), (4, 3)], [.v (.slice none 0 0), .v (.int .i64 0), .v (.int .i64 0), .v (.int .i64 0), .v (.int .i64 0)], []⟩ := by kernel_rfl
theorem fd28_0 : fdd ty 28 0 = some (0, ⟨1, 24, .slice 9, [.v (.slice none 0 0)], []⟩) := by kernel_rfl
theorem pl28_0 : places ty 28 0 = some (0, 1) := by kernel_rfl
theorem fd28_1 : fdd ty 28 1 = some (1, ⟨1, 8, .int .i64, [.v (.int .i64 0)], []⟩) := by kernel_rfl
theorem pl28_1 : places ty 28 1 = some (1, 1) := by kernel_rfl
theorem fd28_2 : fdd ty 28 2 = some (2, ⟨1, 8, .int .i64, [.v (.int .i64 0)], []⟩) := by kernel_rfl
theorem pl28_2 : places ty 28 2 = some (2, 1) := by kernel_rfl
theorem fd28_3 : fdd ty 28 3 = some (3, ⟨1, 8, .int .i64, [.v (.int .i64 0)], []⟩) := by kernel_rfl
theorem pl28_3 : places ty 28 3 = some (3, 1) := by kernel_rfl
theorem fd28_4 : fdd ty 28 4 = some (4, ⟨1, 8, .int .i64, [.v (.int .i64 0)], []⟩) := by kernel_rfl
theorem pl28_4 : places ty 28 4 = some (4, 1) := by kernel_rfl
theorem at28 : allTy ty ⟨5, 56, .struct [(0, 26), (1, 3), (2, 3), (3, 3), (4, 3)], [.v (.slice none 0 0), .v (.int .i64 0), .v (.int .i64 0), .v (.int .i64 0), .v (.int .i64 0)], []⟩ = true := by kernel_rfl
theorem ty31 : ty 31 = some ⟨7, 64, .struct [(0, 3), (1, 9), (2, 3), (3, 3), (4, 3), (5, 3), (6, 3)], [.v (.int .i64 0), .v (.string ⟨#[]⟩), .v (.int .i64 0), .v (.int .i64 0), .v (.int .i64 0), .v (.int .i64 0), .v (.int .i64 0)], [.i, .s, .i, .i, .i, .i, .i]⟩ := by kernel_rfl
theorem sd31 : structD ty 31 = some ⟨7, 64, .struct [(0, 3), (1, 9), (2, 3), (3, 3), (4, 3), (5, 3), (6, 3)], [.v (.int .i64 0), .v (.string ⟨#[]⟩), .v (.int .i64 0), .v (.int .i64 0), .v (.int .i64 0), .v (.int .i64 0), .v (.int .i64 0)], [.i, .s, .i, .i, .i, .i, .i]⟩ := by kernel_rfl
theorem fd31_0 : fdd ty 31 0 = some (0, ⟨1, 8, .int .i64, [.v (.int .i64 0)], []⟩) := by kernel_rfl
theorem pl31_0 : places ty 31 0 = some (0, 1) := by kernel_rfl
theorem fd31_1 : fdd ty 31 1 = some (1, ⟨1, 16, .str, [.v (.string ⟨#[]⟩)], []⟩) := by kernel_rfl
theorem pl31_1 : places ty 31 1 = some (1, 1) := by kernel_rfl
theorem fd31_2 : fdd ty 31 2 = some (2, ⟨1, 8, .int .i64, [.v (.int .i64 0)], []⟩) := by kernel_rfl
theorem pl31_2 : places ty 31 2 = some (2, 1) := by kernel_rfl
theorem fd31_3 : fdd ty 31 3 = some (3, ⟨1, 8, .int .i64, [.v (.int .i64 0)], []⟩) := by kernel_rfl
theorem pl31_3 : places ty 31 3 = some (3, 1) := by kernel_rfl
theorem fd31_4 : fdd ty 31 4 = some (4, ⟨1, 8, .int .i64, [.v (.int .i64 0)], []⟩) := by kernel_rfl
theorem pl31_4 : places ty 31 4 = some (4, 1) := by kernel_rfl
theorem fd31_5 : fdd ty 31 5 = some (5, ⟨1, 8, .int .i64, [.v (.int .i64 0)], []⟩) := by kernel_rfl
theorem pl31_5 : places ty 31 5 = some (5, 1) := by kernel_rfl
theorem fd31_6 : fdd ty 31 6 = some (6, ⟨1, 8, .int .i64, [.v (.int .i64 0)], []⟩) := by kernel_rfl
theorem pl31_6 : places ty 31 6 = some (6, 1) := by kernel_rfl
theorem at31 : allTy ty ⟨7, 64, .struct [(0, 3), (1, 9), (2, 3), (3, 3), (4, 3), (5, 3), (6, 3)], [.v (.int .i64 0), .v (.string ⟨#[]⟩), .v (.int .i64 0), .v (.int .i64 0), .v (.int .i64 0), .v (.int .i64 0), .v (.int .i64 0)], [.i, .s, .i, .i, .i, .i, .i]⟩ = true := by kernel_rfl
theorem ty33 : ty 33 = some ⟨1, 24, .slice 52, [.v (.slice none 0 0)], []⟩ := by kernel_rfl
theorem el33 : elemD ty 33 = some ⟨2, 40, .struct [(0, 9), (1, 50)], [.v (.string ⟨#[]⟩), .v (.slice none 0 0)], []⟩ := by kernel_rfl
theorem ty37 : ty 37 = some ⟨1, 24, .slice 31, [.v (.slice none 0 0)], []⟩ := by kernel_rfl
theorem el37 : elemD ty 37 = some ⟨7, 64, .struct [(0, 3), (1, 9), (2, 3), (3, 3), (4, 3), (5, 3), (6, 3)], [.v (.int .i64 0), .v (.string ⟨#[]⟩), .v (.int .i64 0), .v (.int .i64 0), .v (.int .i64 0), .v (.int .i64 0), .v (.int .i64 0)], [.i, .s, .i, .i, .i, .i, .i]⟩ := by kernel_rfl
theorem ty39 : ty 39 = some ⟨3, 40, .struct [(0, 3), (1, 3), (2, 37)], [.v (.int .i64 0), .v (.int .i64 0), .v (.slice none 0 0)], []⟩ := by kernel_rfl
theorem sd39 : structD ty 39 = some ⟨3, 40, .struct [(0, 3), (1, 3), (2, 37)], [.v (.int .i64 0), .v (.int .i64 0), .v (.slice none 0 0)], []⟩ := by kernel_rfl
theorem fd39_0 : fdd ty 39 0 = some (0, ⟨1, 8, .int .i64, [.v (.int .i64 0)], []⟩) := by kernel_rfl
theorem pl39_0 : places ty 39 0 = some (0, 1) := by kernel_rfl
theorem fd39_1 : fdd ty 39 1 = some (1, ⟨1, 8, .int .i64, [.v (.int .i64 0)], []⟩) := by kernel_rfl
theorem pl39_1 : places ty 39 1 = some (1, 1) := by kernel_rfl
theorem fd39_2 : fdd ty 39 2 = some (2, ⟨1, 24, .slice 31, [.v (.slice none 0 0)], []⟩) := by kernel_rfl
theorem pl39_2 : places ty 39 2 = some (2, 1) := by kernel_rfl
theorem at39 : allTy ty ⟨3, 40, .struct [(0, 3), (1, 3), (2, 37)], [.v (.int .i64 0), .v (.int .i64 0), .v (.slice none 0 0)], []⟩ = true := by kernel_rfl
theorem ty40 : ty 40 = some ⟨1, 8, .int .i64, [.v (.int .i64 0)], []⟩ := by kernel_rfl
theorem ty50 : ty 50 = some ⟨1, 24, .slice 39, [.v (.slice none 0 0)], []⟩ := by kernel_rfl
theorem el50 : elemD ty 50 = some ⟨3, 40, .struct [(0, 3), (1, 3), (2, 37)], [.v (.int .i64 0), .v (.int .i64 0), .v (.slice none 0 0)], []⟩ := by kernel_rfl
theorem ty52 : ty 52 = some ⟨2, 40, .struct [(0, 9), (1, 50)], [.v (.string ⟨#[]⟩), .v (.slice none 0 0)], []⟩ := by kernel_rfl
theorem sd52 : structD ty 52 = some ⟨2, 40, .struct [(0, 9), (1, 50)], [.v (.string ⟨#[]⟩), .v (.slice none 0 0)], []⟩ := by kernel_rfl
theorem fd52_0 : fdd ty 52 0 = some (0, ⟨1, 16, .str, [.v (.string ⟨#[]⟩)], []⟩) := by kernel_rfl
theorem pl52_0 : places ty 52 0 = some (0, 1) := by kernel_rfl
theorem fd52_1 : fdd ty 52 1 = some (1, ⟨1, 24, .slice 39, [.v (.slice none 0 0)], []⟩) := by kernel_rfl
theorem pl52_1 : places ty 52 1 = some (1, 1) := by kernel_rfl
theorem at52 : allTy ty ⟨2, 40, .struct [(0, 9), (1, 50)], [.v (.string ⟨#[]⟩), .v (.slice none 0 0)], []⟩ = true := by kernel_rfl
theorem ty101 : ty 101 = some ⟨1, 24, .slice 40, [.v (.slice none 0 0)], []⟩ := by kernel_rfl
theorem el101 : elemD ty 101 = some ⟨1, 8, .int .i64, [.v (.int .i64 0)], []⟩ := by kernel_rfl
theorem ty180 : ty 180 = some ⟨1, 8, .ptr 183, [.v (.pointer none)], []⟩ := by kernel_rfl
theorem ty181 : ty 181 = some ⟨1, 24, .slice 184, [.v (.slice none 0 0)], []⟩ := by kernel_rfl
theorem el181 : elemD ty 181 = some ⟨1, 8, .ptr 244, [.v (.pointer none)], []⟩ := by kernel_rfl
theorem ty183 : ty 183 = some ⟨4, 48, .struct [(0, 3), (1, 3), (2, 3), (3, 181)], [.v (.int .i64 0), .v (.int .i64 0), .v (.int .i64 0), .v (.slice none 0 0)], []⟩ := by kernel_rfl
theorem sd183 : structD ty 183 = some ⟨4, 48, .struct [(0, 3), (1, 3), (2, 3), (3, 181)], [.v (.int .i64 0), .v (.int .i64 0), .v (.int .i64 0), .v (.slice none 0 0)], []⟩ := by kernel_rfl
theorem fd183_0 : fdd ty 183 0 = some (0, ⟨1, 8, .int .i64, [.v (.int .i64 0)], []⟩) := by kernel_rfl
theorem pl183_0 : places ty 183 0 = some (0, 1) := by kernel_rfl
theorem fd183_1 : fdd ty 183 1 = some (1, ⟨1, 8, .int .i64, [.v (.int .i64 0)], []⟩) := by kernel_rfl
theorem pl183_1 : places ty 183 1 = some (1, 1) := by kernel_rfl
theorem fd183_2 : fdd ty 183 2 = some (2, ⟨1, 8, .int .i64, [.v (.int .i64 0)], []⟩) := by kernel_rfl
theorem pl183_2 : places ty 183 2 = some (2, 1) := by kernel_rfl
theorem fd183_3 : fdd ty 183 3 = some (3, ⟨1, 24, .slice 184, [.v (.slice none 0 0)], []⟩) := by kernel_rfl
theorem pl183_3 : places ty 183 3 = some (3, 1) := by kernel_rfl
theorem at183 : allTy ty ⟨4, 48, .struct [(0, 3), (1, 3), (2, 3), (3, 181)], [.v (.int .i64 0), .v (.int .i64 0), .v (.int .i64 0), .v (.slice none 0 0)], []⟩ = true := by kernel_rfl
theorem ty184 : ty 184 = some ⟨1, 8, .ptr 244, [.v (.pointer none)], []⟩ := by kernel_rfl
theorem ty199 : ty 199 = some ⟨1, 8, .int .u64, [.v (.int .u64 0)], []⟩ := by kernel_rfl
theorem ty244 : ty 244 = some ⟨6, 56, .struct [(0, 9), (1, 3), (2, 4), (3, 3), (4, 3), (5, 3)], [.v (.string ⟨#[]⟩), .v (.int .i64 0), .v (.bool false), .v (.int .i64 0), .v (.int .i64 0), .v (.int .i64 0)], [.s, .i, .b, .i, .i, .i]⟩ := by kernel_rfl
theorem sd244 : structD ty 244 = some ⟨6, 56, .struct [(0, 9), (1, 3), (2, 4), (3, 3), (4, 3), (5, 3)], [.v (.string ⟨#[]⟩), .v (.int .i64 0), .v (.bool false), .v (.int .i64 0), .v (.int .i64 0), .v (.int .i64 0)], [.s, .i, .b, .i, .i, .i]⟩ := by kernel_rfl
theorem fd244_0 : fdd ty 244 0 = some (0, ⟨1, 16, .str, [.v (.string ⟨#[]⟩)], []⟩) := by kernel_rfl
theorem pl244_0 : places ty 244 0 = some (0, 1) := by kernel_rfl
theorem fd244_1 : fdd ty 244 1 = some (1, ⟨1, 8, .int .i64, [.v (.int .i64 0)], []⟩) := by kernel_rfl
theorem pl244_1 : places ty 244 1 = some (1, 1) := by kernel_rfl
theorem fd244_2 : fdd ty 244 2 = some (2, ⟨1, 1, .bool, [.v (.bool false)], []⟩) := by kernel_rfl
theorem pl244_2 : places ty 244 2 = some (2, 1) := by kernel_rfl
theorem fd244_3 : fdd ty 244 3 = some (3, ⟨1, 8, .int .i64, [.v (.int .i64 0)], []⟩) := by kernel_rfl
theorem pl244_3 : places ty 244 3 = some (3, 1) := by kernel_rfl
theorem fd244_4 : fdd ty 244 4 = some (4, ⟨1, 8, .int .i64, [.v (.int .i64 0)], []⟩) := by kernel_rfl
theorem pl244_4 : places ty 244 4 = some (4, 1) := by kernel_rfl
theorem fd244_5 : fdd ty 244 5 = some (5, ⟨1, 8, .int .i64, [.v (.int .i64 0)], []⟩) := by kernel_rfl
theorem pl244_5 : places ty 244 5 = some (5, 1) := by kernel_rfl
theorem at244 : allTy ty ⟨6, 56, .struct [(0, 9), (1, 3), (2, 4), (3, 3), (4, 3), (5, 3)], [.v (.string ⟨#[]⟩), .v (.int .i64 0), .v (.bool false), .v (.int .i64 0), .v (.int .i64 0), .v (.int .i64 0)], [.s, .i, .b, .i, .i, .i]⟩ = true := by kernel_rfl
theorem ty245 : ty 245 = some ⟨1, 8, .func, [.v (.nilFunc)], []⟩ := by kernel_rfl
theorem ty253 : ty 253 = some ⟨1, 8, .int .i64, [.v (.int .i64 0)], []⟩ := by kernel_rfl
theorem ty358 : ty 358 = some ⟨1, 8, .func, [.v (.nilFunc)], []⟩ := by kernel_rfl
set_option maxRecDepth 100000
theorem lemA : type_of% (And.intro (@List.getD_cons_zero.{0}) (And.intro (@List.getD_cons_succ.{0}) (And.intro (@List.set_cons_zero.{0}) (And.intro (@List.set_cons_succ.{0}) (And.intro (@List.length_cons.{0}) (And.intro (@List.length_nil.{0}) (And.intro (@List.map_cons.{0, 0}) (And.intro (@List.map_nil.{0, 0}) (And.intro (@List.append_nil.{0}) (And.intro (@List.nil_append.{0}) (And.intro (@List.cons_append.{0}) (And.intro (@List.all_cons.{0}) (And.intro (@List.all_nil.{0}) (And.intro (@Bool.and_true) (And.intro (@Bool.and_self) (And.intro (@Option.bind_some.{0, 0}) (And.intro (@Option.map_some.{0, 0}) (And.intro (@List.getElem?_toArray.{0}) (And.intro (@List.getElem?_cons_zero.{0}) (And.intro (@List.getElem?_cons_succ.{0}) (And.intro (@true_and) (And.intro (@and_true) (And.intro (@and_self) (And.intro (@Option.some.injEq.{0}) (And.intro (@if_true.{1}) (And.intro (@implies_true.{0}) (And.intro (@implies_true.{1}) (And.intro (@imp_self) (And.intro (@List.toList_toArray.{0}) (And.intro (@Bool.false_eq_true) (And.intro (@Bool.true_eq_false) (And.intro (@false_and) (And.intro (@and_false) (And.intro (@List.filterMap_cons.{0, 0}) (And.intro (@beq_true) (And.intro (@beq_false) (And.intro (@Bool.not_eq_true') (And.intro (@Bool.not_eq_false') (And.intro (@true_implies) (And.intro (@Bool.cond_true_left) (And.intro (@Bool.cond_false_right) (And.intro (@Bool.not_not) (And.intro (@Bool.or_false) (And.intro (@Bool.false_or) (And.intro (@Bool.or_true) (And.intro (@Bool.true_or) (And.intro (@Bool.and_false) (And.intro (@Bool.false_and) (And.intro (@Bool.true_and) (And.intro (@Bool.not_true) (And.intro (@Bool.not_false) (And.intro (@cond_true.{1}) (And.intro (@cond_false.{1}) (And.intro (@upd_same) (And.intro (@List.take_succ_cons.{0}) (And.intro (@List.take_zero.{0}) (And.intro (@List.drop_succ_cons.{0}) (And.intro (@List.drop_zero.{0}) (And.intro (@List.take_nil.{0}) (And.intro (@List.drop_nil.{0}) (And.intro (@List.length_map.{0, 0}) (And.intro (@Int.add_sub_cancel) (And.intro (@List.length_set.{0}) (And.intro (@upd_upd) (And.intro (@Option.isSome_some.{0}) (And.intro (@ne_eq.{1}) (@not_false_eq_true))))))))))))))))))))))))))))))))))))))))))))))))))))))))))))))))))) := And.intro (@List.getD_cons_zero.{0}) (And.intro (@List.getD_cons_succ.{0}) (And.intro (@List.set_cons_zero.{0}) (And.intro (@List.set_cons_succ.{0}) (And.intro (@List.length_cons.{0}) (And.intro (@List.length_nil.{0}) (And.intro (@List.map_cons.{0, 0}) (And.intro (@List.map_nil.{0, 0}) (And.intro (@List.append_nil.{0}) (And.intro (@List.nil_append.{0}) (And.intro (@List.cons_append.{0}) (And.intro (@List.all_cons.{0}) (And.intro (@List.all_nil.{0}) (And.intro (@Bool.and_true) (And.intro (@Bool.and_self) (And.intro (@Option.bind_some.{0, 0}) (And.intro (@Option.map_some.{0, 0}) (And.intro (@List.getElem?_toArray.{0}) (And.intro (@List.getElem?_cons_zero.{0}) (And.intro (@List.getElem?_cons_succ.{0}) (And.intro (@true_and) (And.intro (@and_true) (And.intro (@and_self) (And.intro (@Option.some.injEq.{0}) (And.intro (@if_true.{1}) (And.intro (@implies_true.{0}) (And.intro (@implies_true.{1}) (And.intro (@imp_self) (And.intro (@List.toList_toArray.{0}) (And.intro (@Bool.false_eq_true) (And.intro (@Bool.true_eq_false) (And.intro (@false_and) (And.intro (@and_false) (And.intro (@List.filterMap_cons.{0, 0}) (And.intro (@beq_true) (And.intro (@beq_false) (And.intro (@Bool.not_eq_true') (And.intro (@Bool.not_eq_false') (And.intro (@true_implies) (And.intro (@Bool.cond_true_left) (And.intro (@Bool.cond_false_right) (And.intro (@Bool.not_not) (And.intro (@Bool.or_false) (And.intro (@Bool.false_or) (And.intro (@Bool.or_true) (And.intro (@Bool.true_or) (And.intro (@Bool.and_false) (And.intro (@Bool.false_and) (And.intro (@Bool.true_and) (And.intro (@Bool.not_true) (And.intro (@Bool.not_false) (And.intro (@cond_true.{1}) (And.intro (@cond_false.{1}) (And.intro (@upd_same) (And.intro (@List.take_succ_cons.{0}) (And.intro (@List.take_zero.{0}) (And.intro (@List.drop_succ_cons.{0}) (And.intro (@List.drop_zero.{0}) (And.intro (@List.take_nil.{0}) (And.intro (@List.drop_nil.{0}) (And.intro (@List.length_map.{0, 0}) (And.intro (@Int.add_sub_cancel) (And.intro (@List.length_set.{0}) (And.intro (@upd_upd) (And.intro (@Option.isSome_some.{0}) (And.intro (@ne_eq.{1}) (@not_false_eq_true))))))))))))))))))))))))))))))))))))))))))))))))))))))))))))))))))
theorem lemT : type_of% (And.intro (@ty1) (And.intro (@ty2) (And.intro (@ty3) (And.intro (@ty4) (And.intro (@ty5) (And.intro (@ty6) (And.intro (@ty9) (And.intro (@is9) (And.intro (@ty11) (And.intro (@is11) (And.intro (@ty22) (And.intro (@el22) (And.intro (@ty23) (And.intro (@ty25) (And.intro (@sd25) (And.intro (@fd25_0) (And.intro (@pl25_0) (And.intro (@fd25_1) (And.intro (@pl25_1) (And.intro (@at25) (And.intro (@ty26) (And.intro (@el26) (And.intro (@ty28) (And.intro (@sd28) (And.intro (@fd28_0) (And.intro (@pl28_0) (And.intro (@fd28_1) (And.intro (@pl28_1) (And.intro (@fd28_2) (And.intro (@pl28_2) (And.intro (@fd28_3) (And.intro (@pl28_3) (And.intro (@fd28_4) (And.intro (@pl28_4) (And.intro (@at28) (And.intro (@ty31) (And.intro (@sd31) (And.intro (@fd31_0) (And.intro (@pl31_0) (And.intro (@fd31_1) (And.intro (@pl31_1) (And.intro (@fd31_2) (And.intro (@pl31_2) (And.intro (@fd31_3) (And.intro (@pl31_3) (And.intro (@fd31_4) (And.intro (@pl31_4) (And.intro (@fd31_5) (And.intro (@pl31_5) (And.intro (@fd31_6) (And.intro (@pl31_6) (And.intro (@at31) (And.intro (@ty33) (And.intro (@el33) (And.intro (@ty37) (And.intro (@el37) (And.intro (@ty39) (And.intro (@sd39) (And.intro (@fd39_0) (And.intro (@pl39_0) (And.intro (@fd39_1) (And.intro (@pl39_1) (And.intro (@fd39_2) (And.intro (@pl39_2) (And.intro (@at39) (And.intro (@ty40) (And.intro (@ty50) (And.intro (@el50) (And.intro (@ty52) (And.intro (@sd52) (And.intro (@fd52_0) (And.intro (@pl52_0) (And.intro (@fd52_1) (And.intro (@pl52_1) (And.intro (@at52) (And.intro (@ty101) (And.intro (@el101) (And.intro (@ty180) (And.intro (@ty181) (And.intro (@el181) (And.intro (@ty183) (And.intro (@sd183) (And.intro (@fd183_0) (And.intro (@pl183_0) (And.intro (@fd183_1) (And.intro (@pl183_1) (And.intro (@fd183_2) (And.intro (@pl183_2) (And.intro (@fd183_3) (And.intro (@pl183_3) (And.intro (@at183) (And.intro (@ty184) (And.intro (@ty199) (And.intro (@ty244) (And.intro (@sd244) (And.intro (@fd244_0) (And.intro (@pl244_0) (And.intro (@fd244_1) (And.intro (@pl244_1) (And.intro (@fd244_2) (And.intro (@pl244_2) (And.intro (@fd244_3) (And.intro (@pl244_3) (And.intro (@fd244_4) (And.intro (@pl244_4) (And.intro (@fd244_5) (And.intro (@pl244_5) (And.intro (@at244) (And.intro (@ty245) (And.intro (@ty253) (@ty358))))))))))))))))))))))))))))))))))))))))))))))))))))))))))))))))))))))))))))))))))))))))))))))))))))))))))))))) := And.intro (@ty1) (And.intro (@ty2) (And.intro (@ty3) (And.intro (@ty4) (And.intro (@ty5) (And.intro (@ty6) (And.intro (@ty9) (And.intro (@is9) (And.intro (@ty11) (And.intro (@is11) (And.intro (@ty22) (And.intro (@el22) (And.intro (@ty23) (And.intro (@ty25) (And.intro (@sd25) (And.intro (@fd25_0) (And.intro (@pl25_0) (And.intro (@fd25_1) (And.intro (@pl25_1) (And.intro (@at25) (And.intro (@ty26) (And.intro (@el26) (And.intro (@ty28) (And.intro (@sd28) (And.intro (@fd28_0) (And.intro (@pl28_0) (And.intro (@fd28_1) (And.intro (@pl28_1) (And.intro (@fd28_2) (And.intro (@pl28_2) (And.intro (@fd28_3) (And.intro (@pl28_3) (And.intro (@fd28_4) (And.intro (@pl28_4) (And.intro (@at28) (And.intro (@ty31) (And.intro (@sd31) (And.intro (@fd31_0) (And.intro (@pl31_0) (And.intro (@fd31_1) (And.intro (@pl31_1) (And.intro (@fd31_2) (And.intro (@pl31_2) (And.intro (@fd31_3) (And.intro (@pl31_3) (And.intro (@fd31_4) (And.intro (@pl31_4) (And.intro (@fd31_5) (And.intro (@pl31_5) (And.intro (@fd31_6) (And.intro (@pl31_6) (And.intro (@at31) (And.intro (@ty33) (And.intro (@el33) (And.intro (@ty37) (And.intro (@el37) (And.intro (@ty39) (And.intro (@sd39) (And.intro (@fd39_0) (And.intro (@pl39_0) (And.intro (@fd39_1) (And.intro (@pl39_1) (And.intro (@fd39_2) (And.intro (@pl39_2) (And.intro (@at39) (And.intro (@ty40) (And.intro (@ty50) (And.intro (@el50) (And.intro (@ty52) (And.intro (@sd52) (And.intro (@fd52_0) (And.intro (@pl52_0) (And.intro (@fd52_1) (And.intro (@pl52_1) (And.intro (@at52) (And.intro (@ty101) (And.intro (@el101) (And.intro (@ty180) (And.intro (@ty181) (And.intro (@el181) (And.intro (@ty183) (And.intro (@sd183) (And.intro (@fd183_0) (And.intro (@pl183_0) (And.intro (@fd183_1) (And.intro (@pl183_1) (And.intro (@fd183_2) (And.intro (@pl183_2) (And.intro (@fd183_3) (And.intro (@pl183_3) (And.intro (@at183) (And.intro (@ty184) (And.intro (@ty199) (And.intro (@ty244) (And.intro (@sd244) (And.intro (@fd244_0) (And.intro (@pl244_0) (And.intro (@fd244_1) (And.intro (@pl244_1) (And.intro (@fd244_2) (And.intro (@pl244_2) (And.intro (@fd244_3) (And.intro (@pl244_3) (And.intro (@fd244_4) (And.intro (@pl244_4) (And.intro (@fd244_5) (And.intro (@pl244_5) (And.intro (@at244) (And.intro (@ty245) (And.intro (@ty253) (@ty358))))))))))))))))))))))))))))))))))))))))))))))))))))))))))))))))))))))))))))))))))))))))))))))))))))))))))))))
attribute [go_sem] vOps retQ resV resL res1 Nat.zero_add St.keep keepL_nil keepL_c1 keepL_c0 keepL_jnk cutLoc jnk_zero jnk_jnk getD_jnk_lt getD_jnk_ge set_jnk_lt set_jnk_ge gStep condG qV binV vV iV sV bV nV arV pickE joinA joinOk isOpt vEff binE vBin iBin sBin arith nilOf nBin boolOk okEqs okEqs1 eqL convI storeE newE sliceE appE lenE minE biE bndE cellsAt isB8 ldOk ld TyD.isAgg AV.shift AV.isAddr AV.cellsB AV.noLoc rowOf litRow fillA opS uside unw evL cv St.put opsOf Value.oneCell' vIdx stepI vRest reL reI mdL splice bef aft isCallB isCallV lookE updE lookR zeroA aggK cutE appS elemI rangeE nextE entryE rowX fnE ptrS ptrV ptrE arrNil ptrZ cellO lemA lemT
section
variable {c : Cx} {Q : Exit → St → Prop} {s : St} {all : Array Oper} {id : Nat} {y : Code}
theorem gE {f : Nat} {fn : Func} {code : Code} {args : List AV} {h : Hp} {R : AV → Hp → Prop} (hf : Tryz.prog.funcs[f]? = some fn) (hb : fn.body = some code) (hok : fnOk Tryz.prog f = true) (m : Nat) (hm : fn.ntmps - args.length = m) (hw : ∀ c : Cx, Awp Tryz.prog c code (retQ ty fn.results.toList R) ⟨args ++ jnk m [], [], h⟩) : ACalls Tryz.prog f args h R := acalls_in tyok hf hb hok m hm hw
theorem rI {rs : List ResultVar} {R : AV → Hp → Prop} (h : retQ ty rs R .ret s) : retQ ty rs R .ret s := h
theorem gO {A B : Prop} {t : Bool} [h : Stp Tryz.prog ty A B t] (ht : t = true) (hb : B) : A := h.sound ht hb
theorem gQ {A B : Prop} {t : Bool} [h : Stq Tryz.prog ty A B t] (ht : t = true) (hb : B) : A := h.sound ht hb
theorem gR {A : Prop} {N : St → Prop} {V : (St → Prop) → Prop} [h : Str Tryz.prog ty (mdL []) A N V] (hb : ∀ K1 : St → Prop, (∀ s', N s' → K1 s') → V K1) : A := h.sound tyok hb
theorem gM (md : Option Tmp → Nat) {A : Prop} {N : St → Prop} {V : (St → Prop) → Prop} [h : Str Tryz.prog ty md A N V] (hb : ∀ K1 : St → Prop, (∀ s', N s' → K1 s') → V K1) : A := h.sound tyok hb
theorem uD (id : Nat) (md : Option Tmp → Nat) (E0 : List Nat) (pl : List (Nat × List Nat × List Nat)) (n : Nat) (hn : s.sl.length = n) (hok : drawOk md all n E0 pl = true) (h : ∀ K1 : St → Prop, (∀ s', vRst Tryz.prog ty md all pl s' (Awp Tryz.prog c y Q) → K1 s') → vIdx Tryz.prog ty md all E0 s K1) : Awp Tryz.prog c (.seq (.region id all true) y) Q s := awp_seqD2 tyok (by kernel_rfl) md n hn hok h
theorem uE (id : Nat) (md : Option Tmp → Nat) (E0 : List Nat) (pl : List (Nat × List Nat × List Nat)) (n : Nat) (hn : s.sl.length = n) (hok : drawOk md all n E0 pl = true) (h : ∀ K1 : St → Prop, (∀ s', vRst Tryz.prog ty md all pl s' (Q .normal) → K1 s') → vIdx Tryz.prog ty md all E0 s K1) : Awp Tryz.prog c (.region id all true) Q s := awp_draw2 tyok (by kernel_rfl) md n hn hok h
end
end Go.Proofs.YtpnfkfbapfnboaaGreatDoor

