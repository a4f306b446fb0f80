/- The types of this program, as facts. -/
import Derived.Test.YtfkbaghinemmkaaGreatDoorAvRun
import Derived.Test.YtfkbaghinemmkaaGreatDoorProg
namespace Go.Proofs.YtfkbaghinemmkaaGreatDoor
open Go
set_option linter.unusedVariables false
set_option linter.unusedSimpArgs false
noncomputable def ty : Nat → Option TyD := tyd Tryz.prog
theorem tyok : TyOk Tryz.prog ty := fun _ _ h => h
theorem ty1 : ty 1 = some ⟨1, 8, .func, [.v (.nilFunc)], []⟩ := by kernel_rfl
theorem ty2 : ty 2 = some ⟨1, 8, .int .i64, [.v (.int .i64 0)], []⟩ := by kernel_rfl
theorem ty3 : ty 3 = some ⟨1, 8, .int .i64, [.v (.int .i64 0)], []⟩ := by kernel_rfl
theorem ty4 : ty 4 = some ⟨1, 1, .bool, [.v (.bool false)], []⟩ := by kernel_rfl
theorem ty5 : ty 5 = some ⟨1, 1, .int .u8, [.v (.int .u8 0)], []⟩ := by kernel_rfl
theorem ty6 : ty 6 = some ⟨1, 1, .int .u8, [.v (.int .u8 0)], []⟩ := by kernel_rfl
theorem ty7 : ty 7 = some ⟨4, 24, .struct [(0, 2), (1, 3), (2, 4), (3, 6)], [.v (.int .i64 0), .v (.int .i64 0), .v (.bool false), .v (.int .u8 0)], [.i, .i, .b, .i]⟩ := by kernel_rfl
theorem sd7 : structD ty 7 = some ⟨4, 24, .struct [(0, 2), (1, 3), (2, 4), (3, 6)], [.v (.int .i64 0), .v (.int .i64 0), .v (.bool false), .v (.int .u8 0)], [.i, .i, .b, .i]⟩ := by kernel_rfl
theorem fd7_0 : fdd ty 7 0 = some (0, ⟨1, 8, .int .i64, [.v (.int .i64 0)], []⟩) := by kernel_rfl
theorem pl7_0 : places ty 7 0 = some (0, 1) := by kernel_rfl
theorem fd7_1 : fdd ty 7 1 = some (1, ⟨1, 8, .int .i64, [.v (.int .i64 0)], []⟩) := by kernel_rfl
theorem pl7_1 : places ty 7 1 = some (1, 1) := by kernel_rfl
theorem fd7_2 : fdd ty 7 2 = some (2, ⟨1, 1, .bool, [.v (.bool false)], []⟩) := by kernel_rfl
theorem pl7_2 : places ty 7 2 = some (2, 1) := by kernel_rfl
theorem fd7_3 : fdd ty 7 3 = some (3, ⟨1, 1, .int .u8, [.v (.int .u8 0)], []⟩) := by kernel_rfl
theorem pl7_3 : places ty 7 3 = some (3, 1) := by kernel_rfl
theorem at7 : allTy ty ⟨4, 24, .struct [(0, 2), (1, 3), (2, 4), (3, 6)], [.v (.int .i64 0), .v (.int .i64 0), .v (.bool false), .v (.int .u8 0)], [.i, .i, .b, .i]⟩ = true := by kernel_rfl
theorem ty9 : ty 9 = some ⟨1, 16, .str, [.v (.string ⟨#[]⟩)], []⟩ := by kernel_rfl
theorem is9 : isStr ty 9 = true := by kernel_rfl
theorem ty22 : ty 22 = some ⟨1, 24, .slice 3, [.v (.slice none 0 0)], []⟩ := by kernel_rfl
theorem el22 : elemD ty 22 = some ⟨1, 8, .int .i64, [.v (.int .i64 0)], []⟩ := by kernel_rfl
theorem ty23 : ty 23 = some ⟨1, 8, .ptr 25, [.v (.pointer none)], []⟩ := by kernel_rfl
theorem ty25 : ty 25 = some ⟨2, 32, .struct [(0, 22), (1, 3)], [.v (.slice none 0 0), .v (.int .i64 0)], []⟩ := by kernel_rfl
theorem sd25 : structD ty 25 = some ⟨2, 32, .struct [(0, 22), (1, 3)], [.v (.slice none 0 0), .v (.int .i64 0)], []⟩ := by kernel_rfl
theorem fd25_0 : fdd ty 25 0 = some (0, ⟨1, 24, .slice 3, [.v (.slice none 0 0)], []⟩) := by kernel_rfl
theorem pl25_0 : places ty 25 0 = some (0, 1) := by kernel_rfl
theorem fd25_1 : fdd ty 25 1 = some (1, ⟨1, 8, .int .i64, [.v (.int .i64 0)], []⟩) := by kernel_rfl
theorem pl25_1 : places ty 25 1 = some (1, 1) := by kernel_rfl
theorem at25 : allTy ty ⟨2, 32, .struct [(0, 22), (1, 3)], [.v (.slice none 0 0), .v (.int .i64 0)], []⟩ = true := by kernel_rfl
theorem ty28 : ty 28 = some ⟨1, 8, .ptr 82, [.v (.pointer none)], []⟩ := by kernel_rfl
theorem ty29 : ty 29 = some ⟨1, 8, .int .i64, [.v (.int .i64 0)], []⟩ := by kernel_rfl
theorem ty34 : ty 34 = some ⟨1, 8, .ptr 85, [.v (.pointer none)], []⟩ := by kernel_rfl
theorem ty38 : ty 38 = some ⟨1, 24, .slice 9, [.v (.slice none 0 0)], []⟩ := by kernel_rfl
theorem el38 : elemD ty 38 = some ⟨1, 16, .str, [.v (.string ⟨#[]⟩)], []⟩ := by kernel_rfl
theorem ty80 : ty 80 = some ⟨1, 24, .slice 89, [.v (.slice none 0 0)], []⟩ := by kernel_rfl
theorem el80 : elemD ty 80 = some ⟨1, 8, .ptr 92, [.v (.pointer none)], []⟩ := by kernel_rfl
theorem ty82 : ty 82 = some ⟨4, 48, .struct [(0, 3), (1, 3), (2, 3), (3, 80)], [.v (.int .i64 0), .v (.int .i64 0), .v (.int .i64 0), .v (.slice none 0 0)], []⟩ := by kernel_rfl
theorem sd82 : structD ty 82 = some ⟨4, 48, .struct [(0, 3), (1, 3), (2, 3), (3, 80)], [.v (.int .i64 0), .v (.int .i64 0), .v (.int .i64 0), .v (.slice none 0 0)], []⟩ := by kernel_rfl
theorem fd82_0 : fdd ty 82 0 = some (0, ⟨1, 8, .int .i64, [.v (.int .i64 0)], []⟩) := by kernel_rfl
theorem pl82_0 : places ty 82 0 = some (0, 1) := by kernel_rfl
theorem fd82_1 : fdd ty 82 1 = some (1, ⟨1, 8, .int .i64, [.v (.int .i64 0)], []⟩) := by kernel_rfl
theorem pl82_1 : places ty 82 1 = some (1, 1) := by kernel_rfl
theorem fd82_2 : fdd ty 82 2 = some (2, ⟨1, 8, .int .i64, [.v (.int .i64 0)], []⟩) := by kernel_rfl
theorem pl82_2 : places ty 82 2 = some (2, 1) := by kernel_rfl
theorem fd82_3 : fdd ty 82 3 = some (3, ⟨1, 24, .slice 89, [.v (.slice none 0 0)], []⟩) := by kernel_rfl
theorem pl82_3 : places ty 82 3 = some (3, 1) := by kernel_rfl
theorem at82 : allTy ty ⟨4, 48, .struct [(0, 3), (1, 3), (2, 3), (3, 80)], [.v (.int .i64 0), .v (.int .i64 0), .v (.int .i64 0), .v (.slice none 0 0)], []⟩ = true := by kernel_rfl
theorem ty83 : ty 83 = some ⟨1, 24, .slice 99, [.v (.slice none 0 0)], []⟩ := by kernel_rfl
theorem el83 : elemD ty 83 = some ⟨5, 48, .struct [(0, 9), (1, 3), (2, 3), (3, 3), (4, 4)], [.v (.string ⟨#[]⟩), .v (.int .i64 0), .v (.int .i64 0), .v (.int .i64 0), .v (.bool false)], [.s, .i, .i, .i, .b]⟩ := by kernel_rfl
theorem ty85 : ty 85 = some ⟨4, 48, .struct [(0, 3), (1, 3), (2, 83), (3, 3)], [.v (.int .i64 0), .v (.int .i64 0), .v (.slice none 0 0), .v (.int .i64 0)], []⟩ := by kernel_rfl
theorem sd85 : structD ty 85 = some ⟨4, 48, .struct [(0, 3), (1, 3), (2, 83), (3, 3)], [.v (.int .i64 0), .v (.int .i64 0), .v (.slice none 0 0), .v (.int .i64 0)], []⟩ := by kernel_rfl
theorem fd85_0 : fdd ty 85 0 = some (0, ⟨1, 8, .int .i64, [.v (.int .i64 0)], []⟩) := by kernel_rfl
theorem pl85_0 : places ty 85 0 = some (0, 1) := by kernel_rfl
theorem fd85_1 : fdd ty 85 1 = some (1, ⟨1, 8, .int .i64, [.v (.int .i64 0)], []⟩) := by kernel_rfl
theorem pl85_1 : places ty 85 1 = some (1, 1) := by kernel_rfl
theorem fd85_2 : fdd ty 85 2 = some (2, ⟨1, 24, .slice 99, [.v (.slice none 0 0)], []⟩) := by kernel_rfl
theorem pl85_2 : places ty 85 2 = some (2, 1) := by kernel_rfl
theorem fd85_3 : fdd ty 85 3 = some (3, ⟨1, 8, .int .i64, [.v (.int .i64 0)], []⟩) := by kernel_rfl
theorem pl85_3 : places ty 85 3 = some (3, 1) := by kernel_rfl
theorem at85 : allTy ty ⟨4, 48, .struct [(0, 3), (1, 3), (2, 83), (3, 3)], [.v (.int .i64 0), .v (.int .i64 0), .v (.slice none 0 0), .v (.int .i64 0)], []⟩ = true := by kernel_rfl
theorem ty86 : ty 86 = some ⟨1, 8, .func, [.v (.nilFunc)], []⟩ := by kernel_rfl
theorem ty89 : ty 89 = some ⟨1, 8, .ptr 92, [.v (.pointer none)], []⟩ := by kernel_rfl
theorem ty92 : ty 92 = some ⟨6, 56, .struct [(0, 9), (1, 3), (2, 4), (3, 3), (4, 3), (5, 3)], [.v (.string ⟨#[]⟩), .v (.int .i64 0), .v (.bool false), .v (.int .i64 0), .v (.int .i64 0), .v (.int .i64 0)], [.s, .i, .b, .i, .i, .i]⟩ := by kernel_rfl
theorem sd92 : structD ty 92 = some ⟨6, 56, .struct [(0, 9), (1, 3), (2, 4), (3, 3), (4, 3), (5, 3)], [.v (.string ⟨#[]⟩), .v (.int .i64 0), .v (.bool false), .v (.int .i64 0), .v (.int .i64 0), .v (.int .i64 0)], [.s, .i, .b, .i, .i, .i]⟩ := by kernel_rfl
theorem fd92_0 : fdd ty 92 0 = some (0, ⟨1, 16, .str, [.v (.string ⟨#[]⟩)], []⟩) := by kernel_rfl
theorem pl92_0 : places ty 92 0 = some (0, 1) := by kernel_rfl
theorem fd92_1 : fdd ty 92 1 = some (1, ⟨1, 8, .int .i64, [.v (.int .i64 0)], []⟩) := by kernel_rfl
theorem pl92_1 : places ty 92 1 = some (1, 1) := by kernel_rfl
theorem fd92_2 : fdd ty 92 2 = some (2, ⟨1, 1, .bool, [.v (.bool false)], []⟩) := by kernel_rfl
theorem pl92_2 : places ty 92 2 = some (2, 1) := by kernel_rfl
theorem fd92_3 : fdd ty 92 3 = some (3, ⟨1, 8, .int .i64, [.v (.int .i64 0)], []⟩) := by kernel_rfl
theorem pl92_3 : places ty 92 3 = some (3, 1) := by kernel_rfl
theorem fd92_4 : fdd ty 92 4 = some (4, ⟨1, 8, .int .i64, [.v (.int .i64 0)], []⟩) := by kernel_rfl
theorem pl92_4 : places ty 92 4 = some (4, 1) := by kernel_rfl
theorem fd92_5 : fdd ty 92 5 = some (5, ⟨1, 8, .int .i64, [.v (.int .i64 0)], []⟩) := by kernel_rfl
theorem pl92_5 : places ty 92 5 = some (5, 1) := by kernel_rfl
theorem at92 : allTy ty ⟨6, 56, .struct [(0, 9), (1, 3), (2, 4), (3, 3), (4, 3), (5, 3)], [.v (.string ⟨#[]⟩), .v (.int .i64 0), .v (.bool false), .v (.int .i64 0), .v (.int .i64 0), .v (.int .i64 0)], [.s, .i, .b, .i, .i, .i]⟩ = true := by kernel_rfl
theorem ty95 : ty 95 = some ⟨1, 8, .func, [.v (.nilFunc)], []⟩ := by kernel_rfl
theorem ty99 : ty 99 = some ⟨5, 48, .struct [(0, 9), (1, 3), (2, 3), (3, 3), (4, 4)], [.v (.string ⟨#[]⟩), .v (.int .i64 0), .v (.int .i64 0), .v (.int .i64 0), .v (.bool false)], [.s, .i, .i, .i, .b]⟩ := by kernel_rfl
theorem sd99 : structD ty 99 = some ⟨5, 48, .struct [(0, 9), (1, 3), (2, 3), (3, 3), (4, 4)], [.v (.string ⟨#[]⟩), .v (.int .i64 0), .v (.int .i64 0), .v (.int .i64 0), .v (.bool false)], [.s, .i, .i, .i, .b]⟩ := by kernel_rfl
theorem fd99_0 : fdd ty 99 0 = some (0, ⟨1, 16, .str, [.v (.string ⟨#[]⟩)], []⟩) := by kernel_rfl
theorem pl99_0 : places ty 99 0 = some (0, 1) := by kernel_rfl
theorem fd99_1 : fdd ty 99 1 = some (1, ⟨1, 8, .int .i64, [.v (.int .i64 0)], []⟩) := by kernel_rfl
theorem pl99_1 : places ty 99 1 = some (1, 1) := by kernel_rfl
theorem fd99_2 : fdd ty 99 2 = some (2, ⟨1, 8, .int .i64, [.v (.int .i64 0)], []⟩) := by kernel_rfl
theorem pl99_2 : places ty 99 2 = some (2, 1) := by kernel_rfl
theorem fd99_3 : fdd ty 99 3 = some (3, ⟨1, 8, .int .i64, [.v (.int .i64 0)], []⟩) := by kernel_rfl
theorem pl99_3 : places ty 99 3 = some (3, 1) := by kernel_rfl
theorem fd99_4 : fdd ty 99 4 = some (4, ⟨1, 1, .bool, [.v (.bool false)], []⟩) := by kernel_rfl
theorem pl99_4 : places ty 99 4 = some (4, 1) := by kernel_rfl
theorem at99 : allTy ty ⟨5, 48, .struct [(0, 9), (1, 3), (2, 3), (3, 3), (4, 4)], [.v (.string ⟨#[]⟩), .v (.int .i64 0), .v (.int .i64 0), .v (.int .i64 0), .v (.bool false)], [.s, .i, .i, .i, .b]⟩ = true := by kernel_rfl
theorem ty105 : ty 105 = some ⟨1, 8, .func, [.v (.nilFunc)], []⟩ := by kernel_rfl
theorem ty107 : ty 107 = some ⟨1, 8, .func, [.v (.nilFunc)], []⟩ := by kernel_rfl
theorem ty166 : ty 166 = some ⟨1, 8, .int .u64, [.v (.int .u64 0)], []⟩ := by kernel_rfl
theorem ty175 : ty 175 = some ⟨1, 8, .func, [.v (.nilFunc)], []⟩ := by kernel_rfl
theorem ty224 : ty 224 = some ⟨1, 8, .int .i64, [.v (.int .i64 0)], []⟩ := by kernel_rfl
set_option maxRecDepth 100000
theorem lemA : type_of% (And.intro (@List.getD_cons_zero.{0}) (And.intro (@List.getD_cons_succ.{0}) (And.intro (@List.set_cons_zero.{0}) (And.intro (@List.set_cons_succ.{0}) (And.intro (@List.length_cons.{0}) (And.intro (@List.length_nil.{0}) (And.intro (@List.map_cons.{0, 0}) (And.intro (@List.map_nil.{0, 0}) (And.intro (@List.append_nil.{0}) (And.intro (@List.nil_append.{0}) (And.intro (@List.cons_append.{0}) (And.intro (@List.all_cons.{0}) (And.intro (@List.all_nil.{0}) (And.intro (@Bool.and_true) (And.intro (@Bool.and_self) (And.intro (@Option.bind_some.{0, 0}) (And.intro (@Option.map_some.{0, 0}) (And.intro (@List.getElem?_toArray.{0}) (And.intro (@List.getElem?_cons_zero.{0}) (And.intro (@List.getElem?_cons_succ.{0}) (And.intro (@true_and) (And.intro (@and_true) (And.intro (@and_self) (And.intro (@Option.some.injEq.{0}) (And.intro (@if_true.{1}) (And.intro (@implies_true.{0}) (And.intro (@implies_true.{1}) (And.intro (@imp_self) (And.intro (@List.toList_toArray.{0}) (And.intro (@Bool.false_eq_true) (And.intro (@Bool.true_eq_false) (And.intro (@false_and) (And.intro (@and_false) (And.intro (@List.filterMap_cons.{0, 0}) (And.intro (@beq_true) (And.intro (@beq_false) (And.intro (@Bool.not_eq_true') (And.intro (@Bool.not_eq_false') (And.intro (@true_implies) (And.intro (@Bool.cond_true_left) (And.intro (@Bool.cond_false_right) (And.intro (@Bool.not_not) (And.intro (@Bool.or_false) (And.intro (@Bool.false_or) (And.intro (@Bool.or_true) (And.intro (@Bool.true_or) (And.intro (@Bool.and_false) (And.intro (@Bool.false_and) (And.intro (@Bool.true_and) (And.intro (@Bool.not_true) (And.intro (@Bool.not_false) (And.intro (@cond_true.{1}) (And.intro (@cond_false.{1}) (And.intro (@upd_same) (And.intro (@List.take_succ_cons.{0}) (And.intro (@List.take_zero.{0}) (And.intro (@List.drop_succ_cons.{0}) (And.intro (@List.drop_zero.{0}) (And.intro (@List.take_nil.{0}) (And.intro (@List.drop_nil.{0}) (And.intro (@List.length_map.{0, 0}) (And.intro (@Int.add_sub_cancel) (And.intro (@List.length_set.{0}) (And.intro (@upd_upd) (And.intro (@Option.isSome_some.{0}) (And.intro (@ne_eq.{1}) (@not_false_eq_true))))))))))))))))))))))))))))))))))))))))))))))))))))))))))))))))))) := And.intro (@List.getD_cons_zero.{0}) (And.intro (@List.getD_cons_succ.{0}) (And.intro (@List.set_cons_zero.{0}) (And.intro (@List.set_cons_succ.{0}) (And.intro (@List.length_cons.{0}) (And.intro (@List.length_nil.{0}) (And.intro (@List.map_cons.{0, 0}) (And.intro (@List.map_nil.{0, 0}) (And.intro (@List.append_nil.{0}) (And.intro (@List.nil_append.{0}) (And.intro (@List.cons_append.{0}) (And.intro (@List.all_cons.{0}) (And.intro (@List.all_nil.{0}) (And.intro (@Bool.and_true) (And.intro (@Bool.and_self) (And.intro (@Option.bind_some.{0, 0}) (And.intro (@Option.map_some.{0, 0}) (And.intro (@List.getElem?_toArray.{0}) (And.intro (@List.getElem?_cons_zero.{0}) (And.intro (@List.getElem?_cons_succ.{0}) (And.intro (@true_and) (And.intro (@and_true) (And.intro (@and_self) (And.intro (@Option.some.injEq.{0}) (And.intro (@if_true.{1}) (And.intro (@implies_true.{0}) (And.intro (@implies_true.{1}) (And.intro (@imp_self) (And.intro (@List.toList_toArray.{0}) (And.intro (@Bool.false_eq_true) (And.intro (@Bool.true_eq_false) (And.intro (@false_and) (And.intro (@and_false) (And.intro (@List.filterMap_cons.{0, 0}) (And.intro (@beq_true) (And.intro (@beq_false) (And.intro (@Bool.not_eq_true') (And.intro (@Bool.not_eq_false') (And.intro (@true_implies) (And.intro (@Bool.cond_true_left) (And.intro (@Bool.cond_false_right) (And.intro (@Bool.not_not) (And.intro (@Bool.or_false) (And.intro (@Bool.false_or) (And.intro (@Bool.or_true) (And.intro (@Bool.true_or) (And.intro (@Bool.and_false) (And.intro (@Bool.false_and) (And.intro (@Bool.true_and) (And.intro (@Bool.not_true) (And.intro (@Bool.not_false) (And.intro (@cond_true.{1}) (And.intro (@cond_false.{1}) (And.intro (@upd_same) (And.intro (@List.take_succ_cons.{0}) (And.intro (@List.take_zero.{0}) (And.intro (@List.drop_succ_cons.{0}) (And.intro (@List.drop_zero.{0}) (And.intro (@List.take_nil.{0}) (And.intro (@List.drop_nil.{0}) (And.intro (@List.length_map.{0, 0}) (And.intro (@Int.add_sub_cancel) (And.intro (@List.length_set.{0}) (And.intro (@upd_upd) (And.intro (@Option.isSome_some.{0}) (And.intro (@ne_eq.{1}) (@not_false_eq_true))))))))))))))))))))))))))))))))))))))))))))))))))))))))))))))))))
theorem lemT : type_of% (And.intro (@ty1) (And.intro (@ty2) (And.intro (@ty3) (And.intro (@ty4) (And.intro (@ty5) (And.intro (@ty6) (And.intro (@ty7) (And.intro (@sd7) (And.intro (@fd7_0) (And.intro (@pl7_0) (And.intro (@fd7_1) (And.intro (@pl7_1) (And.intro (@fd7_2) (And.intro (@pl7_2) (And.intro (@fd7_3) (And.intro (@pl7_3) (And.intro (@at7) (And.intro (@ty9) (And.intro (@is9) (And.intro (@ty22) (And.intro (@el22) (And.intro (@ty23) (And.intro (@ty25) (And.intro (@sd25) (And.intro (@fd25_0) (And.intro (@pl25_0) (And.intro (@fd25_1) (And.intro (@pl25_1) (And.intro (@at25) (And.intro (@ty28) (And.intro (@ty29) (And.intro (@ty34) (And.intro (@ty38) (And.intro (@el38) (And.intro (@ty80) (And.intro (@el80) (And.intro (@ty82) (And.intro (@sd82) (And.intro (@fd82_0) (And.intro (@pl82_0) (And.intro (@fd82_1) (And.intro (@pl82_1) (And.intro (@fd82_2) (And.intro (@pl82_2) (And.intro (@fd82_3) (And.intro (@pl82_3) (And.intro (@at82) (And.intro (@ty83) (And.intro (@el83) (And.intro (@ty85) (And.intro (@sd85) (And.intro (@fd85_0) (And.intro (@pl85_0) (And.intro (@fd85_1) (And.intro (@pl85_1) (And.intro (@fd85_2) (And.intro (@pl85_2) (And.intro (@fd85_3) (And.intro (@pl85_3) (And.intro (@at85) (And.intro (@ty86) (And.intro (@ty89) (And.intro (@ty92) (And.intro (@sd92) (And.intro (@fd92_0) (And.intro (@pl92_0) (And.intro (@fd92_1) (And.intro (@pl92_1) (And.intro (@fd92_2) (And.intro (@pl92_2) (And.intro (@fd92_3) (And.intro (@pl92_3) (And.intro (@fd92_4) (And.intro (@pl92_4) (And.intro (@fd92_5) (And.intro (@pl92_5) (And.intro (@at92) (And.intro (@ty95) (And.intro (@ty99) (And.intro (@sd99) (And.intro (@fd99_0) (And.intro (@pl99_0) (And.intro (@fd99_1) (And.intro (@pl99_1) (And.intro (@fd99_2) (And.intro (@pl99_2) (And.intro (@fd99_3) (And.intro (@pl99_3) (And.intro (@fd99_4) (And.intro (@pl99_4) (And.intro (@at99) (And.intro (@ty105) (And.intro (@ty107) (And.intro (@ty166) (And.intro (@ty175) (@ty224)))))))))))))))))))))))))))))))))))))))))))))))))))))))))))))))))))))))))))))))))))))))))))))))) := And.intro (@ty1) (And.intro (@ty2) (And.intro (@ty3) (And.intro (@ty4) (And.intro (@ty5) (And.intro (@ty6) (And.intro (@ty7) (And.intro (@sd7) (And.intro (@fd7_0) (And.intro (@pl7_0) (And.intro (@fd7_1) (And.intro (@pl7_1) (And.intro (@fd7_2) (And.intro (@pl7_2) (And.intro (@fd7_3) (And.intro (@pl7_3) (And.intro (@at7) (And.intro (@ty9) (And.intro (@is9) (And.intro (@ty22) (And.intro (@el22) (And.intro (@ty23) (And.intro (@ty25) (And.intro (@sd25) (And.intro (@fd25_0) (And.intro (@pl25_0) (And.intro (@fd25_1) (And.intro (@pl25_1) (And.intro (@at25) (And.intro (@ty28) (And.intro (@ty29) (And.intro (@ty34) (And.intro (@ty38) (And.intro (@el38) (And.intro (@ty80) (And.intro (@el80) (And.intro (@ty82) (And.intro (@sd82) (And.intro (@fd82_0) (And.intro (@pl82_0) (And.intro (@fd82_1) (And.intro (@pl82_1) (And.intro (@fd82_2) (And.intro (@pl82_2) (And.intro (@fd82_3) (And.intro (@pl82_3) (And.intro (@at82) (And.intro (@ty83) (And.intro (@el83) (And.intro (@ty85) (And.intro (@sd85) (And.intro (@fd85_0) (And.intro (@pl85_0) (And.intro (@fd85_1) (And.intro (@pl85_1) (And.intro (@fd85_2) (And.intro (@pl85_2) (And.intro (@fd85_3) (And.intro (@pl85_3) (And.intro (@at85) (And.intro (@ty86) (And.intro (@ty89) (And.intro (@ty92) (And.intro (@sd92) (And.intro (@fd92_0) (And.intro (@pl92_0) (And.intro (@fd92_1) (And.intro (@pl92_1) (And.intro (@fd92_2) (And.intro (@pl92_2) (And.intro (@fd92_3) (And.intro (@pl92_3) (And.intro (@fd92_4) (And.intro (@pl92_4) (And.intro (@fd92_5) (And.intro (@pl92_5) (And.intro (@at92) (And.intro (@ty95) (And.intro (@ty99) (And.intro (@sd99) (And.intro (@fd99_0) (And.intro (@pl99_0) (And.intro (@fd99_1) (And.intro (@pl99_1) (And.intro (@fd99_2) (And.intro (@pl99_2) (And.intro (@fd99_3) (And.intro (@pl99_3) (And.intro (@fd99_4) (And.intro (@pl99_4) (And.intro (@at99) (And.intro (@ty105) (And.intro (@ty107) (And.intro (@ty166) (And.intro (@ty175) (@ty224)))))))))))))))))))))))))))))))))))))))))))))))))))))))))))))))))))))))))))))))))))))))))))))))
attribute [go_sem] vOps retQ resV resL res1 Nat.zero_add St.keep keepL_nil keepL_c1 keepL_c0 keepL_jnk cutLoc jnk_zero jnk_jnk getD_jnk_lt getD_jnk_ge set_jnk_lt set_jnk_ge gStep condG qV binV vV iV sV bV nV arV pickE joinA joinOk isOpt vEff binE vBin iBin sBin arith nilOf nBin boolOk okEqs okEqs1 eqL convI storeE newE sliceE appE lenE minE biE bndE cellsAt isB8 ldOk ld TyD.isAgg AV.shift AV.isAddr AV.cellsB AV.noLoc rowOf litRow fillA opS uside unw evL cv St.put opsOf Value.oneCell' vIdx stepI vRest reL reI mdL splice bef aft isCallB isCallV lookE updE lookR zeroA aggK cutE appS elemI rangeE nextE entryE rowX fnE ptrS ptrV ptrE arrNil ptrZ cellO lemA lemT
section
variable {c : Cx} {Q : Exit → St → Prop} {s : St} {all : Array Oper} {id : Nat} {y : Code}
theorem gE {f : Nat} {fn : Func} {code : Code} {args : List AV} {h : Hp} {R : AV → Hp → Prop} (hf : Tryz.prog.funcs[f]? = some fn) (hb : fn.body = some code) (hok : fnOk Tryz.prog f = true) (m : Nat) (hm : fn.ntmps - args.length = m) (hw : ∀ c : Cx, Awp Tryz.prog c code (retQ ty fn.results.toList R) ⟨args ++ jnk m [], [], h⟩) : ACalls Tryz.prog f args h R := acalls_in tyok hf hb hok m hm hw
theorem rI {rs : List ResultVar} {R : AV → Hp → Prop} (h : retQ ty rs R .ret s) : retQ ty rs R .ret s := h
theorem gO {A B : Prop} {t : Bool} [h : Stp Tryz.prog ty A B t] (ht : t = true) (hb : B) : A := h.sound ht hb
theorem gQ {A B : Prop} {t : Bool} [h : Stq Tryz.prog ty A B t] (ht : t = true) (hb : B) : A := h.sound ht hb
theorem gR {A : Prop} {N : St → Prop} {V : (St → Prop) → Prop} [h : Str Tryz.prog ty (mdL []) A N V] (hb : ∀ K1 : St → Prop, (∀ s', N s' → K1 s') → V K1) : A := h.sound tyok hb
theorem gM (md : Option Tmp → Nat) {A : Prop} {N : St → Prop} {V : (St → Prop) → Prop} [h : Str Tryz.prog ty md A N V] (hb : ∀ K1 : St → Prop, (∀ s', N s' → K1 s') → V K1) : A := h.sound tyok hb
theorem kS (h : ∀ K1 : St → Prop, (∀ s', vRem Tryz.prog ty (mdL []) all (aft all.toList) s' (Awp Tryz.prog c y Q) → K1 s') → vOps Tryz.prog ty (mdL []) all (bef all.toList) s K1) : Awp Tryz.prog c (.seq (.region id all false) y) Q s := wS tyok _ h
theorem uD (id : Nat) (md : Option Tmp → Nat) (E0 : List Nat) (pl : List (Nat × List Nat × List Nat)) (n : Nat) (hn : s.sl.length = n) (hok : drawOk md all n E0 pl = true) (h : ∀ K1 : St → Prop, (∀ s', vRst Tryz.prog ty md all pl s' (Awp Tryz.prog c y Q) → K1 s') → vIdx Tryz.prog ty md all E0 s K1) : Awp Tryz.prog c (.seq (.region id all true) y) Q s := awp_seqD2 tyok (by kernel_rfl) md n hn hok h
theorem uE (id : Nat) (md : Option Tmp → Nat) (E0 : List Nat) (pl : List (Nat × List Nat × List Nat)) (n : Nat) (hn : s.sl.length = n) (hok : drawOk md all n E0 pl = true) (h : ∀ K1 : St → Prop, (∀ s', vRst Tryz.prog ty md all pl s' (Q .normal) → K1 s') → vIdx Tryz.prog ty md all E0 s K1) : Awp Tryz.prog c (.region id all true) Q s := awp_draw2 tyok (by kernel_rfl) md n hn hok h
end
end Go.Proofs.YtfkbaghinemmkaaGreatDoor

