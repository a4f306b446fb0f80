/- The types of this program, as facts. -/
import Derived.Test.YtidkkmoiolffnaaGreatDoorAvRun
import Derived.Test.YtidkkmoiolffnaaGreatDoorProg
namespace Go.Proofs.YtidkkmoiolffnaaGreatDoor
open Go
set_option linter.unusedVariables false
set_option linter.unusedSimpArgs false
noncomputable def ty:Nat→Option TyD:=tyd Tryz.prog
theorem tyok:TyOk Tryz.prog ty:=fun _ _ h=>h
theorem ty1:ty 1=some ⟨1,8,.func,[.v (.nilFunc)],[]⟩:=by kernel_rfl
theorem ty2:ty 2=some ⟨1,8,.int .i64,[.v (.int .i64 0)],[]⟩:=by kernel_rfl
theorem ty3:ty 3=some ⟨1,8,.int .i64,[.v (.int .i64 0)],[]⟩:=by kernel_rfl
theorem ty4:ty 4=some ⟨1,1,.bool,[.v (.bool false)],[]⟩:=by kernel_rfl
theorem ty5:ty 5=some ⟨1,1,.int .u8,[.v (.int .u8 0)],[]⟩:=by kernel_rfl
theorem ty6:ty 6=some ⟨1,1,.int .u8,[.v (.int .u8 0)],[]⟩:=by kernel_rfl
theorem ty9:ty 9=some ⟨1,16,.str,[.v (.string ⟨#[]⟩)],[]⟩:=by kernel_rfl
theorem is9:isStr ty 9=true:=by kernel_rfl
theorem ty12:ty 12=some ⟨1,8,.int .u64,[.v (.int .u64 0)],[]⟩:=by kernel_rfl
theorem ty22:ty 22=some ⟨1,24,.slice 3,[.v (.slice none 0 0)],[]⟩:=by kernel_rfl
theorem el22:elemD ty 22=some ⟨1,8,.int .i64,[.v (.int .i64 0)],[]⟩:=by kernel_rfl
theorem ty23:ty 23=some ⟨1,8,.ptr 25,[.v (.pointer none)],[]⟩:=by kernel_rfl
theorem ty25:ty 25=some ⟨2,32,.struct [(0,22),(1,3)],[.v (.slice none 0 0),.v (.int .i64 0)],[]⟩:=by kernel_rfl
theorem sd25:structD ty 25=some ⟨2,32,.struct [(0,22),(1,3)],[.v (.slice none 0 0),.v (.int .i64 0)],[]⟩:=by kernel_rfl
theorem fd25_0:fdd ty 25 0=some (0,⟨1,24,.slice 3,[.v (.slice none 0 0)],[]⟩):=by kernel_rfl
theorem pl25_0:places ty 25 0=some (0,1):=by kernel_rfl
theorem fd25_1:fdd ty 25 1=some (1,⟨1,8,.int .i64,[.v (.int .i64 0)],[]⟩):=by kernel_rfl
theorem pl25_1:places ty 25 1=some (1,1):=by kernel_rfl
theorem at25:allTy ty ⟨2,32,.struct [(0,22),(1,3)],[.v (.slice none 0 0),.v (.int .i64 0)],[]⟩=true:=by kernel_rfl
theorem ty26:ty 26=some ⟨1,24,.slice 28,[.v (.slice none 0 0)],[]⟩:=by kernel_rfl
theorem el26:elemD ty 26=some ⟨6,88,.struct [(0,3),(1,9),(2,3),(3,3),(4,26),(5,22)],[.v (.int .i64 0),.v (.string ⟨#[]⟩),.v (.int .i64 0),.v (.int .i64 0),.v (.slice none 0 0),.v (.slice none 0 0)],[]⟩:=by kernel_rfl
theorem ty28:ty 28=some ⟨6,88,.struct [(0,3),(1,9),(2,3),(3,3),(4,26),(5,22)],[.v (.int .i64 0),.v (.string ⟨#[]⟩),.v (.int .i64 0),.v (.int .i64 0),.v (.slice none 0 0),.v (.slice none 0 0)],[]⟩:=by kernel_rfl
theorem sd28:structD ty 28=some ⟨6,88,.struct [(0,3),(1,9),(2,3),(3,3),(4,26),(5,22)],[.v (.int .i64 0),.v (.string ⟨#[]⟩),.v (.int .i64 0),.v (.int .i64 0),.v (.slice none 0 0),.v (.slice none 0 0)],[]⟩:=by kernel_rfl
theorem fd28_0:fdd ty 28 0=some (0,⟨1,8,.int .i64,[.v (.int .i64 0)],[]⟩):=by kernel_rfl
theorem pl28_0:places ty 28 0=some (0,1):=by kernel_rfl
theorem fd28_1:fdd ty 28 1=some (1,⟨1,16,.str,[.v (.string ⟨#[]⟩)],[]⟩):=by kernel_rfl
theorem pl28_1:places ty 28 1=some (1,1):=by kernel_rfl
theorem fd28_2:fdd ty 28 2=some (2,⟨1,8,.int .i64,[.v (.int .i64 0)],[]⟩):=by kernel_rfl
theorem pl28_2:places ty 28 2=some (2,1):=by kernel_rfl
theorem fd28_3:fdd ty 28 3=some (3,⟨1,8,.int .i64,[.v (.int .i64 0)],[]⟩):=by kernel_rfl
theorem pl28_3:places ty 28 3=some (3,1):=by kernel_rfl
theorem fd28_4:fdd ty 28 4=some (4,⟨1,24,.slice 28,[.v (.slice none 0 0)],[]⟩):=by kernel_rfl
theorem pl28_4:places ty 28 4=some (4,1):=by kernel_rfl
theorem fd28_5:fdd ty 28 5=some (5,⟨1,24,.slice 3,[.v (.slice none 0 0)],[]⟩):=by kernel_rfl
theorem pl28_5:places ty 28 5=some (5,1):=by kernel_rfl
theorem at28:allTy ty ⟨6,88,.struct [(0,3),(1,9),(2,3),(3,3),(4,26),(5,22)],[.v (.int .i64 0),.v (.string ⟨#[]⟩),.v (.int .i64 0),.v (.int .i64 0),.v (.slice none 0 0),.v (.slice none 0 0)],[]⟩=true:=by kernel_rfl
theorem ty31:ty 31=some ⟨1,8,.int .i64,[.v (.int .i64 0)],[]⟩:=by kernel_rfl
theorem ty35:ty 35=some ⟨1,24,.slice 40,[.v (.slice none 0 0)],[]⟩:=by kernel_rfl
theorem el35:elemD ty 35=some ⟨2,24,.struct [(0,9),(1,3)],[.v (.string ⟨#[]⟩),.v (.int .i64 0)],[.s,.i]⟩:=by kernel_rfl
theorem ty40:ty 40=some ⟨2,24,.struct [(0,9),(1,3)],[.v (.string ⟨#[]⟩),.v (.int .i64 0)],[.s,.i]⟩:=by kernel_rfl
theorem sd40:structD ty 40=some ⟨2,24,.struct [(0,9),(1,3)],[.v (.string ⟨#[]⟩),.v (.int .i64 0)],[.s,.i]⟩:=by kernel_rfl
theorem fd40_0:fdd ty 40 0=some (0,⟨1,16,.str,[.v (.string ⟨#[]⟩)],[]⟩):=by kernel_rfl
theorem pl40_0:places ty 40 0=some (0,1):=by kernel_rfl
theorem fd40_1:fdd ty 40 1=some (1,⟨1,8,.int .i64,[.v (.int .i64 0)],[]⟩):=by kernel_rfl
theorem pl40_1:places ty 40 1=some (1,1):=by kernel_rfl
theorem at40:allTy ty ⟨2,24,.struct [(0,9),(1,3)],[.v (.string ⟨#[]⟩),.v (.int .i64 0)],[.s,.i]⟩=true:=by kernel_rfl
theorem ty44:ty 44=some ⟨1,24,.slice 9,[.v (.slice none 0 0)],[]⟩:=by kernel_rfl
theorem el44:elemD ty 44=some ⟨1,16,.str,[.v (.string ⟨#[]⟩)],[]⟩:=by kernel_rfl
theorem ty47:ty 47=some ⟨1,24,.slice 53,[.v (.slice none 0 0)],[]⟩:=by kernel_rfl
theorem el47:elemD ty 47=some ⟨5,48,.struct [(0,9),(1,51),(3,51)],[.v (.string ⟨#[]⟩),.v (.int .i64 0),.v (.int .i64 0),.v (.int .i64 0),.v (.int .i64 0)],[]⟩:=by kernel_rfl
theorem ty51:ty 51=some ⟨2,16,.struct [(0,3),(1,3)],[.v (.int .i64 0),.v (.int .i64 0)],[.i,.i]⟩:=by kernel_rfl
theorem sd51:structD ty 51=some ⟨2,16,.struct [(0,3),(1,3)],[.v (.int .i64 0),.v (.int .i64 0)],[.i,.i]⟩:=by kernel_rfl
theorem fd51_0:fdd ty 51 0=some (0,⟨1,8,.int .i64,[.v (.int .i64 0)],[]⟩):=by kernel_rfl
theorem pl51_0:places ty 51 0=some (0,1):=by kernel_rfl
theorem fd51_1:fdd ty 51 1=some (1,⟨1,8,.int .i64,[.v (.int .i64 0)],[]⟩):=by kernel_rfl
theorem pl51_1:places ty 51 1=some (1,1):=by kernel_rfl
theorem at51:allTy ty ⟨2,16,.struct [(0,3),(1,3)],[.v (.int .i64 0),.v (.int .i64 0)],[.i,.i]⟩=true:=by kernel_rfl
theorem ty53:ty 53=some ⟨5,48,.struct [(0,9),(1,51),(3,51)],[.v (.string ⟨#[]⟩),.v (.int .i64 0),.v (.int .i64 0),.v (.int .i64 0),.v (.int .i64 0)],[]⟩:=by kernel_rfl
theorem sd53:structD ty 53=some ⟨5,48,.struct [(0,9),(1,51),(3,51)],[.v (.string ⟨#[]⟩),.v (.int .i64 0),.v (.int .i64 0),.v (.int .i64 0),.v (.int .i64 0)],[]⟩:=by kernel_rfl
theorem fd53_0:fdd ty 53 0=some (0,⟨1,16,.str,[.v (.string ⟨#[]⟩)],[]⟩):=by kernel_rfl
theorem pl53_0:places ty 53 0=some (0,1):=by kernel_rfl
theorem fd53_1:fdd ty 53 1=some (1,⟨2,16,.struct [(0,3),(1,3)],[.v (.int .i64 0),.v (.int .i64 0)],[.i,.i]⟩):=by kernel_rfl
theorem pl53_1:places ty 53 1=some (1,2):=by kernel_rfl
theorem fd53_2:fdd ty 53 2=some (3,⟨2,16,.struct [(0,3),(1,3)],[.v (.int .i64 0),.v (.int .i64 0)],[.i,.i]⟩):=by kernel_rfl
theorem pl53_2:places ty 53 2=some (3,2):=by kernel_rfl
theorem at53:allTy ty ⟨5,48,.struct [(0,9),(1,51),(3,51)],[.v (.string ⟨#[]⟩),.v (.int .i64 0),.v (.int .i64 0),.v (.int .i64 0),.v (.int .i64 0)],[]⟩=true:=by kernel_rfl
theorem ty66:ty 66=some ⟨1,24,.slice 81,[.v (.slice none 0 0)],[]⟩:=by kernel_rfl
theorem el66:elemD ty 66=some ⟨3,32,.struct [(0,9),(1,69)],[.v (.string ⟨#[]⟩),.v (.int .i64 0),.v (.int .i64 0)],[]⟩:=by kernel_rfl
theorem ty69:ty 69=some ⟨2,16,.struct [(0,3),(1,3)],[.v (.int .i64 0),.v (.int .i64 0)],[.i,.i]⟩:=by kernel_rfl
theorem sd69:structD ty 69=some ⟨2,16,.struct [(0,3),(1,3)],[.v (.int .i64 0),.v (.int .i64 0)],[.i,.i]⟩:=by kernel_rfl
theorem fd69_0:fdd ty 69 0=some (0,⟨1,8,.int .i64,[.v (.int .i64 0)],[]⟩):=by kernel_rfl
theorem pl69_0:places ty 69 0=some (0,1):=by kernel_rfl
theorem fd69_1:fdd ty 69 1=some (1,⟨1,8,.int .i64,[.v (.int .i64 0)],[]⟩):=by kernel_rfl
theorem pl69_1:places ty 69 1=some (1,1):=by kernel_rfl
theorem at69:allTy ty ⟨2,16,.struct [(0,3),(1,3)],[.v (.int .i64 0),.v (.int .i64 0)],[.i,.i]⟩=true:=by kernel_rfl
theorem ty73:ty 73=some ⟨1,24,.slice 79,[.v (.slice none 0 0)],[]⟩:=by kernel_rfl
theorem el73:elemD ty 73=some ⟨4,48,.struct [(0,9),(1,9),(2,3),(3,3)],[.v (.string ⟨#[]⟩),.v (.string ⟨#[]⟩),.v (.int .i64 0),.v (.int .i64 0)],[.s,.s,.i,.i]⟩:=by kernel_rfl
theorem ty77:ty 77=some ⟨1,24,.slice 73,[.v (.slice none 0 0)],[]⟩:=by kernel_rfl
theorem el77:elemD ty 77=some ⟨1,24,.slice 79,[.v (.slice none 0 0)],[]⟩:=by kernel_rfl
theorem ty79:ty 79=some ⟨4,48,.struct [(0,9),(1,9),(2,3),(3,3)],[.v (.string ⟨#[]⟩),.v (.string ⟨#[]⟩),.v (.int .i64 0),.v (.int .i64 0)],[.s,.s,.i,.i]⟩:=by kernel_rfl
theorem sd79:structD ty 79=some ⟨4,48,.struct [(0,9),(1,9),(2,3),(3,3)],[.v (.string ⟨#[]⟩),.v (.string ⟨#[]⟩),.v (.int .i64 0),.v (.int .i64 0)],[.s,.s,.i,.i]⟩:=by kernel_rfl
theorem fd79_0:fdd ty 79 0=some (0,⟨1,16,.str,[.v (.string ⟨#[]⟩)],[]⟩):=by kernel_rfl
theorem pl79_0:places ty 79 0=some (0,1):=by kernel_rfl
theorem fd79_1:fdd ty 79 1=some (1,⟨1,16,.str,[.v (.string ⟨#[]⟩)],[]⟩):=by kernel_rfl
theorem pl79_1:places ty 79 1=some (1,1):=by kernel_rfl
theorem fd79_2:fdd ty 79 2=some (2,⟨1,8,.int .i64,[.v (.int .i64 0)],[]⟩):=by kernel_rfl
theorem pl79_2:places ty 79 2=some (2,1):=by kernel_rfl
theorem fd79_3:fdd ty 79 3=some (3,⟨1,8,.int .i64,[.v (.int .i64 0)],[]⟩):=by kernel_rfl
theorem pl79_3:places ty 79 3=some (3,1):=by kernel_rfl
theorem at79:allTy ty ⟨4,48,.struct [(0,9),(1,9),(2,3),(3,3)],[.v (.string ⟨#[]⟩),.v (.string ⟨#[]⟩),.v (.int .i64 0),.v (.int .i64 0)],[.s,.s,.i,.i]⟩=true:=by kernel_rfl
theorem ty81:ty 81=some ⟨3,32,.struct [(0,9),(1,69)],[.v (.string ⟨#[]⟩),.v (.int .i64 0),.v (.int .i64 0)],[]⟩:=by kernel_rfl
theorem sd81:structD ty 81=some ⟨3,32,.struct [(0,9),(1,69)],[.v (.string ⟨#[]⟩),.v (.int .i64 0),.v (.int .i64 0)],[]⟩:=by kernel_rfl
theorem fd81_0:fdd ty 81 0=some (0,⟨1,16,.str,[.v (.string ⟨#[]⟩)],[]⟩):=by kernel_rfl
theorem pl81_0:places ty 81 0=some (0,1):=by kernel_rfl
theorem fd81_1:fdd ty 81 1=some (1,⟨2,16,.struct [(0,3),(1,3)],[.v (.int .i64 0),.v (.int .i64 0)],[.i,.i]⟩):=by kernel_rfl
theorem pl81_1:places ty 81 1=some (1,2):=by kernel_rfl
theorem at81:allTy ty ⟨3,32,.struct [(0,9),(1,69)],[.v (.string ⟨#[]⟩),.v (.int .i64 0),.v (.int .i64 0)],[]⟩=true:=by kernel_rfl
theorem ty83:ty 83=some ⟨1,8,.func,[.v (.nilFunc)],[]⟩:=by kernel_rfl
theorem ty84:ty 84=some ⟨1,24,.slice 110,[.v (.slice none 0 0)],[]⟩:=by kernel_rfl
theorem el84:elemD ty 84=some ⟨3,24,.struct [(0,69),(2,3)],[.v (.int .i64 0),.v (.int .i64 0),.v (.int .i64 0)],[]⟩:=by kernel_rfl
theorem ty110:ty 110=some ⟨3,24,.struct [(0,69),(2,3)],[.v (.int .i64 0),.v (.int .i64 0),.v (.int .i64 0)],[]⟩:=by kernel_rfl
theorem sd110:structD ty 110=some ⟨3,24,.struct [(0,69),(2,3)],[.v (.int .i64 0),.v (.int .i64 0),.v (.int .i64 0)],[]⟩:=by kernel_rfl
theorem fd110_0:fdd ty 110 0=some (0,⟨2,16,.struct [(0,3),(1,3)],[.v (.int .i64 0),.v (.int .i64 0)],[.i,.i]⟩):=by kernel_rfl
theorem pl110_0:places ty 110 0=some (0,2):=by kernel_rfl
theorem fd110_1:fdd ty 110 1=some (2,⟨1,8,.int .i64,[.v (.int .i64 0)],[]⟩):=by kernel_rfl
theorem pl110_1:places ty 110 1=some (2,1):=by kernel_rfl
theorem at110:allTy ty ⟨3,24,.struct [(0,69),(2,3)],[.v (.int .i64 0),.v (.int .i64 0),.v (.int .i64 0)],[]⟩=true:=by kernel_rfl
theorem ty145:ty 145=some ⟨3,40,.struct [(0,3),(1,35),(2,3)],[.v (.int .i64 0),.v (.slice none 0 0),.v (.int .i64 0)],[]⟩:=by kernel_rfl
theorem sd145:structD ty 145=some ⟨3,40,.struct [(0,3),(1,35),(2,3)],[.v (.int .i64 0),.v (.slice none 0 0),.v (.int .i64 0)],[]⟩:=by kernel_rfl
theorem fd145_0:fdd ty 145 0=some (0,⟨1,8,.int .i64,[.v (.int .i64 0)],[]⟩):=by kernel_rfl
theorem pl145_0:places ty 145 0=some (0,1):=by kernel_rfl
theorem fd145_1:fdd ty 145 1=some (1,⟨1,24,.slice 40,[.v (.slice none 0 0)],[]⟩):=by kernel_rfl
theorem pl145_1:places ty 145 1=some (1,1):=by kernel_rfl
theorem fd145_2:fdd ty 145 2=some (2,⟨1,8,.int .i64,[.v (.int .i64 0)],[]⟩):=by kernel_rfl
theorem pl145_2:places ty 145 2=some (2,1):=by kernel_rfl
theorem at145:allTy ty ⟨3,40,.struct [(0,3),(1,35),(2,3)],[.v (.int .i64 0),.v (.slice none 0 0),.v (.int .i64 0)],[]⟩=true:=by kernel_rfl
theorem ty151:ty 151=some ⟨1,24,.slice 154,[.v (.slice none 0 0)],[]⟩:=by kernel_rfl
theorem el151:elemD ty 151=some ⟨1,24,.slice 153,[.v (.slice none 0 0)],[]⟩:=by kernel_rfl
theorem ty153:ty 153=some ⟨6,80,.struct [(0,9),(1,3),(2,9),(3,3),(4,4),(5,151)],[.v (.string ⟨#[]⟩),.v (.int .i64 0),.v (.string ⟨#[]⟩),.v (.int .i64 0),.v (.bool false),.v (.slice none 0 0)],[]⟩:=by kernel_rfl
theorem sd153:structD ty 153=some ⟨6,80,.struct [(0,9),(1,3),(2,9),(3,3),(4,4),(5,151)],[.v (.string ⟨#[]⟩),.v (.int .i64 0),.v (.string ⟨#[]⟩),.v (.int .i64 0),.v (.bool false),.v (.slice none 0 0)],[]⟩:=by kernel_rfl
theorem fd153_0:fdd ty 153 0=some (0,⟨1,16,.str,[.v (.string ⟨#[]⟩)],[]⟩):=by kernel_rfl
theorem pl153_0:places ty 153 0=some (0,1):=by kernel_rfl
theorem fd153_1:fdd ty 153 1=some (1,⟨1,8,.int .i64,[.v (.int .i64 0)],[]⟩):=by kernel_rfl
theorem pl153_1:places ty 153 1=some (1,1):=by kernel_rfl
theorem fd153_2:fdd ty 153 2=some (2,⟨1,16,.str,[.v (.string ⟨#[]⟩)],[]⟩):=by kernel_rfl
theorem pl153_2:places ty 153 2=some (2,1):=by kernel_rfl
theorem fd153_3:fdd ty 153 3=some (3,⟨1,8,.int .i64,[.v (.int .i64 0)],[]⟩):=by kernel_rfl
theorem pl153_3:places ty 153 3=some (3,1):=by kernel_rfl
theorem fd153_4:fdd ty 153 4=some (4,⟨1,1,.bool,[.v (.bool false)],[]⟩):=by kernel_rfl
theorem pl153_4:places ty 153 4=some (4,1):=by kernel_rfl
theorem fd153_5:fdd ty 153 5=some (5,⟨1,24,.slice 154,[.v (.slice none 0 0)],[]⟩):=by kernel_rfl
theorem pl153_5:places ty 153 5=some (5,1):=by kernel_rfl
theorem at153:allTy ty ⟨6,80,.struct [(0,9),(1,3),(2,9),(3,3),(4,4),(5,151)],[.v (.string ⟨#[]⟩),.v (.int .i64 0),.v (.string ⟨#[]⟩),.v (.int .i64 0),.v (.bool false),.v (.slice none 0 0)],[]⟩=true:=by kernel_rfl
theorem ty154:ty 154=some ⟨1,24,.slice 153,[.v (.slice none 0 0)],[]⟩:=by kernel_rfl
theorem el154:elemD ty 154=some ⟨6,80,.struct [(0,9),(1,3),(2,9),(3,3),(4,4),(5,151)],[.v (.string ⟨#[]⟩),.v (.int .i64 0),.v (.string ⟨#[]⟩),.v (.int .i64 0),.v (.bool false),.v (.slice none 0 0)],[]⟩:=by kernel_rfl
theorem ty157:ty 157=some ⟨1,8,.ptr 267,[.v (.pointer none)],[]⟩:=by kernel_rfl
theorem ty159:ty 159=some ⟨1,8,.ptr 161,[.v (.pointer none)],[]⟩:=by kernel_rfl
theorem ty161:ty 161=some ⟨2,32,.struct [(0,35),(1,3)],[.v (.slice none 0 0),.v (.int .i64 0)],[]⟩:=by kernel_rfl
theorem sd161:structD ty 161=some ⟨2,32,.struct [(0,35),(1,3)],[.v (.slice none 0 0),.v (.int .i64 0)],[]⟩:=by kernel_rfl
theorem fd161_0:fdd ty 161 0=some (0,⟨1,24,.slice 40,[.v (.slice none 0 0)],[]⟩):=by kernel_rfl
theorem pl161_0:places ty 161 0=some (0,1):=by kernel_rfl
theorem fd161_1:fdd ty 161 1=some (1,⟨1,8,.int .i64,[.v (.int .i64 0)],[]⟩):=by kernel_rfl
theorem pl161_1:places ty 161 1=some (1,1):=by kernel_rfl
theorem at161:allTy ty ⟨2,32,.struct [(0,35),(1,3)],[.v (.slice none 0 0),.v (.int .i64 0)],[]⟩=true:=by kernel_rfl
theorem ty166:ty 166=some ⟨1,8,.map 9 172,[.v (.map none)],[]⟩:=by kernel_rfl
theorem mp166:mapD ty 166=some ⟨1,8,.ptr 175,[.v (.pointer none)],[]⟩:=by kernel_rfl
theorem ty170:ty 170=some ⟨1,8,.func,[.v (.nilFunc)],[]⟩:=by kernel_rfl
theorem ty172:ty 172=some ⟨1,8,.ptr 175,[.v (.pointer none)],[]⟩:=by kernel_rfl
theorem ty175:ty 175=some ⟨2,16,.struct [(0,3),(1,3)],[.v (.int .i64 0),.v (.int .i64 0)],[.i,.i]⟩:=by kernel_rfl
theorem sd175:structD ty 175=some ⟨2,16,.struct [(0,3),(1,3)],[.v (.int .i64 0),.v (.int .i64 0)],[.i,.i]⟩:=by kernel_rfl
theorem fd175_0:fdd ty 175 0=some (0,⟨1,8,.int .i64,[.v (.int .i64 0)],[]⟩):=by kernel_rfl
theorem pl175_0:places ty 175 0=some (0,1):=by kernel_rfl
theorem fd175_1:fdd ty 175 1=some (1,⟨1,8,.int .i64,[.v (.int .i64 0)],[]⟩):=by kernel_rfl
theorem pl175_1:places ty 175 1=some (1,1):=by kernel_rfl
theorem at175:allTy ty ⟨2,16,.struct [(0,3),(1,3)],[.v (.int .i64 0),.v (.int .i64 0)],[.i,.i]⟩=true:=by kernel_rfl
theorem ty183:ty 183=some ⟨1,8,.map 9 4,[.v (.map none)],[]⟩:=by kernel_rfl
theorem mp183:mapD ty 183=some ⟨1,1,.bool,[.v (.bool false)],[]⟩:=by kernel_rfl
theorem ty187:ty 187=some ⟨1,8,.ptr 192,[.v (.pointer none)],[]⟩:=by kernel_rfl
theorem ty192:ty 192=some ⟨11,136,.struct [(0,145),(3,69),(5,3),(6,73),(7,73),(8,3),(9,3),(10,4)],[.v (.int .i64 0),.v (.slice none 0 0),.v (.int .i64 0),.v (.int .i64 0),.v (.int .i64 0),.v (.int .i64 0),.v (.slice none 0 0),.v (.slice none 0 0),.v (.int .i64 0),.v (.int .i64 0),.v (.bool false)],[]⟩:=by kernel_rfl
theorem sd192:structD ty 192=some ⟨11,136,.struct [(0,145),(3,69),(5,3),(6,73),(7,73),(8,3),(9,3),(10,4)],[.v (.int .i64 0),.v (.slice none 0 0),.v (.int .i64 0),.v (.int .i64 0),.v (.int .i64 0),.v (.int .i64 0),.v (.slice none 0 0),.v (.slice none 0 0),.v (.int .i64 0),.v (.int .i64 0),.v (.bool false)],[]⟩:=by kernel_rfl
theorem fd192_0:fdd ty 192 0=some (0,⟨3,40,.struct [(0,3),(1,35),(2,3)],[.v (.int .i64 0),.v (.slice none 0 0),.v (.int .i64 0)],[]⟩):=by kernel_rfl
theorem pl192_0:places ty 192 0=some (0,3):=by kernel_rfl
theorem fd192_1:fdd ty 192 1=some (3,⟨2,16,.struct [(0,3),(1,3)],[.v (.int .i64 0),.v (.int .i64 0)],[.i,.i]⟩):=by kernel_rfl
theorem pl192_1:places ty 192 1=some (3,2):=by kernel_rfl
theorem fd192_2:fdd ty 192 2=some (5,⟨1,8,.int .i64,[.v (.int .i64 0)],[]⟩):=by kernel_rfl
theorem pl192_2:places ty 192 2=some (5,1):=by kernel_rfl
theorem fd192_3:fdd ty 192 3=some (6,⟨1,24,.slice 79,[.v (.slice none 0 0)],[]⟩):=by kernel_rfl
theorem pl192_3:places ty 192 3=some (6,1):=by kernel_rfl
theorem fd192_4:fdd ty 192 4=some (7,⟨1,24,.slice 79,[.v (.slice none 0 0)],[]⟩):=by kernel_rfl
theorem pl192_4:places ty 192 4=some (7,1):=by kernel_rfl
theorem fd192_5:fdd ty 192 5=some (8,⟨1,8,.int .i64,[.v (.int .i64 0)],[]⟩):=by kernel_rfl
theorem pl192_5:places ty 192 5=some (8,1):=by kernel_rfl
theorem fd192_6:fdd ty 192 6=some (9,⟨1,8,.int .i64,[.v (.int .i64 0)],[]⟩):=by kernel_rfl
theorem pl192_6:places ty 192 6=some (9,1):=by kernel_rfl
theorem fd192_7:fdd ty 192 7=some (10,⟨1,1,.bool,[.v (.bool false)],[]⟩):=by kernel_rfl
theorem pl192_7:places ty 192 7=some (10,1):=by kernel_rfl
theorem at192:allTy ty ⟨11,136,.struct [(0,145),(3,69),(5,3),(6,73),(7,73),(8,3),(9,3),(10,4)],[.v (.int .i64 0),.v (.slice none 0 0),.v (.int .i64 0),.v (.int .i64 0),.v (.int .i64 0),.v (.int .i64 0),.v (.slice none 0 0),.v (.slice none 0 0),.v (.int .i64 0),.v (.int .i64 0),.v (.bool false)],[]⟩=true:=by kernel_rfl
theorem ty194:ty 194=some ⟨1,8,.func,[.v (.nilFunc)],[]⟩:=by kernel_rfl
theorem ty196:ty 196=some ⟨1,24,.slice 166,[.v (.slice none 0 0)],[]⟩:=by kernel_rfl
theorem el196:elemD ty 196=some ⟨1,8,.map 9 172,[.v (.map none)],[]⟩:=by kernel_rfl
theorem ty202:ty 202=some ⟨1,8,.ptr 205,[.v (.pointer none)],[]⟩:=by kernel_rfl
theorem ty203:ty 203=some ⟨1,24,.slice 5,[.v (.slice none 0 0)],[]⟩:=by kernel_rfl
theorem el203:elemD ty 203=some ⟨1,1,.int .u8,[.v (.int .u8 0)],[]⟩:=by kernel_rfl
theorem ty205:ty 205=some ⟨2,32,.struct [(0,202),(1,203)],[.v (.pointer none),.v (.slice none 0 0)],[]⟩:=by kernel_rfl
theorem sd205:structD ty 205=some ⟨2,32,.struct [(0,202),(1,203)],[.v (.pointer none),.v (.slice none 0 0)],[]⟩:=by kernel_rfl
theorem fd205_0:fdd ty 205 0=some (0,⟨1,8,.ptr 205,[.v (.pointer none)],[]⟩):=by kernel_rfl
theorem pl205_0:places ty 205 0=some (0,1):=by kernel_rfl
theorem fd205_1:fdd ty 205 1=some (1,⟨1,24,.slice 5,[.v (.slice none 0 0)],[]⟩):=by kernel_rfl
theorem pl205_1:places ty 205 1=some (1,1):=by kernel_rfl
theorem at205:allTy ty ⟨2,32,.struct [(0,202),(1,203)],[.v (.pointer none),.v (.slice none 0 0)],[]⟩=true:=by kernel_rfl
theorem ty245:ty 245=some ⟨1,8,.ptr 248,[.v (.pointer none)],[]⟩:=by kernel_rfl
theorem ty246:ty 246=some ⟨1,24,.slice 249,[.v (.slice none 0 0)],[]⟩:=by kernel_rfl
theorem el246:elemD ty 246=some ⟨1,8,.ptr 304,[.v (.pointer none)],[]⟩:=by kernel_rfl
theorem ty248:ty 248=some ⟨4,48,.struct [(0,3),(1,3),(2,3),(3,246)],[.v (.int .i64 0),.v (.int .i64 0),.v (.int .i64 0),.v (.slice none 0 0)],[]⟩:=by kernel_rfl
theorem sd248:structD ty 248=some ⟨4,48,.struct [(0,3),(1,3),(2,3),(3,246)],[.v (.int .i64 0),.v (.int .i64 0),.v (.int .i64 0),.v (.slice none 0 0)],[]⟩:=by kernel_rfl
theorem fd248_0:fdd ty 248 0=some (0,⟨1,8,.int .i64,[.v (.int .i64 0)],[]⟩):=by kernel_rfl
theorem pl248_0:places ty 248 0=some (0,1):=by kernel_rfl
theorem fd248_1:fdd ty 248 1=some (1,⟨1,8,.int .i64,[.v (.int .i64 0)],[]⟩):=by kernel_rfl
theorem pl248_1:places ty 248 1=some (1,1):=by kernel_rfl
theorem fd248_2:fdd ty 248 2=some (2,⟨1,8,.int .i64,[.v (.int .i64 0)],[]⟩):=by kernel_rfl
theorem pl248_2:places ty 248 2=some (2,1):=by kernel_rfl
theorem fd248_3:fdd ty 248 3=some (3,⟨1,24,.slice 249,[.v (.slice none 0 0)],[]⟩):=by kernel_rfl
theorem pl248_3:places ty 248 3=some (3,1):=by kernel_rfl
theorem at248:allTy ty ⟨4,48,.struct [(0,3),(1,3),(2,3),(3,246)],[.v (.int .i64 0),.v (.int .i64 0),.v (.int .i64 0),.v (.slice none 0 0)],[]⟩=true:=by kernel_rfl
theorem ty249:ty 249=some ⟨1,8,.ptr 304,[.v (.pointer none)],[]⟩:=by kernel_rfl
theorem ty253:ty 253=some ⟨1,24,.slice 323,[.v (.slice none 0 0)],[]⟩:=by kernel_rfl
theorem el253:elemD ty 253=some ⟨19,296,.struct [(0,3),(1,9),(2,315),(4,316),(5,321),(16,9),(17,253),(18,253)],[.v (.int .i64 0),.v (.string ⟨#[]⟩),.v (.string ⟨#[]⟩),.v (.string ⟨#[]⟩),.v (.slice none 0 0),.v (.int .i64 0),.v (.slice none 0 0),.v (.string ⟨#[]⟩),.v (.string ⟨#[]⟩),.v (.string ⟨#[]⟩),.v (.int .i64 0),.v (.string ⟨#[]⟩),.v (.int .i64 0),.v (.bool false),.v (.string ⟨#[]⟩),.v (.string ⟨#[]⟩),.v (.string ⟨#[]⟩),.v (.slice none 0 0),.v (.slice none 0 0)],[]⟩:=by kernel_rfl
theorem ty257:ty 257=some ⟨1,8,.ptr 260,[.v (.pointer none)],[]⟩:=by kernel_rfl
theorem ty258:ty 258=some ⟨1,24,.slice 379,[.v (.slice none 0 0)],[]⟩:=by kernel_rfl
theorem el258:elemD ty 258=some ⟨2,40,.struct [(0,9),(1,154)],[.v (.string ⟨#[]⟩),.v (.slice none 0 0)],[]⟩:=by kernel_rfl
theorem ty260:ty 260=some ⟨5,88,.struct [(0,154),(1,258),(2,205),(4,3)],[.v (.slice none 0 0),.v (.slice none 0 0),.v (.pointer none),.v (.slice none 0 0),.v (.int .i64 0)],[]⟩:=by kernel_rfl
theorem sd260:structD ty 260=some ⟨5,88,.struct [(0,154),(1,258),(2,205),(4,3)],[.v (.slice none 0 0),.v (.slice none 0 0),.v (.pointer none),.v (.slice none 0 0),.v (.int .i64 0)],[]⟩:=by kernel_rfl
theorem fd260_0:fdd ty 260 0=some (0,⟨1,24,.slice 153,[.v (.slice none 0 0)],[]⟩):=by kernel_rfl
theorem pl260_0:places ty 260 0=some (0,1):=by kernel_rfl
theorem fd260_1:fdd ty 260 1=some (1,⟨1,24,.slice 379,[.v (.slice none 0 0)],[]⟩):=by kernel_rfl
theorem pl260_1:places ty 260 1=some (1,1):=by kernel_rfl
theorem fd260_2:fdd ty 260 2=some (2,⟨2,32,.struct [(0,202),(1,203)],[.v (.pointer none),.v (.slice none 0 0)],[]⟩):=by kernel_rfl
theorem pl260_2:places ty 260 2=some (2,2):=by kernel_rfl
theorem fd260_3:fdd ty 260 3=some (4,⟨1,8,.int .i64,[.v (.int .i64 0)],[]⟩):=by kernel_rfl
theorem pl260_3:places ty 260 3=some (4,1):=by kernel_rfl
theorem at260:allTy ty ⟨5,88,.struct [(0,154),(1,258),(2,205),(4,3)],[.v (.slice none 0 0),.v (.slice none 0 0),.v (.pointer none),.v (.slice none 0 0),.v (.int .i64 0)],[]⟩=true:=by kernel_rfl
theorem ty263:ty 263=some ⟨1,8,.struct [(0,3)],[.v (.int .i64 0)],[.i]⟩:=by kernel_rfl
theorem sd263:structD ty 263=some ⟨1,8,.struct [(0,3)],[.v (.int .i64 0)],[.i]⟩:=by kernel_rfl
theorem fd263_0:fdd ty 263 0=some (0,⟨1,8,.int .i64,[.v (.int .i64 0)],[]⟩):=by kernel_rfl
theorem pl263_0:places ty 263 0=some (0,1):=by kernel_rfl
theorem at263:allTy ty ⟨1,8,.struct [(0,3)],[.v (.int .i64 0)],[.i]⟩=true:=by kernel_rfl
theorem ty265:ty 265=some ⟨1,24,.slice 157,[.v (.slice none 0 0)],[]⟩:=by kernel_rfl
theorem el265:elemD ty 265=some ⟨1,8,.ptr 267,[.v (.pointer none)],[]⟩:=by kernel_rfl
theorem ty267:ty 267=some ⟨10,152,.struct [(0,28),(6,265),(7,3),(8,22),(9,3)],[.v (.int .i64 0),.v (.string ⟨#[]⟩),.v (.int .i64 0),.v (.int .i64 0),.v (.slice none 0 0),.v (.slice none 0 0),.v (.slice none 0 0),.v (.int .i64 0),.v (.slice none 0 0),.v (.int .i64 0)],[]⟩:=by kernel_rfl
theorem sd267:structD ty 267=some ⟨10,152,.struct [(0,28),(6,265),(7,3),(8,22),(9,3)],[.v (.int .i64 0),.v (.string ⟨#[]⟩),.v (.int .i64 0),.v (.int .i64 0),.v (.slice none 0 0),.v (.slice none 0 0),.v (.slice none 0 0),.v (.int .i64 0),.v (.slice none 0 0),.v (.int .i64 0)],[]⟩:=by kernel_rfl
theorem fd267_0:fdd ty 267 0=some (0,⟨6,88,.struct [(0,3),(1,9),(2,3),(3,3),(4,26),(5,22)],[.v (.int .i64 0),.v (.string ⟨#[]⟩),.v (.int .i64 0),.v (.int .i64 0),.v (.slice none 0 0),.v (.slice none 0 0)],[]⟩):=by kernel_rfl
theorem pl267_0:places ty 267 0=some (0,6):=by kernel_rfl
theorem fd267_1:fdd ty 267 1=some (6,⟨1,24,.slice 157,[.v (.slice none 0 0)],[]⟩):=by kernel_rfl
theorem pl267_1:places ty 267 1=some (6,1):=by kernel_rfl
theorem fd267_2:fdd ty 267 2=some (7,⟨1,8,.int .i64,[.v (.int .i64 0)],[]⟩):=by kernel_rfl
theorem pl267_2:places ty 267 2=some (7,1):=by kernel_rfl
theorem fd267_3:fdd ty 267 3=some (8,⟨1,24,.slice 3,[.v (.slice none 0 0)],[]⟩):=by kernel_rfl
theorem pl267_3:places ty 267 3=some (8,1):=by kernel_rfl
theorem fd267_4:fdd ty 267 4=some (9,⟨1,8,.int .i64,[.v (.int .i64 0)],[]⟩):=by kernel_rfl
theorem pl267_4:places ty 267 4=some (9,1):=by kernel_rfl
theorem at267:allTy ty ⟨10,152,.struct [(0,28),(6,265),(7,3),(8,22),(9,3)],[.v (.int .i64 0),.v (.string ⟨#[]⟩),.v (.int .i64 0),.v (.int .i64 0),.v (.slice none 0 0),.v (.slice none 0 0),.v (.slice none 0 0),.v (.int .i64 0),.v (.slice none 0 0),.v (.int .i64 0)],[]⟩=true:=by kernel_rfl
theorem ty279:ty 279=some ⟨1,8,.int .u64,[.v (.int .u64 0)],[]⟩:=by kernel_rfl
theorem ty304:ty 304=some ⟨6,56,.struct [(0,9),(1,3),(2,4),(3,3),(4,3),(5,3)],[.v (.string ⟨#[]⟩),.v (.int .i64 0),.v (.bool false),.v (.int .i64 0),.v (.int .i64 0),.v (.int .i64 0)],[.s,.i,.b,.i,.i,.i]⟩:=by kernel_rfl
theorem sd304:structD ty 304=some ⟨6,56,.struct [(0,9),(1,3),(2,4),(3,3),(4,3),(5,3)],[.v (.string ⟨#[]⟩),.v (.int .i64 0),.v (.bool false),.v (.int .i64 0),.v (.int .i64 0),.v (.int .i64 0)],[.s,.i,.b,.i,.i,.i]⟩:=by kernel_rfl
theorem fd304_0:fdd ty 304 0=some (0,⟨1,16,.str,[.v (.string ⟨#[]⟩)],[]⟩):=by kernel_rfl
theorem pl304_0:places ty 304 0=some (0,1):=by kernel_rfl
theorem fd304_1:fdd ty 304 1=some (1,⟨1,8,.int .i64,[.v (.int .i64 0)],[]⟩):=by kernel_rfl
theorem pl304_1:places ty 304 1=some (1,1):=by kernel_rfl
theorem fd304_2:fdd ty 304 2=some (2,⟨1,1,.bool,[.v (.bool false)],[]⟩):=by kernel_rfl
theorem pl304_2:places ty 304 2=some (2,1):=by kernel_rfl
theorem fd304_3:fdd ty 304 3=some (3,⟨1,8,.int .i64,[.v (.int .i64 0)],[]⟩):=by kernel_rfl
theorem pl304_3:places ty 304 3=some (3,1):=by kernel_rfl
theorem fd304_4:fdd ty 304 4=some (4,⟨1,8,.int .i64,[.v (.int .i64 0)],[]⟩):=by kernel_rfl
theorem pl304_4:places ty 304 4=some (4,1):=by kernel_rfl
theorem fd304_5:fdd ty 304 5=some (5,⟨1,8,.int .i64,[.v (.int .i64 0)],[]⟩):=by kernel_rfl
theorem pl304_5:places ty 304 5=some (5,1):=by kernel_rfl
theorem at304:allTy ty ⟨6,56,.struct [(0,9),(1,3),(2,4),(3,3),(4,3),(5,3)],[.v (.string ⟨#[]⟩),.v (.int .i64 0),.v (.bool false),.v (.int .i64 0),.v (.int .i64 0),.v (.int .i64 0)],[.s,.i,.b,.i,.i,.i]⟩=true:=by kernel_rfl
theorem ty305:ty 305=some ⟨1,8,.func,[.v (.nilFunc)],[]⟩:=by kernel_rfl
theorem ty310:ty 310=some ⟨1,8,.ptr 313,[.v (.pointer none)],[]⟩:=by kernel_rfl
theorem ty311:ty 311=some ⟨1,24,.slice 326,[.v (.slice none 0 0)],[]⟩:=by kernel_rfl
theorem el311:elemD ty 311=some ⟨1,8,.ptr 325,[.v (.pointer none)],[]⟩:=by kernel_rfl
theorem ty313:ty 313=some ⟨4,56,.struct [(0,9),(1,3),(2,311),(3,4)],[.v (.string ⟨#[]⟩),.v (.int .i64 0),.v (.slice none 0 0),.v (.bool false)],[]⟩:=by kernel_rfl
theorem sd313:structD ty 313=some ⟨4,56,.struct [(0,9),(1,3),(2,311),(3,4)],[.v (.string ⟨#[]⟩),.v (.int .i64 0),.v (.slice none 0 0),.v (.bool false)],[]⟩:=by kernel_rfl
theorem fd313_0:fdd ty 313 0=some (0,⟨1,16,.str,[.v (.string ⟨#[]⟩)],[]⟩):=by kernel_rfl
theorem pl313_0:places ty 313 0=some (0,1):=by kernel_rfl
theorem fd313_1:fdd ty 313 1=some (1,⟨1,8,.int .i64,[.v (.int .i64 0)],[]⟩):=by kernel_rfl
theorem pl313_1:places ty 313 1=some (1,1):=by kernel_rfl
theorem fd313_2:fdd ty 313 2=some (2,⟨1,24,.slice 326,[.v (.slice none 0 0)],[]⟩):=by kernel_rfl
theorem pl313_2:places ty 313 2=some (2,1):=by kernel_rfl
theorem fd313_3:fdd ty 313 3=some (3,⟨1,1,.bool,[.v (.bool false)],[]⟩):=by kernel_rfl
theorem pl313_3:places ty 313 3=some (3,1):=by kernel_rfl
theorem at313:allTy ty ⟨4,56,.struct [(0,9),(1,3),(2,311),(3,4)],[.v (.string ⟨#[]⟩),.v (.int .i64 0),.v (.slice none 0 0),.v (.bool false)],[]⟩=true:=by kernel_rfl
theorem ty315:ty 315=some ⟨2,32,.struct [(0,9),(1,9)],[.v (.string ⟨#[]⟩),.v (.string ⟨#[]⟩)],[.s,.s]⟩:=by kernel_rfl
theorem sd315:structD ty 315=some ⟨2,32,.struct [(0,9),(1,9)],[.v (.string ⟨#[]⟩),.v (.string ⟨#[]⟩)],[.s,.s]⟩:=by kernel_rfl
theorem fd315_0:fdd ty 315 0=some (0,⟨1,16,.str,[.v (.string ⟨#[]⟩)],[]⟩):=by kernel_rfl
theorem pl315_0:places ty 315 0=some (0,1):=by kernel_rfl
theorem fd315_1:fdd ty 315 1=some (1,⟨1,16,.str,[.v (.string ⟨#[]⟩)],[]⟩):=by kernel_rfl
theorem pl315_1:places ty 315 1=some (1,1):=by kernel_rfl
theorem at315:allTy ty ⟨2,32,.struct [(0,9),(1,9)],[.v (.string ⟨#[]⟩),.v (.string ⟨#[]⟩)],[.s,.s]⟩=true:=by kernel_rfl
theorem ty316:ty 316=some ⟨1,24,.slice 432,[.v (.slice none 0 0)],[]⟩:=by kernel_rfl
theorem el316:elemD ty 316=some ⟨2,24,.struct [(0,9),(1,3)],[.v (.string ⟨#[]⟩),.v (.int .i64 0)],[.s,.i]⟩:=by kernel_rfl
theorem ty321:ty 321=some ⟨11,152,.struct [(0,3),(1,317),(2,315),(4,9),(5,319),(9,315)],[.v (.int .i64 0),.v (.slice none 0 0),.v (.string ⟨#[]⟩),.v (.string ⟨#[]⟩),.v (.string ⟨#[]⟩),.v (.int .i64 0),.v (.string ⟨#[]⟩),.v (.int .i64 0),.v (.bool false),.v (.string ⟨#[]⟩),.v (.string ⟨#[]⟩)],[]⟩:=by kernel_rfl
theorem sd321:structD ty 321=some ⟨11,152,.struct [(0,3),(1,317),(2,315),(4,9),(5,319),(9,315)],[.v (.int .i64 0),.v (.slice none 0 0),.v (.string ⟨#[]⟩),.v (.string ⟨#[]⟩),.v (.string ⟨#[]⟩),.v (.int .i64 0),.v (.string ⟨#[]⟩),.v (.int .i64 0),.v (.bool false),.v (.string ⟨#[]⟩),.v (.string ⟨#[]⟩)],[]⟩:=by kernel_rfl
theorem fd321_0:fdd ty 321 0=some (0,⟨1,8,.int .i64,[.v (.int .i64 0)],[]⟩):=by kernel_rfl
theorem pl321_0:places ty 321 0=some (0,1):=by kernel_rfl
theorem fd321_1:fdd ty 321 1=some (1,⟨1,24,.slice 321,[.v (.slice none 0 0)],[]⟩):=by kernel_rfl
theorem pl321_1:places ty 321 1=some (1,1):=by kernel_rfl
theorem fd321_2:fdd ty 321 2=some (2,⟨2,32,.struct [(0,9),(1,9)],[.v (.string ⟨#[]⟩),.v (.string ⟨#[]⟩)],[.s,.s]⟩):=by kernel_rfl
theorem pl321_2:places ty 321 2=some (2,2):=by kernel_rfl
theorem fd321_3:fdd ty 321 3=some (4,⟨1,16,.str,[.v (.string ⟨#[]⟩)],[]⟩):=by kernel_rfl
theorem pl321_3:places ty 321 3=some (4,1):=by kernel_rfl
theorem fd321_4:fdd ty 321 4=some (5,⟨4,40,.struct [(0,3),(1,9),(2,3),(3,4)],[.v (.int .i64 0),.v (.string ⟨#[]⟩),.v (.int .i64 0),.v (.bool false)],[.i,.s,.i,.b]⟩):=by kernel_rfl
theorem pl321_4:places ty 321 4=some (5,4):=by kernel_rfl
theorem fd321_5:fdd ty 321 5=some (9,⟨2,32,.struct [(0,9),(1,9)],[.v (.string ⟨#[]⟩),.v (.string ⟨#[]⟩)],[.s,.s]⟩):=by kernel_rfl
theorem pl321_5:places ty 321 5=some (9,2):=by kernel_rfl
theorem at321:allTy ty ⟨11,152,.struct [(0,3),(1,317),(2,315),(4,9),(5,319),(9,315)],[.v (.int .i64 0),.v (.slice none 0 0),.v (.string ⟨#[]⟩),.v (.string ⟨#[]⟩),.v (.string ⟨#[]⟩),.v (.int .i64 0),.v (.string ⟨#[]⟩),.v (.int .i64 0),.v (.bool false),.v (.string ⟨#[]⟩),.v (.string ⟨#[]⟩)],[]⟩=true:=by kernel_rfl
theorem ty323:ty 323=some ⟨19,296,.struct [(0,3),(1,9),(2,315),(4,316),(5,321),(16,9),(17,253),(18,253)],[.v (.int .i64 0),.v (.string ⟨#[]⟩),.v (.string ⟨#[]⟩),.v (.string ⟨#[]⟩),.v (.slice none 0 0),.v (.int .i64 0),.v (.slice none 0 0),.v (.string ⟨#[]⟩),.v (.string ⟨#[]⟩),.v (.string ⟨#[]⟩),.v (.int .i64 0),.v (.string ⟨#[]⟩),.v (.int .i64 0),.v (.bool false),.v (.string ⟨#[]⟩),.v (.string ⟨#[]⟩),.v (.string ⟨#[]⟩),.v (.slice none 0 0),.v (.slice none 0 0)],[]⟩:=by kernel_rfl
theorem sd323:structD ty 323=some ⟨19,296,.struct [(0,3),(1,9),(2,315),(4,316),(5,321),(16,9),(17,253),(18,253)],[.v (.int .i64 0),.v (.string ⟨#[]⟩),.v (.string ⟨#[]⟩),.v (.string ⟨#[]⟩),.v (.slice none 0 0),.v (.int .i64 0),.v (.slice none 0 0),.v (.string ⟨#[]⟩),.v (.string ⟨#[]⟩),.v (.string ⟨#[]⟩),.v (.int .i64 0),.v (.string ⟨#[]⟩),.v (.int .i64 0),.v (.bool false),.v (.string ⟨#[]⟩),.v (.string ⟨#[]⟩),.v (.string ⟨#[]⟩),.v (.slice none 0 0),.v (.slice none 0 0)],[]⟩:=by kernel_rfl
theorem fd323_0:fdd ty 323 0=some (0,⟨1,8,.int .i64,[.v (.int .i64 0)],[]⟩):=by kernel_rfl
theorem pl323_0:places ty 323 0=some (0,1):=by kernel_rfl
theorem fd323_1:fdd ty 323 1=some (1,⟨1,16,.str,[.v (.string ⟨#[]⟩)],[]⟩):=by kernel_rfl
theorem pl323_1:places ty 323 1=some (1,1):=by kernel_rfl
theorem fd323_2:fdd ty 323 2=some (2,⟨2,32,.struct [(0,9),(1,9)],[.v (.string ⟨#[]⟩),.v (.string ⟨#[]⟩)],[.s,.s]⟩):=by kernel_rfl
theorem pl323_2:places ty 323 2=some (2,2):=by kernel_rfl
theorem fd323_3:fdd ty 323 3=some (4,⟨1,24,.slice 432,[.v (.slice none 0 0)],[]⟩):=by kernel_rfl
theorem pl323_3:places ty 323 3=some (4,1):=by kernel_rfl
theorem fd323_4:fdd ty 323 4=some (5,⟨11,152,.struct [(0,3),(1,317),(2,315),(4,9),(5,319),(9,315)],[.v (.int .i64 0),.v (.slice none 0 0),.v (.string ⟨#[]⟩),.v (.string ⟨#[]⟩),.v (.string ⟨#[]⟩),.v (.int .i64 0),.v (.string ⟨#[]⟩),.v (.int .i64 0),.v (.bool false),.v (.string ⟨#[]⟩),.v (.string ⟨#[]⟩)],[]⟩):=by kernel_rfl
theorem pl323_4:places ty 323 4=some (5,11):=by kernel_rfl
theorem fd323_5:fdd ty 323 5=some (16,⟨1,16,.str,[.v (.string ⟨#[]⟩)],[]⟩):=by kernel_rfl
theorem pl323_5:places ty 323 5=some (16,1):=by kernel_rfl
theorem fd323_6:fdd ty 323 6=some (17,⟨1,24,.slice 323,[.v (.slice none 0 0)],[]⟩):=by kernel_rfl
theorem pl323_6:places ty 323 6=some (17,1):=by kernel_rfl
theorem fd323_7:fdd ty 323 7=some (18,⟨1,24,.slice 323,[.v (.slice none 0 0)],[]⟩):=by kernel_rfl
theorem pl323_7:places ty 323 7=some (18,1):=by kernel_rfl
theorem at323:allTy ty ⟨19,296,.struct [(0,3),(1,9),(2,315),(4,316),(5,321),(16,9),(17,253),(18,253)],[.v (.int .i64 0),.v (.string ⟨#[]⟩),.v (.string ⟨#[]⟩),.v (.string ⟨#[]⟩),.v (.slice none 0 0),.v (.int .i64 0),.v (.slice none 0 0),.v (.string ⟨#[]⟩),.v (.string ⟨#[]⟩),.v (.string ⟨#[]⟩),.v (.int .i64 0),.v (.string ⟨#[]⟩),.v (.int .i64 0),.v (.bool false),.v (.string ⟨#[]⟩),.v (.string ⟨#[]⟩),.v (.string ⟨#[]⟩),.v (.slice none 0 0),.v (.slice none 0 0)],[]⟩=true:=by kernel_rfl
theorem ty325:ty 325=some ⟨21,328,.struct [(0,323),(19,253),(20,4)],[.v (.int .i64 0),.v (.string ⟨#[]⟩),.v (.string ⟨#[]⟩),.v (.string ⟨#[]⟩),.v (.slice none 0 0),.v (.int .i64 0),.v (.slice none 0 0),.v (.string ⟨#[]⟩),.v (.string ⟨#[]⟩),.v (.string ⟨#[]⟩),.v (.int .i64 0),.v (.string ⟨#[]⟩),.v (.int .i64 0),.v (.bool false),.v (.string ⟨#[]⟩),.v (.string ⟨#[]⟩),.v (.string ⟨#[]⟩),.v (.slice none 0 0),.v (.slice none 0 0),.v (.slice none 0 0),.v (.bool false)],[]⟩:=by kernel_rfl
theorem sd325:structD ty 325=some ⟨21,328,.struct [(0,323),(19,253),(20,4)],[.v (.int .i64 0),.v (.string ⟨#[]⟩),.v (.string ⟨#[]⟩),.v (.string ⟨#[]⟩),.v (.slice none 0 0),.v (.int .i64 0),.v (.slice none 0 0),.v (.string ⟨#[]⟩),.v (.string ⟨#[]⟩),.v (.string ⟨#[]⟩),.v (.int .i64 0),.v (.string ⟨#[]⟩),.v (.int .i64 0),.v (.bool false),.v (.string ⟨#[]⟩),.v (.string ⟨#[]⟩),.v (.string ⟨#[]⟩),.v (.slice none 0 0),.v (.slice none 0 0),.v (.slice none 0 0),.v (.bool false)],[]⟩:=by kernel_rfl
theorem fd325_0:fdd ty 325 0=some (0,⟨19,296,.struct [(0,3),(1,9),(2,315),(4,316),(5,321),(16,9),(17,253),(18,253)],[.v (.int .i64 0),.v (.string ⟨#[]⟩),.v (.string ⟨#[]⟩),.v (.string ⟨#[]⟩),.v (.slice none 0 0),.v (.int .i64 0),.v (.slice none 0 0),.v (.string ⟨#[]⟩),.v (.string ⟨#[]⟩),.v (.string ⟨#[]⟩),.v (.int .i64 0),.v (.string ⟨#[]⟩),.v (.int .i64 0),.v (.bool false),.v (.string ⟨#[]⟩),.v (.string ⟨#[]⟩),.v (.string ⟨#[]⟩),.v (.slice none 0 0),.v (.slice none 0 0)],[]⟩):=by kernel_rfl
theorem pl325_0:places ty 325 0=some (0,19):=by kernel_rfl
theorem fd325_1:fdd ty 325 1=some (19,⟨1,24,.slice 323,[.v (.slice none 0 0)],[]⟩):=by kernel_rfl
theorem pl325_1:places ty 325 1=some (19,1):=by kernel_rfl
theorem fd325_2:fdd ty 325 2=some (20,⟨1,1,.bool,[.v (.bool false)],[]⟩):=by kernel_rfl
theorem pl325_2:places ty 325 2=some (20,1):=by kernel_rfl
theorem at325:allTy ty ⟨21,328,.struct [(0,323),(19,253),(20,4)],[.v (.int .i64 0),.v (.string ⟨#[]⟩),.v (.string ⟨#[]⟩),.v (.string ⟨#[]⟩),.v (.slice none 0 0),.v (.int .i64 0),.v (.slice none 0 0),.v (.string ⟨#[]⟩),.v (.string ⟨#[]⟩),.v (.string ⟨#[]⟩),.v (.int .i64 0),.v (.string ⟨#[]⟩),.v (.int .i64 0),.v (.bool false),.v (.string ⟨#[]⟩),.v (.string ⟨#[]⟩),.v (.string ⟨#[]⟩),.v (.slice none 0 0),.v (.slice none 0 0),.v (.slice none 0 0),.v (.bool false)],[]⟩=true:=by kernel_rfl
theorem ty326:ty 326=some ⟨1,8,.ptr 325,[.v (.pointer none)],[]⟩:=by kernel_rfl
theorem ty329:ty 329=some ⟨1,8,.ptr 263,[.v (.pointer none)],[]⟩:=by kernel_rfl
theorem ty331:ty 331=some ⟨1,8,.func,[.v (.nilFunc)],[]⟩:=by kernel_rfl
theorem ty334:ty 334=some ⟨1,8,.func,[.v (.nilFunc)],[]⟩:=by kernel_rfl
theorem ty346:ty 346=some ⟨1,8,.int .i64,[.v (.int .i64 0)],[]⟩:=by kernel_rfl
theorem ty379:ty 379=some ⟨2,40,.struct [(0,9),(1,154)],[.v (.string ⟨#[]⟩),.v (.slice none 0 0)],[]⟩:=by kernel_rfl
theorem sd379:structD ty 379=some ⟨2,40,.struct [(0,9),(1,154)],[.v (.string ⟨#[]⟩),.v (.slice none 0 0)],[]⟩:=by kernel_rfl
theorem fd379_0:fdd ty 379 0=some (0,⟨1,16,.str,[.v (.string ⟨#[]⟩)],[]⟩):=by kernel_rfl
theorem pl379_0:places ty 379 0=some (0,1):=by kernel_rfl
theorem fd379_1:fdd ty 379 1=some (1,⟨1,24,.slice 153,[.v (.slice none 0 0)],[]⟩):=by kernel_rfl
theorem pl379_1:places ty 379 1=some (1,1):=by kernel_rfl
theorem at379:allTy ty ⟨2,40,.struct [(0,9),(1,154)],[.v (.string ⟨#[]⟩),.v (.slice none 0 0)],[]⟩=true:=by kernel_rfl
theorem ty420:ty 420=some ⟨1,8,.func,[.v (.nilFunc)],[]⟩:=by kernel_rfl
theorem ty432:ty 432=some ⟨2,24,.struct [(0,9),(1,3)],[.v (.string ⟨#[]⟩),.v (.int .i64 0)],[.s,.i]⟩:=by kernel_rfl
theorem sd432:structD ty 432=some ⟨2,24,.struct [(0,9),(1,3)],[.v (.string ⟨#[]⟩),.v (.int .i64 0)],[.s,.i]⟩:=by kernel_rfl
theorem fd432_0:fdd ty 432 0=some (0,⟨1,16,.str,[.v (.string ⟨#[]⟩)],[]⟩):=by kernel_rfl
theorem pl432_0:places ty 432 0=some (0,1):=by kernel_rfl
theorem fd432_1:fdd ty 432 1=some (1,⟨1,8,.int .i64,[.v (.int .i64 0)],[]⟩):=by kernel_rfl
theorem pl432_1:places ty 432 1=some (1,1):=by kernel_rfl
theorem at432:allTy ty ⟨2,24,.struct [(0,9),(1,3)],[.v (.string ⟨#[]⟩),.v (.int .i64 0)],[.s,.i]⟩=true:=by kernel_rfl
theorem ty458:ty 458=some ⟨256,256,.array 256 5,[.v (.int .u8 0),.v (.int .u8 0),.v (.int .u8 0),.v (.int .u8 0),.v (.int .u8 0),.v (.int .u8 0),.v (.int .u8 0),.v (.int .u8 0),.v (.int .u8 0),.v (.int .u8 0),.v (.int .u8 0),.v (.int .u8 0),.v (.int .u8 0),.v (.int .u8 0),.v (.int .u8 0),.v (.int .u8 0),.v (.int .u8 0),.v (.int .u8 0),.v (.int .u8 0),.v (.int .u8 0),.v (.int .u8 0),.v (.int .u8 0),.v (.int .u8 0),.v (.int .u8 0),.v (.int .u8 0),.v (.int .u8 0),.v (.int .u8 0),.v (.int .u8 0),.v (.int .u8 0),.v (.int .u8 0),.v (.int .u8 0),.v (.int .u8 0),.v (.int .u8 0),.v (.int .u8 0),.v (.int .u8 0),.v (.int .u8 0),.v (.int .u8 0),.v (.int .u8 0),.v (.int .u8 0),.v (.int .u8 0),.v (.int .u8 0),.v (.int .u8 0),.v (.int .u8 0),.v (.int .u8 0),.v (.int .u8 0),.v (.int .u8 0),.v (.int .u8 0),.v (.int .u8 0),.v (.int .u8 0),.v (.int .u8 0),.v (.int .u8 0),.v (.int .u8 0),.v (.int .u8 0),.v (.int .u8 0),.v (.int .u8 0),.v (.int .u8 0),.v (.int .u8 0),.v (.int .u8 0),.v (.int .u8 0),.v (.int .u8 0),.v (.int .u8 0),.v (.int .u8 0),.v (.int .u8 0),.v (.int .u8 0),.v (.int .u8 0),.v (.int .u8 0),.v (.int .u8 0),.v (.int .u8 0),.v (.int .u8 0),.v (.int .u8 0),.v (.int .u8 0),.v (.int .u8 0),.v (.int .u8 0),.v (.int .u8 0),.v (.int .u8 0),.v (.int .u8 0),.v (.int .u8 0),.v (.int .u8 0),.v (.int .u8 0),.v (.int .u8 0),.v (.int .u8 0),.v (.int .u8 0),.v (.int .u8 0),.v (.int .u8 0),.v (.int .u8 0),.v (.int .u8 0),.v (.int .u8 0),.v (.int .u8 0),.v (.int .u8 0),.v (.int .u8 0),.v (.int .u8 0),.v (.int .u8 0),.v (.int .u8 0),.v (.int .u8 0),.v (.int .u8 0),.v (.int .u8 0),.v (.int .u8 0),.v (.int .u8 0),.v (.int .u8 0),.v (.int .u8 0),.v (.int .u8 0),.v (.int .u8 0),.v (.int .u8 0),.v (.int .u8 0),.v (.int .u8 0),.v (.int .u8 0),.v (.int .u8 0),.v (.int .u8 0),.v (.int .u8 0),.v (.int .u8 0),.v (.int .u8 0),.v (.int .u8 0),.v (.int .u8 0),.v (.int .u8 0),.v (.int .u8 0),.v (.int .u8 0),.v (.int .u8 0),.v (.int .u8 0),.v (.int .u8 0),.v (.int .u8 0),.v (.int .u8 0),.v (.int .u8 0),.v (.int .u8 0),.v (.int .u8 0),.v (.int .u8 0),.v (.int .u8 0),.v (.int .u8 0),.v (.int .u8 0),.v (.int .u8 0),.v (.int .u8 0),.v (.int .u8 0),.v (.int .u8 0),.v (.int .u8 0),.v (.int .u8 0),.v (.int .u8 0),.v (.int .u8 0),.v (.int .u8 0),.v (.int .u8 0),.v (.int .u8 0),.v (.int .u8 0),.v (.int .u8 0),.v (.int .u8 0),.v (.int .u8 0),.v (.int .u8 0),.v (.int .u8 0),.v (.int .u8 0),.v (.int .u8 0),.v (.int .u8 0),.v (.int .u8 0),.v (.int .u8 0),.v (.int .u8 0),.v (.int .u8 0),.v (.int .u8 0),.v (.int .u8 0),.v (.int .u8 0),.v (.int .u8 0),.v (.int .u8 0),.v (.int .u8 0),.v (.int .u8 0),.v (.int .u8 0),.v (.int .u8 0),.v (.int .u8 0),.v (.int .u8 0),.v (.int .u8 0),.v (.int .u8 0),.v (.int .u8 0),.v (.int .u8 0),.v (.int .u8 0),.v (.int .u8 0),.v (.int .u8 0),.v (.int .u8 0),.v (.int .u8 0),.v (.int .u8 0),.v (.int .u8 0),.v (.int .u8 0),.v (.int .u8 0),.v (.int .u8 0),.v (.int .u8 0),.v (.int .u8 0),.v (.int .u8 0),.v (.int .u8 0),.v (.int .u8 0),.v (.int .u8 0),.v (.int .u8 0),.v (.int .u8 0),.v (.int .u8 0),.v (.int .u8 0),.v (.int .u8 0),.v (.int .u8 0),.v (.int .u8 0),.v (.int .u8 0),.v (.int .u8 0),.v (.int .u8 0),.v (.int .u8 0),.v (.int .u8 0),.v (.int .u8 0),.v (.int .u8 0),.v (.int .u8 0),.v (.int .u8 0),.v (.int .u8 0),.v (.int .u8 0),.v (.int .u8 0),.v (.int .u8 0),.v (.int .u8 0),.v (.int .u8 0),.v (.int .u8 0),.v (.int .u8 0),.v (.int .u8 0),.v (.int .u8 0),.v (.int .u8 0),.v (.int .u8 0),.v (.int .u8 0),.v (.int .u8 0),.v (.int .u8 0),.v (.int .u8 0),.v (.int .u8 0),.v (.int .u8 0),.v (.int .u8 0),.v (.int .u8 0),.v (.int .u8 0),.v (.int .u8 0),.v (.int .u8 0),.v (.int .u8 0),.v (.int .u8 0),.v (.int .u8 0),.v (.int .u8 0),.v (.int .u8 0),.v (.int .u8 0),.v (.int .u8 0),.v (.int .u8 0),.v (.int .u8 0),.v (.int .u8 0),.v (.int .u8 0),.v (.int .u8 0),.v (.int .u8 0),.v (.int .u8 0),.v (.int .u8 0),.v (.int .u8 0),.v (.int .u8 0),.v (.int .u8 0),.v (.int .u8 0),.v (.int .u8 0),.v (.int .u8 0),.v (.int .u8 0),.v (.int .u8 0),.v (.int .u8 0),.v (.int .u8 0),.v (.int .u8 0),.v (.int .u8 0),.v (.int .u8 0),.v (.int .u8 0),.v (.int .u8 0),.v (.int .u8 0),.v (.int .u8 0),.v (.int .u8 0),.v (.int .u8 0)],[]⟩:=by kernel_rfl
theorem ty460:ty 460=some ⟨2,2,.struct [(0,5),(1,5)],[.v (.int .u8 0),.v (.int .u8 0)],[.i,.i]⟩:=by kernel_rfl
theorem sd460:structD ty 460=some ⟨2,2,.struct [(0,5),(1,5)],[.v (.int .u8 0),.v (.int .u8 0)],[.i,.i]⟩:=by kernel_rfl
theorem fd460_0:fdd ty 460 0=some (0,⟨1,1,.int .u8,[.v (.int .u8 0)],[]⟩):=by kernel_rfl
theorem pl460_0:places ty 460 0=some (0,1):=by kernel_rfl
theorem fd460_1:fdd ty 460 1=some (1,⟨1,1,.int .u8,[.v (.int .u8 0)],[]⟩):=by kernel_rfl
theorem pl460_1:places ty 460 1=some (1,1):=by kernel_rfl
theorem at460:allTy ty ⟨2,2,.struct [(0,5),(1,5)],[.v (.int .u8 0),.v (.int .u8 0)],[.i,.i]⟩=true:=by kernel_rfl
theorem ty461:ty 461=some ⟨32,32,.array 16 460,[.v (.int .u8 0),.v (.int .u8 0),.v (.int .u8 0),.v (.int .u8 0),.v (.int .u8 0),.v (.int .u8 0),.v (.int .u8 0),.v (.int .u8 0),.v (.int .u8 0),.v (.int .u8 0),.v (.int .u8 0),.v (.int .u8 0),.v (.int .u8 0),.v (.int .u8 0),.v (.int .u8 0),.v (.int .u8 0),.v (.int .u8 0),.v (.int .u8 0),.v (.int .u8 0),.v (.int .u8 0),.v (.int .u8 0),.v (.int .u8 0),.v (.int .u8 0),.v (.int .u8 0),.v (.int .u8 0),.v (.int .u8 0),.v (.int .u8 0),.v (.int .u8 0),.v (.int .u8 0),.v (.int .u8 0),.v (.int .u8 0),.v (.int .u8 0)],[]⟩:=by kernel_rfl
theorem ty464:ty 464=some ⟨1,8,.func,[.v (.nilFunc)],[]⟩:=by kernel_rfl
set_option maxRecDepth 100000
theorem lemA:type_of% (And.intro (@List.getD_cons_zero.{0}) (And.intro (@List.getD_cons_succ.{0}) (And.intro (@List.set_cons_zero.{0}) (And.intro (@List.set_cons_succ.{0}) (And.intro (@List.length_cons.{0}) (And.intro (@List.length_nil.{0}) (And.intro (@List.map_cons.{0,0}) (And.intro (@List.map_nil.{0,0}) (And.intro (@List.append_nil.{0}) (And.intro (@List.nil_append.{0}) (And.intro (@List.cons_append.{0}) (And.intro (@List.all_cons.{0}) (And.intro (@List.all_nil.{0}) (And.intro (@Bool.and_true) (And.intro (@Bool.and_self) (And.intro (@Option.bind_some.{0,0}) (And.intro (@Option.map_some.{0,0}) (And.intro (@List.getElem?_toArray.{0}) (And.intro (@List.getElem?_cons_zero.{0}) (And.intro (@List.getElem?_cons_succ.{0}) (And.intro (@true_and) (And.intro (@and_true) (And.intro (@and_self) (And.intro (@Option.some.injEq.{0}) (And.intro (@if_true.{1}) (And.intro (@implies_true.{0}) (And.intro (@implies_true.{1}) (And.intro (@imp_self) (And.intro (@List.toList_toArray.{0}) (And.intro (@Bool.false_eq_true) (And.intro (@Bool.true_eq_false) (And.intro (@false_and) (And.intro (@and_false) (And.intro (@List.filterMap_cons.{0,0}) (And.intro (@beq_true) (And.intro (@beq_false) (And.intro (@Bool.not_eq_true') (And.intro (@Bool.not_eq_false') (And.intro (@true_implies) (And.intro (@Bool.cond_true_left) (And.intro (@Bool.cond_false_right) (And.intro (@Bool.not_not) (And.intro (@Bool.or_false) (And.intro (@Bool.false_or) (And.intro (@Bool.or_true) (And.intro (@Bool.true_or) (And.intro (@Bool.and_false) (And.intro (@Bool.false_and) (And.intro (@Bool.true_and) (And.intro (@Bool.not_true) (And.intro (@Bool.not_false) (And.intro (@cond_true.{1}) (And.intro (@cond_false.{1}) (And.intro (@upd_same) (And.intro (@List.take_succ_cons.{0}) (And.intro (@List.take_zero.{0}) (And.intro (@List.drop_succ_cons.{0}) (And.intro (@List.drop_zero.{0}) (And.intro (@List.take_nil.{0}) (And.intro (@List.drop_nil.{0}) (And.intro (@List.length_map.{0,0}) (And.intro (@Int.add_sub_cancel) (And.intro (@List.length_set.{0}) (And.intro (@upd_upd) (And.intro (@Option.isSome_some.{0}) (And.intro (@ne_eq.{1}) (@not_false_eq_true))))))))))))))))))))))))))))))))))))))))))))))))))))))))))))))))))):=And.intro (@List.getD_cons_zero.{0}) (And.intro (@List.getD_cons_succ.{0}) (And.intro (@List.set_cons_zero.{0}) (And.intro (@List.set_cons_succ.{0}) (And.intro (@List.length_cons.{0}) (And.intro (@List.length_nil.{0}) (And.intro (@List.map_cons.{0,0}) (And.intro (@List.map_nil.{0,0}) (And.intro (@List.append_nil.{0}) (And.intro (@List.nil_append.{0}) (And.intro (@List.cons_append.{0}) (And.intro (@List.all_cons.{0}) (And.intro (@List.all_nil.{0}) (And.intro (@Bool.and_true) (And.intro (@Bool.and_self) (And.intro (@Option.bind_some.{0,0}) (And.intro (@Option.map_some.{0,0}) (And.intro (@List.getElem?_toArray.{0}) (And.intro (@List.getElem?_cons_zero.{0}) (And.intro (@List.getElem?_cons_succ.{0}) (And.intro (@true_and) (And.intro (@and_true) (And.intro (@and_self) (And.intro (@Option.some.injEq.{0}) (And.intro (@if_true.{1}) (And.intro (@implies_true.{0}) (And.intro (@implies_true.{1}) (And.intro (@imp_self) (And.intro (@List.toList_toArray.{0}) (And.intro (@Bool.false_eq_true) (And.intro (@Bool.true_eq_false) (And.intro (@false_and) (And.intro (@and_false) (And.intro (@List.filterMap_cons.{0,0}) (And.intro (@beq_true) (And.intro (@beq_false) (And.intro (@Bool.not_eq_true') (And.intro (@Bool.not_eq_false') (And.intro (@true_implies) (And.intro (@Bool.cond_true_left) (And.intro (@Bool.cond_false_right) (And.intro (@Bool.not_not) (And.intro (@Bool.or_false) (And.intro (@Bool.false_or) (And.intro (@Bool.or_true) (And.intro (@Bool.true_or) (And.intro (@Bool.and_false) (And.intro (@Bool.false_and) (And.intro (@Bool.true_and) (And.intro (@Bool.not_true) (And.intro (@Bool.not_false) (And.intro (@cond_true.{1}) (And.intro (@cond_false.{1}) (And.intro (@upd_same) (And.intro (@List.take_succ_cons.{0}) (And.intro (@List.take_zero.{0}) (And.intro (@List.drop_succ_cons.{0}) (And.intro (@List.drop_zero.{0}) (And.intro (@List.take_nil.{0}) (And.intro (@List.drop_nil.{0}) (And.intro (@List.length_map.{0,0}) (And.intro (@Int.add_sub_cancel) (And.intro (@List.length_set.{0}) (And.intro (@upd_upd) (And.intro (@Option.isSome_some.{0}) (And.intro (@ne_eq.{1}) (@not_false_eq_true))))))))))))))))))))))))))))))))))))))))))))))))))))))))))))))))))
theorem lemT:type_of% (And.intro (@ty1) (And.intro (@ty2) (And.intro (@ty3) (And.intro (@ty4) (And.intro (@ty5) (And.intro (@ty6) (And.intro (@ty9) (And.intro (@is9) (And.intro (@ty12) (And.intro (@ty22) (And.intro (@el22) (And.intro (@ty23) (And.intro (@ty25) (And.intro (@sd25) (And.intro (@fd25_0) (And.intro (@pl25_0) (And.intro (@fd25_1) (And.intro (@pl25_1) (And.intro (@at25) (And.intro (@ty26) (And.intro (@el26) (And.intro (@ty28) (And.intro (@sd28) (And.intro (@fd28_0) (And.intro (@pl28_0) (And.intro (@fd28_1) (And.intro (@pl28_1) (And.intro (@fd28_2) (And.intro (@pl28_2) (And.intro (@fd28_3) (And.intro (@pl28_3) (And.intro (@fd28_4) (And.intro (@pl28_4) (And.intro (@fd28_5) (And.intro (@pl28_5) (And.intro (@at28) (And.intro (@ty31) (And.intro (@ty35) (And.intro (@el35) (And.intro (@ty40) (And.intro (@sd40) (And.intro (@fd40_0) (And.intro (@pl40_0) (And.intro (@fd40_1) (And.intro (@pl40_1) (And.intro (@at40) (And.intro (@ty44) (And.intro (@el44) (And.intro (@ty47) (And.intro (@el47) (And.intro (@ty51) (And.intro (@sd51) (And.intro (@fd51_0) (And.intro (@pl51_0) (And.intro (@fd51_1) (And.intro (@pl51_1) (And.intro (@at51) (And.intro (@ty53) (And.intro (@sd53) (And.intro (@fd53_0) (And.intro (@pl53_0) (And.intro (@fd53_1) (And.intro (@pl53_1) (And.intro (@fd53_2) (And.intro (@pl53_2) (And.intro (@at53) (And.intro (@ty66) (And.intro (@el66) (And.intro (@ty69) (And.intro (@sd69) (And.intro (@fd69_0) (And.intro (@pl69_0) (And.intro (@fd69_1) (And.intro (@pl69_1) (And.intro (@at69) (And.intro (@ty73) (And.intro (@el73) (And.intro (@ty77) (And.intro (@el77) (And.intro (@ty79) (And.intro (@sd79) (And.intro (@fd79_0) (And.intro (@pl79_0) (And.intro (@fd79_1) (And.intro (@pl79_1) (And.intro (@fd79_2) (And.intro (@pl79_2) (And.intro (@fd79_3) (And.intro (@pl79_3) (And.intro (@at79) (And.intro (@ty81) (And.intro (@sd81) (And.intro (@fd81_0) (And.intro (@pl81_0) (And.intro (@fd81_1) (And.intro (@pl81_1) (And.intro (@at81) (And.intro (@ty83) (And.intro (@ty84) (And.intro (@el84) (And.intro (@ty110) (And.intro (@sd110) (And.intro (@fd110_0) (And.intro (@pl110_0) (And.intro (@fd110_1) (And.intro (@pl110_1) (And.intro (@at110) (And.intro (@ty145) (And.intro (@sd145) (And.intro (@fd145_0) (And.intro (@pl145_0) (And.intro (@fd145_1) (And.intro (@pl145_1) (And.intro (@fd145_2) (And.intro (@pl145_2) (And.intro (@at145) (And.intro (@ty151) (And.intro (@el151) (And.intro (@ty153) (And.intro (@sd153) (And.intro (@fd153_0) (And.intro (@pl153_0) (And.intro (@fd153_1) (And.intro (@pl153_1) (And.intro (@fd153_2) (And.intro (@pl153_2) (And.intro (@fd153_3) (And.intro (@pl153_3) (And.intro (@fd153_4) (And.intro (@pl153_4) (And.intro (@fd153_5) (And.intro (@pl153_5) (And.intro (@at153) (And.intro (@ty154) (And.intro (@el154) (And.intro (@ty157) (And.intro (@ty159) (And.intro (@ty161) (And.intro (@sd161) (And.intro (@fd161_0) (And.intro (@pl161_0) (And.intro (@fd161_1) (And.intro (@pl161_1) (And.intro (@at161) (And.intro (@ty166) (And.intro (@mp166) (And.intro (@ty170) (And.intro (@ty172) (And.intro (@ty175) (And.intro (@sd175) (And.intro (@fd175_0) (And.intro (@pl175_0) (And.intro (@fd175_1) (And.intro (@pl175_1) (And.intro (@at175) (And.intro (@ty183) (And.intro (@mp183) (And.intro (@ty187) (And.intro (@ty192) (And.intro (@sd192) (And.intro (@fd192_0) (And.intro (@pl192_0) (And.intro (@fd192_1) (And.intro (@pl192_1) (And.intro (@fd192_2) (And.intro (@pl192_2) (And.intro (@fd192_3) (And.intro (@pl192_3) (And.intro (@fd192_4) (And.intro (@pl192_4) (And.intro (@fd192_5) (And.intro (@pl192_5) (And.intro (@fd192_6) (And.intro (@pl192_6) (And.intro (@fd192_7) (And.intro (@pl192_7) (And.intro (@at192) (And.intro (@ty194) (And.intro (@ty196) (And.intro (@el196) (And.intro (@ty202) (And.intro (@ty203) (And.intro (@el203) (And.intro (@ty205) (And.intro (@sd205) (And.intro (@fd205_0) (And.intro (@pl205_0) (And.intro (@fd205_1) (And.intro (@pl205_1) (And.intro (@at205) (And.intro (@ty245) (And.intro (@ty246) (And.intro (@el246) (And.intro (@ty248) (And.intro (@sd248) (And.intro (@fd248_0) (And.intro (@pl248_0) (And.intro (@fd248_1) (And.intro (@pl248_1) (And.intro (@fd248_2) (And.intro (@pl248_2) (And.intro (@fd248_3) (And.intro (@pl248_3) (And.intro (@at248) (And.intro (@ty249) (And.intro (@ty253) (And.intro (@el253) (And.intro (@ty257) (And.intro (@ty258) (And.intro (@el258) (And.intro (@ty260) (And.intro (@sd260) (And.intro (@fd260_0) (And.intro (@pl260_0) (And.intro (@fd260_1) (And.intro (@pl260_1) (And.intro (@fd260_2) (And.intro (@pl260_2) (And.intro (@fd260_3) (And.intro (@pl260_3) (And.intro (@at260) (And.intro (@ty263) (And.intro (@sd263) (And.intro (@fd263_0) (And.intro (@pl263_0) (And.intro (@at263) (And.intro (@ty265) (And.intro (@el265) (And.intro (@ty267) (And.intro (@sd267) (And.intro (@fd267_0) (And.intro (@pl267_0) (And.intro (@fd267_1) (And.intro (@pl267_1) (And.intro (@fd267_2) (And.intro (@pl267_2) (And.intro (@fd267_3) (And.intro (@pl267_3) (And.intro (@fd267_4) (And.intro (@pl267_4) (And.intro (@at267) (And.intro (@ty279) (And.intro (@ty304) (And.intro (@sd304) (And.intro (@fd304_0) (And.intro (@pl304_0) (And.intro (@fd304_1) (And.intro (@pl304_1) (And.intro (@fd304_2) (And.intro (@pl304_2) (And.intro (@fd304_3) (And.intro (@pl304_3) (And.intro (@fd304_4) (And.intro (@pl304_4) (And.intro (@fd304_5) (And.intro (@pl304_5) (And.intro (@at304) (And.intro (@ty305) (And.intro (@ty310) (And.intro (@ty311) (And.intro (@el311) (And.intro (@ty313) (And.intro (@sd313) (And.intro (@fd313_0) (And.intro (@pl313_0) (And.intro (@fd313_1) (And.intro (@pl313_1) (And.intro (@fd313_2) (And.intro (@pl313_2) (And.intro (@fd313_3) (And.intro (@pl313_3) (And.intro (@at313) (And.intro (@ty315) (And.intro (@sd315) (And.intro (@fd315_0) (And.intro (@pl315_0) (And.intro (@fd315_1) (And.intro (@pl315_1) (And.intro (@at315) (And.intro (@ty316) (And.intro (@el316) (And.intro (@ty321) (And.intro (@sd321) (And.intro (@fd321_0) (And.intro (@pl321_0) (And.intro (@fd321_1) (And.intro (@pl321_1) (And.intro (@fd321_2) (And.intro (@pl321_2) (And.intro (@fd321_3) (And.intro (@pl321_3) (And.intro (@fd321_4) (And.intro (@pl321_4) (And.intro (@fd321_5) (And.intro (@pl321_5) (And.intro (@at321) (And.intro (@ty323) (And.intro (@sd323) (And.intro (@fd323_0) (And.intro (@pl323_0) (And.intro (@fd323_1) (And.intro (@pl323_1) (And.intro (@fd323_2) (And.intro (@pl323_2) (And.intro (@fd323_3) (And.intro (@pl323_3) (And.intro (@fd323_4) (And.intro (@pl323_4) (And.intro (@fd323_5) (And.intro (@pl323_5) (And.intro (@fd323_6) (And.intro (@pl323_6) (And.intro (@fd323_7) (And.intro (@pl323_7) (And.intro (@at323) (And.intro (@ty325) (And.intro (@sd325) (And.intro (@fd325_0) (And.intro (@pl325_0) (And.intro (@fd325_1) (And.intro (@pl325_1) (And.intro (@fd325_2) (And.intro (@pl325_2) (And.intro (@at325) (And.intro (@ty326) (And.intro (@ty329) (And.intro (@ty331) (And.intro (@ty334) (And.intro (@ty346) (And.intro (@ty379) (And.intro (@sd379) (And.intro (@fd379_0) (And.intro (@pl379_0) (And.intro (@fd379_1) (And.intro (@pl379_1) (And.intro (@at379) (And.intro (@ty420) (And.intro (@ty432) (And.intro (@sd432) (And.intro (@fd432_0) (And.intro (@pl432_0) (And.intro (@fd432_1) (And.intro (@pl432_1) (And.intro (@at432) (And.intro (@ty458) (And.intro (@ty460) (And.intro (@sd460) (And.intro (@fd460_0) (And.intro (@pl460_0) (And.intro (@fd460_1) (And.intro (@pl460_1) (And.intro (@at460) (And.intro (@ty461) (@ty464)))))))))))))))))))))))))))))))))))))))))))))))))))))))))))))))))))))))))))))))))))))))))))))))))))))))))))))))))))))))))))))))))))))))))))))))))))))))))))))))))))))))))))))))))))))))))))))))))))))))))))))))))))))))))))))))))))))))))))))))))))))))))))))))))))))))))))))))))))))))))))))))))))))))))))))))))))))))))))))))))))))))))))))))))))))))))))))))))):=And.intro (@ty1) (And.intro (@ty2) (And.intro (@ty3) (And.intro (@ty4) (And.intro (@ty5) (And.intro (@ty6) (And.intro (@ty9) (And.intro (@is9) (And.intro (@ty12) (And.intro (@ty22) (And.intro (@el22) (And.intro (@ty23) (And.intro (@ty25) (And.intro (@sd25) (And.intro (@fd25_0) (And.intro (@pl25_0) (And.intro (@fd25_1) (And.intro (@pl25_1) (And.intro (@at25) (And.intro (@ty26) (And.intro (@el26) (And.intro (@ty28) (And.intro (@sd28) (And.intro (@fd28_0) (And.intro (@pl28_0) (And.intro (@fd28_1) (And.intro (@pl28_1) (And.intro (@fd28_2) (And.intro (@pl28_2) (And.intro (@fd28_3) (And.intro (@pl28_3) (And.intro (@fd28_4) (And.intro (@pl28_4) (And.intro (@fd28_5) (And.intro (@pl28_5) (And.intro (@at28) (And.intro (@ty31) (And.intro (@ty35) (And.intro (@el35) (And.intro (@ty40) (And.intro (@sd40) (And.intro (@fd40_0) (And.intro (@pl40_0) (And.intro (@fd40_1) (And.intro (@pl40_1) (And.intro (@at40) (And.intro (@ty44) (And.intro (@el44) (And.intro (@ty47) (And.intro (@el47) (And.intro (@ty51) (And.intro (@sd51) (And.intro (@fd51_0) (And.intro (@pl51_0) (And.intro (@fd51_1) (And.intro (@pl51_1) (And.intro (@at51) (And.intro (@ty53) (And.intro (@sd53) (And.intro (@fd53_0) (And.intro (@pl53_0) (And.intro (@fd53_1) (And.intro (@pl53_1) (And.intro (@fd53_2) (And.intro (@pl53_2) (And.intro (@at53) (And.intro (@ty66) (And.intro (@el66) (And.intro (@ty69) (And.intro (@sd69) (And.intro (@fd69_0) (And.intro (@pl69_0) (And.intro (@fd69_1) (And.intro (@pl69_1) (And.intro (@at69) (And.intro (@ty73) (And.intro (@el73) (And.intro (@ty77) (And.intro (@el77) (And.intro (@ty79) (And.intro (@sd79) (And.intro (@fd79_0) (And.intro (@pl79_0) (And.intro (@fd79_1) (And.intro (@pl79_1) (And.intro (@fd79_2) (And.intro (@pl79_2) (And.intro (@fd79_3) (And.intro (@pl79_3) (And.intro (@at79) (And.intro (@ty81) (And.intro (@sd81) (And.intro (@fd81_0) (And.intro (@pl81_0) (And.intro (@fd81_1) (And.intro (@pl81_1) (And.intro (@at81) (And.intro (@ty83) (And.intro (@ty84) (And.intro (@el84) (And.intro (@ty110) (And.intro (@sd110) (And.intro (@fd110_0) (And.intro (@pl110_0) (And.intro (@fd110_1) (And.intro (@pl110_1) (And.intro (@at110) (And.intro (@ty145) (And.intro (@sd145) (And.intro (@fd145_0) (And.intro (@pl145_0) (And.intro (@fd145_1) (And.intro (@pl145_1) (And.intro (@fd145_2) (And.intro (@pl145_2) (And.intro (@at145) (And.intro (@ty151) (And.intro (@el151) (And.intro (@ty153) (And.intro (@sd153) (And.intro (@fd153_0) (And.intro (@pl153_0) (And.intro (@fd153_1) (And.intro (@pl153_1) (And.intro (@fd153_2) (And.intro (@pl153_2) (And.intro (@fd153_3) (And.intro (@pl153_3) (And.intro (@fd153_4) (And.intro (@pl153_4) (And.intro (@fd153_5) (And.intro (@pl153_5) (And.intro (@at153) (And.intro (@ty154) (And.intro (@el154) (And.intro (@ty157) (And.intro (@ty159) (And.intro (@ty161) (And.intro (@sd161) (And.intro (@fd161_0) (And.intro (@pl161_0) (And.intro (@fd161_1) (And.intro (@pl161_1) (And.intro (@at161) (And.intro (@ty166) (And.intro (@mp166) (And.intro (@ty170) (And.intro (@ty172) (And.intro (@ty175) (And.intro (@sd175) (And.intro (@fd175_0) (And.intro (@pl175_0) (And.intro (@fd175_1) (And.intro (@pl175_1) (And.intro (@at175) (And.intro (@ty183) (And.intro (@mp183) (And.intro (@ty187) (And.intro (@ty192) (And.intro (@sd192) (And.intro (@fd192_0) (And.intro (@pl192_0) (And.intro (@fd192_1) (And.intro (@pl192_1) (And.intro (@fd192_2) (And.intro (@pl192_2) (And.intro (@fd192_3) (And.intro (@pl192_3) (And.intro (@fd192_4) (And.intro (@pl192_4) (And.intro (@fd192_5) (And.intro (@pl192_5) (And.intro (@fd192_6) (And.intro (@pl192_6) (And.intro (@fd192_7) (And.intro (@pl192_7) (And.intro (@at192) (And.intro (@ty194) (And.intro (@ty196) (And.intro (@el196) (And.intro (@ty202) (And.intro (@ty203) (And.intro (@el203) (And.intro (@ty205) (And.intro (@sd205) (And.intro (@fd205_0) (And.intro (@pl205_0) (And.intro (@fd205_1) (And.intro (@pl205_1) (And.intro (@at205) (And.intro (@ty245) (And.intro (@ty246) (And.intro (@el246) (And.intro (@ty248) (And.intro (@sd248) (And.intro (@fd248_0) (And.intro (@pl248_0) (And.intro (@fd248_1) (And.intro (@pl248_1) (And.intro (@fd248_2) (And.intro (@pl248_2) (And.intro (@fd248_3) (And.intro (@pl248_3) (And.intro (@at248) (And.intro (@ty249) (And.intro (@ty253) (And.intro (@el253) (And.intro (@ty257) (And.intro (@ty258) (And.intro (@el258) (And.intro (@ty260) (And.intro (@sd260) (And.intro (@fd260_0) (And.intro (@pl260_0) (And.intro (@fd260_1) (And.intro (@pl260_1) (And.intro (@fd260_2) (And.intro (@pl260_2) (And.intro (@fd260_3) (And.intro (@pl260_3) (And.intro (@at260) (And.intro (@ty263) (And.intro (@sd263) (And.intro (@fd263_0) (And.intro (@pl263_0) (And.intro (@at263) (And.intro (@ty265) (And.intro (@el265) (And.intro (@ty267) (And.intro (@sd267) (And.intro (@fd267_0) (And.intro (@pl267_0) (And.intro (@fd267_1) (And.intro (@pl267_1) (And.intro (@fd267_2) (And.intro (@pl267_2) (And.intro (@fd267_3) (And.intro (@pl267_3) (And.intro (@fd267_4) (And.intro (@pl267_4) (And.intro (@at267) (And.intro (@ty279) (And.intro (@ty304) (And.intro (@sd304) (And.intro (@fd304_0) (And.intro (@pl304_0) (And.intro (@fd304_1) (And.intro (@pl304_1) (And.intro (@fd304_2) (And.intro (@pl304_2) (And.intro (@fd304_3) (And.intro (@pl304_3) (And.intro (@fd304_4) (And.intro (@pl304_4) (And.intro (@fd304_5) (And.intro (@pl304_5) (And.intro (@at304) (And.intro (@ty305) (And.intro (@ty310) (And.intro (@ty311) (And.intro (@el311) (And.intro (@ty313) (And.intro (@sd313) (And.intro (@fd313_0) (And.intro (@pl313_0) (And.intro (@fd313_1) (And.intro (@pl313_1) (And.intro (@fd313_2) (And.intro (@pl313_2) (And.intro (@fd313_3) (And.intro (@pl313_3) (And.intro (@at313) (And.intro (@ty315) (And.intro (@sd315) (And.intro (@fd315_0) (And.intro (@pl315_0) (And.intro (@fd315_1) (And.intro (@pl315_1) (And.intro (@at315) (And.intro (@ty316) (And.intro (@el316) (And.intro (@ty321) (And.intro (@sd321) (And.intro (@fd321_0) (And.intro (@pl321_0) (And.intro (@fd321_1) (And.intro (@pl321_1) (And.intro (@fd321_2) (And.intro (@pl321_2) (And.intro (@fd321_3) (And.intro (@pl321_3) (And.intro (@fd321_4) (And.intro (@pl321_4) (And.intro (@fd321_5) (And.intro (@pl321_5) (And.intro (@at321) (And.intro (@ty323) (And.intro (@sd323) (And.intro (@fd323_0) (And.intro (@pl323_0) (And.intro (@fd323_1) (And.intro (@pl323_1) (And.intro (@fd323_2) (And.intro (@pl323_2) (And.intro (@fd323_3) (And.intro (@pl323_3) (And.intro (@fd323_4) (And.intro (@pl323_4) (And.intro (@fd323_5) (And.intro (@pl323_5) (And.intro (@fd323_6) (And.intro (@pl323_6) (And.intro (@fd323_7) (And.intro (@pl323_7) (And.intro (@at323) (And.intro (@ty325) (And.intro (@sd325) (And.intro (@fd325_0) (And.intro (@pl325_0) (And.intro (@fd325_1) (And.intro (@pl325_1) (And.intro (@fd325_2) (And.intro (@pl325_2) (And.intro (@at325) (And.intro (@ty326) (And.intro (@ty329) (And.intro (@ty331) (And.intro (@ty334) (And.intro (@ty346) (And.intro (@ty379) (And.intro (@sd379) (And.intro (@fd379_0) (And.intro (@pl379_0) (And.intro (@fd379_1) (And.intro (@pl379_1) (And.intro (@at379) (And.intro (@ty420) (And.intro (@ty432) (And.intro (@sd432) (And.intro (@fd432_0) (And.intro (@pl432_0) (And.intro (@fd432_1) (And.intro (@pl432_1) (And.intro (@at432) (And.intro (@ty458) (And.intro (@ty460) (And.intro (@sd460) (And.intro (@fd460_0) (And.intro (@pl460_0) (And.intro (@fd460_1) (And.intro (@pl460_1) (And.intro (@at460) (And.intro (@ty461) (@ty464)))))))))))))))))))))))))))))))))))))))))))))))))))))))))))))))))))))))))))))))))))))))))))))))))))))))))))))))))))))))))))))))))))))))))))))))))))))))))))))))))))))))))))))))))))))))))))))))))))))))))))))))))))))))))))))))))))))))))))))))))))))))))))))))))))))))))))))))))))))))))))))))))))))))))))))))))))))))))))))))))))))))))))))))))))))))))))))))))
attribute [go_sem] vOps retQ resV resL res1 Nat.zero_add St.keep keepL_nil keepL_c1 keepL_c0 keepL_jnk cutLoc jnk_zero jnk_jnk getD_jnk_lt getD_jnk_ge set_jnk_lt set_jnk_ge gStep condG qV binV vV iV sV bV nV arV pickE joinA joinOk isOpt vEff binE vBin iBin sBin arith nilOf nBin boolOk okEqs okEqs1 eqL convI storeE newE sliceE appE lenE minE biE bndE cellsAt ldOk ld TyD.isAgg AV.shift AV.isAddr AV.cellsB AV.noLoc rowOf litRow fillA opS uside unw evL cv St.put opsOf Value.oneCell' vIdx stepI vRest reL reI mdL splice bef aft isCallB isCallV lookE updE lookR zeroA aggK cutE appS elemI rangeE nextE entryE rowX fnE ptrS ptrV ptrE arrNil ptrZ cellO lemA lemT
section
variable {c:Cx} {Q:Exit→St→Prop} {s:St} {all:Array Oper} {id:Nat} {y:Code}
theorem gE {f:Nat} {fn:Func} {code:Code} {args:List AV} {h:Hp} {R:AV→Hp→Prop} (hf:Tryz.prog.funcs[f]?=some fn) (hb:fn.body=some code) (hok:fnOk Tryz.prog f=true) (m:Nat) (hm:fn.ntmps - args.length=m) (hw:∀ c:Cx,Awp Tryz.prog c code (retQ ty fn.results.toList R) ⟨args++jnk m [],[],h⟩):ACalls Tryz.prog f args h R:=acalls_in tyok hf hb hok m hm hw
theorem rI {rs:List ResultVar} {R:AV→Hp→Prop} (h:retQ ty rs R .ret s):retQ ty rs R .ret s:=h
theorem gO {A B:Prop} {t:Bool} [h:Stp Tryz.prog ty A B t] (ht:t=true) (hb:B):A:=h.sound ht hb
theorem gQ {A B:Prop} {t:Bool} [h:Stq Tryz.prog ty A B t] (ht:t=true) (hb:B):A:=h.sound ht hb
theorem gR {A:Prop} {N:St→Prop} {V:(St→Prop)→Prop} [h:Str Tryz.prog ty (mdL []) A N V] (hb:∀ K1:St→Prop,(∀ s',N s'→K1 s')→V K1):A:=h.sound tyok hb
theorem gM (md:Option Tmp→Nat) {A:Prop} {N:St→Prop} {V:(St→Prop)→Prop} [h:Str Tryz.prog ty md A N V] (hb:∀ K1:St→Prop,(∀ s',N s'→K1 s')→V K1):A:=h.sound tyok hb
theorem kS (h:∀ K1:St→Prop,(∀ s',vRem Tryz.prog ty (mdL []) all (aft all.toList) s' (Awp Tryz.prog c y Q)→K1 s')→vOps Tryz.prog ty (mdL []) all (bef all.toList) s K1):Awp Tryz.prog c (.seq (.region id all false) y) Q s:=wS tyok _ h
theorem kR (h:∀ K1:St→Prop,(∀ s',vRem Tryz.prog ty (mdL []) all (aft all.toList) s' (Q .normal)→K1 s')→vOps Tryz.prog ty (mdL []) all (bef all.toList) s K1):Awp Tryz.prog c (.region id all false) Q s:=wR tyok _ h
theorem uD (id:Nat) (md:Option Tmp→Nat) (E0:List Nat) (pl:List (Nat × List Nat × List Nat)) (n:Nat) (hn:s.sl.length=n) (hok:drawOk md all n E0 pl=true) (h:∀ K1:St→Prop,(∀ s',vRst Tryz.prog ty md all pl s' (Awp Tryz.prog c y Q)→K1 s')→vIdx Tryz.prog ty md all E0 s K1):Awp Tryz.prog c (.seq (.region id all true) y) Q s:=awp_seqD2 tyok (by kernel_rfl) md n hn hok h
theorem uE (id:Nat) (md:Option Tmp→Nat) (E0:List Nat) (pl:List (Nat × List Nat × List Nat)) (n:Nat) (hn:s.sl.length=n) (hok:drawOk md all n E0 pl=true) (h:∀ K1:St→Prop,(∀ s',vRst Tryz.prog ty md all pl s' (Q .normal)→K1 s')→vIdx Tryz.prog ty md all E0 s K1):Awp Tryz.prog c (.region id all true) Q s:=awp_draw2 tyok (by kernel_rfl) md n hn hok h
theorem uF (id:Nat) (md:Option Tmp→Nat) (f:Nat) (E0:List Nat) (pl:List (Nat × List Nat × List Nat)) (n:Nat) (hn:s.sl.length=n) (hok:drawOkF md all n f E0 pl=true) (h:∀ K1:St→Prop,(∀ s',vRst Tryz.prog ty md all pl s' (Awp Tryz.prog c y Q)→K1 s')→vIdx Tryz.prog ty md all (f :: E0) s K1):Awp Tryz.prog c (.seq (.region id all true) y) Q s:=awp_seqF2 tyok (by kernel_rfl) md n hn hok h
end
end Go.Proofs.YtidkkmoiolffnaaGreatDoor

