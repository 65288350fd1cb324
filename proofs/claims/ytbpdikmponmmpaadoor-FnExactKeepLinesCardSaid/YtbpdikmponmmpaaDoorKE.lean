/- The tables that the machine is told, and strings.Split as the library tells it. -/
import Derived.Test.YtbpdikmponmmpaaDoorKTm5
import Derived.Test.YtbpdikmponmmpaaDoorProg
import Derived.KernelRfl
import Derived.Shelf.Strings.Split
import Derived.Shelf.Strconv.ParseIntPublic10
import Derived.Shelf.Strconv.Itoa4
import Derived.WalkKit
import Derived.Lib.Walk
import Derived.Lib.AppendIntMem
import Derived.Lib.SmallJoins
import Derived.Lib.ParseIntBTie
set_option linter.unusedSimpArgs false
set_option linter.unusedVariables false
namespace Go.TM.Dw
open Go Go.TM Go.Proofs
set_option maxRecDepth 100000
@[simp] def ty1:TInfo:=⟨1,false,false,none,[],[],[.v .nilFunc],8⟩
@[simp] def ty2:TInfo:=⟨1,false,true,none,[],[],[.v (.int .i64 0)],8⟩
@[simp] def ty3:TInfo:=⟨1,false,true,none,[],[],[.v (.int .i64 0)],8⟩
@[simp] def ty4:TInfo:=⟨1,false,false,none,[],[],[.v (.bool false)],1⟩
@[simp] def ty5:TInfo:=⟨1,false,true,none,[],[],[.v (.int .u8 0)],1⟩
@[simp] def ty6:TInfo:=⟨1,false,true,none,[],[],[.v (.int .u8 0)],1⟩
@[simp] def ty7:TInfo:=⟨4,true,false,none,[(0,1),(1,1),(2,1),(3,1)],[2,3,4,6],[.v (.int .i64 0),.v (.int .i64 0),.v (.bool false),.v (.int .u8 0)],24⟩
@[simp] def ty8:TInfo:=⟨4,true,false,none,[(0,1),(1,1),(2,1),(3,1)],[2,3,4,6],[.v (.int .i64 0),.v (.int .i64 0),.v (.bool false),.v (.int .u8 0)],24⟩
@[simp] def ty9:TInfo:=⟨1,false,false,none,[],[],[.v (.string ⟨#[]⟩)],16⟩
@[simp] def ty10:TInfo:=⟨1,false,false,none,[],[],[.v (.string ⟨#[]⟩)],16⟩
@[simp] def ty11:TInfo:=⟨1,false,false,none,[],[],[.v (.string ⟨#[]⟩)],16⟩
@[simp] def ty12:TInfo:=⟨1,false,true,none,[],[],[.v (.int .u64 0)],8⟩
@[simp] def ty13:TInfo:=⟨2,true,false,none,[(0,1),(1,1)],[9,12],[.v (.string ⟨#[]⟩),.v (.int .u64 0)],24⟩
@[simp] def ty14:TInfo:=⟨2,true,false,none,[(0,1),(1,1)],[9,12],[.v (.string ⟨#[]⟩),.v (.int .u64 0)],24⟩
@[simp] def ty15:TInfo:=⟨1,false,false,none,[],[],[.v (.pointer none)],8⟩
@[simp] def ty16:TInfo:=⟨1,false,false,none,[],[],[.v (.pointer none)],8⟩
@[simp] def ty17:TInfo:=⟨1,false,false,none,[],[],[.v (.pointer none)],8⟩
@[simp] def ty18:TInfo:=⟨1,true,false,none,[(0,1)],[17],[.v (.pointer none)],8⟩
@[simp] def ty19:TInfo:=⟨1,true,false,none,[(0,1)],[17],[.v (.pointer none)],8⟩
@[simp] def ty20:TInfo:=⟨1,false,false,none,[],[],[.v .nilIface],16⟩
@[simp] def ty21:TInfo:=⟨1,false,true,none,[],[],[.v (.int .i32 0)],4⟩
@[simp] def ty22:TInfo:=⟨1,false,false,some 9,[],[],[.own 9 []],24⟩
@[simp] def ty23:TInfo:=⟨2,true,false,none,[(0,1),(1,1)],[2,22],[.v (.int .i64 0),.own 9 []],32⟩
@[simp] def ty24:TInfo:=⟨2,true,false,none,[(0,1),(1,1)],[2,22],[.v (.int .i64 0),.own 9 []],32⟩
@[simp] def ty25:TInfo:=⟨1,false,false,none,[],[],[.v .nilFunc],8⟩
@[simp] def ty26:TInfo:=⟨1,false,false,none,[],[],[.v .nilFunc],8⟩
@[simp] def ty27:TInfo:=⟨1,false,false,none,[],[],[.v .nilFunc],8⟩
@[simp] def ty28:TInfo:=⟨1,false,false,none,[],[],[.v .nilFunc],8⟩
@[simp] def ty29:TInfo:=⟨2,true,false,none,[(0,1),(1,1)],[2,2],[.v (.int .i64 0),.v (.int .i64 0)],16⟩
@[simp] def ty30:TInfo:=⟨2,true,false,none,[(0,1),(1,1)],[2,2],[.v (.int .i64 0),.v (.int .i64 0)],16⟩
@[simp] def ty31:TInfo:=⟨1,false,false,none,[],[],[.v .nilFunc],8⟩
@[simp] def ty32:TInfo:=⟨1,false,false,none,[],[],[.v .nilFunc],8⟩
@[simp] def ty33:TInfo:=⟨1,false,false,none,[],[],[.v .nilFunc],8⟩
@[simp] def ty34:TInfo:=⟨1,false,false,none,[],[],[.v .nilFunc],8⟩
@[simp] def ty35:TInfo:=⟨1,false,false,none,[],[],[.v .nilFunc],8⟩
@[simp] def ty36:TInfo:=⟨1,false,false,none,[],[],[.v .nilFunc],8⟩
@[simp] def ty37:TInfo:=⟨1,false,false,none,[],[],[.v .nilFunc],8⟩
@[simp] def ty38:TInfo:=⟨1,false,false,none,[],[],[.v .nilFunc],8⟩
@[simp] def ty40:TInfo:=⟨1,false,false,none,[],[],[.v .nilFunc],8⟩
@[simp] def ty41:TInfo:=⟨1,false,false,some 2,[],[],[.own 2 []],24⟩
@[simp] def ty43:TInfo:=⟨1,false,false,none,[],[],[.v .nilFunc],8⟩
@[simp] def ty44:TInfo:=⟨1,false,false,none,[],[],[.v .nilFunc],8⟩
@[simp] def ty45:TInfo:=⟨1,false,false,none,[],[],[.v .nilFunc],8⟩
@[simp] def ty46:TInfo:=⟨1,false,false,none,[],[],[.v .nilFunc],8⟩
@[simp] def ty48:TInfo:=⟨1,false,false,none,[],[],[.v .nilFunc],8⟩
@[simp] def ty49:TInfo:=⟨1,false,false,none,[],[],[.v .nilFunc],8⟩
@[simp] def ty50:TInfo:=⟨1,false,false,some 52,[],[],[.own 52 []],24⟩
@[simp] def ty51:TInfo:=⟨2,true,false,none,[(0,1),(1,1)],[9,3],[.v (.string ⟨#[]⟩),.v (.int .i64 0)],24⟩
@[simp] def ty52:TInfo:=⟨2,true,false,none,[(0,1),(1,1)],[9,3],[.v (.string ⟨#[]⟩),.v (.int .i64 0)],24⟩
@[simp] def ty53:TInfo:=⟨14,true,false,none,[],[],[.v (.string ⟨#[]⟩),.v (.int .i64 0),.v (.string ⟨#[]⟩),.v (.int .i64 0),.v (.string ⟨#[]⟩),.v (.int .i64 0),.v (.string ⟨#[]⟩),.v (.int .i64 0),.v (.string ⟨#[]⟩),.v (.int .i64 0),.v (.string ⟨#[]⟩),.v (.int .i64 0),.v (.string ⟨#[]⟩),.v (.int .i64 0)],168⟩
@[simp] def ty55:TInfo:=⟨1,false,false,none,[],[],[.v .nilFunc],8⟩
@[simp] def ty56:TInfo:=⟨1,false,false,some 5,[],[],[.own 5 []],24⟩
@[simp] def ty57:TInfo:=⟨1,false,false,none,[],[],[.v .nilFunc],8⟩
@[simp] def ty58:TInfo:=⟨1,false,false,none,[],[],[.v .nilFunc],8⟩
@[simp] def ty59:TInfo:=⟨1,false,false,none,[],[],[.v .nilFunc],8⟩
@[simp] def ty60:TInfo:=⟨1,false,false,none,[],[],[.v .nilFunc],8⟩
@[simp] def ty61:TInfo:=⟨1,false,false,none,[],[],[.v .nilIface],16⟩
@[simp] def ty62:TInfo:=⟨1,false,false,none,[],[],[.v .nilIface],16⟩
@[simp] def ty64:TInfo:=⟨1,false,false,none,[],[],[.v .nilFunc],8⟩
@[simp] def ty65:TInfo:=⟨1,false,false,none,[],[],[.v .nilFunc],8⟩
@[simp] def ty66:TInfo:=⟨1,false,false,none,[],[],[.v .nilFunc],8⟩
@[simp] def ty67:TInfo:=⟨1,false,false,none,[],[],[.v .nilFunc],8⟩
@[simp] def ty68:TInfo:=⟨1,false,false,none,[],[],[.v .nilFunc],8⟩
@[simp] def ty69:TInfo:=⟨1,false,false,none,[],[],[.v .nilFunc],8⟩
@[simp] def ty70:TInfo:=⟨1,false,false,none,[],[],[.v .nilFunc],8⟩
@[simp] def ty72:TInfo:=⟨1,false,false,none,[],[],[.v .nilFunc],8⟩
@[simp] def ty73:TInfo:=⟨1,false,false,none,[],[],[.v .nilFunc],8⟩
@[simp] def ty74:TInfo:=⟨1,false,true,none,[],[],[.v (.int .i64 0)],8⟩
@[simp] def ty75:TInfo:=⟨1,false,true,none,[],[],[.v (.int .u64 0)],8⟩
@[simp] def ty77:TInfo:=⟨1,false,false,none,[],[],[.v .nilFunc],8⟩
@[simp] def ty78:TInfo:=⟨1,false,true,none,[],[],[.v (.int .u64 0)],8⟩
@[simp] def ty79:TInfo:=⟨1,false,false,none,[],[],[.v (.pointer none)],8⟩
@[simp] def ty80:TInfo:=⟨1,false,false,none,[],[],[.v .nilFunc],8⟩
@[simp] def ty81:TInfo:=⟨1,false,false,none,[],[],[.v .nilFunc],8⟩
@[simp] def ty82:TInfo:=⟨1,false,false,none,[],[],[.v .nilFunc],8⟩
@[simp] def ty83:TInfo:=⟨1,false,false,none,[],[],[.v .nilFunc],8⟩
@[simp] def ty84:TInfo:=⟨1,false,false,none,[],[],[.v .nilFunc],8⟩
@[simp] def ty85:TInfo:=⟨3,true,false,none,[(0,1),(1,1),(2,1)],[9,9,62],[.v (.string ⟨#[]⟩),.v (.string ⟨#[]⟩),.v .nilIface],48⟩
@[simp] def ty86:TInfo:=⟨3,true,false,none,[(0,1),(1,1),(2,1)],[9,9,62],[.v (.string ⟨#[]⟩),.v (.string ⟨#[]⟩),.v .nilIface],48⟩
@[simp] def ty87:TInfo:=⟨1,false,false,none,[],[],[.v .nilFunc],8⟩
@[simp] def ty88:TInfo:=⟨24,true,false,none,[],[],[.v (.int .u8 0),.v (.int .u8 0),.v (.int .u8 0),.v (.int .u8 0),.v (.int .u8 0),.v (.int .u8 0),.v (.int .u8 0),.v (.int .u8 0),.v (.int .u8 0),.v (.int .u8 0),.v (.int .u8 0),.v (.int .u8 0),.v (.int .u8 0),.v (.int .u8 0),.v (.int .u8 0),.v (.int .u8 0),.v (.int .u8 0),.v (.int .u8 0),.v (.int .u8 0),.v (.int .u8 0),.v (.int .u8 0),.v (.int .u8 0),.v (.int .u8 0),.v (.int .u8 0)],24⟩
@[simp] def ty89:TInfo:=⟨1,false,false,none,[],[],[.v .nilFunc],8⟩
@[simp] def ty90:TInfo:=⟨1,false,false,none,[],[],[.v .nilFunc],8⟩
@[simp] def ty92:TInfo:=⟨1,false,false,none,[],[],[.v .nilFunc],8⟩
@[simp] def ty93:TInfo:=⟨256,true,false,none,[],[],[.v (.int .u8 0),.v (.int .u8 0),.v (.int .u8 0),.v (.int .u8 0),.v (.int .u8 0),.v (.int .u8 0),.v (.int .u8 0),.v (.int .u8 0),.v (.int .u8 0),.v (.int .u8 0),.v (.int .u8 0),.v (.int .u8 0),.v (.int .u8 0),.v (.int .u8 0),.v (.int .u8 0),.v (.int .u8 0),.v (.int .u8 0),.v (.int .u8 0),.v (.int .u8 0),.v (.int .u8 0),.v (.int .u8 0),.v (.int .u8 0),.v (.int .u8 0),.v (.int .u8 0),.v (.int .u8 0),.v (.int .u8 0),.v (.int .u8 0),.v (.int .u8 0),.v (.int .u8 0),.v (.int .u8 0),.v (.int .u8 0),.v (.int .u8 0),.v (.int .u8 0),.v (.int .u8 0),.v (.int .u8 0),.v (.int .u8 0),.v (.int .u8 0),.v (.int .u8 0),.v (.int .u8 0),.v (.int .u8 0),.v (.int .u8 0),.v (.int .u8 0),.v (.int .u8 0),.v (.int .u8 0),.v (.int .u8 0),.v (.int .u8 0),.v (.int .u8 0),.v (.int .u8 0),.v (.int .u8 0),.v (.int .u8 0),.v (.int .u8 0),.v (.int .u8 0),.v (.int .u8 0),.v (.int .u8 0),.v (.int .u8 0),.v (.int .u8 0),.v (.int .u8 0),.v (.int .u8 0),.v (.int .u8 0),.v (.int .u8 0),.v (.int .u8 0),.v (.int .u8 0),.v (.int .u8 0),.v (.int .u8 0),.v (.int .u8 0),.v (.int .u8 0),.v (.int .u8 0),.v (.int .u8 0),.v (.int .u8 0),.v (.int .u8 0),.v (.int .u8 0),.v (.int .u8 0),.v (.int .u8 0),.v (.int .u8 0),.v (.int .u8 0),.v (.int .u8 0),.v (.int .u8 0),.v (.int .u8 0),.v (.int .u8 0),.v (.int .u8 0),.v (.int .u8 0),.v (.int .u8 0),.v (.int .u8 0),.v (.int .u8 0),.v (.int .u8 0),.v (.int .u8 0),.v (.int .u8 0),.v (.int .u8 0),.v (.int .u8 0),.v (.int .u8 0),.v (.int .u8 0),.v (.int .u8 0),.v (.int .u8 0),.v (.int .u8 0),.v (.int .u8 0),.v (.int .u8 0),.v (.int .u8 0),.v (.int .u8 0),.v (.int .u8 0),.v (.int .u8 0),.v (.int .u8 0),.v (.int .u8 0),.v (.int .u8 0),.v (.int .u8 0),.v (.int .u8 0),.v (.int .u8 0),.v (.int .u8 0),.v (.int .u8 0),.v (.int .u8 0),.v (.int .u8 0),.v (.int .u8 0),.v (.int .u8 0),.v (.int .u8 0),.v (.int .u8 0),.v (.int .u8 0),.v (.int .u8 0),.v (.int .u8 0),.v (.int .u8 0),.v (.int .u8 0),.v (.int .u8 0),.v (.int .u8 0),.v (.int .u8 0),.v (.int .u8 0),.v (.int .u8 0),.v (.int .u8 0),.v (.int .u8 0),.v (.int .u8 0),.v (.int .u8 0),.v (.int .u8 0),.v (.int .u8 0),.v (.int .u8 0),.v (.int .u8 0),.v (.int .u8 0),.v (.int .u8 0),.v (.int .u8 0),.v (.int .u8 0),.v (.int .u8 0),.v (.int .u8 0),.v (.int .u8 0),.v (.int .u8 0),.v (.int .u8 0),.v (.int .u8 0),.v (.int .u8 0),.v (.int .u8 0),.v (.int .u8 0),.v (.int .u8 0),.v (.int .u8 0),.v (.int .u8 0),.v (.int .u8 0),.v (.int .u8 0),.v (.int .u8 0),.v (.int .u8 0),.v (.int .u8 0),.v (.int .u8 0),.v (.int .u8 0),.v (.int .u8 0),.v (.int .u8 0),.v (.int .u8 0),.v (.int .u8 0),.v (.int .u8 0),.v (.int .u8 0),.v (.int .u8 0),.v (.int .u8 0),.v (.int .u8 0),.v (.int .u8 0),.v (.int .u8 0),.v (.int .u8 0),.v (.int .u8 0),.v (.int .u8 0),.v (.int .u8 0),.v (.int .u8 0),.v (.int .u8 0),.v (.int .u8 0),.v (.int .u8 0),.v (.int .u8 0),.v (.int .u8 0),.v (.int .u8 0),.v (.int .u8 0),.v (.int .u8 0),.v (.int .u8 0),.v (.int .u8 0),.v (.int .u8 0),.v (.int .u8 0),.v (.int .u8 0),.v (.int .u8 0),.v (.int .u8 0),.v (.int .u8 0),.v (.int .u8 0),.v (.int .u8 0),.v (.int .u8 0),.v (.int .u8 0),.v (.int .u8 0),.v (.int .u8 0),.v (.int .u8 0),.v (.int .u8 0),.v (.int .u8 0),.v (.int .u8 0),.v (.int .u8 0),.v (.int .u8 0),.v (.int .u8 0),.v (.int .u8 0),.v (.int .u8 0),.v (.int .u8 0),.v (.int .u8 0),.v (.int .u8 0),.v (.int .u8 0),.v (.int .u8 0),.v (.int .u8 0),.v (.int .u8 0),.v (.int .u8 0),.v (.int .u8 0),.v (.int .u8 0),.v (.int .u8 0),.v (.int .u8 0),.v (.int .u8 0),.v (.int .u8 0),.v (.int .u8 0),.v (.int .u8 0),.v (.int .u8 0),.v (.int .u8 0),.v (.int .u8 0),.v (.int .u8 0),.v (.int .u8 0),.v (.int .u8 0),.v (.int .u8 0),.v (.int .u8 0),.v (.int .u8 0),.v (.int .u8 0),.v (.int .u8 0),.v (.int .u8 0),.v (.int .u8 0),.v (.int .u8 0),.v (.int .u8 0),.v (.int .u8 0),.v (.int .u8 0),.v (.int .u8 0),.v (.int .u8 0),.v (.int .u8 0),.v (.int .u8 0),.v (.int .u8 0),.v (.int .u8 0),.v (.int .u8 0),.v (.int .u8 0),.v (.int .u8 0),.v (.int .u8 0),.v (.int .u8 0),.v (.int .u8 0),.v (.int .u8 0),.v (.int .u8 0),.v (.int .u8 0),.v (.int .u8 0),.v (.int .u8 0),.v (.int .u8 0),.v (.int .u8 0),.v (.int .u8 0),.v (.int .u8 0)],256⟩
@[simp] def ty94:TInfo:=⟨2,true,false,none,[(0,1),(1,1)],[5,5],[.v (.int .u8 0),.v (.int .u8 0)],2⟩
@[simp] def ty95:TInfo:=⟨2,true,false,none,[(0,1),(1,1)],[5,5],[.v (.int .u8 0),.v (.int .u8 0)],2⟩
@[simp] def ty96:TInfo:=⟨32,true,false,none,[],[],[.v (.int .u8 0),.v (.int .u8 0),.v (.int .u8 0),.v (.int .u8 0),.v (.int .u8 0),.v (.int .u8 0),.v (.int .u8 0),.v (.int .u8 0),.v (.int .u8 0),.v (.int .u8 0),.v (.int .u8 0),.v (.int .u8 0),.v (.int .u8 0),.v (.int .u8 0),.v (.int .u8 0),.v (.int .u8 0),.v (.int .u8 0),.v (.int .u8 0),.v (.int .u8 0),.v (.int .u8 0),.v (.int .u8 0),.v (.int .u8 0),.v (.int .u8 0),.v (.int .u8 0),.v (.int .u8 0),.v (.int .u8 0),.v (.int .u8 0),.v (.int .u8 0),.v (.int .u8 0),.v (.int .u8 0),.v (.int .u8 0),.v (.int .u8 0)],32⟩
@[simp] def ty97:TInfo:=⟨1,false,true,none,[],[],[.v (.int .u32 0)],4⟩
@[simp] def ty99:TInfo:=⟨1,false,false,none,[],[],[.v .nilFunc],8⟩
@[simp] def ty100:TInfo:=⟨1,false,false,none,[],[],[.v (.pointer none)],8⟩
@[simp] def ty101:TInfo:=⟨1,false,false,none,[],[],[.v (.pointer none)],8⟩
@[simp] def ty102:TInfo:=⟨1,true,false,none,[(0,1)],[9],[.v (.string ⟨#[]⟩)],16⟩
@[simp] def ty103:TInfo:=⟨1,true,false,none,[(0,1)],[9],[.v (.string ⟨#[]⟩)],16⟩
@[simp] def ty104:TInfo:=⟨1,false,false,none,[],[],[.v .nilFunc],8⟩
@[simp] def ty105:TInfo:=⟨20,true,false,none,[],[],[.v (.int .u64 0),.v (.int .u64 0),.v (.int .u64 0),.v (.int .u64 0),.v (.int .u64 0),.v (.int .u64 0),.v (.int .u64 0),.v (.int .u64 0),.v (.int .u64 0),.v (.int .u64 0),.v (.int .u64 0),.v (.int .u64 0),.v (.int .u64 0),.v (.int .u64 0),.v (.int .u64 0),.v (.int .u64 0),.v (.int .u64 0),.v (.int .u64 0),.v (.int .u64 0),.v (.int .u64 0)],160⟩
@[simp] def ty106:TInfo:=⟨65,true,false,none,[],[],[.v (.int .u8 0),.v (.int .u8 0),.v (.int .u8 0),.v (.int .u8 0),.v (.int .u8 0),.v (.int .u8 0),.v (.int .u8 0),.v (.int .u8 0),.v (.int .u8 0),.v (.int .u8 0),.v (.int .u8 0),.v (.int .u8 0),.v (.int .u8 0),.v (.int .u8 0),.v (.int .u8 0),.v (.int .u8 0),.v (.int .u8 0),.v (.int .u8 0),.v (.int .u8 0),.v (.int .u8 0),.v (.int .u8 0),.v (.int .u8 0),.v (.int .u8 0),.v (.int .u8 0),.v (.int .u8 0),.v (.int .u8 0),.v (.int .u8 0),.v (.int .u8 0),.v (.int .u8 0),.v (.int .u8 0),.v (.int .u8 0),.v (.int .u8 0),.v (.int .u8 0),.v (.int .u8 0),.v (.int .u8 0),.v (.int .u8 0),.v (.int .u8 0),.v (.int .u8 0),.v (.int .u8 0),.v (.int .u8 0),.v (.int .u8 0),.v (.int .u8 0),.v (.int .u8 0),.v (.int .u8 0),.v (.int .u8 0),.v (.int .u8 0),.v (.int .u8 0),.v (.int .u8 0),.v (.int .u8 0),.v (.int .u8 0),.v (.int .u8 0),.v (.int .u8 0),.v (.int .u8 0),.v (.int .u8 0),.v (.int .u8 0),.v (.int .u8 0),.v (.int .u8 0),.v (.int .u8 0),.v (.int .u8 0),.v (.int .u8 0),.v (.int .u8 0),.v (.int .u8 0),.v (.int .u8 0),.v (.int .u8 0),.v (.int .u8 0)],65⟩
@[simp] def ty107:TInfo:=⟨1,false,false,none,[],[],[.v .nilFunc],8⟩
@[simp] def ty108:TInfo:=⟨1,false,false,none,[],[],[.v .nilFunc],8⟩
@[simp] def ty109:TInfo:=⟨1,false,false,none,[],[],[.v .nilFunc],8⟩
@[simp] def ty110:TInfo:=⟨32,true,false,none,[],[],[.v (.int .u8 0),.v (.int .u8 0),.v (.int .u8 0),.v (.int .u8 0),.v (.int .u8 0),.v (.int .u8 0),.v (.int .u8 0),.v (.int .u8 0),.v (.int .u8 0),.v (.int .u8 0),.v (.int .u8 0),.v (.int .u8 0),.v (.int .u8 0),.v (.int .u8 0),.v (.int .u8 0),.v (.int .u8 0),.v (.int .u8 0),.v (.int .u8 0),.v (.int .u8 0),.v (.int .u8 0),.v (.int .u8 0),.v (.int .u8 0),.v (.int .u8 0),.v (.int .u8 0),.v (.int .u8 0),.v (.int .u8 0),.v (.int .u8 0),.v (.int .u8 0),.v (.int .u8 0),.v (.int .u8 0),.v (.int .u8 0),.v (.int .u8 0)],32⟩
@[simp] def ty111:TInfo:=⟨64,true,false,none,[],[],[.v (.int .u8 0),.v (.int .u8 0),.v (.int .u8 0),.v (.int .u8 0),.v (.int .u8 0),.v (.int .u8 0),.v (.int .u8 0),.v (.int .u8 0),.v (.int .u8 0),.v (.int .u8 0),.v (.int .u8 0),.v (.int .u8 0),.v (.int .u8 0),.v (.int .u8 0),.v (.int .u8 0),.v (.int .u8 0),.v (.int .u8 0),.v (.int .u8 0),.v (.int .u8 0),.v (.int .u8 0),.v (.int .u8 0),.v (.int .u8 0),.v (.int .u8 0),.v (.int .u8 0),.v (.int .u8 0),.v (.int .u8 0),.v (.int .u8 0),.v (.int .u8 0),.v (.int .u8 0),.v (.int .u8 0),.v (.int .u8 0),.v (.int .u8 0),.v (.int .u8 0),.v (.int .u8 0),.v (.int .u8 0),.v (.int .u8 0),.v (.int .u8 0),.v (.int .u8 0),.v (.int .u8 0),.v (.int .u8 0),.v (.int .u8 0),.v (.int .u8 0),.v (.int .u8 0),.v (.int .u8 0),.v (.int .u8 0),.v (.int .u8 0),.v (.int .u8 0),.v (.int .u8 0),.v (.int .u8 0),.v (.int .u8 0),.v (.int .u8 0),.v (.int .u8 0),.v (.int .u8 0),.v (.int .u8 0),.v (.int .u8 0),.v (.int .u8 0),.v (.int .u8 0),.v (.int .u8 0),.v (.int .u8 0),.v (.int .u8 0),.v (.int .u8 0),.v (.int .u8 0),.v (.int .u8 0),.v (.int .u8 0)],64⟩
@[simp] def ty112:TInfo:=⟨1,false,false,none,[],[],[.v .nilFunc],8⟩
@[simp] def ty113:TInfo:=⟨4,true,false,none,[(0,1),(1,1),(2,1),(3,1)],[17,17,17,9],[.v (.pointer none),.v (.pointer none),.v (.pointer none),.v (.string ⟨#[]⟩)],40⟩
@[simp] def ty114:TInfo:=⟨4,true,false,none,[(0,1),(1,1),(2,1),(3,1)],[17,17,17,9],[.v (.pointer none),.v (.pointer none),.v (.pointer none),.v (.string ⟨#[]⟩)],40⟩
@[simp] def ty115:TInfo:=⟨0,true,false,none,[],[],[],0⟩
@[simp] def ty116:TInfo:=⟨0,true,false,none,[(0,0)],[115],[],0⟩
@[simp] def ty117:TInfo:=⟨0,true,false,none,[(0,0)],[115],[],0⟩
@[simp] def ty118:TInfo:=⟨1,false,false,none,[],[],[.v .nilFunc],8⟩
@[simp] def ty119:TInfo:=⟨1,false,true,none,[],[],[.v (.int .u8 0)],1⟩
@[simp] def ty120:TInfo:=⟨1,false,true,none,[],[],[.v (.int .u8 0)],1⟩
@[simp] def ty121:TInfo:=⟨1,false,false,none,[],[],[.v .nilFunc],8⟩
@[simp] def ty122:TInfo:=⟨1,false,true,none,[],[],[.v (.int .i32 0)],4⟩
@[simp] def ty123:TInfo:=⟨1,false,true,none,[],[],[.v (.int .i32 0)],4⟩
@[simp] def ty124:TInfo:=⟨11,true,false,none,[(0,1),(1,1),(2,1),(3,1),(4,1),(5,1),(6,1),(7,1),(8,1),(9,1),(10,1)],[12,12,97,119,5,5,120,121,100,122,123],[.v (.int .u64 0),.v (.int .u64 0),.v (.int .u32 0),.v (.int .u8 0),.v (.int .u8 0),.v (.int .u8 0),.v (.int .u8 0),.v .nilFunc,.v (.pointer none),.v (.int .i32 0),.v (.int .i32 0)],48⟩
@[simp] def ty125:TInfo:=⟨11,true,false,none,[(0,1),(1,1),(2,1),(3,1),(4,1),(5,1),(6,1),(7,1),(8,1),(9,1),(10,1)],[12,12,97,119,5,5,120,121,100,122,123],[.v (.int .u64 0),.v (.int .u64 0),.v (.int .u32 0),.v (.int .u8 0),.v (.int .u8 0),.v (.int .u8 0),.v (.int .u8 0),.v .nilFunc,.v (.pointer none),.v (.int .i32 0),.v (.int .i32 0)],48⟩
def tiT:List (Nat×TInfo):=[(1,ty1),(2,ty2),(3,ty3),(4,ty4),(5,ty5),(6,ty6),(7,ty7),(8,ty8),(9,ty9),(10,ty10),(11,ty11),(12,ty12),(13,ty13),(14,ty14),(15,ty15),(16,ty16),(17,ty17),(18,ty18),(19,ty19),(20,ty20),(21,ty21),(22,ty22),(23,ty23),(24,ty24),(25,ty25),(26,ty26),(27,ty27),(28,ty28),(29,ty29),(30,ty30),(31,ty31),(32,ty32),(33,ty33),(34,ty34),(35,ty35),(36,ty36),(37,ty37),(38,ty38),(40,ty40),(41,ty41),(43,ty43),(44,ty44),(45,ty45),(46,ty46),(48,ty48),(49,ty49),(50,ty50),(51,ty51),(52,ty52),(53,ty53),(55,ty55),(56,ty56),(57,ty57),(58,ty58),(59,ty59),(60,ty60),(61,ty61),(62,ty62),(64,ty64),(65,ty65),(66,ty66),(67,ty67),(68,ty68),(69,ty69),(70,ty70),(72,ty72),(73,ty73),(74,ty74),(75,ty75),(77,ty77),(78,ty78),(79,ty79),(80,ty80),(81,ty81),(82,ty82),(83,ty83),(84,ty84),(85,ty85),(86,ty86),(87,ty87),(88,ty88),(89,ty89),(90,ty90),(92,ty92),(93,ty93),(94,ty94),(95,ty95),(96,ty96),(97,ty97),(99,ty99),(100,ty100),(101,ty101),(102,ty102),(103,ty103),(104,ty104),(105,ty105),(106,ty106),(107,ty107),(108,ty108),(109,ty109),(110,ty110),(111,ty111),(112,ty112),(113,ty113),(114,ty114),(115,ty115),(116,ty116),(117,ty117),(118,ty118),(119,ty119),(120,ty120),(121,ty121),(122,ty122),(123,ty123),(124,ty124),(125,ty125)]
@[simp] def live3:List (Nat×(List Nat×List Nat)):=[(0,[0],[0]),(1,[0,10],[0,10]),(2,[2],[2]),(3,[0,3],[0,3]),(4,[0,3,4],[0,3,4]),(5,[0,3,4,18],[0,3,4,18]),(6,[2],[2]),(7,[0,3,4,5],[0,3,4,5]),(8,[0,3,4,5],[0,3,4,5]),(9,[0,3,4,5,6],[0,3,4,5,6]),(10,[0,3,4,5,6],[0,3,4,5,6]),(11,[0,3,4,5,6,26],[0,3,4,5,6,26]),(12,[2],[2]),(13,[0,3,4,5,29],[0,3,4,5,29]),(14,[2],[2]),(15,[3,4,5,7],[3,4,5,7]),(16,[4,5,35],[4,5,35]),(17,[2],[2]),(18,[4,5,6],[4,5,6]),(19,[5,6],[5,6]),(20,[5,6,40],[5,6,40]),(21,[2],[2]),(22,[43],[43]),(23,[2],[2]),(24,[2],[2])]
@[simp] def pairs3:List (Nat×List (Nat×Nat)):=[]
@[simp] def live4:List (Nat×(List Nat×List Nat)):=[(0,[0],[0]),(1,[0,7],[0,7]),(2,[2],[2]),(3,[0,3],[0,3]),(4,[3,4],[3,4]),(5,[15],[15]),(6,[2],[2]),(7,[2],[2])]
@[simp] def pairs4:List (Nat×List (Nat×Nat)):=[]
@[simp] def live5:List (Nat×(List Nat×List Nat)):=[(0,[0,1],[0,1]),(1,[0,1,5],[0,1,5]),(2,[0,1,5],[0,1,5]),(3,[0,1,17],[0,1,17]),(4,[4],[4]),(5,[0,1,6],[0,1,6]),(6,[0,1,6,7],[0,1,6,7,23]),(7,[0,1,6,7,8],[0,1,6,7,8,23]),(8,[0,1,6,7,8,30],[0,1,6,7,8,23,30]),(9,[4],[4]),(10,[0,1,6,7,8,35],[0,1,6,7,8,23,35]),(11,[4],[4]),(12,[0,1,6,7,8,9],[0,1,6,7,8,9,23]),(13,[0,1,6,8,9],[0,1,6,8,9]),(14,[0,1,6,8,46],[0,1,6,8,46]),(15,[4],[4]),(16,[0,1,6,8,10],[0,1,6,8,10]),(17,[0,1,6,8,10],[0,1,6,8,10]),(18,[0,1,6,8,10,11],[0,1,6,8,10,11]),(19,[0,1,6,8,10,11],[0,1,6,8,10,11]),(20,[0,1,6,8,10,11,54],[0,1,6,8,10,11,54]),(21,[4],[4]),(22,[0,1,6,8,10,57],[0,1,6,8,10,57]),(23,[4],[4]),(24,[6,8,10,12],[6,8,10,12]),(25,[8,10,65],[8,10,65]),(26,[4],[4]),(27,[8,10,11],[8,10,11]),(28,[10,11],[10,11]),(29,[10,11,70],[10,11,70]),(30,[4],[4]),(31,[73],[73]),(32,[4],[4]),(33,[4],[4])]
@[simp] def pairs5:List (Nat×List (Nat×Nat)):=[]
@[simp] def live6:List (Nat×(List Nat×List Nat)):=[(0,[0,2],[0,2]),(1,[2],[2])]
@[simp] def pairs6:List (Nat×List (Nat×Nat)):=[]
@[simp] def live7:List (Nat×(List Nat×List Nat)):=[(0,[0,2],[0,2]),(1,[2],[2])]
@[simp] def pairs7:List (Nat×List (Nat×Nat)):=[]
@[simp] def live8:List (Nat×(List Nat×List Nat)):=[(0,[2,3],[0,1,2,3]),(1,[2,3,9],[0,1,2,3,9]),(2,[4],[4]),(3,[15],[15]),(4,[4],[4]),(5,[4],[4])]
@[simp] def pairs8:List (Nat×List (Nat×Nat)):=[]
@[simp] def live9:List (Nat×(List Nat×List Nat)):=[(0,[0,1,2],[0,1,2]),(1,[0,1],[0,1,2]),(2,[0,4],[0,2,4])]
@[simp] def pairs9:List (Nat×List (Nat×Nat)):=[]
@[simp] def live10:List (Nat×(List Nat×List Nat)):=[(0,[1,2],[1,2]),(1,[1],[1]),(2,[1,10],[1,10]),(3,[4],[4]),(4,[4],[4])]
@[simp] def pairs10:List (Nat×List (Nat×Nat)):=[]
@[simp] def live11:List (Nat×(List Nat×List Nat)):=[(0,[0,2],[0,2]),(1,[2,3,4],[2,3,4]),(2,[2],[2])]
@[simp] def pairs11:List (Nat×List (Nat×Nat)):=[]
@[simp] def live12:List (Nat×(List Nat×List Nat)):=[(0,[0,2],[0,2]),(1,[2,3,4,5],[2,3,4,5,6,8,10]),(2,[2,3,4,12],[2,3,4,6,8,10,12]),(3,[2],[2]),(4,[2,3,4,16],[2,3,4,6,8,10,16]),(5,[2],[2]),(6,[2,4,24],[2,4,6,8,10,24]),(7,[2],[2]),(8,[2],[2])]
@[simp] def pairs12:List (Nat×List (Nat×Nat)):=[]
@[simp] def live13:List (Nat×(List Nat×List Nat)):=[(0,[2,3],[0,1,2,3]),(1,[2,3,9],[0,1,2,3,9]),(2,[4],[4]),(3,[14],[14]),(4,[4],[4]),(5,[4],[4])]
@[simp] def pairs13:List (Nat×List (Nat×Nat)):=[]
@[simp] def live14:List (Nat×(List Nat×List Nat)):=[(0,[0,1],[0,1,9,24]),(1,[0,1],[0,1,9,24]),(2,[0,1,11],[0,1,9,11,24]),(3,[4],[1,4,9,24,27]),(4,[0,1,5],[0,1,5,9,17,24]),(5,[0,1,5,15],[0,1,5,9,15,17,24]),(6,[0,1,5],[0,1,5,9,17,24]),(7,[0,1,5],[0,1,5,9,17,24]),(8,[0,1,5,26],[0,1,5,9,17,24,26]),(9,[4],[1,4,9,24,27]),(10,[4],[1,4,9,24,27])]
@[simp] def pairs14:List (Nat×List (Nat×Nat)):=[]
@[simp] def live15:List (Nat×(List Nat×List Nat)):=[(0,[0,1,4],[0,1,4]),(1,[0,1,4,11],[0,1,4,11]),(2,[4],[4]),(3,[0,1,4,5],[0,1,4,5]),(4,[0,1,4,5,6],[0,1,4,5,6]),(5,[0,1,4,5,6,17],[0,1,4,5,6,17]),(6,[0,1,4,5,6],[0,1,4,5,6]),(7,[0,1,4,5,6,7,8],[0,1,4,5,6,7,8]),(8,[0,1,4,5,6,34],[0,1,4,5,6,34]),(9,[0,1,4,5,6],[0,1,4,5,6]),(10,[4],[4])]
@[simp] def pairs15:List (Nat×List (Nat×Nat)):=[(9,[(1,6)])]
@[simp] def live16:List (Nat×(List Nat×List Nat)):=[(0,[0],[0]),(1,[0,3],[0,3,7]),(2,[0,3,4],[0,3,4,7]),(3,[0,3,4,11],[0,3,4,7,11]),(4,[0,3,4],[0,3,4,7]),(5,[0,3,4],[0,3,4,7]),(6,[2],[2,3,7,21])]
@[simp] def pairs16:List (Nat×List (Nat×Nat)):=[]
@[simp] def live17:List (Nat×(List Nat×List Nat)):=[(0,[0,1,4],[0,1,4]),(1,[0,1,4,11],[0,1,4,11]),(2,[4],[4]),(3,[0,1,4,5],[0,1,4,5]),(4,[1,4,5,14,15,16],[0,1,4,5,14,15,16]),(5,[1,4,5,14,15,16,17],[0,1,4,5,14,15,16,17]),(6,[1,4,5,7,14,15,16],[0,1,4,5,7,14,15,16]),(7,[1,4,5,7,8,14,15,16],[0,1,4,5,7,8,14,15,16]),(8,[1,4,5,7,14,15,16,30],[0,1,4,5,7,14,15,16,30]),(9,[1,4,5,14,15,16],[0,1,4,5,14,15,16]),(10,[1,4,5,14,15,16],[0,1,4,5,14,15,16]),(11,[4],[4])]
@[simp] def pairs17:List (Nat×List (Nat×Nat)):=[]
@[simp] def live18:List (Nat×(List Nat×List Nat)):=[(0,[0,1],[0,1]),(1,[0,1,10],[0,1,10]),(2,[4],[4]),(3,[0,1,5],[0,1,5,16]),(4,[0,1,5,14],[0,1,5,14,16]),(5,[0,1,5],[0,1,5,16]),(6,[0,1,5,25],[0,1,5,16,25]),(7,[4],[4]),(8,[4],[4])]
@[simp] def pairs18:List (Nat×List (Nat×Nat)):=[]
@[simp] def live19:List (Nat×(List Nat×List Nat)):=[(0,[0,1],[0,1]),(1,[0,1,5],[0,1,5]),(2,[0,1,5,9],[0,1,5,9]),(3,[0,1,5],[0,1,5]),(4,[0,1,5],[0,1,5]),(5,[0,1,5],[0,1,5]),(6,[0,4],[0,4])]
@[simp] def pairs19:List (Nat×List (Nat×Nat)):=[]
@[simp] def live20:List (Nat×(List Nat×List Nat)):=[(0,[0],[0]),(1,[0,3],[0,3,6,32]),(2,[0,3,4],[0,3,4,6,32]),(3,[0,3,4,5],[0,3,4,5,6,32]),(4,[0,3,4,5,10],[0,3,4,5,6,10,32]),(5,[0,3,4,5],[0,3,4,5,6,32]),(6,[0,3,4,5,22],[0,3,4,5,6,22,32]),(7,[0,3,4,5,25],[0,3,4,5,6,25,32]),(8,[0,3,5],[0,3,5,6,32]),(9,[0,3,4,5],[0,3,4,5,6,32]),(10,[2],[2,3,6,32,35])]
@[simp] def pairs20:List (Nat×List (Nat×Nat)):=[]
@[simp] def live21:List (Nat×(List Nat×List Nat)):=[(0,[0],[0]),(1,[2],[2,5])]
@[simp] def pairs21:List (Nat×List (Nat×Nat)):=[]
@[simp] def live22:List (Nat×(List Nat×List Nat)):=[(0,[0,1],[0,1]),(1,[0,1,5],[0,1,5]),(2,[0,1,5,9],[0,1,5,9]),(3,[0,1,5],[0,1,5]),(4,[0,1,5,18],[0,1,5,18]),(5,[4],[4]),(6,[0,1,5],[0,1,5]),(7,[4],[4])]
@[simp] def pairs22:List (Nat×List (Nat×Nat)):=[(4,[(2,5),(3,5)])]
@[simp] def live23:List (Nat×(List Nat×List Nat)):=[(0,[0],[0]),(1,[4],[4,8]),(2,[4,11],[4,8,11]),(3,[2,3],[2,3]),(4,[4,5,6],[4,5,6,8,12,15,16]),(5,[4,5,19],[4,5,8,12,15,16,19]),(6,[2,3],[2,3]),(7,[4,5,20],[4,5,8,12,15,16,20]),(8,[2,3],[2,3]),(9,[4,5,41],[4,5,8,12,15,16,41]),(10,[2,3],[2,3]),(11,[5,65],[5,12,15,16,65]),(12,[2,3],[2,3]),(13,[2,3],[2,3])]
@[simp] def pairs23:List (Nat×List (Nat×Nat)):=[]
@[simp] def live24:List (Nat×(List Nat×List Nat)):=[(0,[0],[0]),(1,[5],[5,12]),(2,[5,27],[5,12,27]),(3,[2,3,4],[2,3,4,6,28,46,51]),(4,[5,6],[5,6,12,28,46]),(5,[5,6,30,31,32],[5,6,12,28,29,30,31,32,46]),(6,[5,6,30,31,32,33],[5,6,12,28,29,30,31,32,33,46]),(7,[5,6,8,30,31,32],[5,6,8,12,28,29,30,31,32,46]),(8,[5,6,9,10,30,31,32],[5,6,9,10,12,28,29,30,31,32,46]),(9,[5,6,9,30,31,32,42],[5,6,9,12,28,29,30,31,32,42,46]),(10,[2,3,4],[2,3,4,6,28,46,51]),(11,[5,6,30,31,32],[5,6,12,28,29,30,31,32,46]),(12,[5,6,30,31,32],[5,6,12,28,29,30,31,32,46]),(13,[2,3,4],[2,3,4,6,28,46,51])]
@[simp] def pairs24:List (Nat×List (Nat×Nat)):=[(2,[(4,6),(4,7),(4,11)])]
@[simp] def live25:List (Nat×(List Nat×List Nat)):=[(0,[0],[0]),(1,[0,5],[0,5]),(2,[2],[2]),(3,[0,3],[0,3]),(4,[0,3,7],[0,3,7]),(5,[0,3],[0,3]),(6,[0,3],[0,3]),(7,[2],[2])]
@[simp] def pairs25:List (Nat×List (Nat×Nat)):=[]
@[simp] def live26:List (Nat×(List Nat×List Nat)):=[(0,[0,1],[0,1,6,7,15,21,22,23,24,25,32]),(1,[0,1,5],[0,1,5,6,7,10,15,21,22,23,24,25,32,35]),(2,[0,1,5,12],[0,1,5,6,7,10,12,15,21,22,23,24,25,32,35]),(3,[4],[0,4,5,6,7,10,13,15,21,22,23,24,25,32,35,39,40,41]),(4,[0,1,5,6],[0,1,5,6,7,10,15,21,22,23,24,25,32,35]),(5,[0,1,5,6,19],[0,1,5,6,7,10,15,19,21,22,23,24,25,32,35]),(6,[0,1,5,6],[0,1,5,6,7,10,15,21,22,23,24,25,32,35]),(7,[0,1,5,6,7],[0,1,5,6,7,10,15,21,22,23,24,25,32,35]),(8,[0,1,5,6,7,29],[0,1,5,6,7,10,15,21,22,23,24,25,29,32,35]),(9,[0,1,5,6],[0,1,5,6,7,10,15,21,22,23,24,25,32,35]),(10,[0,1,5,6],[0,1,5,6,7,10,15,21,22,23,24,25,32,35]),(11,[0,5],[0,5,6,7,10,15,21,22,23,24,25,32,35]),(12,[4],[0,4,5,6,7,10,13,15,21,22,23,24,25,32,35,39,40,41])]
@[simp] def pairs26:List (Nat×List (Nat×Nat)):=[]
@[simp] def live28:List (Nat×(List Nat×List Nat)):=[(0,[0],[0]),(1,[2],[2,4])]
@[simp] def pairs28:List (Nat×List (Nat×Nat)):=[]
@[simp] def live29:List (Nat×(List Nat×List Nat)):=[(0,[0],[0]),(1,[0,4],[0,4,8,28]),(2,[0,4,5],[0,4,5,8,14,28]),(3,[0,4,5,12],[0,4,5,8,12,14,28]),(4,[0,4,5],[0,4,5,8,14,28]),(5,[0,4,5,6,7],[0,4,5,6,7,8,14,15,20,21,22,28]),(6,[0,4,5,6,24],[0,4,5,6,8,14,15,20,21,24,28]),(7,[2,3],[2,3,4,8,28,29]),(8,[0,4,5],[0,4,5,8,14,28]),(9,[2,3],[2,3,4,8,28,29])]
@[simp] def pairs29:List (Nat×List (Nat×Nat)):=[]
@[simp] def live30:List (Nat×(List Nat×List Nat)):=[(0,[0,3],[0,1,3]),(1,[4],[4,8])]
@[simp] def pairs30:List (Nat×List (Nat×Nat)):=[]
@[simp] def live31:List (Nat×(List Nat×List Nat)):=[(0,[0,1],[0,1]),(1,[0,1,6,7],[0,1,6,7,8,10,11,12]),(2,[4,5],[4,5,6,8,10,11,13,15,16,18,19,20,24,25,26,30,31])]
@[simp] def pairs31:List (Nat×List (Nat×Nat)):=[]
@[simp] def live32:List (Nat×(List Nat×List Nat)):=[(0,[0,1],[0,1]),(1,[0,1,7,8],[0,1,7,8,18]),(2,[0,1,7,8,9],[0,1,7,8,9,18]),(3,[0,1,5,7,8],[0,1,5,7,8,10,18]),(4,[0,1,5,7,8,16],[0,1,5,7,8,10,16,18]),(5,[4],[4,5,8,10,17,18]),(6,[0,1,7,8],[0,1,7,8,18]),(7,[4],[4,5,8,10,17,18])]
@[simp] def pairs32:List (Nat×List (Nat×Nat)):=[]
@[simp] def live34:List (Nat×(List Nat×List Nat)):=[(0,[0],[0]),(1,[0,23],[0,8,9,12,13,14,17,18,21,22,23]),(2,[2,3],[2,3,4,47,48]),(3,[0,4],[0,4,47]),(4,[0,4,5],[0,4,5,29,47]),(5,[0,4,5,27],[0,4,5,27,29,47]),(6,[0,4,5],[0,4,5,29,47]),(7,[0,4,5,39],[0,4,5,29,33,34,38,39,47]),(8,[2,3],[2,3,4,47,48]),(9,[0,4,5],[0,4,5,29,47]),(10,[2,3],[2,3,4,47,48])]
@[simp] def pairs34:List (Nat×List (Nat×Nat)):=[]
@[simp] def live35:List (Nat×(List Nat×List Nat)):=[(0,[0,3],[0,1,3]),(1,[0,3,7,8],[0,1,3,7,8,18]),(2,[0,3,7,8,9],[0,1,3,7,8,9,18]),(3,[0,3,5,7,8],[0,1,3,5,7,8,10,18]),(4,[0,3,5,7,8,16],[0,1,3,5,7,8,10,16,18]),(5,[4],[4,5,8,10,17,18]),(6,[0,3,7,8],[0,1,3,7,8,18]),(7,[4],[4,5,8,10,17,18])]
@[simp] def pairs35:List (Nat×List (Nat×Nat)):=[]
@[simp] def live37:List (Nat×(List Nat×List Nat)):=[(0,[0],[0]),(1,[2],[2,4])]
@[simp] def pairs37:List (Nat×List (Nat×Nat)):=[]
def liveT:List (Nat×List (Nat×(List Nat×List Nat))):=[(3,live3),(4,live4),(5,live5),(6,live6),(7,live7),(8,live8),(9,live9),(10,live10),(11,live11),(12,live12),(13,live13),(14,live14),(15,live15),(16,live16),(17,live17),(18,live18),(19,live19),(20,live20),(21,live21),(22,live22),(23,live23),(24,live24),(25,live25),(26,live26),(28,live28),(29,live29),(30,live30),(31,live31),(32,live32),(34,live34),(35,live35),(37,live37)]
def pairsT:List (Nat×List (Nat×List (Nat×Nat))):=[(3,pairs3),(4,pairs4),(5,pairs5),(6,pairs6),(7,pairs7),(8,pairs8),(9,pairs9),(10,pairs10),(11,pairs11),(12,pairs12),(13,pairs13),(14,pairs14),(15,pairs15),(16,pairs16),(17,pairs17),(18,pairs18),(19,pairs19),(20,pairs20),(21,pairs21),(22,pairs22),(23,pairs23),(24,pairs24),(25,pairs25),(26,pairs26),(28,pairs28),(29,pairs29),(30,pairs30),(31,pairs31),(32,pairs32),(34,pairs34),(35,pairs35),(37,pairs37)]
@[simp] def kill3:List (Nat×List (List Nat)):=[(0,[[2]]),(1,[[],[8],[9]]),(2,[[]]),(3,[[],[11],[999999],[12]]),(4,[[],[13],[999999],[14]]),(5,[[],[],[15,16],[17]]),(6,[[]]),(7,[[]]),(8,[[],[],[19,20],[21]]),(9,[[]]),(10,[[],[],[22,23],[24]]),(11,[[],[25]]),(12,[[]]),(13,[[6],[],[27,28]]),(14,[[]]),(15,[[0],[30],[999999],[31]]),(16,[[7],[3],[32,33],[34]]),(17,[[]]),(18,[[]]),(19,[[4],[],[36,37],[38]]),(20,[[],[39]]),(21,[[]]),(22,[[6],[5],[41,42]]),(23,[[]]),(24,[[]])]
@[simp] def kill4:List (Nat×List (List Nat)):=[(0,[[2]]),(1,[[],[5],[6]]),(2,[[]]),(3,[[],[8],[],[9]]),(4,[[0],[10],[],[11]]),(5,[[4],[3],[12,13],[14]]),(6,[[]]),(7,[[]])]
@[simp] def kill5:List (Nat×List (List Nat)):=[(0,[[4]]),(1,[[]]),(2,[[],[],[13,14],[15]]),(3,[[5],[16]]),(4,[[]]),(5,[[],[18],[],[19,20],[999999],[21]]),(6,[[],[22],[23]]),(7,[[],[],[24,25],[999999],[26]]),(8,[[],[],[27,28],[29]]),(9,[[]]),(10,[[],[],[32],[31,33],[34]]),(11,[[]]),(12,[[]]),(13,[[7],[],[36,37],[38]]),(14,[[9],[39],[40],[],[],[42,43],[44],[41,45]]),(15,[[]]),(16,[[]]),(17,[[],[],[47,48],[49]]),(18,[[]]),(19,[[],[],[50,51],[52]]),(20,[[],[53]]),(21,[[]]),(22,[[11],[],[55,56]]),(23,[[]]),(24,[[0],[58],[1],[59,60],[999999],[61]]),(25,[[12],[6],[62,63],[64]]),(26,[[]]),(27,[[]]),(28,[[8],[],[66,67],[68]]),(29,[[],[69]]),(30,[[]]),(31,[[11],[10],[71,72]]),(32,[[]]),(33,[[]])]
@[simp] def kill6:List (Nat×List (List Nat)):=[(0,[[]]),(1,[[0],[3],[4],[5]])]
@[simp] def kill7:List (Nat×List (List Nat)):=[(0,[[]]),(1,[[0],[3],[4],[5]])]
@[simp] def kill8:List (Nat×List (List Nat)):=[(0,[[0],[1],[4]]),(1,[[],[5],[],[7],[6,8]]),(2,[[]]),(3,[[2],[10],[3],[12],[11,13],[14]]),(4,[[]]),(5,[[]])]
@[simp] def kill9:List (Nat×List (List Nat)):=[(0,[[],[4]]),(1,[[2],[5],[],[6,7],[8]]),(2,[[1],[9]])]
@[simp] def kill10:List (Nat×List (List Nat)):=[(0,[[0],[4]]),(1,[[2],[5],[],[6,7],[8]]),(2,[[],[9]]),(3,[[]]),(4,[[1],[11]])]
@[simp] def kill11:List (Nat×List (List Nat)):=[(0,[[]]),(1,[[0],[6],[7],[],[5],[8],[9]]),(2,[[4],[3],[10,11],[12]])]
@[simp] def kill12:List (Nat×List (List Nat)):=[(0,[[]]),(1,[[0],[7],[8],[],[],[6],[9],[10],[11]]),(2,[[5],[13],[14]]),(3,[[],[15]]),(4,[[],[17],[18],[],[20],[19,21],[22]]),(5,[[],[23]]),(6,[[],[25],[26],[3],[28],[27,29],[30]]),(7,[[4],[31],[32],[33],[34]]),(8,[[4],[35],[36],[37],[38]])]
@[simp] def kill13:List (Nat×List (List Nat)):=[(0,[[0],[1],[4]]),(1,[[],[5],[],[7],[6,8]]),(2,[[]]),(3,[[2],[10],[3],[12],[11,13]]),(4,[[]]),(5,[[]])]
@[simp] def kill14:List (Nat×List (List Nat)):=[(0,[[4]]),(1,[[],[],[7],[6,8],[9]]),(2,[[],[10]]),(3,[[]]),(4,[[]]),(5,[[],[],[13],[12,14]]),(7,[[],[],[],[19,20],[21],[22],[18,23],[24]]),(8,[[],[25]]),(9,[[]]),(6,[[],[16],[17]]),(10,[[1],[27]])]
@[simp] def kill15:List (Nat×List (List Nat)):=[(0,[[]]),(1,[[],[9],[10]]),(2,[[],[12]]),(3,[[],[999999],[13]]),(4,[[]]),(5,[[],[],[15],[14,16]]),(7,[[],[],[21,22],[23],[24],[25],[],[20],[26],[27]]),(8,[[8],[28],[29],[7],[],[31,32],[30,33]]),(6,[[],[18],[19]]),(10,[[5],[44]])]
@[simp] def kill16:List (Nat×List (List Nat)):=[(0,[[2]]),(1,[[],[5],[6],[7]]),(2,[[]]),(3,[[],[],[9],[8,10]]),(5,[[],[],[],[],[16,17],[18],[14,15],[19,20]]),(4,[[],[12],[13]]),(6,[[3],[21]])]
@[simp] def kill17:List (Nat×List (List Nat)):=[(0,[[]]),(1,[[],[9],[10]]),(2,[[],[12]]),(3,[[],[999999],[13]]),(4,[[0],[],[]]),(5,[[]]),(6,[[],[18],[19]]),(7,[[],[20],[],[21]]),(8,[[],[22],[23],[24],[8],[26],[],[27,28],[25,29]]),(9,[[],[31],[7],[33],[32,34],[],[35,36]]),(10,[[],[37]]),(11,[[5],[38]])]
@[simp] def kill18:List (Nat×List (List Nat)):=[(0,[[4]]),(1,[[],[6],[],[8],[7,9]]),(2,[[]]),(3,[[]]),(4,[[],[],[12],[11,13]]),(7,[[]]),(5,[[],[15],[16]]),(8,[[]])]
@[simp] def kill19:List (Nat×List (List Nat)):=[(0,[[4]]),(1,[[]]),(2,[[],[],[7],[6,8]]),(4,[[],[],[],[14],[12,13],[15,16]]),(5,[[],[17],[18]]),(3,[[],[10],[11]]),(6,[[1],[19]])]
@[simp] def kill20:List (Nat×List (List Nat)):=[(0,[[2]]),(1,[[],[6]]),(2,[[]]),(3,[[]]),(4,[[],[],[8],[7,9]]),(6,[[],[],[14],[13,15],[16],[],[],[18,19],[20],[17,21]]),(7,[[],[],[23,24]]),(8,[[],[],[4],[],[27,28,29],[30],[26,31],[32]]),(9,[[],[33],[34]]),(5,[[],[11],[12]]),(10,[[3],[35]])]
@[simp] def kill21:List (Nat×List (List Nat)):=[(0,[[2]]),(1,[[0],[3],[4],[5]])]
@[simp] def kill22:List (Nat×List (List Nat)):=[(0,[[4]]),(1,[[]]),(2,[[],[],[7],[6,8]]),(5,[[]]),(6,[[],[19],[20]]),(3,[[],[10],[11]]),(7,[[1],[21]])]
@[simp] def kill23:List (Nat×List (List Nat)):=[(0,[[2],[3]]),(1,[[0],[7],[8]]),(2,[[],[9],[10]]),(3,[[],[]]),(4,[[],[13],[14],[15],[],[12],[16],[17]]),(5,[[6],[18]]),(6,[[],[]]),(7,[[],[21],[22],[23],[24],[],[26],[27],[25,28],[29],[],[31],[32],[33],[34],[],[36],[37],[35,38],[30,39],[40]]),(8,[[],[]]),(9,[[],[42],[43],[44],[45],[],[47],[48],[46,49],[50],[],[52],[53],[54],[55],[],[57],[58],[56,59],[51,60],[61]]),(10,[[5],[62],[63],[64],[]]),(11,[[],[66],[67],[68],[69],[],[71],[72],[73],[70,74],[75],[],[77],[78],[76,79],[80],[4],[82],[83],[84],[85],[],[87],[88],[86,89],[81,90],[91]]),(12,[[5],[92],[93],[94],[]]),(13,[[],[]])]
@[simp] def kill24:List (Nat×List (List Nat)):=[(0,[[2],[3],[4]]),(1,[[0],[11],[12]]),(3,[[],[],[]]),(4,[[],[28]]),(5,[[],[29],[],[]]),(6,[[]]),(7,[[],[34],[35]]),(8,[[8],[37],[38],[],[36],[39],[40]]),(9,[[10],[41]]),(10,[[],[],[]]),(11,[[],[9],[44],[43,45],[46]]),(12,[[],[47]]),(13,[[5],[48],[49],[6],[50],[51],[]])]
@[simp] def kill25:List (Nat×List (List Nat)):=[(0,[[2]]),(1,[[],[4]]),(2,[[]]),(3,[[]]),(4,[[],[6]]),(5,[[],[8],[9],[10],[11],[12],[],[13,14],[15]]),(6,[[],[16],[17]]),(7,[[3],[18],[19]])]
@[simp] def kill26:List (Nat×List (List Nat)):=[(0,[[4]]),(1,[[],[],[8,9],[10]]),(2,[[],[11]]),(3,[[0],[13]]),(4,[[],[14],[15]]),(5,[[],[],[17],[16,18]]),(7,[[],[],[22,23],[24],[25]]),(8,[[],[],[26,27],[28]]),(9,[[],[],[7],[30,31],[32,33]]),(10,[[],[34],[35]]),(6,[[],[20],[21]]),(11,[[],[],[36,37],[38]]),(12,[[0],[5],[39,40],[41]])]
@[simp] def kill28:List (Nat×List (List Nat)):=[(0,[[2]]),(1,[[0],[3],[4]])]
@[simp] def kill29:List (Nat×List (List Nat)):=[(0,[[2],[3]]),(1,[[],[8]]),(2,[[]]),(3,[[],[],[10],[9,11]]),(5,[[],[],[16,17],[18],[19],[20],[],[15],[21],[22]]),(6,[[7],[23]]),(7,[[],[]]),(8,[[],[6],[26],[25,27],[28]]),(4,[[],[13],[14]]),(9,[[4],[29],[]])]
@[simp] def kill30:List (Nat×List (List Nat)):=[(0,[[1],[4]]),(1,[[0],[3],[5,6],[7],[8]])]
@[simp] def kill31:List (Nat×List (List Nat)):=[(0,[[4],[5]]),(1,[[],[9],[10],[],[8],[11],[12]]),(2,[[],[7],[14],[15],[],[17],[16,18],[19],[6],[21],[],[22,23],[20,24],[25],[0],[27],[1],[28,29],[26,30],[13],[31]])]
@[simp] def kill32:List (Nat×List (List Nat)):=[(0,[[4]]),(1,[[],[6],[]]),(2,[[]]),(3,[[],[10]]),(4,[[],[],[],[12,13],[14],[11,15]]),(5,[[5],[17]]),(6,[[],[18]]),(7,[[]])]
@[simp] def kill34:List (Nat×List (List Nat)):=[(0,[[2],[3]]),(1,[[],[6],[7],[8],[],[10],[11],[9,12],[13],[],[15],[16],[17],[],[19],[20],[18,21],[14,22]]),(2,[[],[]]),(3,[[]]),(4,[[]]),(5,[[],[],[25],[24,26]]),(7,[[],[],[30,31],[32],[33],[],[],[35,36],[37],[34,38]]),(8,[[],[]]),(9,[[],[40],[],[],[42,43],[44],[45],[41,46],[47]]),(6,[[],[28],[29]]),(10,[[4],[48],[]])]
@[simp] def kill35:List (Nat×List (List Nat)):=[(0,[[1],[4]]),(1,[[],[6],[]]),(2,[[]]),(3,[[],[10]]),(5,[[5],[17]]),(6,[[],[18]]),(7,[[]])]
@[simp] def kill37:List (Nat×List (List Nat)):=[(0,[[2]]),(1,[[0],[3],[4]])]
def killT:List (Nat×List (Nat×List (List Nat))):=[(3,kill3),(4,kill4),(5,kill5),(6,kill6),(7,kill7),(8,kill8),(9,kill9),(10,kill10),(11,kill11),(12,kill12),(13,kill13),(14,kill14),(15,kill15),(16,kill16),(17,kill17),(18,kill18),(19,kill19),(20,kill20),(21,kill21),(22,kill22),(23,kill23),(24,kill24),(25,kill25),(26,kill26),(28,kill28),(29,kill29),(30,kill30),(31,kill31),(32,kill32),(34,kill34),(35,kill35),(37,kill37)]
def goods:List Nat:=[3,4,5,6,7,8,9,10,11,12,13,14,15,16,17,18,19,20,21,22,23,24,25,26,28,29,30,31,32,34,35,37]
def modeT:List (Nat×List Mode):=[(9,[.L,.B]),(19,[.L,.P]),(26,[.V,.R])]
def keepT:List (Nat×List Nat):=[(3,[9,12,14,17,21,24,31,34,38]),(4,[6,9,11,14]),(5,[15,19,21,23,26,29,33,34,38,44,49,52,59,61,64,68]),(6,[4]),(7,[4]),(11,[7]),(12,[8]),(15,[10,16,25,42]),(17,[10,15,21,35]),(20,[9,15,32]),(21,[4,5])]
def takeT:List (Nat×List Nat):=[(3,[3,4,7]),(4,[3,4]),(5,[6,8,12]),(6,[2]),(7,[2]),(11,[2]),(12,[2]),(15,[4,5]),(17,[4,5,8])]
def clrT (f r:Nat):Bool:=if f=26 then decide (r=11) else false
noncomputable def E0:Env where
 P:=Tryd.prog
 ti:=lk tiT
 mode:=fun f=>(lk modeT f).getD []
 keep:=fun f d=>((lk keepT f).getD []).contains d
 live:=fun f r=>(lk liveT f).bind (fun l=>lk l r)
 take:=fun f d=>((lk takeT f).getD []).contains d
 ext:=fun _=>none
 good:=fun f=>goods.contains f
 pairs:=fun f r=>((lk pairsT f).bind (fun l=>lk l r)).getD []
 kill:=fun f r=>((lk killT f).bind (fun l=>lk l r)).getD []
 clr:=clrT
 view:=viewT
@[simp] theorem E0_view (f:Nat):E0.view f=viewT f:=rfl
@[simp] theorem E0_clr (f r:Nat):E0.clr f r=clrT f r:=rfl
theorem able0:Able E0:=by
 have ti:TiOk E0:=tiOk_of (tab:=tiT) rfl (by kernel_rfl)
 have g:goodsB E0 goods=true:=by kernel_rfl
 exact⟨ti,by kernel_rfl,fun f hf=>List.all_eq_true.1 g f (by simpa[E0] using hf),fun f g hg=>by simp[E0] at hg,view_holds rfl⟩
@[simp] theorem kill0_28 (r:Nat):E0.kill (28:Nat) r=(lk kill28 r).getD []:=rfl
@[simp] theorem live0_28 (r:Nat):E0.live (28:Nat) r=lk live28 r:=rfl
@[simp] theorem pairs0_28 (r:Nat):E0.pairs (28:Nat) r=(lk pairs28 r).getD []:=rfl
@[simp] theorem mode0_28:E0.mode (28:Nat)=[]:=rfl
@[simp] theorem keep0_28 (d:Nat):E0.keep (28:Nat) d=([]:List Nat).contains d:=rfl
@[simp] theorem take0_28 (d:Nat):E0.take (28:Nat) d=([]:List Nat).contains d:=rfl
theorem orc0_28 {args:List Arg} {r:Res} (n:Nat) (h:evBody E0 (orc E0) n (28:Nat) Tryd.f28 args=some r):orc E0 (28:Nat) args=some r:=orc_body n rfl rfl rfl Tryd.func28 h
@[simp] theorem kill0_31 (r:Nat):E0.kill (31:Nat) r=(lk kill31 r).getD []:=rfl
@[simp] theorem live0_31 (r:Nat):E0.live (31:Nat) r=lk live31 r:=rfl
@[simp] theorem pairs0_31 (r:Nat):E0.pairs (31:Nat) r=(lk pairs31 r).getD []:=rfl
@[simp] theorem mode0_31:E0.mode (31:Nat)=[]:=rfl
@[simp] theorem keep0_31 (d:Nat):E0.keep (31:Nat) d=([]:List Nat).contains d:=rfl
@[simp] theorem take0_31 (d:Nat):E0.take (31:Nat) d=([]:List Nat).contains d:=rfl
theorem orc0_31 {args:List Arg} {r:Res} (n:Nat) (h:evBody E0 (orc E0) n (31:Nat) Tryd.f31 args=some r):orc E0 (31:Nat) args=some r:=orc_body n rfl rfl rfl Tryd.func31 h
@[simp] theorem kill0_32 (r:Nat):E0.kill (32:Nat) r=(lk kill32 r).getD []:=rfl
@[simp] theorem live0_32 (r:Nat):E0.live (32:Nat) r=lk live32 r:=rfl
@[simp] theorem pairs0_32 (r:Nat):E0.pairs (32:Nat) r=(lk pairs32 r).getD []:=rfl
@[simp] theorem mode0_32:E0.mode (32:Nat)=[]:=rfl
@[simp] theorem keep0_32 (d:Nat):E0.keep (32:Nat) d=([]:List Nat).contains d:=rfl
@[simp] theorem take0_32 (d:Nat):E0.take (32:Nat) d=([]:List Nat).contains d:=rfl
theorem orc0_32 {args:List Arg} {r:Res} (n:Nat) (h:evBody E0 (orc E0) n (32:Nat) Tryd.f32 args=some r):orc E0 (32:Nat) args=some r:=orc_body n rfl rfl rfl Tryd.func32 h
@[simp] theorem ti0_1:E0.ti 1=some ty1:=rfl
@[simp] theorem ti0_2:E0.ti 2=some ty2:=rfl
@[simp] theorem ti0_3:E0.ti 3=some ty3:=rfl
@[simp] theorem ti0_4:E0.ti 4=some ty4:=rfl
@[simp] theorem ti0_5:E0.ti 5=some ty5:=rfl
@[simp] theorem ti0_6:E0.ti 6=some ty6:=rfl
@[simp] theorem ti0_7:E0.ti 7=some ty7:=rfl
@[simp] theorem ti0_8:E0.ti 8=some ty8:=rfl
@[simp] theorem ti0_9:E0.ti 9=some ty9:=rfl
@[simp] theorem ti0_10:E0.ti 10=some ty10:=rfl
@[simp] theorem ti0_11:E0.ti 11=some ty11:=rfl
@[simp] theorem ti0_12:E0.ti 12=some ty12:=rfl
@[simp] theorem ti0_13:E0.ti 13=some ty13:=rfl
@[simp] theorem ti0_14:E0.ti 14=some ty14:=rfl
@[simp] theorem ti0_15:E0.ti 15=some ty15:=rfl
@[simp] theorem ti0_16:E0.ti 16=some ty16:=rfl
@[simp] theorem ti0_17:E0.ti 17=some ty17:=rfl
@[simp] theorem ti0_18:E0.ti 18=some ty18:=rfl
@[simp] theorem ti0_19:E0.ti 19=some ty19:=rfl
@[simp] theorem ti0_20:E0.ti 20=some ty20:=rfl
@[simp] theorem ti0_21:E0.ti 21=some ty21:=rfl
@[simp] theorem ti0_22:E0.ti 22=some ty22:=rfl
@[simp] theorem ti0_23:E0.ti 23=some ty23:=rfl
@[simp] theorem ti0_24:E0.ti 24=some ty24:=rfl
@[simp] theorem ti0_25:E0.ti 25=some ty25:=rfl
@[simp] theorem ti0_26:E0.ti 26=some ty26:=rfl
@[simp] theorem ti0_27:E0.ti 27=some ty27:=rfl
@[simp] theorem ti0_28:E0.ti 28=some ty28:=rfl
@[simp] theorem ti0_29:E0.ti 29=some ty29:=rfl
@[simp] theorem ti0_30:E0.ti 30=some ty30:=rfl
@[simp] theorem ti0_31:E0.ti 31=some ty31:=rfl
@[simp] theorem ti0_32:E0.ti 32=some ty32:=rfl
@[simp] theorem ti0_33:E0.ti 33=some ty33:=rfl
@[simp] theorem ti0_34:E0.ti 34=some ty34:=rfl
@[simp] theorem ti0_35:E0.ti 35=some ty35:=rfl
@[simp] theorem ti0_36:E0.ti 36=some ty36:=rfl
@[simp] theorem ti0_37:E0.ti 37=some ty37:=rfl
@[simp] theorem ti0_38:E0.ti 38=some ty38:=rfl
@[simp] theorem ti0_40:E0.ti 40=some ty40:=rfl
@[simp] theorem ti0_41:E0.ti 41=some ty41:=rfl
@[simp] theorem ti0_43:E0.ti 43=some ty43:=rfl
@[simp] theorem ti0_44:E0.ti 44=some ty44:=rfl
@[simp] theorem ti0_45:E0.ti 45=some ty45:=rfl
@[simp] theorem ti0_46:E0.ti 46=some ty46:=rfl
@[simp] theorem ti0_48:E0.ti 48=some ty48:=rfl
@[simp] theorem ti0_49:E0.ti 49=some ty49:=rfl
@[simp] theorem ti0_50:E0.ti 50=some ty50:=rfl
@[simp] theorem ti0_51:E0.ti 51=some ty51:=rfl
@[simp] theorem ti0_52:E0.ti 52=some ty52:=rfl
@[simp] theorem ti0_53:E0.ti 53=some ty53:=rfl
@[simp] theorem ti0_55:E0.ti 55=some ty55:=rfl
@[simp] theorem ti0_56:E0.ti 56=some ty56:=rfl
@[simp] theorem ti0_57:E0.ti 57=some ty57:=rfl
@[simp] theorem ti0_58:E0.ti 58=some ty58:=rfl
@[simp] theorem ti0_59:E0.ti 59=some ty59:=rfl
@[simp] theorem ti0_60:E0.ti 60=some ty60:=rfl
@[simp] theorem ti0_61:E0.ti 61=some ty61:=rfl
@[simp] theorem ti0_62:E0.ti 62=some ty62:=rfl
@[simp] theorem ti0_64:E0.ti 64=some ty64:=rfl
@[simp] theorem ti0_65:E0.ti 65=some ty65:=rfl
@[simp] theorem ti0_66:E0.ti 66=some ty66:=rfl
@[simp] theorem ti0_67:E0.ti 67=some ty67:=rfl
@[simp] theorem ti0_68:E0.ti 68=some ty68:=rfl
@[simp] theorem ti0_69:E0.ti 69=some ty69:=rfl
@[simp] theorem ti0_70:E0.ti 70=some ty70:=rfl
@[simp] theorem ti0_72:E0.ti 72=some ty72:=rfl
@[simp] theorem ti0_73:E0.ti 73=some ty73:=rfl
@[simp] theorem ti0_74:E0.ti 74=some ty74:=rfl
@[simp] theorem ti0_75:E0.ti 75=some ty75:=rfl
@[simp] theorem ti0_77:E0.ti 77=some ty77:=rfl
@[simp] theorem ti0_78:E0.ti 78=some ty78:=rfl
@[simp] theorem ti0_79:E0.ti 79=some ty79:=rfl
@[simp] theorem ti0_80:E0.ti 80=some ty80:=rfl
@[simp] theorem ti0_81:E0.ti 81=some ty81:=rfl
@[simp] theorem ti0_82:E0.ti 82=some ty82:=rfl
@[simp] theorem ti0_83:E0.ti 83=some ty83:=rfl
@[simp] theorem ti0_84:E0.ti 84=some ty84:=rfl
@[simp] theorem ti0_85:E0.ti 85=some ty85:=rfl
@[simp] theorem ti0_86:E0.ti 86=some ty86:=rfl
@[simp] theorem ti0_87:E0.ti 87=some ty87:=rfl
@[simp] theorem ti0_88:E0.ti 88=some ty88:=rfl
@[simp] theorem ti0_89:E0.ti 89=some ty89:=rfl
@[simp] theorem ti0_90:E0.ti 90=some ty90:=rfl
@[simp] theorem ti0_92:E0.ti 92=some ty92:=rfl
@[simp] theorem ti0_93:E0.ti 93=some ty93:=rfl
@[simp] theorem ti0_94:E0.ti 94=some ty94:=rfl
@[simp] theorem ti0_95:E0.ti 95=some ty95:=rfl
@[simp] theorem ti0_96:E0.ti 96=some ty96:=rfl
@[simp] theorem ti0_97:E0.ti 97=some ty97:=rfl
@[simp] theorem ti0_99:E0.ti 99=some ty99:=rfl
@[simp] theorem ti0_100:E0.ti 100=some ty100:=rfl
@[simp] theorem ti0_101:E0.ti 101=some ty101:=rfl
@[simp] theorem ti0_102:E0.ti 102=some ty102:=rfl
@[simp] theorem ti0_103:E0.ti 103=some ty103:=rfl
@[simp] theorem ti0_104:E0.ti 104=some ty104:=rfl
@[simp] theorem ti0_105:E0.ti 105=some ty105:=rfl
@[simp] theorem ti0_106:E0.ti 106=some ty106:=rfl
@[simp] theorem ti0_107:E0.ti 107=some ty107:=rfl
@[simp] theorem ti0_108:E0.ti 108=some ty108:=rfl
@[simp] theorem ti0_109:E0.ti 109=some ty109:=rfl
@[simp] theorem ti0_110:E0.ti 110=some ty110:=rfl
@[simp] theorem ti0_111:E0.ti 111=some ty111:=rfl
@[simp] theorem ti0_112:E0.ti 112=some ty112:=rfl
@[simp] theorem ti0_113:E0.ti 113=some ty113:=rfl
@[simp] theorem ti0_114:E0.ti 114=some ty114:=rfl
@[simp] theorem ti0_115:E0.ti 115=some ty115:=rfl
@[simp] theorem ti0_116:E0.ti 116=some ty116:=rfl
@[simp] theorem ti0_117:E0.ti 117=some ty117:=rfl
@[simp] theorem ti0_118:E0.ti 118=some ty118:=rfl
@[simp] theorem ti0_119:E0.ti 119=some ty119:=rfl
@[simp] theorem ti0_120:E0.ti 120=some ty120:=rfl
@[simp] theorem ti0_121:E0.ti 121=some ty121:=rfl
@[simp] theorem ti0_122:E0.ti 122=some ty122:=rfl
@[simp] theorem ti0_123:E0.ti 123=some ty123:=rfl
@[simp] theorem ti0_124:E0.ti 124=some ty124:=rfl
@[simp] theorem ti0_125:E0.ti 125=some ty125:=rfl
end Go.TM.Dw
namespace Go.Proofs
open Go Go.Shelf
set_option maxRecDepth 100000
def Tryd.lays146_ren:Go.Shelf.Ren:=⟨fun | 146=>27 | 221=>33 | 268=>38 | 138=>39 | 143=>40 | 195=>44 | 197=>45 | 218=>46 | 219=>47 | 260=>54 | 217=>55 | 225=>56 | 224=>57 | 267=>58 | 266=>68 | 314=>69 | n=>n,fun | 9=>9 | 31=>22 | 3=>3 | 4=>4 | 0=>0 | 105=>71 | 21=>21 | 5=>5 | 46=>78 | 119=>93 | 139=>96 | 138=>95 | 146=>98 | 51=>97 | n=>n,fun | 1=>1 | 3=>4 | 4=>5 | n=>n⟩
theorem Tryd.lays146:Go.Proofs.Lays.n146 Tryd.prog Tryd.lays146_ren:={
 mixed:=by kernel_rfl
 f138:=Tryd.func39.trans (congrArg some (by kernel_rfl))
 f143:=Tryd.func40.trans (congrArg some (by kernel_rfl))
 f146:=Tryd.func27.trans (congrArg some (by kernel_rfl))
 f195:=Tryd.func44.trans (congrArg some (by kernel_rfl))
 f197:=Tryd.func45.trans (congrArg some (by kernel_rfl))
 f217:=Tryd.func55.trans (congrArg some (by kernel_rfl))
 f218:=Tryd.func46.trans (congrArg some (by kernel_rfl))
 f219:=Tryd.func47.trans (congrArg some (by kernel_rfl))
 f221:=Tryd.func33.trans (congrArg some (by kernel_rfl))
 f224:=Tryd.func57.trans (congrArg some (by kernel_rfl))
 f225:=Tryd.func56.trans (congrArg some (by kernel_rfl))
 f260:=Tryd.func54.trans (congrArg some (by kernel_rfl))
 f266:=Tryd.func68.trans (congrArg some (by kernel_rfl))
 f267:=Tryd.func58.trans (congrArg some (by kernel_rfl))
 f268:=Tryd.func38.trans (congrArg some (by kernel_rfl))
 f314:=Tryd.func69.trans (congrArg some (by kernel_rfl))
 t0:=Tryd.underlying0
 a0:=Tryd.isAgg0
 z0:=Tryd.sizeOf0
 v0:=Tryd.zeroValue0
 t3:=Tryd.underlying3
 a3:=Tryd.isAgg3
 z3:=Tryd.sizeOf3
 v3:=Tryd.zeroValue3
 t4:=Tryd.underlying4
 a4:=Tryd.isAgg4
 z4:=Tryd.sizeOf4
 v4:=Tryd.zeroValue4
 t5:=Tryd.underlying5
 a5:=Tryd.isAgg5
 z5:=Tryd.sizeOf5
 v5:=Tryd.zeroValue5
 t9:=Tryd.underlying9
 a9:=Tryd.isAgg9
 z9:=Tryd.sizeOf9
 v9:=Tryd.zeroValue9
 t21:=Tryd.underlying21
 a21:=Tryd.isAgg21
 z21:=Tryd.sizeOf21
 v21:=Tryd.zeroValue21
 t31:=Tryd.underlying22
 a31:=Tryd.isAgg22
 z31:=Tryd.sizeOf22
 v31:=Tryd.zeroValue22
 t46:=Tryd.underlying78
 a46:=Tryd.isAgg78
 z46:=Tryd.sizeOf78
 v46:=Tryd.zeroValue78
 t51:=Tryd.underlying97
 a51:=Tryd.isAgg97
 z51:=Tryd.sizeOf97
 v51:=Tryd.zeroValue97
 t105:=Tryd.underlying71
 a105:=Tryd.isAgg71
 z105:=Tryd.sizeOf71
 v105:=Tryd.zeroValue71
 t119:=Tryd.underlying93
 a119:=Tryd.isAgg93
 z119:=Tryd.sizeOf93
 t138:=Tryd.underlying95
 a138:=Tryd.isAgg95
 z138:=Tryd.sizeOf95
 v138:=Tryd.zeroValue95
 t139:=Tryd.underlying96
 a139:=Tryd.isAgg96
 z139:=Tryd.sizeOf96
 v139:=Tryd.zeroValue96
 t146:=Tryd.underlying98
 a146:=Tryd.isAgg98
 z146:=Tryd.sizeOf98
 v146:=Tryd.zeroValue98
 g1:=by kernel_rfl
 g3:=by kernel_rfl
 g4:=by kernel_rfl }
open Go.RowKit Go.Lib in
theorem Tryd.strings_Split (s sep:ByteArray) (m:Int) (w:World) (hs:s.size<4294967281) (hm:w.cell? ⟨1,0,none⟩=some (.int .i64 m)) (h1:1≤sep.size):
  Calls Tryd.prog 27 #[.string s,.string sep] w fun e w'=>
   e=.returned (.slice (some ⟨w.heap.size,0,none⟩) (Lib.countB s sep+1) (Lib.countB s sep+1))∧w'=w.alloc (.cells ((Lib.splitB sep 0 (Lib.countB s sep) s).map Value.string).toArray 9):=Any.strings_Split Tryd.lays146 (by kernel_rfl) s sep m w hs hm h1
def Tryd.laysM173_ren:Go.Shelf.Ren:=⟨fun | 173=>43 | 246=>53 | 283=>64 | 284=>65 | 285=>66 | 286=>67 | 129=>72 | 317=>71 | 318=>73 | 319=>74 | 320=>75 | 337=>76 | 338=>77 | n=>n,fun | 2=>2 | 3=>3 | 9=>9 | 4=>4 | 171=>88 | 0=>0 | 53=>75 | 37=>56 | 5=>5 | 173=>91 | 212=>105 | 51=>97 | 20=>20 | 213=>106 | 46=>78 | 232=>110 | 233=>111 | n=>n,fun | 17=>6 | 18=>7 | 19=>8 | n=>n⟩
theorem Tryd.laysM173:Go.Proofs.LaysM.n173 Tryd.prog Tryd.laysM173_ren:={
 mixed:=by kernel_rfl
 f129:=Tryd.func72.trans (congrArg some (by kernel_rfl))
 f173:=Tryd.func43.trans (congrArg some (by kernel_rfl))
 f246:=Tryd.func53.trans (congrArg some (by kernel_rfl))
 f283:=Tryd.func64.trans (congrArg some (by kernel_rfl))
 f284:=Tryd.func65.trans (congrArg some (by kernel_rfl))
 f285:=Tryd.func66.trans (congrArg some (by kernel_rfl))
 f286:=Tryd.func67.trans (congrArg some (by kernel_rfl))
 f317:=Tryd.func71.trans (congrArg some (by kernel_rfl))
 f318:=Tryd.func73.trans (congrArg some (by kernel_rfl))
 f319:=Tryd.func74.trans (congrArg some (by kernel_rfl))
 f320:=Tryd.func75.trans (congrArg some (by kernel_rfl))
 f337:=Tryd.func76.trans (congrArg some (by kernel_rfl))
 f338:=Tryd.func77.trans (congrArg some (by kernel_rfl))
 t0:=Tryd.underlying0
 a0:=Tryd.isAgg0
 z0:=Tryd.sizeOf0
 v0:=Tryd.zeroValue0
 t2:=Tryd.underlying2
 a2:=Tryd.isAgg2
 z2:=Tryd.sizeOf2
 v2:=Tryd.zeroValue2
 t3:=Tryd.underlying3
 a3:=Tryd.isAgg3
 z3:=Tryd.sizeOf3
 v3:=Tryd.zeroValue3
 t4:=Tryd.underlying4
 a4:=Tryd.isAgg4
 z4:=Tryd.sizeOf4
 v4:=Tryd.zeroValue4
 t5:=Tryd.underlying5
 a5:=Tryd.isAgg5
 z5:=Tryd.sizeOf5
 v5:=Tryd.zeroValue5
 t9:=Tryd.underlying9
 a9:=Tryd.isAgg9
 z9:=Tryd.sizeOf9
 v9:=Tryd.zeroValue9
 t20:=Tryd.underlying20
 a20:=Tryd.isAgg20
 z20:=Tryd.sizeOf20
 v20:=Tryd.zeroValue20
 t37:=Tryd.underlying56
 a37:=Tryd.isAgg56
 z37:=Tryd.sizeOf56
 v37:=Tryd.zeroValue56
 t46:=Tryd.underlying78
 a46:=Tryd.isAgg78
 z46:=Tryd.sizeOf78
 v46:=Tryd.zeroValue78
 t51:=Tryd.underlying97
 a51:=Tryd.isAgg97
 z51:=Tryd.sizeOf97
 v51:=Tryd.zeroValue97
 t53:=Tryd.underlying75
 a53:=Tryd.isAgg75
 z53:=Tryd.sizeOf75
 v53:=Tryd.zeroValue75
 t171:=Tryd.underlying88
 a171:=Tryd.isAgg88
 z171:=Tryd.sizeOf88
 v171:=Tryd.zeroValue88
 t173:=Tryd.underlying91
 a173:=Tryd.isAgg91
 z173:=Tryd.sizeOf91
 v173:=Tryd.zeroValue91
 t212:=Tryd.underlying105
 a212:=Tryd.isAgg105
 z212:=Tryd.sizeOf105
 v212:=Tryd.zeroValue105
 t213:=Tryd.underlying106
 a213:=Tryd.isAgg106
 z213:=Tryd.sizeOf106
 t232:=Tryd.underlying110
 a232:=Tryd.isAgg110
 z232:=Tryd.sizeOf110
 v232:=Tryd.zeroValue110
 t233:=Tryd.underlying111
 a233:=Tryd.isAgg111
 z233:=Tryd.sizeOf111
 v233:=Tryd.zeroValue111
 g17:=by kernel_rfl
 g18:=by kernel_rfl
 g19:=by kernel_rfl
 i0:=by kernel_rfl
 i2:=by kernel_rfl
 i3:=by kernel_rfl
 i4:=by kernel_rfl
 i5:=by kernel_rfl
 i9:=by kernel_rfl
 i20:=by kernel_rfl
 i37:=by kernel_rfl
 i46:=by kernel_rfl
 i51:=by kernel_rfl
 i53:=by kernel_rfl
 i171:=by kernel_rfl
 i173:=by kernel_rfl
 i212:=by kernel_rfl
 i232:=by kernel_rfl
 i233:=by kernel_rfl
 m17:=by kernel_rfl
 m18:=by kernel_rfl
 m19:=by kernel_rfl }
open Go.RowKit Go.Sort Go.Lib in
theorem Tryd.strconv_FormatInt_10 (n : Int) (h0 : -9223372036854775808 ≤ n) (h1 : n ≤ 9223372036854775807) (w : World) (htab : Lib.TabIs Tryd.prog w "internal/strconv.uint64pow10" .u64 Lib.pow10Tab) :
  Calls Tryd.prog 43 #[.int .i64 n,.int .i64 10] w fun e w'=>e=.returned (.string ⟨(Lib.itoa n).toArray⟩)∧∃ k os,w'=grow (w.drewN k) os:=Any.strconv_FormatInt_10 Tryd.laysM173 n h0 h1 w htab
def Tryd.laysC174_ren:Go.Shelf.Ren:=⟨fun | 174=>36 | 247=>41 | 245=>42 | 287=>48 | 279=>49 | 280=>50 | 281=>51 | 282=>52 | 321=>59 | 322=>60 | 316=>61 | 171=>63 | 205=>62 | 243=>70 | 246=>53 | 283=>64 | 284=>65 | 285=>66 | 286=>67 | 129=>72 | 317=>71 | 318=>73 | 319=>74 | 320=>75 | 337=>76 | 338=>77 | n=>n,fun | 9=>9 | 3=>3 | 2=>2 | 75=>62 | 85=>63 | 4=>4 | 167=>74 | 5=>5 | 53=>75 | 175=>76 | 46=>78 | 168=>79 | 37=>56 | 0=>0 | 210=>86 | 21=>21 | 127=>100 | 145=>103 | 143=>101 | 171=>88 | 173=>91 | 212=>105 | 51=>97 | 20=>20 | 213=>106 | 232=>110 | 233=>111 | 80=>112 | n=>n,fun | 15=>2 | 16=>3 | 17=>6 | 18=>7 | 19=>8 | n=>n⟩
theorem Tryd.laysC174:Go.Proofs.LaysC.n174 Tryd.prog Tryd.laysC174_ren:={
 mixed:=by kernel_rfl
 f129:=Tryd.func72.trans (congrArg some (by kernel_rfl))
 f171:=Tryd.func63.trans (congrArg some (by kernel_rfl))
 f174:=Tryd.func36.trans (congrArg some (by kernel_rfl))
 f205:=Tryd.func62.trans (congrArg some (by kernel_rfl))
 f243:=Tryd.func70.trans (congrArg some (by kernel_rfl))
 f245:=Tryd.func42.trans (congrArg some (by kernel_rfl))
 f246:=Tryd.func53.trans (congrArg some (by kernel_rfl))
 f247:=Tryd.func41.trans (congrArg some (by kernel_rfl))
 f279:=Tryd.func49.trans (congrArg some (by kernel_rfl))
 f280:=Tryd.func50.trans (congrArg some (by kernel_rfl))
 f281:=Tryd.func51.trans (congrArg some (by kernel_rfl))
 f282:=Tryd.func52.trans (congrArg some (by kernel_rfl))
 f283:=Tryd.func64.trans (congrArg some (by kernel_rfl))
 f284:=Tryd.func65.trans (congrArg some (by kernel_rfl))
 f285:=Tryd.func66.trans (congrArg some (by kernel_rfl))
 f286:=Tryd.func67.trans (congrArg some (by kernel_rfl))
 f287:=Tryd.func48.trans (congrArg some (by kernel_rfl))
 f316:=Tryd.func61.trans (congrArg some (by kernel_rfl))
 f317:=Tryd.func71.trans (congrArg some (by kernel_rfl))
 f318:=Tryd.func73.trans (congrArg some (by kernel_rfl))
 f319:=Tryd.func74.trans (congrArg some (by kernel_rfl))
 f320:=Tryd.func75.trans (congrArg some (by kernel_rfl))
 f321:=Tryd.func59.trans (congrArg some (by kernel_rfl))
 f322:=Tryd.func60.trans (congrArg some (by kernel_rfl))
 f337:=Tryd.func76.trans (congrArg some (by kernel_rfl))
 f338:=Tryd.func77.trans (congrArg some (by kernel_rfl))
 t0:=Tryd.underlying0
 a0:=Tryd.isAgg0
 z0:=Tryd.sizeOf0
 v0:=Tryd.zeroValue0
 t2:=Tryd.underlying2
 a2:=Tryd.isAgg2
 z2:=Tryd.sizeOf2
 v2:=Tryd.zeroValue2
 t3:=Tryd.underlying3
 a3:=Tryd.isAgg3
 z3:=Tryd.sizeOf3
 v3:=Tryd.zeroValue3
 t4:=Tryd.underlying4
 a4:=Tryd.isAgg4
 z4:=Tryd.sizeOf4
 v4:=Tryd.zeroValue4
 t5:=Tryd.underlying5
 a5:=Tryd.isAgg5
 z5:=Tryd.sizeOf5
 v5:=Tryd.zeroValue5
 t9:=Tryd.underlying9
 a9:=Tryd.isAgg9
 z9:=Tryd.sizeOf9
 v9:=Tryd.zeroValue9
 t20:=Tryd.underlying20
 a20:=Tryd.isAgg20
 z20:=Tryd.sizeOf20
 v20:=Tryd.zeroValue20
 t21:=Tryd.underlying21
 a21:=Tryd.isAgg21
 z21:=Tryd.sizeOf21
 v21:=Tryd.zeroValue21
 t37:=Tryd.underlying56
 a37:=Tryd.isAgg56
 z37:=Tryd.sizeOf56
 v37:=Tryd.zeroValue56
 t46:=Tryd.underlying78
 a46:=Tryd.isAgg78
 z46:=Tryd.sizeOf78
 v46:=Tryd.zeroValue78
 t51:=Tryd.underlying97
 a51:=Tryd.isAgg97
 z51:=Tryd.sizeOf97
 v51:=Tryd.zeroValue97
 t53:=Tryd.underlying75
 a53:=Tryd.isAgg75
 z53:=Tryd.sizeOf75
 v53:=Tryd.zeroValue75
 t75:=Tryd.underlying62
 a75:=Tryd.isAgg62
 z75:=Tryd.sizeOf62
 v75:=Tryd.zeroValue62
 t85:=Tryd.underlying63
 a85:=Tryd.isAgg63
 z85:=Tryd.sizeOf63
 v85:=Tryd.zeroValue63
 t127:=Tryd.underlying100
 a127:=Tryd.isAgg100
 z127:=Tryd.sizeOf100
 v127:=Tryd.zeroValue100
 t143:=Tryd.underlying101
 a143:=Tryd.isAgg101
 z143:=Tryd.sizeOf101
 v143:=Tryd.zeroValue101
 t145:=Tryd.underlying103
 a145:=Tryd.isAgg103
 z145:=Tryd.sizeOf103
 v145:=Tryd.zeroValue103
 t167:=Tryd.underlying74
 a167:=Tryd.isAgg74
 z167:=Tryd.sizeOf74
 v167:=Tryd.zeroValue74
 t168:=Tryd.underlying79
 a168:=Tryd.isAgg79
 z168:=Tryd.sizeOf79
 v168:=Tryd.zeroValue79
 t171:=Tryd.underlying88
 a171:=Tryd.isAgg88
 z171:=Tryd.sizeOf88
 v171:=Tryd.zeroValue88
 t173:=Tryd.underlying91
 a173:=Tryd.isAgg91
 z173:=Tryd.sizeOf91
 v173:=Tryd.zeroValue91
 t175:=Tryd.underlying76
 a175:=Tryd.isAgg76
 z175:=Tryd.sizeOf76
 v175:=Tryd.zeroValue76
 t210:=Tryd.underlying86
 a210:=Tryd.isAgg86
 z210:=Tryd.sizeOf86
 v210:=Tryd.zeroValue86
 t212:=Tryd.underlying105
 a212:=Tryd.isAgg105
 z212:=Tryd.sizeOf105
 v212:=Tryd.zeroValue105
 t213:=Tryd.underlying106
 a213:=Tryd.isAgg106
 z213:=Tryd.sizeOf106
 t232:=Tryd.underlying110
 a232:=Tryd.isAgg110
 z232:=Tryd.sizeOf110
 v232:=Tryd.zeroValue110
 t233:=Tryd.underlying111
 a233:=Tryd.isAgg111
 z233:=Tryd.sizeOf111
 v233:=Tryd.zeroValue111
 g15:=by kernel_rfl
 g16:=by kernel_rfl
 g17:=by kernel_rfl
 g18:=by kernel_rfl
 g19:=by kernel_rfl
 t80:=Tryd.underlying112
 a80:=Tryd.isAgg112
 z80:=Tryd.sizeOf112
 v80:=Tryd.zeroValue112
 i0:=by kernel_rfl
 i2:=by kernel_rfl
 i3:=by kernel_rfl
 i4:=by kernel_rfl
 i5:=by kernel_rfl
 i9:=by kernel_rfl
 i20:=by kernel_rfl
 i21:=by kernel_rfl
 i37:=by kernel_rfl
 i46:=by kernel_rfl
 i51:=by kernel_rfl
 i53:=by kernel_rfl
 i75:=by kernel_rfl
 i80:=by kernel_rfl
 i85:=by kernel_rfl
 i127:=by kernel_rfl
 i143:=by kernel_rfl
 i145:=by kernel_rfl
 i167:=by kernel_rfl
 i168:=by kernel_rfl
 i171:=by kernel_rfl
 i173:=by kernel_rfl
 i175:=by kernel_rfl
 i210:=by kernel_rfl
 i212:=by kernel_rfl
 i232:=by kernel_rfl
 i233:=by kernel_rfl
 m15:=by kernel_rfl
 m16:=by kernel_rfl
 m17:=by kernel_rfl
 m18:=by kernel_rfl
 m19:=by kernel_rfl
 c0:=by kernel_rfl
 c2:=by kernel_rfl
 c3:=by kernel_rfl
 c4:=by kernel_rfl
 c5:=by kernel_rfl
 c9:=by kernel_rfl
 c20:=by kernel_rfl
 c21:=by kernel_rfl
 c37:=by kernel_rfl
 c46:=by kernel_rfl
 c51:=by kernel_rfl
 c53:=by kernel_rfl
 c75:=by kernel_rfl
 c80:=by kernel_rfl
 c85:=by kernel_rfl
 c127:=by kernel_rfl
 c143:=by kernel_rfl
 c145:=by kernel_rfl
 c167:=by kernel_rfl
 c168:=by kernel_rfl
 c171:=by kernel_rfl
 c173:=by kernel_rfl
 c175:=by kernel_rfl
 c210:=by kernel_rfl
 c212:=by kernel_rfl
 c213:=by kernel_rfl
 c232:=by kernel_rfl
 c233:=by kernel_rfl }
open Go.RowKit in
theorem Tryd.strconv_ParseInt_10_at64_ok (s:ByteArray) (hmax:s.size≤9223372036854775806) (v:Int) (h:Lib.parseIntB 64 s.data.toList=.ok v) (w:World):
  Calls Tryd.prog 36 #[.string s,.int .i64 10,.int .i64 64] w fun e w'=>e=.returned (.tuple #[.int .i64 v,.nilIface])∧(w'=w∨∃ t,w'=Lib.bytesWorld w 5 t):=Any.strconv_ParseInt_10_at64_ok Tryd.laysC174 s hmax v h w
open Go.RowKit in
theorem Tryd.strconv_ParseInt_10_at64_range (s:ByteArray) (hlim:s.size≤281474976710656) (h:Lib.parseIntB 64 s.data.toList=.range) (ev:Value) (w:World) (hv:w.cell? ⟨3,0,none⟩=some ev) (hev:ev=.nilIface∨∃ te pe,ev=.iface te pe):
  Calls Tryd.prog 36 #[.string s,.int .i64 10,.int .i64 64] w fun e w'=>∃ N,e=.returned (.tuple #[.int .i64 (Lib.intSat 64 s.data.toList),.iface 79 (.pointer (some ⟨N,0,none⟩))])∧w.heap.size≤N∧w'.heap[N]?=some (.cells #[.string ⟨#[80,97,114,115,101,73,110,116]⟩,.string s,ev] 86 (0,0))∧Below w.heap.size w w':=Any.strconv_ParseInt_10_at64_range Tryd.laysC174 s hlim h ev w hv hev
end Go.Proofs
namespace Go.Proofs
open Go Go.RowKit Go.Lib Go.Sort
set_option maxRecDepth 100000
theorem below_grow (w:World) (k:Nat) (os:Array Obj):Below w.heap.size w (grow (w.drewN k) os):=
 ⟨rfl,rfl,rfl,by simp[grow,World.drewN],fun g h=>heap_grow_old w k os g h⟩
theorem below_bytes (w:World) (e:TypeId) (t:ByteArray):Below w.heap.size w (bytesWorld w e t):=⟨rfl,rfl,rfl,by rw[bytesWorld_size];omega,fun g h=>bytesWorld_at_old w e t g h⟩
def decB (v:Int):ByteArray:=⟨(Lib.itoa v).toArray⟩
theorem parse_ok (s:ByteArray) (hs:s.size≤1048576) (v:Int) (h:Lib.parseIntB 64 s.data.toList=.ok v) (w:World):
  Calls Tryd.prog 36 #[.string s,.int .i64 10,.int .i64 64] w fun e w'=>e=.returned (.tuple #[.int .i64 v,.nilIface])∧Below w.heap.size w w':=
 (Tryd.strconv_ParseInt_10_at64_ok s (by omega) v h w).mono fun e w' ⟨he,hw⟩=>⟨he,by
  rcases hw with rfl | ⟨t,rfl⟩
  ·exact Below.refl _ _
  ·exact below_bytes _ _ _⟩
theorem format_ok (n : Int) (h0 : -9223372036854775808 ≤ n) (h1 : n ≤ 9223372036854775807) (w : World) (htab : Lib.TabIs Tryd.prog w "internal/strconv.uint64pow10" .u64 Lib.pow10Tab) :
  Calls Tryd.prog 43 #[.int .i64 n,.int .i64 10] w fun e w'=>e=.returned (.string (decB n))∧Below w.heap.size w w':=
 (Tryd.strconv_FormatInt_10 n h0 h1 w htab).mono fun e w' ⟨he,k,os,hw⟩=>⟨he,by rw[hw];exact below_grow _ _ _⟩
theorem decimal_ok (n : Int) (h0 : -9223372036854775808 ≤ n) (h1 : n ≤ 9223372036854775807) (w : World) (htab : Lib.TabIs Tryd.prog w "internal/strconv.uint64pow10" .u64 Lib.pow10Tab) :
  Calls Tryd.prog 37 #[.int .i64 n] w fun e w'=>e=.returned (.string (decB n))∧Below w.heap.size w w':=by
 have e43:∀ args w,(callFunc 43 args).run Tryd.prog w=.ok (.enter 43 args) w:=enters_of Tryd.func43 (by kernel_rfl) rfl
 go_enter Tryd.func37,Tryd.ntmps37
 go_wp2_with (go_at_fn 43;refine (format_ok n h0 h1 _ htab).mono ?_;rintro e w' ⟨rfl,hb⟩)
 go_ret
 exact⟨rfl,hb⟩
theorem number_ok (s : ByteArray) (hs : s.size ≤ 1048576) (v m : Int) (h : Lib.parseIntB 64 s.data.toList = .ok v) (hv0 : -9223372036854775808 ≤ v) (hv1 : v ≤ 9223372036854775807) (w : World) (htab : Lib.TabIs Tryd.prog w "internal/strconv.uint64pow10" .u64 Lib.pow10Tab) :
  Calls Tryd.prog 31 #[.string s,.int .i64 m] w fun e w'=>e=.returned (.tuple #[.int .i64 v,.bool (decide (0≤v)&&decide ((decB v).toList=s.toList)&&decide ((s.size:Int)≤m))])∧Below w.heap.size w w':=by
 have e36:∀ args w,(callFunc 36 args).run Tryd.prog w=.ok (.enter 36 args) w:=enters_of Tryd.func36 (by kernel_rfl) rfl
 have e37:∀ args w,(callFunc 37 args).run Tryd.prog w=.ok (.enter 37 args) w:=enters_of Tryd.func37 (by kernel_rfl) rfl
 go_enter Tryd.func31,Tryd.ntmps31
 have d37:∀ w1,Below w.heap.size w w1→Calls Tryd.prog 37 #[.int .i64 v] w1 fun e w'=>e=.returned (.string (decB v))∧Below w.heap.size w w':=fun w1 hb1=>
  (decimal_ok v hv0 hv1 w1 (tabBelow_of_tabIs htab w1 hb1)).mono fun e w' ⟨he,hb⟩=>⟨he,hb1.trans (hb.mono hb1.size)⟩
 go_wp2_with (first
  | (go_at_fn 36;refine (parse_ok s hs v h _).mono ?_;rintro e w1 ⟨rfl,hb1⟩)
  | (go_at_fn 37;refine (d37 _ ?_).mono ?_;assumption;rintro e w2 ⟨rfl,hb2⟩))
 all_goals go_ret2
 all_goals refine⟨?_,by assumption⟩
 all_goals simp only[Array.getD_eq_getD_getElem?,List.getElem?_toArray,List.getElem?_cons_succ,List.getElem?_cons_zero,Option.getD_some]
 all_goals simp_all
 all_goals omega
def errIs (w:World) (g:Nat):Prop:=∃ ev,w.cell? ⟨g,0,none⟩=some ev∧(ev=.nilIface∨∃ te pe,ev=.iface te pe)
def numV (s:ByteArray):Int:=match Lib.parseIntB 64 s.data.toList with
 | .ok v=>v
 | .range=>Lib.intSat 64 s.data.toList
 | _=>0
theorem parse_bad (s:ByteArray) (hs:s.size≤1048576) (h:∀ v,Lib.parseIntB 64 s.data.toList≠.ok v) (w:World) (h2:errIs w 2) (h3:errIs w 3):
  Calls Tryd.prog 36 #[.string s,.int .i64 10,.int .i64 64] w fun e w'=>(∃ N,e=.returned (.tuple #[.int .i64 (numV s),.iface 79 (.pointer (some ⟨N,0,none⟩))]))∧Below w.heap.size w w':=by
 obtain⟨e2,c2,k2⟩:=h2
 obtain⟨e3,c3,k3⟩:=h3
 unfold numV
 cases hp:Lib.parseIntB 64 s.data.toList
 case ok v=>exact absurd hp (h v)
 case range=>exact (Tryd.strconv_ParseInt_10_at64_range s (by omega) hp e3 w c3 k3).mono fun e w' ⟨N,he,_,_,hb⟩=>⟨⟨N,he⟩,hb⟩
 exact (Any.strconv_ParseInt_10_at64_syntax Tryd.laysC174 s (by omega) hp e2 w c2 k2).mono fun e w' ⟨N,he,_,_,hb⟩=>⟨⟨N,he⟩,hb⟩
theorem number_bad (s:ByteArray) (hs:s.size≤1048576) (m:Int) (h:∀ v,Lib.parseIntB 64 s.data.toList≠.ok v) (w:World) (h2:errIs w 2) (h3:errIs w 3):
  Calls Tryd.prog 31 #[.string s,.int .i64 m] w fun e w'=>e=.returned (.tuple #[.int .i64 (numV s),.bool false])∧Below w.heap.size w w':=by
 have e36:∀ args w,(callFunc 36 args).run Tryd.prog w=.ok (.enter 36 args) w:=enters_of Tryd.func36 (by kernel_rfl) rfl
 go_enter Tryd.func31,Tryd.ntmps31
 go_wp2_with (go_at_fn 36;refine (parse_bad s hs h _ h2 h3).mono ?_;rintro e w1 ⟨⟨N,rfl⟩,hb1⟩)
 all_goals go_ret2
 all_goals refine⟨?_,by assumption⟩
 all_goals simp only[Array.getD_eq_getD_getElem?,List.getElem?_toArray,List.getElem?_cons_succ,List.getElem?_cons_zero,Option.getD_some]
def numB (s:ByteArray) (m:Int):Bool:=match Lib.parseIntB 64 s.data.toList with
 | .ok v=>decide (0≤v)&&decide ((decB v).toList=s.toList)&&decide ((s.size:Int)≤m)
 | _=>false
theorem number_any (s : ByteArray) (hs : s.size ≤ 1048576) (m : Int) (w : World) (hr : ∀ v, Lib.parseIntB 64 s.data.toList = .ok v → -9223372036854775808 ≤ v ∧ v ≤ 9223372036854775807) (h2 : errIs w 2) (h3 : errIs w 3) (htab : Lib.TabIs Tryd.prog w "internal/strconv.uint64pow10" .u64 Lib.pow10Tab) :
  Calls Tryd.prog 31 #[.string s,.int .i64 m] w fun e w'=>e=.returned (.tuple #[.int .i64 (numV s),.bool (numB s m)])∧Below w.heap.size w w':=by
 cases hp:Lib.parseIntB 64 s.data.toList
 case ok v=>
  have h:=number_ok s hs v m hp (hr v hp).1 (hr v hp).2 w htab
  have e1:numV s=v:=by unfold numV;rw[hp]
  have e2:numB s m=(decide (0≤v)&&decide ((decB v).toList=s.toList)&&decide ((s.size:Int)≤m)):=by unfold numB;rw[hp]
  rw[e1,e2];exact h
 all_goals
  have e2:numB s m=false:=by unfold numB;rw[hp]
  rw[e2];exact number_bad s hs m (fun v hv=>by rw[hp] at hv;cases hv) w h2 h3
end Go.Proofs
namespace Go.TM.Dw
open Go Go.TM Go.Proofs Go.RowKit
def cutB (s sep:ByteArray):List ByteArray:=Lib.splitB sep 0 (Lib.countB s sep) s
def splitT (args:List Arg):Option Res:=
 match args with
 | [⟨.v (.string s),none⟩,⟨.v (.string sep),none⟩]=>if s.size<4294967281∧1≤sep.size then some ⟨.own 9 ((cutB s sep).map fun x=>[.v (.string x)]),[],true⟩ else none
 | _=>none
theorem okEs_step {sz:TypeId→Nat} {h:Array Obj} {I:Nat→Prop} {a:Value} {es:List (List T)} {r:List Value} (hr:okEs sz h I 1 es r []):okEs sz h I 1 ([.v a]::es) (a::r) []:=by
 simp only[okEs]
 refine⟨[],[],rfl,rfl,?_,hr⟩
 simp only[List.take_succ_cons,List.take_zero,okL,okV]
 exact⟨a,[],[],[],rfl,rfl,⟨rfl,rfl⟩,rfl,rfl⟩
theorem okEs_words {sz:TypeId→Nat} {h:Array Obj} {I:Nat→Prop}:∀ l:List ByteArray,okEs sz h I 1 (l.map fun x=>[.v (.string x)]) (l.map Value.string) []
 | []=>by simp only[List.map_nil,okEs]
 | x::l=>okEs_step (okEs_words l)
theorem clean_words:∀ l:List ByteArray,cleanEs (l.map fun x=>[T.v (.string x)])=true
 | []=>rfl
 | x::l=>by simp[cleanEs,cleanL,clean,clean_words l]
theorem split_enters:Enters E0 27:=⟨_,Tryd.func27,rfl,rfl⟩
theorem split_ok:∀ args r,splitT args=some r→Sound E0 27 args r∧Enters E0 27:=by
 intro args r h
 have hm:lends (E0.mode 27)=false:=rfl
 unfold splitT at h
 split at h
 ·rename_i s sep
  split at h
  ·rename_i hc
   obtain⟨hc1,hc2⟩:=hc
   simp only[Option.some.injEq] at h
   subst h
   refine⟨⟨fun hl=>by rw[hm] at hl;simp at hl,fun _ z us hu hb hok=>?_,fun hl=>by rw[hm] at hl;simp at hl,able0.view _⟩,split_enters⟩
   simp only[okArgs,okArg] at hok
   obtain⟨u,us',f1,f2,rfl,hF,⟨h1,rfl⟩,u2,us2,f3,f4,rfl,hF2,⟨h2,rfl⟩,rfl,rfl⟩:=hok
   simp only[okV] at h1 h2
   obtain⟨rfl,-⟩:=h2
   obtain⟨rfl,-⟩:=h1
   obtain⟨-,arr,el,fz,hb1,m,hm1⟩:=z.gok 1 _ rfl
   have hcell:z.w0.cell? ⟨1,0,none⟩=some (.int .i64 m):=cell_of hb1 (by rw[←Array.getElem?_toList];exact hm1)
   have hlen:=Lib.splitB_all sep hc2 0 _ s rfl
   refine Calls.mono (Tryd.strings_Split s sep m z.w0 hc1 hcell hc2) fun e w' ⟨he,hw⟩=>?_
   subst he
   subst hw
   have hF0:z.F0=[]:=by rw[hF,hF2];rfl
   have hn:(z.w0.alloc (.cells ((Lib.splitB sep 0 (Lib.countB s sep) s).map Value.string).toArray 9)).heap[z.w0.heap.size]?=some (.cells ((Lib.splitB sep 0 (Lib.countB s sep) s).map Value.string).toArray 9 (0,0)):=by
    show (z.w0.heap.push _)[z.w0.heap.size]?=_
    rw[Array.getElem?_push_size]
   show Back (szOf E0) z _ _ _ _ _
   refine⟨⟨rfl,rfl,rfl,by show z.w0.heap.size≤(z.w0.heap.push _).size;simp,fun x hx _=>?_⟩,⟨[z.w0.heap.size],[],?_,rfl,?_,?_⟩,fun _=>?_⟩
   ·show (z.w0.heap.push _)[x]?=_
    rw[Array.getElem?_push_lt hx,Array.getElem?_eq_getElem hx]
   ·have hs:szOf E0 9=1:=rfl
    simp only[okV]
    refine .inr ⟨z.w0.heap.size,0,Lib.countB s sep+1,_,9,(0,0),[],by simp[cutB,hlen],by simp[cutB,hlen],hn,fzOk_zero,by rw[hs];simp[hlen],by simp[cutB,hlen],?_⟩
    rw[hs]
    simp only[List.drop_zero]
    exact okEs_words _
   ·intro y;simp only[List.append_nil,List.count_cons,List.count_nil];split<;>omega
   ·intro y hy
    simp only[List.append_nil,List.mem_singleton] at hy
    subst hy
    exact⟨by show z.w0.heap.size<(z.w0.heap.push _).size;simp,.inr (Nat.le_refl _)⟩
   ·simp[clean,clean_words]
  ·simp at h
 ·simp at h
def numT (args:List Arg):Option Res:=
 match args with
 | [⟨.v (.string s),none⟩,⟨.v (.int .i64 m),none⟩]=>if s.size≤1048576 then some ⟨.tup [.v (.int .i64 (numV s)),.v (.bool (numB s m))],[],true⟩ else none
 | _=>none
theorem number_enters:Enters E0 31:=⟨_,Tryd.func31,rfl,rfl⟩
theorem pow_tab:(Lib.pow10Tab.map fun z=>Value.int .u64 z)=thePows:=by unfold Lib.pow10Tab thePows;rw[List.map_map];rfl
theorem number_sound:∀ args r,numT args=some r→Sound E0 31 args r∧Enters E0 31:=by
 intro args r h
 have hm:lends (E0.mode 31)=false:=rfl
 unfold numT at h
 split at h
 ·rename_i s m
  split at h
  ·rename_i hc
   simp only[Option.some.injEq] at h
   subst h
   refine⟨⟨fun hl=>by rw[hm] at hl;simp at hl,fun _ z us hu hb hok=>?_,fun hl=>by rw[hm] at hl;simp at hl,able0.view _⟩,number_enters⟩
   simp only[okArgs,okArg] at hok
   obtain⟨u,us',f1,f2,rfl,hF,⟨h1,rfl⟩,u2,us2,f3,f4,rfl,hF2,⟨h2,rfl⟩,rfl,rfl⟩:=hok
   simp only[okV] at h1 h2
   obtain⟨rfl,-⟩:=h2
   obtain⟨rfl,-⟩:=h1
   have hF0:z.F0=[]:=by rw[hF,hF2];rfl
   have er:∀ g,theGl g=some anErr→errIs z.w0 g:=fun g hg=>by
    obtain⟨-,arr,el,fz,hb1,ev,h3,h4⟩:=z.gok g _ hg
    exact⟨ev,cell_of hb1 (by rw[←Array.getElem?_toList];exact h3),h4⟩
   have htab : Lib.TabIs Tryd.prog z.w0 "internal/strconv.uint64pow10" .u64 Lib.pow10Tab := by
    obtain⟨-,arr,el,fz,hb1,h3⟩:=z.gok 6 _ rfl
    have hg : Tryd.prog.globalNamed "internal/strconv.uint64pow10" = some 6 := by kernel_rfl
    unfold Lib.TabIs World.var?
    rw[hg,pow_tab,←h3]
    simp only[Option.bind_some,hb1]
   refine Calls.mono (number_any s hc m z.w0 (fun v hv=>?_) (er 2 rfl) (er 3 rfl) htab) fun e w' ⟨he,hw⟩=>?_
   ·have:=Lib.parseIntB_bounds hv
    simp only[show ((2 ^ (64 - 1):Nat):Int)=9223372036854775808 by decide] at this
    omega
   subst he
   show Back (szOf E0) z _ _ _ _ _
   refine⟨⟨hw.os,hw.output,hw.tape,hw.size,fun x hx _=>hw.block x hx⟩,⟨[],[],?_,rfl,?_,?_⟩,fun _=>?_⟩
   ·simp only[okV,okL]
    exact⟨_,rfl,_,_,[],[],rfl,rfl,⟨rfl,rfl⟩,_,_,[],[],rfl,rfl,⟨rfl,rfl⟩,rfl,rfl⟩
   ·intro y;simp
   ·intro y hy;simp at hy
   ·rfl
  ·simp at h
 ·simp at h
noncomputable def extT:List (Nat×(List Arg→Option Res)):=[(27,splitT),(31,numT)]
theorem ext_ok:∀ f g,lk extT f=some g→∀ args r,g args=some r→Sound E0 f args r∧Enters E0 f:=by
 intro f g h
 unfold extT at h
 simp only[lk] at h
 repeat' split at h
 ·rename_i hf;subst hf;simp only[Option.some.injEq] at h;subst h;exact split_ok
 ·rename_i hf;subst hf;simp only[Option.some.injEq] at h;subst h;exact number_sound
 ·simp at h
end Go.TM.Dw
namespace Go.TM.Dw
open Go Go.TM Go.Proofs
set_option maxRecDepth 100000
noncomputable def E:Env:={ E0 with ext:=fun f=>lk extT f }
noncomputable abbrev fo (f:Nat) (args:List Arg):Option Res:=orc E f args
@[simp] theorem E_view (f:Nat):E.view f=viewT f:=rfl
@[simp] theorem E_clr (f r:Nat):E.clr f r=clrT f r:=rfl
theorem E_P:E.P=Tryd.prog:=rfl
theorem able:Able E:=⟨fun t i h=>by
 obtain⟨h1,h2,h3,h4,h5,h6,h7,h8⟩:=able0.ti t i h
 exact⟨h1,h2,h3,h4,h5,h6,h7,h8⟩,able0.mix,able0.good,fun f g hg args r hr=>by
 obtain⟨⟨h1,h2,h3,h5⟩,h4⟩:=ext_ok f g hg args r hr
 exact⟨⟨h1,h2,h3,h5⟩,h4⟩,able0.view⟩
@[simp] theorem ti1:E.ti 1=some ty1:=rfl
@[simp] theorem ti2:E.ti 2=some ty2:=rfl
@[simp] theorem ti3:E.ti 3=some ty3:=rfl
@[simp] theorem ti4:E.ti 4=some ty4:=rfl
@[simp] theorem ti5:E.ti 5=some ty5:=rfl
@[simp] theorem ti6:E.ti 6=some ty6:=rfl
@[simp] theorem ti7:E.ti 7=some ty7:=rfl
@[simp] theorem ti8:E.ti 8=some ty8:=rfl
@[simp] theorem ti9:E.ti 9=some ty9:=rfl
@[simp] theorem ti10:E.ti 10=some ty10:=rfl
@[simp] theorem ti11:E.ti 11=some ty11:=rfl
@[simp] theorem ti12:E.ti 12=some ty12:=rfl
@[simp] theorem ti13:E.ti 13=some ty13:=rfl
@[simp] theorem ti14:E.ti 14=some ty14:=rfl
@[simp] theorem ti15:E.ti 15=some ty15:=rfl
@[simp] theorem ti16:E.ti 16=some ty16:=rfl
@[simp] theorem ti17:E.ti 17=some ty17:=rfl
@[simp] theorem ti18:E.ti 18=some ty18:=rfl
@[simp] theorem ti19:E.ti 19=some ty19:=rfl
@[simp] theorem ti20:E.ti 20=some ty20:=rfl
@[simp] theorem ti21:E.ti 21=some ty21:=rfl
@[simp] theorem ti22:E.ti 22=some ty22:=rfl
@[simp] theorem ti23:E.ti 23=some ty23:=rfl
@[simp] theorem ti24:E.ti 24=some ty24:=rfl
@[simp] theorem ti25:E.ti 25=some ty25:=rfl
@[simp] theorem ti26:E.ti 26=some ty26:=rfl
@[simp] theorem ti27:E.ti 27=some ty27:=rfl
@[simp] theorem ti28:E.ti 28=some ty28:=rfl
@[simp] theorem ti29:E.ti 29=some ty29:=rfl
@[simp] theorem ti30:E.ti 30=some ty30:=rfl
@[simp] theorem ti31:E.ti 31=some ty31:=rfl
@[simp] theorem ti32:E.ti 32=some ty32:=rfl
@[simp] theorem ti33:E.ti 33=some ty33:=rfl
@[simp] theorem ti34:E.ti 34=some ty34:=rfl
@[simp] theorem ti35:E.ti 35=some ty35:=rfl
@[simp] theorem ti36:E.ti 36=some ty36:=rfl
@[simp] theorem ti37:E.ti 37=some ty37:=rfl
@[simp] theorem ti38:E.ti 38=some ty38:=rfl
@[simp] theorem ti40:E.ti 40=some ty40:=rfl
@[simp] theorem ti41:E.ti 41=some ty41:=rfl
@[simp] theorem ti43:E.ti 43=some ty43:=rfl
@[simp] theorem ti44:E.ti 44=some ty44:=rfl
@[simp] theorem ti45:E.ti 45=some ty45:=rfl
@[simp] theorem ti46:E.ti 46=some ty46:=rfl
@[simp] theorem ti48:E.ti 48=some ty48:=rfl
@[simp] theorem ti49:E.ti 49=some ty49:=rfl
@[simp] theorem ti50:E.ti 50=some ty50:=rfl
@[simp] theorem ti51:E.ti 51=some ty51:=rfl
@[simp] theorem ti52:E.ti 52=some ty52:=rfl
@[simp] theorem ti53:E.ti 53=some ty53:=rfl
@[simp] theorem ti55:E.ti 55=some ty55:=rfl
@[simp] theorem ti56:E.ti 56=some ty56:=rfl
@[simp] theorem ti57:E.ti 57=some ty57:=rfl
@[simp] theorem ti58:E.ti 58=some ty58:=rfl
@[simp] theorem ti59:E.ti 59=some ty59:=rfl
@[simp] theorem ti60:E.ti 60=some ty60:=rfl
@[simp] theorem ti61:E.ti 61=some ty61:=rfl
@[simp] theorem ti62:E.ti 62=some ty62:=rfl
@[simp] theorem ti64:E.ti 64=some ty64:=rfl
@[simp] theorem ti65:E.ti 65=some ty65:=rfl
@[simp] theorem ti66:E.ti 66=some ty66:=rfl
@[simp] theorem ti67:E.ti 67=some ty67:=rfl
@[simp] theorem ti68:E.ti 68=some ty68:=rfl
@[simp] theorem ti69:E.ti 69=some ty69:=rfl
@[simp] theorem ti70:E.ti 70=some ty70:=rfl
@[simp] theorem ti72:E.ti 72=some ty72:=rfl
@[simp] theorem ti73:E.ti 73=some ty73:=rfl
@[simp] theorem ti74:E.ti 74=some ty74:=rfl
@[simp] theorem ti75:E.ti 75=some ty75:=rfl
@[simp] theorem ti77:E.ti 77=some ty77:=rfl
@[simp] theorem ti78:E.ti 78=some ty78:=rfl
@[simp] theorem ti79:E.ti 79=some ty79:=rfl
@[simp] theorem ti80:E.ti 80=some ty80:=rfl
@[simp] theorem ti81:E.ti 81=some ty81:=rfl
@[simp] theorem ti82:E.ti 82=some ty82:=rfl
@[simp] theorem ti83:E.ti 83=some ty83:=rfl
@[simp] theorem ti84:E.ti 84=some ty84:=rfl
@[simp] theorem ti85:E.ti 85=some ty85:=rfl
@[simp] theorem ti86:E.ti 86=some ty86:=rfl
@[simp] theorem ti87:E.ti 87=some ty87:=rfl
@[simp] theorem ti88:E.ti 88=some ty88:=rfl
@[simp] theorem ti89:E.ti 89=some ty89:=rfl
@[simp] theorem ti90:E.ti 90=some ty90:=rfl
@[simp] theorem ti92:E.ti 92=some ty92:=rfl
@[simp] theorem ti93:E.ti 93=some ty93:=rfl
@[simp] theorem ti94:E.ti 94=some ty94:=rfl
@[simp] theorem ti95:E.ti 95=some ty95:=rfl
@[simp] theorem ti96:E.ti 96=some ty96:=rfl
@[simp] theorem ti97:E.ti 97=some ty97:=rfl
@[simp] theorem ti99:E.ti 99=some ty99:=rfl
@[simp] theorem ti100:E.ti 100=some ty100:=rfl
@[simp] theorem ti101:E.ti 101=some ty101:=rfl
@[simp] theorem ti102:E.ti 102=some ty102:=rfl
@[simp] theorem ti103:E.ti 103=some ty103:=rfl
@[simp] theorem ti104:E.ti 104=some ty104:=rfl
@[simp] theorem ti105:E.ti 105=some ty105:=rfl
@[simp] theorem ti106:E.ti 106=some ty106:=rfl
@[simp] theorem ti107:E.ti 107=some ty107:=rfl
@[simp] theorem ti108:E.ti 108=some ty108:=rfl
@[simp] theorem ti109:E.ti 109=some ty109:=rfl
@[simp] theorem ti110:E.ti 110=some ty110:=rfl
@[simp] theorem ti111:E.ti 111=some ty111:=rfl
@[simp] theorem ti112:E.ti 112=some ty112:=rfl
@[simp] theorem ti113:E.ti 113=some ty113:=rfl
@[simp] theorem ti114:E.ti 114=some ty114:=rfl
@[simp] theorem ti115:E.ti 115=some ty115:=rfl
@[simp] theorem ti116:E.ti 116=some ty116:=rfl
@[simp] theorem ti117:E.ti 117=some ty117:=rfl
@[simp] theorem ti118:E.ti 118=some ty118:=rfl
@[simp] theorem ti119:E.ti 119=some ty119:=rfl
@[simp] theorem ti120:E.ti 120=some ty120:=rfl
@[simp] theorem ti121:E.ti 121=some ty121:=rfl
@[simp] theorem ti122:E.ti 122=some ty122:=rfl
@[simp] theorem ti123:E.ti 123=some ty123:=rfl
@[simp] theorem ti124:E.ti 124=some ty124:=rfl
@[simp] theorem ti125:E.ti 125=some ty125:=rfl
@[simp] theorem kill_3 (r:Nat):E.kill (3:Nat) r=(lk kill3 r).getD []:=rfl
@[simp] theorem live_3 (r:Nat):E.live (3:Nat) r=lk live3 r:=rfl
@[simp] theorem pairs_3 (r:Nat):E.pairs (3:Nat) r=(lk pairs3 r).getD []:=rfl
@[simp] theorem mode_3:E.mode (3:Nat)=[]:=rfl
@[simp] theorem keep_3 (d:Nat):E.keep (3:Nat) d=([9,12,14,17,21,24,31,34,38]:List Nat).contains d:=rfl
@[simp] theorem take_3 (d:Nat):E.take (3:Nat) d=([3,4,7]:List Nat).contains d:=rfl
theorem orc_3 {args:List Arg} {r:Res} (n:Nat) (h:evBody E (orc E) n (3:Nat) Tryd.f3 args=some r):fo 3 args=some r:=orc_body n rfl rfl rfl Tryd.func3 h
@[simp] theorem kill_4 (r:Nat):E.kill (4:Nat) r=(lk kill4 r).getD []:=rfl
@[simp] theorem live_4 (r:Nat):E.live (4:Nat) r=lk live4 r:=rfl
@[simp] theorem pairs_4 (r:Nat):E.pairs (4:Nat) r=(lk pairs4 r).getD []:=rfl
@[simp] theorem mode_4:E.mode (4:Nat)=[]:=rfl
@[simp] theorem keep_4 (d:Nat):E.keep (4:Nat) d=([6,9,11,14]:List Nat).contains d:=rfl
@[simp] theorem take_4 (d:Nat):E.take (4:Nat) d=([3,4]:List Nat).contains d:=rfl
theorem orc_4 {args:List Arg} {r:Res} (n:Nat) (h:evBody E (orc E) n (4:Nat) Tryd.f4 args=some r):fo 4 args=some r:=orc_body n rfl rfl rfl Tryd.func4 h
@[simp] theorem kill_5 (r:Nat):E.kill (5:Nat) r=(lk kill5 r).getD []:=rfl
@[simp] theorem live_5 (r:Nat):E.live (5:Nat) r=lk live5 r:=rfl
@[simp] theorem pairs_5 (r:Nat):E.pairs (5:Nat) r=(lk pairs5 r).getD []:=rfl
@[simp] theorem mode_5:E.mode (5:Nat)=[]:=rfl
@[simp] theorem keep_5 (d:Nat):E.keep (5:Nat) d=([15,19,21,23,26,29,33,34,38,44,49,52,59,61,64,68]:List Nat).contains d:=rfl
@[simp] theorem take_5 (d:Nat):E.take (5:Nat) d=([6,8,12]:List Nat).contains d:=rfl
theorem orc_5 {args:List Arg} {r:Res} (n:Nat) (h:evBody E (orc E) n (5:Nat) Tryd.f5 args=some r):fo 5 args=some r:=orc_body n rfl rfl rfl Tryd.func5 h
@[simp] theorem kill_6 (r:Nat):E.kill (6:Nat) r=(lk kill6 r).getD []:=rfl
@[simp] theorem live_6 (r:Nat):E.live (6:Nat) r=lk live6 r:=rfl
@[simp] theorem pairs_6 (r:Nat):E.pairs (6:Nat) r=(lk pairs6 r).getD []:=rfl
@[simp] theorem mode_6:E.mode (6:Nat)=[]:=rfl
@[simp] theorem keep_6 (d:Nat):E.keep (6:Nat) d=([4]:List Nat).contains d:=rfl
@[simp] theorem take_6 (d:Nat):E.take (6:Nat) d=([2]:List Nat).contains d:=rfl
theorem orc_6 {args:List Arg} {r:Res} (n:Nat) (h:evBody E (orc E) n (6:Nat) Tryd.f6 args=some r):fo 6 args=some r:=orc_body n rfl rfl rfl Tryd.func6 h
@[simp] theorem kill_7 (r:Nat):E.kill (7:Nat) r=(lk kill7 r).getD []:=rfl
@[simp] theorem live_7 (r:Nat):E.live (7:Nat) r=lk live7 r:=rfl
@[simp] theorem pairs_7 (r:Nat):E.pairs (7:Nat) r=(lk pairs7 r).getD []:=rfl
@[simp] theorem mode_7:E.mode (7:Nat)=[]:=rfl
@[simp] theorem keep_7 (d:Nat):E.keep (7:Nat) d=([4]:List Nat).contains d:=rfl
@[simp] theorem take_7 (d:Nat):E.take (7:Nat) d=([2]:List Nat).contains d:=rfl
theorem orc_7 {args:List Arg} {r:Res} (n:Nat) (h:evBody E (orc E) n (7:Nat) Tryd.f7 args=some r):fo 7 args=some r:=orc_body n rfl rfl rfl Tryd.func7 h
@[simp] theorem kill_8 (r:Nat):E.kill (8:Nat) r=(lk kill8 r).getD []:=rfl
@[simp] theorem live_8 (r:Nat):E.live (8:Nat) r=lk live8 r:=rfl
@[simp] theorem pairs_8 (r:Nat):E.pairs (8:Nat) r=(lk pairs8 r).getD []:=rfl
@[simp] theorem mode_8:E.mode (8:Nat)=[]:=rfl
@[simp] theorem keep_8 (d:Nat):E.keep (8:Nat) d=([]:List Nat).contains d:=rfl
@[simp] theorem take_8 (d:Nat):E.take (8:Nat) d=([]:List Nat).contains d:=rfl
theorem orc_8 {args:List Arg} {r:Res} (n:Nat) (h:evBody E (orc E) n (8:Nat) Tryd.f8 args=some r):fo 8 args=some r:=orc_body n rfl rfl rfl Tryd.func8 h
@[simp] theorem kill_9 (r:Nat):E.kill (9:Nat) r=(lk kill9 r).getD []:=rfl
@[simp] theorem live_9 (r:Nat):E.live (9:Nat) r=lk live9 r:=rfl
@[simp] theorem pairs_9 (r:Nat):E.pairs (9:Nat) r=(lk pairs9 r).getD []:=rfl
@[simp] theorem mode_9:E.mode (9:Nat)=[.L,.B]:=rfl
@[simp] theorem keep_9 (d:Nat):E.keep (9:Nat) d=([]:List Nat).contains d:=rfl
@[simp] theorem take_9 (d:Nat):E.take (9:Nat) d=([]:List Nat).contains d:=rfl
theorem orc_9 {args:List Arg} {r:Res} (n:Nat) (h:evBodyB E (orc E) n (9:Nat) Tryd.f9 args=some r):fo 9 args=some r:=orc_bodyB n rfl rfl rfl Tryd.func9 h
@[simp] theorem kill_10 (r:Nat):E.kill (10:Nat) r=(lk kill10 r).getD []:=rfl
@[simp] theorem live_10 (r:Nat):E.live (10:Nat) r=lk live10 r:=rfl
@[simp] theorem pairs_10 (r:Nat):E.pairs (10:Nat) r=(lk pairs10 r).getD []:=rfl
@[simp] theorem mode_10:E.mode (10:Nat)=[]:=rfl
@[simp] theorem keep_10 (d:Nat):E.keep (10:Nat) d=([]:List Nat).contains d:=rfl
@[simp] theorem take_10 (d:Nat):E.take (10:Nat) d=([]:List Nat).contains d:=rfl
theorem orc_10 {args:List Arg} {r:Res} (n:Nat) (h:evBody E (orc E) n (10:Nat) Tryd.f10 args=some r):fo 10 args=some r:=orc_body n rfl rfl rfl Tryd.func10 h
@[simp] theorem kill_11 (r:Nat):E.kill (11:Nat) r=(lk kill11 r).getD []:=rfl
@[simp] theorem live_11 (r:Nat):E.live (11:Nat) r=lk live11 r:=rfl
@[simp] theorem pairs_11 (r:Nat):E.pairs (11:Nat) r=(lk pairs11 r).getD []:=rfl
@[simp] theorem mode_11:E.mode (11:Nat)=[]:=rfl
@[simp] theorem keep_11 (d:Nat):E.keep (11:Nat) d=([7]:List Nat).contains d:=rfl
@[simp] theorem take_11 (d:Nat):E.take (11:Nat) d=([2]:List Nat).contains d:=rfl
theorem orc_11 {args:List Arg} {r:Res} (n:Nat) (h:evBody E (orc E) n (11:Nat) Tryd.f11 args=some r):fo 11 args=some r:=orc_body n rfl rfl rfl Tryd.func11 h
@[simp] theorem kill_12 (r:Nat):E.kill (12:Nat) r=(lk kill12 r).getD []:=rfl
@[simp] theorem live_12 (r:Nat):E.live (12:Nat) r=lk live12 r:=rfl
@[simp] theorem pairs_12 (r:Nat):E.pairs (12:Nat) r=(lk pairs12 r).getD []:=rfl
@[simp] theorem mode_12:E.mode (12:Nat)=[]:=rfl
@[simp] theorem keep_12 (d:Nat):E.keep (12:Nat) d=([8]:List Nat).contains d:=rfl
@[simp] theorem take_12 (d:Nat):E.take (12:Nat) d=([2]:List Nat).contains d:=rfl
theorem orc_12 {args:List Arg} {r:Res} (n:Nat) (h:evBody E (orc E) n (12:Nat) Tryd.f12 args=some r):fo 12 args=some r:=orc_body n rfl rfl rfl Tryd.func12 h
@[simp] theorem kill_13 (r:Nat):E.kill (13:Nat) r=(lk kill13 r).getD []:=rfl
@[simp] theorem live_13 (r:Nat):E.live (13:Nat) r=lk live13 r:=rfl
@[simp] theorem pairs_13 (r:Nat):E.pairs (13:Nat) r=(lk pairs13 r).getD []:=rfl
@[simp] theorem mode_13:E.mode (13:Nat)=[]:=rfl
@[simp] theorem keep_13 (d:Nat):E.keep (13:Nat) d=([]:List Nat).contains d:=rfl
@[simp] theorem take_13 (d:Nat):E.take (13:Nat) d=([]:List Nat).contains d:=rfl
theorem orc_13 {args:List Arg} {r:Res} (n:Nat) (h:evBody E (orc E) n (13:Nat) Tryd.f13 args=some r):fo 13 args=some r:=orc_body n rfl rfl rfl Tryd.func13 h
@[simp] theorem kill_14 (r:Nat):E.kill (14:Nat) r=(lk kill14 r).getD []:=rfl
@[simp] theorem live_14 (r:Nat):E.live (14:Nat) r=lk live14 r:=rfl
@[simp] theorem pairs_14 (r:Nat):E.pairs (14:Nat) r=(lk pairs14 r).getD []:=rfl
@[simp] theorem mode_14:E.mode (14:Nat)=[]:=rfl
@[simp] theorem keep_14 (d:Nat):E.keep (14:Nat) d=([]:List Nat).contains d:=rfl
@[simp] theorem take_14 (d:Nat):E.take (14:Nat) d=([]:List Nat).contains d:=rfl
theorem orc_14 {args:List Arg} {r:Res} (n:Nat) (h:evBody E (orc E) n (14:Nat) Tryd.f14 args=some r):fo 14 args=some r:=orc_body n rfl rfl rfl Tryd.func14 h
@[simp] theorem kill_15 (r:Nat):E.kill (15:Nat) r=(lk kill15 r).getD []:=rfl
@[simp] theorem live_15 (r:Nat):E.live (15:Nat) r=lk live15 r:=rfl
@[simp] theorem pairs_15 (r:Nat):E.pairs (15:Nat) r=(lk pairs15 r).getD []:=rfl
@[simp] theorem mode_15:E.mode (15:Nat)=[]:=rfl
@[simp] theorem keep_15 (d:Nat):E.keep (15:Nat) d=([10,16,25,42]:List Nat).contains d:=rfl
@[simp] theorem take_15 (d:Nat):E.take (15:Nat) d=([4,5]:List Nat).contains d:=rfl
theorem orc_15 {args:List Arg} {r:Res} (n:Nat) (h:evBody E (orc E) n (15:Nat) Tryd.f15 args=some r):fo 15 args=some r:=orc_body n rfl rfl rfl Tryd.func15 h
@[simp] theorem kill_16 (r:Nat):E.kill (16:Nat) r=(lk kill16 r).getD []:=rfl
@[simp] theorem live_16 (r:Nat):E.live (16:Nat) r=lk live16 r:=rfl
@[simp] theorem pairs_16 (r:Nat):E.pairs (16:Nat) r=(lk pairs16 r).getD []:=rfl
@[simp] theorem mode_16:E.mode (16:Nat)=[]:=rfl
@[simp] theorem keep_16 (d:Nat):E.keep (16:Nat) d=([]:List Nat).contains d:=rfl
@[simp] theorem take_16 (d:Nat):E.take (16:Nat) d=([]:List Nat).contains d:=rfl
theorem orc_16 {args:List Arg} {r:Res} (n:Nat) (h:evBody E (orc E) n (16:Nat) Tryd.f16 args=some r):fo 16 args=some r:=orc_body n rfl rfl rfl Tryd.func16 h
@[simp] theorem kill_17 (r:Nat):E.kill (17:Nat) r=(lk kill17 r).getD []:=rfl
@[simp] theorem live_17 (r:Nat):E.live (17:Nat) r=lk live17 r:=rfl
@[simp] theorem pairs_17 (r:Nat):E.pairs (17:Nat) r=(lk pairs17 r).getD []:=rfl
@[simp] theorem mode_17:E.mode (17:Nat)=[]:=rfl
@[simp] theorem keep_17 (d:Nat):E.keep (17:Nat) d=([10,15,21,35]:List Nat).contains d:=rfl
@[simp] theorem take_17 (d:Nat):E.take (17:Nat) d=([4,5,8]:List Nat).contains d:=rfl
theorem orc_17 {args:List Arg} {r:Res} (n:Nat) (h:evBody E (orc E) n (17:Nat) Tryd.f17 args=some r):fo 17 args=some r:=orc_body n rfl rfl rfl Tryd.func17 h
@[simp] theorem kill_18 (r:Nat):E.kill (18:Nat) r=(lk kill18 r).getD []:=rfl
@[simp] theorem live_18 (r:Nat):E.live (18:Nat) r=lk live18 r:=rfl
@[simp] theorem pairs_18 (r:Nat):E.pairs (18:Nat) r=(lk pairs18 r).getD []:=rfl
@[simp] theorem mode_18:E.mode (18:Nat)=[]:=rfl
@[simp] theorem keep_18 (d:Nat):E.keep (18:Nat) d=([]:List Nat).contains d:=rfl
@[simp] theorem take_18 (d:Nat):E.take (18:Nat) d=([]:List Nat).contains d:=rfl
theorem orc_18 {args:List Arg} {r:Res} (n:Nat) (h:evBody E (orc E) n (18:Nat) Tryd.f18 args=some r):fo 18 args=some r:=orc_body n rfl rfl rfl Tryd.func18 h
@[simp] theorem kill_19 (r:Nat):E.kill (19:Nat) r=(lk kill19 r).getD []:=rfl
@[simp] theorem live_19 (r:Nat):E.live (19:Nat) r=lk live19 r:=rfl
@[simp] theorem pairs_19 (r:Nat):E.pairs (19:Nat) r=(lk pairs19 r).getD []:=rfl
@[simp] theorem mode_19:E.mode (19:Nat)=[.L,.P]:=rfl
@[simp] theorem keep_19 (d:Nat):E.keep (19:Nat) d=([]:List Nat).contains d:=rfl
@[simp] theorem take_19 (d:Nat):E.take (19:Nat) d=([]:List Nat).contains d:=rfl
theorem orc_19 {args:List Arg} {r:Res} (n:Nat) (h:evBody E (orc E) n (19:Nat) Tryd.f19 args=some r):fo 19 args=some r:=orc_body n rfl rfl rfl Tryd.func19 h
@[simp] theorem kill_20 (r:Nat):E.kill (20:Nat) r=(lk kill20 r).getD []:=rfl
@[simp] theorem live_20 (r:Nat):E.live (20:Nat) r=lk live20 r:=rfl
@[simp] theorem pairs_20 (r:Nat):E.pairs (20:Nat) r=(lk pairs20 r).getD []:=rfl
@[simp] theorem mode_20:E.mode (20:Nat)=[]:=rfl
@[simp] theorem keep_20 (d:Nat):E.keep (20:Nat) d=([9,15,32]:List Nat).contains d:=rfl
@[simp] theorem take_20 (d:Nat):E.take (20:Nat) d=([]:List Nat).contains d:=rfl
theorem orc_20 {args:List Arg} {r:Res} (n:Nat) (h:evBody E (orc E) n (20:Nat) Tryd.f20 args=some r):fo 20 args=some r:=orc_body n rfl rfl rfl Tryd.func20 h
@[simp] theorem kill_21 (r:Nat):E.kill (21:Nat) r=(lk kill21 r).getD []:=rfl
@[simp] theorem live_21 (r:Nat):E.live (21:Nat) r=lk live21 r:=rfl
@[simp] theorem pairs_21 (r:Nat):E.pairs (21:Nat) r=(lk pairs21 r).getD []:=rfl
@[simp] theorem mode_21:E.mode (21:Nat)=[]:=rfl
@[simp] theorem keep_21 (d:Nat):E.keep (21:Nat) d=([4,5]:List Nat).contains d:=rfl
@[simp] theorem take_21 (d:Nat):E.take (21:Nat) d=([]:List Nat).contains d:=rfl
theorem orc_21 {args:List Arg} {r:Res} (n:Nat) (h:evBody E (orc E) n (21:Nat) Tryd.f21 args=some r):fo 21 args=some r:=orc_body n rfl rfl rfl Tryd.func21 h
@[simp] theorem kill_22 (r:Nat):E.kill (22:Nat) r=(lk kill22 r).getD []:=rfl
@[simp] theorem live_22 (r:Nat):E.live (22:Nat) r=lk live22 r:=rfl
@[simp] theorem pairs_22 (r:Nat):E.pairs (22:Nat) r=(lk pairs22 r).getD []:=rfl
@[simp] theorem mode_22:E.mode (22:Nat)=[]:=rfl
@[simp] theorem keep_22 (d:Nat):E.keep (22:Nat) d=([]:List Nat).contains d:=rfl
@[simp] theorem take_22 (d:Nat):E.take (22:Nat) d=([]:List Nat).contains d:=rfl
theorem orc_22 {args:List Arg} {r:Res} (n:Nat) (h:evBody E (orc E) n (22:Nat) Tryd.f22 args=some r):fo 22 args=some r:=orc_body n rfl rfl rfl Tryd.func22 h
@[simp] theorem kill_23 (r:Nat):E.kill (23:Nat) r=(lk kill23 r).getD []:=rfl
@[simp] theorem live_23 (r:Nat):E.live (23:Nat) r=lk live23 r:=rfl
@[simp] theorem pairs_23 (r:Nat):E.pairs (23:Nat) r=(lk pairs23 r).getD []:=rfl
@[simp] theorem mode_23:E.mode (23:Nat)=[]:=rfl
@[simp] theorem keep_23 (d:Nat):E.keep (23:Nat) d=([]:List Nat).contains d:=rfl
@[simp] theorem take_23 (d:Nat):E.take (23:Nat) d=([]:List Nat).contains d:=rfl
theorem orc_23 {args:List Arg} {r:Res} (n:Nat) (h:evBody E (orc E) n (23:Nat) Tryd.f23 args=some r):fo 23 args=some r:=orc_body n rfl rfl rfl Tryd.func23 h
@[simp] theorem kill_24 (r:Nat):E.kill (24:Nat) r=(lk kill24 r).getD []:=rfl
@[simp] theorem live_24 (r:Nat):E.live (24:Nat) r=lk live24 r:=rfl
@[simp] theorem pairs_24 (r:Nat):E.pairs (24:Nat) r=(lk pairs24 r).getD []:=rfl
@[simp] theorem mode_24:E.mode (24:Nat)=[]:=rfl
@[simp] theorem keep_24 (d:Nat):E.keep (24:Nat) d=([]:List Nat).contains d:=rfl
@[simp] theorem take_24 (d:Nat):E.take (24:Nat) d=([]:List Nat).contains d:=rfl
theorem orc_24 {args:List Arg} {r:Res} (n:Nat) (h:evBody E (orc E) n (24:Nat) Tryd.f24 args=some r):fo 24 args=some r:=orc_body n rfl rfl rfl Tryd.func24 h
@[simp] theorem kill_25 (r:Nat):E.kill (25:Nat) r=(lk kill25 r).getD []:=rfl
@[simp] theorem live_25 (r:Nat):E.live (25:Nat) r=lk live25 r:=rfl
@[simp] theorem pairs_25 (r:Nat):E.pairs (25:Nat) r=(lk pairs25 r).getD []:=rfl
@[simp] theorem mode_25:E.mode (25:Nat)=[]:=rfl
@[simp] theorem keep_25 (d:Nat):E.keep (25:Nat) d=([]:List Nat).contains d:=rfl
@[simp] theorem take_25 (d:Nat):E.take (25:Nat) d=([]:List Nat).contains d:=rfl
theorem orc_25 {args:List Arg} {r:Res} (n:Nat) (h:evBody E (orc E) n (25:Nat) Tryd.f25 args=some r):fo 25 args=some r:=orc_body n rfl rfl rfl Tryd.func25 h
@[simp] theorem kill_26 (r:Nat):E.kill (26:Nat) r=(lk kill26 r).getD []:=rfl
@[simp] theorem live_26 (r:Nat):E.live (26:Nat) r=lk live26 r:=rfl
@[simp] theorem pairs_26 (r:Nat):E.pairs (26:Nat) r=(lk pairs26 r).getD []:=rfl
@[simp] theorem mode_26:E.mode (26:Nat)=[.V,.R]:=rfl
@[simp] theorem keep_26 (d:Nat):E.keep (26:Nat) d=([]:List Nat).contains d:=rfl
@[simp] theorem take_26 (d:Nat):E.take (26:Nat) d=([]:List Nat).contains d:=rfl
theorem orc_26 {args:List Arg} {r:Res} (n:Nat) (h:evBody E (orc E) n (26:Nat) Tryd.f26 args=some r):fo 26 args=some r:=orc_body n rfl rfl rfl Tryd.func26 h
@[simp] theorem kill_28 (r:Nat):E.kill (28:Nat) r=(lk kill28 r).getD []:=rfl
@[simp] theorem live_28 (r:Nat):E.live (28:Nat) r=lk live28 r:=rfl
@[simp] theorem pairs_28 (r:Nat):E.pairs (28:Nat) r=(lk pairs28 r).getD []:=rfl
@[simp] theorem mode_28:E.mode (28:Nat)=[]:=rfl
@[simp] theorem keep_28 (d:Nat):E.keep (28:Nat) d=([]:List Nat).contains d:=rfl
@[simp] theorem take_28 (d:Nat):E.take (28:Nat) d=([]:List Nat).contains d:=rfl
theorem orc_28 {args:List Arg} {r:Res} (n:Nat) (h:evBody E (orc E) n (28:Nat) Tryd.f28 args=some r):fo 28 args=some r:=orc_body n rfl rfl rfl Tryd.func28 h
@[simp] theorem kill_29 (r:Nat):E.kill (29:Nat) r=(lk kill29 r).getD []:=rfl
@[simp] theorem live_29 (r:Nat):E.live (29:Nat) r=lk live29 r:=rfl
@[simp] theorem pairs_29 (r:Nat):E.pairs (29:Nat) r=(lk pairs29 r).getD []:=rfl
@[simp] theorem mode_29:E.mode (29:Nat)=[]:=rfl
@[simp] theorem keep_29 (d:Nat):E.keep (29:Nat) d=([]:List Nat).contains d:=rfl
@[simp] theorem take_29 (d:Nat):E.take (29:Nat) d=([]:List Nat).contains d:=rfl
theorem orc_29 {args:List Arg} {r:Res} (n:Nat) (h:evBody E (orc E) n (29:Nat) Tryd.f29 args=some r):fo 29 args=some r:=orc_body n rfl rfl rfl Tryd.func29 h
@[simp] theorem kill_30 (r:Nat):E.kill (30:Nat) r=(lk kill30 r).getD []:=rfl
@[simp] theorem live_30 (r:Nat):E.live (30:Nat) r=lk live30 r:=rfl
@[simp] theorem pairs_30 (r:Nat):E.pairs (30:Nat) r=(lk pairs30 r).getD []:=rfl
@[simp] theorem mode_30:E.mode (30:Nat)=[]:=rfl
@[simp] theorem keep_30 (d:Nat):E.keep (30:Nat) d=([]:List Nat).contains d:=rfl
@[simp] theorem take_30 (d:Nat):E.take (30:Nat) d=([]:List Nat).contains d:=rfl
theorem orc_30 {args:List Arg} {r:Res} (n:Nat) (h:evBody E (orc E) n (30:Nat) Tryd.f30 args=some r):fo 30 args=some r:=orc_body n rfl rfl rfl Tryd.func30 h
@[simp] theorem kill_31 (r:Nat):E.kill (31:Nat) r=(lk kill31 r).getD []:=rfl
@[simp] theorem live_31 (r:Nat):E.live (31:Nat) r=lk live31 r:=rfl
@[simp] theorem pairs_31 (r:Nat):E.pairs (31:Nat) r=(lk pairs31 r).getD []:=rfl
@[simp] theorem mode_31:E.mode (31:Nat)=[]:=rfl
@[simp] theorem keep_31 (d:Nat):E.keep (31:Nat) d=([]:List Nat).contains d:=rfl
@[simp] theorem take_31 (d:Nat):E.take (31:Nat) d=([]:List Nat).contains d:=rfl
@[simp] theorem kill_32 (r:Nat):E.kill (32:Nat) r=(lk kill32 r).getD []:=rfl
@[simp] theorem live_32 (r:Nat):E.live (32:Nat) r=lk live32 r:=rfl
@[simp] theorem pairs_32 (r:Nat):E.pairs (32:Nat) r=(lk pairs32 r).getD []:=rfl
@[simp] theorem mode_32:E.mode (32:Nat)=[]:=rfl
@[simp] theorem keep_32 (d:Nat):E.keep (32:Nat) d=([]:List Nat).contains d:=rfl
@[simp] theorem take_32 (d:Nat):E.take (32:Nat) d=([]:List Nat).contains d:=rfl
theorem orc_32 {args:List Arg} {r:Res} (n:Nat) (h:evBody E (orc E) n (32:Nat) Tryd.f32 args=some r):fo 32 args=some r:=orc_body n rfl rfl rfl Tryd.func32 h
@[simp] theorem kill_34 (r:Nat):E.kill (34:Nat) r=(lk kill34 r).getD []:=rfl
@[simp] theorem live_34 (r:Nat):E.live (34:Nat) r=lk live34 r:=rfl
@[simp] theorem pairs_34 (r:Nat):E.pairs (34:Nat) r=(lk pairs34 r).getD []:=rfl
@[simp] theorem mode_34:E.mode (34:Nat)=[]:=rfl
@[simp] theorem keep_34 (d:Nat):E.keep (34:Nat) d=([]:List Nat).contains d:=rfl
@[simp] theorem take_34 (d:Nat):E.take (34:Nat) d=([]:List Nat).contains d:=rfl
theorem orc_34 {args:List Arg} {r:Res} (n:Nat) (h:evBody E (orc E) n (34:Nat) Tryd.f34 args=some r):fo 34 args=some r:=orc_body n rfl rfl rfl Tryd.func34 h
@[simp] theorem kill_35 (r:Nat):E.kill (35:Nat) r=(lk kill35 r).getD []:=rfl
@[simp] theorem live_35 (r:Nat):E.live (35:Nat) r=lk live35 r:=rfl
@[simp] theorem pairs_35 (r:Nat):E.pairs (35:Nat) r=(lk pairs35 r).getD []:=rfl
@[simp] theorem mode_35:E.mode (35:Nat)=[]:=rfl
@[simp] theorem keep_35 (d:Nat):E.keep (35:Nat) d=([]:List Nat).contains d:=rfl
@[simp] theorem take_35 (d:Nat):E.take (35:Nat) d=([]:List Nat).contains d:=rfl
theorem orc_35 {args:List Arg} {r:Res} (n:Nat) (h:evBody E (orc E) n (35:Nat) Tryd.f35 args=some r):fo 35 args=some r:=orc_body n rfl rfl rfl Tryd.func35 h
@[simp] theorem kill_37 (r:Nat):E.kill (37:Nat) r=(lk kill37 r).getD []:=rfl
@[simp] theorem live_37 (r:Nat):E.live (37:Nat) r=lk live37 r:=rfl
@[simp] theorem pairs_37 (r:Nat):E.pairs (37:Nat) r=(lk pairs37 r).getD []:=rfl
@[simp] theorem mode_37:E.mode (37:Nat)=[]:=rfl
@[simp] theorem keep_37 (d:Nat):E.keep (37:Nat) d=([]:List Nat).contains d:=rfl
@[simp] theorem take_37 (d:Nat):E.take (37:Nat) d=([]:List Nat).contains d:=rfl
theorem orc_37 {args:List Arg} {r:Res} (n:Nat) (h:evBody E (orc E) n (37:Nat) Tryd.f37 args=some r):fo 37 args=some r:=orc_body n rfl rfl rfl Tryd.func37 h
end Go.TM.Dw
