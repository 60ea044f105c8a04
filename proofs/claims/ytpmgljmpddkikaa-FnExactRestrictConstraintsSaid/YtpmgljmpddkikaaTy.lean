/-
  What the shadow asks of this program's types, each a closed fact.
-/
import Derived.Test.YtpmgljmpddkikaaShL
import Derived.Test.YtpmgljmpddkikaaChecked
import Derived.KernelRfl
namespace Go.Sh
set_option linter.unusedSimpArgs false
set_option linter.unusedVariables false
open Go Go.Proofs
theorem Try.mixed : Try.prog.follows .mixedOrders = true := by kernel_rfl
@[go_sem] theorem Try.ty.sz2 : szOf Try.prog 2 = some 1 := by kernel_rfl
@[go_sem] theorem Try.ty.by2 : bytesIn Try.prog 2 = some 8 := by kernel_rfl
@[go_sem] theorem Try.ty.ag2 : aggOf Try.prog 2 = some false := by kernel_rfl
@[go_sem] theorem Try.ty.zr2 : zeroOf Try.prog 2 = some [.val (.int .i64 0)] := by kernel_rfl
@[go_sem] theorem Try.ty.el2 : elemOfSlice Try.prog 2 = none := by kernel_rfl
@[go_sem] theorem Try.ty.ar2 : arrayOf Try.prog 2 = none := by kernel_rfl
@[go_sem] theorem Try.ty.st2 : isStr Try.prog 2 = false := by kernel_rfl
@[go_sem] theorem Try.ty.bo2 : isBool Try.prog 2 = false := by kernel_rfl
@[go_sem] theorem Try.ty.ki2 : kindOf Try.prog 2 = some .i64 := by kernel_rfl
@[go_sem] theorem Try.ty.if2 : isIface Try.prog 2 = some false := by kernel_rfl
@[go_sem] theorem Try.ty.un2 : Try.prog.underlying 2 = some (.int .i64) := by kernel_rfl
@[go_sem] theorem Try.ty.sz3 : szOf Try.prog 3 = some 1 := by kernel_rfl
@[go_sem] theorem Try.ty.by3 : bytesIn Try.prog 3 = some 8 := by kernel_rfl
@[go_sem] theorem Try.ty.ag3 : aggOf Try.prog 3 = some false := by kernel_rfl
@[go_sem] theorem Try.ty.zr3 : zeroOf Try.prog 3 = some [.val (.int .i64 0)] := by kernel_rfl
@[go_sem] theorem Try.ty.el3 : elemOfSlice Try.prog 3 = none := by kernel_rfl
@[go_sem] theorem Try.ty.ar3 : arrayOf Try.prog 3 = none := by kernel_rfl
@[go_sem] theorem Try.ty.st3 : isStr Try.prog 3 = false := by kernel_rfl
@[go_sem] theorem Try.ty.bo3 : isBool Try.prog 3 = false := by kernel_rfl
@[go_sem] theorem Try.ty.ki3 : kindOf Try.prog 3 = some .i64 := by kernel_rfl
@[go_sem] theorem Try.ty.if3 : isIface Try.prog 3 = some false := by kernel_rfl
@[go_sem] theorem Try.ty.un3 : Try.prog.underlying 3 = some (.int .i64) := by kernel_rfl
@[go_sem] theorem Try.ty.sz4 : szOf Try.prog 4 = some 1 := by kernel_rfl
@[go_sem] theorem Try.ty.by4 : bytesIn Try.prog 4 = some 1 := by kernel_rfl
@[go_sem] theorem Try.ty.ag4 : aggOf Try.prog 4 = some false := by kernel_rfl
@[go_sem] theorem Try.ty.zr4 : zeroOf Try.prog 4 = some [.val (.bool false)] := by kernel_rfl
@[go_sem] theorem Try.ty.el4 : elemOfSlice Try.prog 4 = none := by kernel_rfl
@[go_sem] theorem Try.ty.ar4 : arrayOf Try.prog 4 = none := by kernel_rfl
@[go_sem] theorem Try.ty.st4 : isStr Try.prog 4 = false := by kernel_rfl
@[go_sem] theorem Try.ty.bo4 : isBool Try.prog 4 = true := by kernel_rfl
@[go_sem] theorem Try.ty.ki4 : kindOf Try.prog 4 = none := by kernel_rfl
@[go_sem] theorem Try.ty.if4 : isIface Try.prog 4 = some false := by kernel_rfl
@[go_sem] theorem Try.ty.un4 : Try.prog.underlying 4 = some (.bool) := by kernel_rfl
@[go_sem] theorem Try.ty.sz5 : szOf Try.prog 5 = some 1 := by kernel_rfl
@[go_sem] theorem Try.ty.by5 : bytesIn Try.prog 5 = some 1 := by kernel_rfl
@[go_sem] theorem Try.ty.ag5 : aggOf Try.prog 5 = some false := by kernel_rfl
@[go_sem] theorem Try.ty.zr5 : zeroOf Try.prog 5 = some [.val (.int .u8 0)] := by kernel_rfl
@[go_sem] theorem Try.ty.el5 : elemOfSlice Try.prog 5 = none := by kernel_rfl
@[go_sem] theorem Try.ty.ar5 : arrayOf Try.prog 5 = none := by kernel_rfl
@[go_sem] theorem Try.ty.st5 : isStr Try.prog 5 = false := by kernel_rfl
@[go_sem] theorem Try.ty.bo5 : isBool Try.prog 5 = false := by kernel_rfl
@[go_sem] theorem Try.ty.ki5 : kindOf Try.prog 5 = some .u8 := by kernel_rfl
@[go_sem] theorem Try.ty.if5 : isIface Try.prog 5 = some false := by kernel_rfl
@[go_sem] theorem Try.ty.un5 : Try.prog.underlying 5 = some (.int .u8) := by kernel_rfl
@[go_sem] theorem Try.ty.sz7 : szOf Try.prog 7 = some 4 := by kernel_rfl
@[go_sem] theorem Try.ty.by7 : bytesIn Try.prog 7 = some 24 := by kernel_rfl
@[go_sem] theorem Try.ty.ag7 : aggOf Try.prog 7 = some true := by kernel_rfl
@[go_sem] theorem Try.ty.zr7 : zeroOf Try.prog 7 = some [.val (.int .i64 0), .val (.int .i64 0), .val (.bool false), .val (.int .u8 0)] := by kernel_rfl
@[go_sem] theorem Try.ty.el7 : elemOfSlice Try.prog 7 = none := by kernel_rfl
@[go_sem] theorem Try.ty.ar7 : arrayOf Try.prog 7 = none := by kernel_rfl
@[go_sem] theorem Try.ty.st7 : isStr Try.prog 7 = false := by kernel_rfl
@[go_sem] theorem Try.ty.bo7 : isBool Try.prog 7 = false := by kernel_rfl
@[go_sem] theorem Try.ty.ki7 : kindOf Try.prog 7 = none := by kernel_rfl
@[go_sem] theorem Try.ty.if7 : isIface Try.prog 7 = some false := by kernel_rfl
@[go_sem] theorem Try.ty.fo0_7 : fieldOf Try.prog 7 0 = some (2, 0) := by kernel_rfl
@[go_sem] theorem Try.ty.fp0_7 : fieldPl Try.prog 7 0 = some (0, 1) := by kernel_rfl
@[go_sem] theorem Try.ty.fo1_7 : fieldOf Try.prog 7 1 = some (3, 1) := by kernel_rfl
@[go_sem] theorem Try.ty.fp1_7 : fieldPl Try.prog 7 1 = some (1, 1) := by kernel_rfl
@[go_sem] theorem Try.ty.fo2_7 : fieldOf Try.prog 7 2 = some (4, 2) := by kernel_rfl
@[go_sem] theorem Try.ty.fp2_7 : fieldPl Try.prog 7 2 = some (2, 1) := by kernel_rfl
@[go_sem] theorem Try.ty.fo3_7 : fieldOf Try.prog 7 3 = some (6, 3) := by kernel_rfl
@[go_sem] theorem Try.ty.fp3_7 : fieldPl Try.prog 7 3 = some (3, 1) := by kernel_rfl
@[go_sem] theorem Try.ty.bk7 : buildOk Try.prog 7 = true := by kernel_rfl
@[go_sem] theorem Try.ty.sz9 : szOf Try.prog 9 = some 1 := by kernel_rfl
@[go_sem] theorem Try.ty.by9 : bytesIn Try.prog 9 = some 16 := by kernel_rfl
@[go_sem] theorem Try.ty.ag9 : aggOf Try.prog 9 = some false := by kernel_rfl
@[go_sem] theorem Try.ty.zr9 : zeroOf Try.prog 9 = some [.val (.string ByteArray.empty)] := by kernel_rfl
@[go_sem] theorem Try.ty.el9 : elemOfSlice Try.prog 9 = none := by kernel_rfl
@[go_sem] theorem Try.ty.ar9 : arrayOf Try.prog 9 = none := by kernel_rfl
@[go_sem] theorem Try.ty.st9 : isStr Try.prog 9 = true := by kernel_rfl
@[go_sem] theorem Try.ty.bo9 : isBool Try.prog 9 = false := by kernel_rfl
@[go_sem] theorem Try.ty.ki9 : kindOf Try.prog 9 = none := by kernel_rfl
@[go_sem] theorem Try.ty.if9 : isIface Try.prog 9 = some false := by kernel_rfl
@[go_sem] theorem Try.ty.un9 : Try.prog.underlying 9 = some (.string) := by kernel_rfl
@[go_sem] theorem Try.ty.sz12 : szOf Try.prog 12 = some 1 := by kernel_rfl
@[go_sem] theorem Try.ty.by12 : bytesIn Try.prog 12 = some 8 := by kernel_rfl
@[go_sem] theorem Try.ty.ag12 : aggOf Try.prog 12 = some false := by kernel_rfl
@[go_sem] theorem Try.ty.zr12 : zeroOf Try.prog 12 = some [.val (.int .u64 0)] := by kernel_rfl
@[go_sem] theorem Try.ty.el12 : elemOfSlice Try.prog 12 = none := by kernel_rfl
@[go_sem] theorem Try.ty.ar12 : arrayOf Try.prog 12 = none := by kernel_rfl
@[go_sem] theorem Try.ty.st12 : isStr Try.prog 12 = false := by kernel_rfl
@[go_sem] theorem Try.ty.bo12 : isBool Try.prog 12 = false := by kernel_rfl
@[go_sem] theorem Try.ty.ki12 : kindOf Try.prog 12 = some .u64 := by kernel_rfl
@[go_sem] theorem Try.ty.if12 : isIface Try.prog 12 = some false := by kernel_rfl
@[go_sem] theorem Try.ty.un12 : Try.prog.underlying 12 = some (.int .u64) := by kernel_rfl
@[go_sem] theorem Try.ty.sz13 : szOf Try.prog 13 = some 2 := by kernel_rfl
@[go_sem] theorem Try.ty.by13 : bytesIn Try.prog 13 = some 24 := by kernel_rfl
@[go_sem] theorem Try.ty.ag13 : aggOf Try.prog 13 = some true := by kernel_rfl
@[go_sem] theorem Try.ty.zr13 : zeroOf Try.prog 13 = some [.val (.string ByteArray.empty), .val (.int .u64 0)] := by kernel_rfl
@[go_sem] theorem Try.ty.el13 : elemOfSlice Try.prog 13 = none := by kernel_rfl
@[go_sem] theorem Try.ty.ar13 : arrayOf Try.prog 13 = none := by kernel_rfl
@[go_sem] theorem Try.ty.st13 : isStr Try.prog 13 = false := by kernel_rfl
@[go_sem] theorem Try.ty.bo13 : isBool Try.prog 13 = false := by kernel_rfl
@[go_sem] theorem Try.ty.ki13 : kindOf Try.prog 13 = none := by kernel_rfl
@[go_sem] theorem Try.ty.if13 : isIface Try.prog 13 = some false := by kernel_rfl
@[go_sem] theorem Try.ty.fo0_13 : fieldOf Try.prog 13 0 = some (9, 0) := by kernel_rfl
@[go_sem] theorem Try.ty.fp0_13 : fieldPl Try.prog 13 0 = some (0, 1) := by kernel_rfl
@[go_sem] theorem Try.ty.fo1_13 : fieldOf Try.prog 13 1 = some (12, 1) := by kernel_rfl
@[go_sem] theorem Try.ty.fp1_13 : fieldPl Try.prog 13 1 = some (1, 1) := by kernel_rfl
@[go_sem] theorem Try.ty.bk13 : buildOk Try.prog 13 = true := by kernel_rfl
@[go_sem] theorem Try.ty.sz15 : szOf Try.prog 15 = some 1 := by kernel_rfl
@[go_sem] theorem Try.ty.by15 : bytesIn Try.prog 15 = some 8 := by kernel_rfl
@[go_sem] theorem Try.ty.ag15 : aggOf Try.prog 15 = some false := by kernel_rfl
@[go_sem] theorem Try.ty.zr15 : zeroOf Try.prog 15 = some [.val (.pointer none)] := by kernel_rfl
@[go_sem] theorem Try.ty.el15 : elemOfSlice Try.prog 15 = none := by kernel_rfl
@[go_sem] theorem Try.ty.ar15 : arrayOf Try.prog 15 = none := by kernel_rfl
@[go_sem] theorem Try.ty.st15 : isStr Try.prog 15 = false := by kernel_rfl
@[go_sem] theorem Try.ty.bo15 : isBool Try.prog 15 = false := by kernel_rfl
@[go_sem] theorem Try.ty.ki15 : kindOf Try.prog 15 = none := by kernel_rfl
@[go_sem] theorem Try.ty.if15 : isIface Try.prog 15 = some false := by kernel_rfl
@[go_sem] theorem Try.ty.un15 : Try.prog.underlying 15 = some (.pointer 79) := by kernel_rfl
@[go_sem] theorem Try.ty.sz16 : szOf Try.prog 16 = some 1 := by kernel_rfl
@[go_sem] theorem Try.ty.by16 : bytesIn Try.prog 16 = some 8 := by kernel_rfl
@[go_sem] theorem Try.ty.ag16 : aggOf Try.prog 16 = some false := by kernel_rfl
@[go_sem] theorem Try.ty.zr16 : zeroOf Try.prog 16 = some [.val (.pointer none)] := by kernel_rfl
@[go_sem] theorem Try.ty.el16 : elemOfSlice Try.prog 16 = none := by kernel_rfl
@[go_sem] theorem Try.ty.ar16 : arrayOf Try.prog 16 = none := by kernel_rfl
@[go_sem] theorem Try.ty.st16 : isStr Try.prog 16 = false := by kernel_rfl
@[go_sem] theorem Try.ty.bo16 : isBool Try.prog 16 = false := by kernel_rfl
@[go_sem] theorem Try.ty.ki16 : kindOf Try.prog 16 = none := by kernel_rfl
@[go_sem] theorem Try.ty.if16 : isIface Try.prog 16 = some false := by kernel_rfl
@[go_sem] theorem Try.ty.un16 : Try.prog.underlying 16 = some (.pointer 82) := by kernel_rfl
@[go_sem] theorem Try.ty.sz17 : szOf Try.prog 17 = some 1 := by kernel_rfl
@[go_sem] theorem Try.ty.by17 : bytesIn Try.prog 17 = some 8 := by kernel_rfl
@[go_sem] theorem Try.ty.ag17 : aggOf Try.prog 17 = some false := by kernel_rfl
@[go_sem] theorem Try.ty.zr17 : zeroOf Try.prog 17 = some [.val (.pointer none)] := by kernel_rfl
@[go_sem] theorem Try.ty.el17 : elemOfSlice Try.prog 17 = none := by kernel_rfl
@[go_sem] theorem Try.ty.ar17 : arrayOf Try.prog 17 = none := by kernel_rfl
@[go_sem] theorem Try.ty.st17 : isStr Try.prog 17 = false := by kernel_rfl
@[go_sem] theorem Try.ty.bo17 : isBool Try.prog 17 = false := by kernel_rfl
@[go_sem] theorem Try.ty.ki17 : kindOf Try.prog 17 = none := by kernel_rfl
@[go_sem] theorem Try.ty.if17 : isIface Try.prog 17 = some false := by kernel_rfl
@[go_sem] theorem Try.ty.un17 : Try.prog.underlying 17 = some (.pointer 92) := by kernel_rfl
@[go_sem] theorem Try.ty.sz18 : szOf Try.prog 18 = some 1 := by kernel_rfl
@[go_sem] theorem Try.ty.by18 : bytesIn Try.prog 18 = some 8 := by kernel_rfl
@[go_sem] theorem Try.ty.ag18 : aggOf Try.prog 18 = some true := by kernel_rfl
@[go_sem] theorem Try.ty.zr18 : zeroOf Try.prog 18 = some [.val (.pointer none)] := by kernel_rfl
@[go_sem] theorem Try.ty.el18 : elemOfSlice Try.prog 18 = none := by kernel_rfl
@[go_sem] theorem Try.ty.ar18 : arrayOf Try.prog 18 = none := by kernel_rfl
@[go_sem] theorem Try.ty.st18 : isStr Try.prog 18 = false := by kernel_rfl
@[go_sem] theorem Try.ty.bo18 : isBool Try.prog 18 = false := by kernel_rfl
@[go_sem] theorem Try.ty.ki18 : kindOf Try.prog 18 = none := by kernel_rfl
@[go_sem] theorem Try.ty.if18 : isIface Try.prog 18 = some false := by kernel_rfl
@[go_sem] theorem Try.ty.fo0_18 : fieldOf Try.prog 18 0 = some (17, 0) := by kernel_rfl
@[go_sem] theorem Try.ty.fp0_18 : fieldPl Try.prog 18 0 = some (0, 1) := by kernel_rfl
@[go_sem] theorem Try.ty.bk18 : buildOk Try.prog 18 = true := by kernel_rfl
@[go_sem] theorem Try.ty.sz21 : szOf Try.prog 21 = some 1 := by kernel_rfl
@[go_sem] theorem Try.ty.by21 : bytesIn Try.prog 21 = some 4 := by kernel_rfl
@[go_sem] theorem Try.ty.ag21 : aggOf Try.prog 21 = some false := by kernel_rfl
@[go_sem] theorem Try.ty.zr21 : zeroOf Try.prog 21 = some [.val (.int .i32 0)] := by kernel_rfl
@[go_sem] theorem Try.ty.el21 : elemOfSlice Try.prog 21 = none := by kernel_rfl
@[go_sem] theorem Try.ty.ar21 : arrayOf Try.prog 21 = none := by kernel_rfl
@[go_sem] theorem Try.ty.st21 : isStr Try.prog 21 = false := by kernel_rfl
@[go_sem] theorem Try.ty.bo21 : isBool Try.prog 21 = false := by kernel_rfl
@[go_sem] theorem Try.ty.ki21 : kindOf Try.prog 21 = some .i32 := by kernel_rfl
@[go_sem] theorem Try.ty.if21 : isIface Try.prog 21 = some false := by kernel_rfl
@[go_sem] theorem Try.ty.un21 : Try.prog.underlying 21 = some (.int .i32) := by kernel_rfl
@[go_sem] theorem Try.ty.sz22 : szOf Try.prog 22 = some 1 := by kernel_rfl
@[go_sem] theorem Try.ty.by22 : bytesIn Try.prog 22 = some 24 := by kernel_rfl
@[go_sem] theorem Try.ty.ag22 : aggOf Try.prog 22 = some false := by kernel_rfl
@[go_sem] theorem Try.ty.zr22 : zeroOf Try.prog 22 = some [.val (.slice none 0 0)] := by kernel_rfl
@[go_sem] theorem Try.ty.el22 : elemOfSlice Try.prog 22 = some 3 := by kernel_rfl
@[go_sem] theorem Try.ty.ar22 : arrayOf Try.prog 22 = none := by kernel_rfl
@[go_sem] theorem Try.ty.st22 : isStr Try.prog 22 = false := by kernel_rfl
@[go_sem] theorem Try.ty.bo22 : isBool Try.prog 22 = false := by kernel_rfl
@[go_sem] theorem Try.ty.ki22 : kindOf Try.prog 22 = none := by kernel_rfl
@[go_sem] theorem Try.ty.if22 : isIface Try.prog 22 = some false := by kernel_rfl
@[go_sem] theorem Try.ty.un22 : Try.prog.underlying 22 = some (.slice 3) := by kernel_rfl
@[go_sem] theorem Try.ty.sz28 : szOf Try.prog 28 = some 1 := by kernel_rfl
@[go_sem] theorem Try.ty.by28 : bytesIn Try.prog 28 = some 24 := by kernel_rfl
@[go_sem] theorem Try.ty.ag28 : aggOf Try.prog 28 = some false := by kernel_rfl
@[go_sem] theorem Try.ty.zr28 : zeroOf Try.prog 28 = some [.val (.slice none 0 0)] := by kernel_rfl
@[go_sem] theorem Try.ty.el28 : elemOfSlice Try.prog 28 = some 64 := by kernel_rfl
@[go_sem] theorem Try.ty.ar28 : arrayOf Try.prog 28 = none := by kernel_rfl
@[go_sem] theorem Try.ty.st28 : isStr Try.prog 28 = false := by kernel_rfl
@[go_sem] theorem Try.ty.bo28 : isBool Try.prog 28 = false := by kernel_rfl
@[go_sem] theorem Try.ty.ki28 : kindOf Try.prog 28 = none := by kernel_rfl
@[go_sem] theorem Try.ty.if28 : isIface Try.prog 28 = some false := by kernel_rfl
@[go_sem] theorem Try.ty.un28 : Try.prog.underlying 28 = some (.slice 64) := by kernel_rfl
@[go_sem] theorem Try.ty.sz31 : szOf Try.prog 31 = some 1 := by kernel_rfl
@[go_sem] theorem Try.ty.by31 : bytesIn Try.prog 31 = some 24 := by kernel_rfl
@[go_sem] theorem Try.ty.ag31 : aggOf Try.prog 31 = some false := by kernel_rfl
@[go_sem] theorem Try.ty.zr31 : zeroOf Try.prog 31 = some [.val (.slice none 0 0)] := by kernel_rfl
@[go_sem] theorem Try.ty.el31 : elemOfSlice Try.prog 31 = some 62 := by kernel_rfl
@[go_sem] theorem Try.ty.ar31 : arrayOf Try.prog 31 = none := by kernel_rfl
@[go_sem] theorem Try.ty.st31 : isStr Try.prog 31 = false := by kernel_rfl
@[go_sem] theorem Try.ty.bo31 : isBool Try.prog 31 = false := by kernel_rfl
@[go_sem] theorem Try.ty.ki31 : kindOf Try.prog 31 = none := by kernel_rfl
@[go_sem] theorem Try.ty.if31 : isIface Try.prog 31 = some false := by kernel_rfl
@[go_sem] theorem Try.ty.un31 : Try.prog.underlying 31 = some (.slice 62) := by kernel_rfl
@[go_sem] theorem Try.ty.sz35 : szOf Try.prog 35 = some 4 := by kernel_rfl
@[go_sem] theorem Try.ty.by35 : bytesIn Try.prog 35 = some 48 := by kernel_rfl
@[go_sem] theorem Try.ty.ag35 : aggOf Try.prog 35 = some true := by kernel_rfl
@[go_sem] theorem Try.ty.zr35 : zeroOf Try.prog 35 = some [.val (.slice none 0 0), .val (.int .i64 0), .val (.bool false), .val (.int .i64 0)] := by kernel_rfl
@[go_sem] theorem Try.ty.el35 : elemOfSlice Try.prog 35 = none := by kernel_rfl
@[go_sem] theorem Try.ty.ar35 : arrayOf Try.prog 35 = none := by kernel_rfl
@[go_sem] theorem Try.ty.st35 : isStr Try.prog 35 = false := by kernel_rfl
@[go_sem] theorem Try.ty.bo35 : isBool Try.prog 35 = false := by kernel_rfl
@[go_sem] theorem Try.ty.ki35 : kindOf Try.prog 35 = none := by kernel_rfl
@[go_sem] theorem Try.ty.if35 : isIface Try.prog 35 = some false := by kernel_rfl
@[go_sem] theorem Try.ty.fo0_35 : fieldOf Try.prog 35 0 = some (22, 0) := by kernel_rfl
@[go_sem] theorem Try.ty.fp0_35 : fieldPl Try.prog 35 0 = some (0, 1) := by kernel_rfl
@[go_sem] theorem Try.ty.fo1_35 : fieldOf Try.prog 35 1 = some (3, 1) := by kernel_rfl
@[go_sem] theorem Try.ty.fp1_35 : fieldPl Try.prog 35 1 = some (1, 1) := by kernel_rfl
@[go_sem] theorem Try.ty.fo2_35 : fieldOf Try.prog 35 2 = some (4, 2) := by kernel_rfl
@[go_sem] theorem Try.ty.fp2_35 : fieldPl Try.prog 35 2 = some (2, 1) := by kernel_rfl
@[go_sem] theorem Try.ty.fo3_35 : fieldOf Try.prog 35 3 = some (3, 3) := by kernel_rfl
@[go_sem] theorem Try.ty.fp3_35 : fieldPl Try.prog 35 3 = some (3, 1) := by kernel_rfl
@[go_sem] theorem Try.ty.bk35 : buildOk Try.prog 35 = true := by kernel_rfl
@[go_sem] theorem Try.ty.sz36 : szOf Try.prog 36 = some 4 := by kernel_rfl
@[go_sem] theorem Try.ty.by36 : bytesIn Try.prog 36 = some 48 := by kernel_rfl
@[go_sem] theorem Try.ty.ag36 : aggOf Try.prog 36 = some true := by kernel_rfl
@[go_sem] theorem Try.ty.zr36 : zeroOf Try.prog 36 = some [.val (.slice none 0 0), .val (.int .i64 0), .val (.bool false), .val (.int .i64 0)] := by kernel_rfl
@[go_sem] theorem Try.ty.el36 : elemOfSlice Try.prog 36 = none := by kernel_rfl
@[go_sem] theorem Try.ty.ar36 : arrayOf Try.prog 36 = none := by kernel_rfl
@[go_sem] theorem Try.ty.st36 : isStr Try.prog 36 = false := by kernel_rfl
@[go_sem] theorem Try.ty.bo36 : isBool Try.prog 36 = false := by kernel_rfl
@[go_sem] theorem Try.ty.ki36 : kindOf Try.prog 36 = none := by kernel_rfl
@[go_sem] theorem Try.ty.if36 : isIface Try.prog 36 = some false := by kernel_rfl
@[go_sem] theorem Try.ty.fo0_36 : fieldOf Try.prog 36 0 = some (22, 0) := by kernel_rfl
@[go_sem] theorem Try.ty.fp0_36 : fieldPl Try.prog 36 0 = some (0, 1) := by kernel_rfl
@[go_sem] theorem Try.ty.fo1_36 : fieldOf Try.prog 36 1 = some (3, 1) := by kernel_rfl
@[go_sem] theorem Try.ty.fp1_36 : fieldPl Try.prog 36 1 = some (1, 1) := by kernel_rfl
@[go_sem] theorem Try.ty.fo2_36 : fieldOf Try.prog 36 2 = some (4, 2) := by kernel_rfl
@[go_sem] theorem Try.ty.fp2_36 : fieldPl Try.prog 36 2 = some (2, 1) := by kernel_rfl
@[go_sem] theorem Try.ty.fo3_36 : fieldOf Try.prog 36 3 = some (3, 3) := by kernel_rfl
@[go_sem] theorem Try.ty.fp3_36 : fieldPl Try.prog 36 3 = some (3, 1) := by kernel_rfl
@[go_sem] theorem Try.ty.bk36 : buildOk Try.prog 36 = true := by kernel_rfl
@[go_sem] theorem Try.ty.sz39 : szOf Try.prog 39 = some 4 := by kernel_rfl
@[go_sem] theorem Try.ty.by39 : bytesIn Try.prog 39 = some 48 := by kernel_rfl
@[go_sem] theorem Try.ty.ag39 : aggOf Try.prog 39 = some true := by kernel_rfl
@[go_sem] theorem Try.ty.zr39 : zeroOf Try.prog 39 = some [.val (.slice none 0 0), .val (.int .i64 0), .val (.bool false), .val (.int .i64 0)] := by kernel_rfl
@[go_sem] theorem Try.ty.el39 : elemOfSlice Try.prog 39 = none := by kernel_rfl
@[go_sem] theorem Try.ty.ar39 : arrayOf Try.prog 39 = none := by kernel_rfl
@[go_sem] theorem Try.ty.st39 : isStr Try.prog 39 = false := by kernel_rfl
@[go_sem] theorem Try.ty.bo39 : isBool Try.prog 39 = false := by kernel_rfl
@[go_sem] theorem Try.ty.ki39 : kindOf Try.prog 39 = none := by kernel_rfl
@[go_sem] theorem Try.ty.if39 : isIface Try.prog 39 = some false := by kernel_rfl
@[go_sem] theorem Try.ty.fo0_39 : fieldOf Try.prog 39 0 = some (22, 0) := by kernel_rfl
@[go_sem] theorem Try.ty.fp0_39 : fieldPl Try.prog 39 0 = some (0, 1) := by kernel_rfl
@[go_sem] theorem Try.ty.fo1_39 : fieldOf Try.prog 39 1 = some (3, 1) := by kernel_rfl
@[go_sem] theorem Try.ty.fp1_39 : fieldPl Try.prog 39 1 = some (1, 1) := by kernel_rfl
@[go_sem] theorem Try.ty.fo2_39 : fieldOf Try.prog 39 2 = some (4, 2) := by kernel_rfl
@[go_sem] theorem Try.ty.fp2_39 : fieldPl Try.prog 39 2 = some (2, 1) := by kernel_rfl
@[go_sem] theorem Try.ty.fo3_39 : fieldOf Try.prog 39 3 = some (3, 3) := by kernel_rfl
@[go_sem] theorem Try.ty.fp3_39 : fieldPl Try.prog 39 3 = some (3, 1) := by kernel_rfl
@[go_sem] theorem Try.ty.bk39 : buildOk Try.prog 39 = true := by kernel_rfl
@[go_sem] theorem Try.ty.sz42 : szOf Try.prog 42 = some 1 := by kernel_rfl
@[go_sem] theorem Try.ty.by42 : bytesIn Try.prog 42 = some 24 := by kernel_rfl
@[go_sem] theorem Try.ty.ag42 : aggOf Try.prog 42 = some false := by kernel_rfl
@[go_sem] theorem Try.ty.zr42 : zeroOf Try.prog 42 = some [.val (.slice none 0 0)] := by kernel_rfl
@[go_sem] theorem Try.ty.el42 : elemOfSlice Try.prog 42 = some 22 := by kernel_rfl
@[go_sem] theorem Try.ty.ar42 : arrayOf Try.prog 42 = none := by kernel_rfl
@[go_sem] theorem Try.ty.st42 : isStr Try.prog 42 = false := by kernel_rfl
@[go_sem] theorem Try.ty.bo42 : isBool Try.prog 42 = false := by kernel_rfl
@[go_sem] theorem Try.ty.ki42 : kindOf Try.prog 42 = none := by kernel_rfl
@[go_sem] theorem Try.ty.if42 : isIface Try.prog 42 = some false := by kernel_rfl
@[go_sem] theorem Try.ty.un42 : Try.prog.underlying 42 = some (.slice 22) := by kernel_rfl
@[go_sem] theorem Try.ty.sz61 : szOf Try.prog 61 = some 3 := by kernel_rfl
@[go_sem] theorem Try.ty.by61 : bytesIn Try.prog 61 = some 24 := by kernel_rfl
@[go_sem] theorem Try.ty.ag61 : aggOf Try.prog 61 = some true := by kernel_rfl
@[go_sem] theorem Try.ty.zr61 : zeroOf Try.prog 61 = some [.val (.int .i64 0), .val (.int .i64 0), .val (.bool false)] := by kernel_rfl
@[go_sem] theorem Try.ty.el61 : elemOfSlice Try.prog 61 = none := by kernel_rfl
@[go_sem] theorem Try.ty.ar61 : arrayOf Try.prog 61 = none := by kernel_rfl
@[go_sem] theorem Try.ty.st61 : isStr Try.prog 61 = false := by kernel_rfl
@[go_sem] theorem Try.ty.bo61 : isBool Try.prog 61 = false := by kernel_rfl
@[go_sem] theorem Try.ty.ki61 : kindOf Try.prog 61 = none := by kernel_rfl
@[go_sem] theorem Try.ty.if61 : isIface Try.prog 61 = some false := by kernel_rfl
@[go_sem] theorem Try.ty.fo0_61 : fieldOf Try.prog 61 0 = some (3, 0) := by kernel_rfl
@[go_sem] theorem Try.ty.fp0_61 : fieldPl Try.prog 61 0 = some (0, 1) := by kernel_rfl
@[go_sem] theorem Try.ty.fo1_61 : fieldOf Try.prog 61 1 = some (3, 1) := by kernel_rfl
@[go_sem] theorem Try.ty.fp1_61 : fieldPl Try.prog 61 1 = some (1, 1) := by kernel_rfl
@[go_sem] theorem Try.ty.fo2_61 : fieldOf Try.prog 61 2 = some (4, 2) := by kernel_rfl
@[go_sem] theorem Try.ty.fp2_61 : fieldPl Try.prog 61 2 = some (2, 1) := by kernel_rfl
@[go_sem] theorem Try.ty.bk61 : buildOk Try.prog 61 = true := by kernel_rfl
@[go_sem] theorem Try.ty.sz62 : szOf Try.prog 62 = some 3 := by kernel_rfl
@[go_sem] theorem Try.ty.by62 : bytesIn Try.prog 62 = some 24 := by kernel_rfl
@[go_sem] theorem Try.ty.ag62 : aggOf Try.prog 62 = some true := by kernel_rfl
@[go_sem] theorem Try.ty.zr62 : zeroOf Try.prog 62 = some [.val (.int .i64 0), .val (.int .i64 0), .val (.bool false)] := by kernel_rfl
@[go_sem] theorem Try.ty.el62 : elemOfSlice Try.prog 62 = none := by kernel_rfl
@[go_sem] theorem Try.ty.ar62 : arrayOf Try.prog 62 = none := by kernel_rfl
@[go_sem] theorem Try.ty.st62 : isStr Try.prog 62 = false := by kernel_rfl
@[go_sem] theorem Try.ty.bo62 : isBool Try.prog 62 = false := by kernel_rfl
@[go_sem] theorem Try.ty.ki62 : kindOf Try.prog 62 = none := by kernel_rfl
@[go_sem] theorem Try.ty.if62 : isIface Try.prog 62 = some false := by kernel_rfl
@[go_sem] theorem Try.ty.fo0_62 : fieldOf Try.prog 62 0 = some (3, 0) := by kernel_rfl
@[go_sem] theorem Try.ty.fp0_62 : fieldPl Try.prog 62 0 = some (0, 1) := by kernel_rfl
@[go_sem] theorem Try.ty.fo1_62 : fieldOf Try.prog 62 1 = some (3, 1) := by kernel_rfl
@[go_sem] theorem Try.ty.fp1_62 : fieldPl Try.prog 62 1 = some (1, 1) := by kernel_rfl
@[go_sem] theorem Try.ty.fo2_62 : fieldOf Try.prog 62 2 = some (4, 2) := by kernel_rfl
@[go_sem] theorem Try.ty.fp2_62 : fieldPl Try.prog 62 2 = some (2, 1) := by kernel_rfl
@[go_sem] theorem Try.ty.bk62 : buildOk Try.prog 62 = true := by kernel_rfl
@[go_sem] theorem Try.ty.sz64 : szOf Try.prog 64 = some 3 := by kernel_rfl
@[go_sem] theorem Try.ty.by64 : bytesIn Try.prog 64 = some 24 := by kernel_rfl
@[go_sem] theorem Try.ty.ag64 : aggOf Try.prog 64 = some true := by kernel_rfl
@[go_sem] theorem Try.ty.zr64 : zeroOf Try.prog 64 = some [.val (.int .i64 0), .val (.int .i64 0), .val (.bool false)] := by kernel_rfl
@[go_sem] theorem Try.ty.el64 : elemOfSlice Try.prog 64 = none := by kernel_rfl
@[go_sem] theorem Try.ty.ar64 : arrayOf Try.prog 64 = none := by kernel_rfl
@[go_sem] theorem Try.ty.st64 : isStr Try.prog 64 = false := by kernel_rfl
@[go_sem] theorem Try.ty.bo64 : isBool Try.prog 64 = false := by kernel_rfl
@[go_sem] theorem Try.ty.ki64 : kindOf Try.prog 64 = none := by kernel_rfl
@[go_sem] theorem Try.ty.if64 : isIface Try.prog 64 = some false := by kernel_rfl
@[go_sem] theorem Try.ty.fo0_64 : fieldOf Try.prog 64 0 = some (3, 0) := by kernel_rfl
@[go_sem] theorem Try.ty.fp0_64 : fieldPl Try.prog 64 0 = some (0, 1) := by kernel_rfl
@[go_sem] theorem Try.ty.fo1_64 : fieldOf Try.prog 64 1 = some (3, 1) := by kernel_rfl
@[go_sem] theorem Try.ty.fp1_64 : fieldPl Try.prog 64 1 = some (1, 1) := by kernel_rfl
@[go_sem] theorem Try.ty.fo2_64 : fieldOf Try.prog 64 2 = some (4, 2) := by kernel_rfl
@[go_sem] theorem Try.ty.fp2_64 : fieldPl Try.prog 64 2 = some (2, 1) := by kernel_rfl
@[go_sem] theorem Try.ty.bk64 : buildOk Try.prog 64 = true := by kernel_rfl
@[go_sem] theorem Try.ty.sz68 : szOf Try.prog 68 = some 4 := by kernel_rfl
@[go_sem] theorem Try.ty.by68 : bytesIn Try.prog 68 = some 32 := by kernel_rfl
@[go_sem] theorem Try.ty.ag68 : aggOf Try.prog 68 = some true := by kernel_rfl
@[go_sem] theorem Try.ty.zr68 : zeroOf Try.prog 68 = some [.val (.int .i64 0), .val (.int .i64 0), .val (.int .i64 0), .val (.int .i64 0)] := by kernel_rfl
@[go_sem] theorem Try.ty.el68 : elemOfSlice Try.prog 68 = none := by kernel_rfl
@[go_sem] theorem Try.ty.ar68 : arrayOf Try.prog 68 = none := by kernel_rfl
@[go_sem] theorem Try.ty.st68 : isStr Try.prog 68 = false := by kernel_rfl
@[go_sem] theorem Try.ty.bo68 : isBool Try.prog 68 = false := by kernel_rfl
@[go_sem] theorem Try.ty.ki68 : kindOf Try.prog 68 = none := by kernel_rfl
@[go_sem] theorem Try.ty.if68 : isIface Try.prog 68 = some false := by kernel_rfl
@[go_sem] theorem Try.ty.fo0_68 : fieldOf Try.prog 68 0 = some (3, 0) := by kernel_rfl
@[go_sem] theorem Try.ty.fp0_68 : fieldPl Try.prog 68 0 = some (0, 1) := by kernel_rfl
@[go_sem] theorem Try.ty.fo1_68 : fieldOf Try.prog 68 1 = some (3, 1) := by kernel_rfl
@[go_sem] theorem Try.ty.fp1_68 : fieldPl Try.prog 68 1 = some (1, 1) := by kernel_rfl
@[go_sem] theorem Try.ty.fo2_68 : fieldOf Try.prog 68 2 = some (3, 2) := by kernel_rfl
@[go_sem] theorem Try.ty.fp2_68 : fieldPl Try.prog 68 2 = some (2, 1) := by kernel_rfl
@[go_sem] theorem Try.ty.fo3_68 : fieldOf Try.prog 68 3 = some (3, 3) := by kernel_rfl
@[go_sem] theorem Try.ty.fp3_68 : fieldPl Try.prog 68 3 = some (3, 1) := by kernel_rfl
@[go_sem] theorem Try.ty.bk68 : buildOk Try.prog 68 = true := by kernel_rfl
@[go_sem] theorem Try.ty.sz69 : szOf Try.prog 69 = some 4 := by kernel_rfl
@[go_sem] theorem Try.ty.by69 : bytesIn Try.prog 69 = some 32 := by kernel_rfl
@[go_sem] theorem Try.ty.ag69 : aggOf Try.prog 69 = some true := by kernel_rfl
@[go_sem] theorem Try.ty.zr69 : zeroOf Try.prog 69 = some [.val (.int .i64 0), .val (.int .i64 0), .val (.int .i64 0), .val (.int .i64 0)] := by kernel_rfl
@[go_sem] theorem Try.ty.el69 : elemOfSlice Try.prog 69 = none := by kernel_rfl
@[go_sem] theorem Try.ty.ar69 : arrayOf Try.prog 69 = none := by kernel_rfl
@[go_sem] theorem Try.ty.st69 : isStr Try.prog 69 = false := by kernel_rfl
@[go_sem] theorem Try.ty.bo69 : isBool Try.prog 69 = false := by kernel_rfl
@[go_sem] theorem Try.ty.ki69 : kindOf Try.prog 69 = none := by kernel_rfl
@[go_sem] theorem Try.ty.if69 : isIface Try.prog 69 = some false := by kernel_rfl
@[go_sem] theorem Try.ty.fo0_69 : fieldOf Try.prog 69 0 = some (3, 0) := by kernel_rfl
@[go_sem] theorem Try.ty.fp0_69 : fieldPl Try.prog 69 0 = some (0, 1) := by kernel_rfl
@[go_sem] theorem Try.ty.fo1_69 : fieldOf Try.prog 69 1 = some (3, 1) := by kernel_rfl
@[go_sem] theorem Try.ty.fp1_69 : fieldPl Try.prog 69 1 = some (1, 1) := by kernel_rfl
@[go_sem] theorem Try.ty.fo2_69 : fieldOf Try.prog 69 2 = some (3, 2) := by kernel_rfl
@[go_sem] theorem Try.ty.fp2_69 : fieldPl Try.prog 69 2 = some (2, 1) := by kernel_rfl
@[go_sem] theorem Try.ty.fo3_69 : fieldOf Try.prog 69 3 = some (3, 3) := by kernel_rfl
@[go_sem] theorem Try.ty.fp3_69 : fieldPl Try.prog 69 3 = some (3, 1) := by kernel_rfl
@[go_sem] theorem Try.ty.bk69 : buildOk Try.prog 69 = true := by kernel_rfl
@[go_sem] theorem Try.ty.sz74 : szOf Try.prog 74 = some 2 := by kernel_rfl
@[go_sem] theorem Try.ty.by74 : bytesIn Try.prog 74 = some 16 := by kernel_rfl
@[go_sem] theorem Try.ty.ag74 : aggOf Try.prog 74 = some true := by kernel_rfl
@[go_sem] theorem Try.ty.zr74 : zeroOf Try.prog 74 = some [.val (.int .i64 0), .val (.int .i64 0)] := by kernel_rfl
@[go_sem] theorem Try.ty.el74 : elemOfSlice Try.prog 74 = none := by kernel_rfl
@[go_sem] theorem Try.ty.ar74 : arrayOf Try.prog 74 = some (2, 3) := by kernel_rfl
@[go_sem] theorem Try.ty.st74 : isStr Try.prog 74 = false := by kernel_rfl
@[go_sem] theorem Try.ty.bo74 : isBool Try.prog 74 = false := by kernel_rfl
@[go_sem] theorem Try.ty.ki74 : kindOf Try.prog 74 = none := by kernel_rfl
@[go_sem] theorem Try.ty.if74 : isIface Try.prog 74 = some false := by kernel_rfl
@[go_sem] theorem Try.ty.bk74 : buildOk Try.prog 74 = true := by kernel_rfl
@[go_sem] theorem Try.ty.fp0_74 : fieldPl Try.prog 74 0 = some (0, 1) := by kernel_rfl
@[go_sem] theorem Try.ty.fp1_74 : fieldPl Try.prog 74 1 = some (1, 1) := by kernel_rfl
@[go_sem] theorem Try.ty.un74 : Try.prog.underlying 74 = some (.array 2 3) := by kernel_rfl
@[go_sem] theorem Try.ty.sz75 : szOf Try.prog 75 = some 6 := by kernel_rfl
@[go_sem] theorem Try.ty.by75 : bytesIn Try.prog 75 = some 48 := by kernel_rfl
@[go_sem] theorem Try.ty.ag75 : aggOf Try.prog 75 = some true := by kernel_rfl
@[go_sem] theorem Try.ty.zr75 : zeroOf Try.prog 75 = some [.val (.int .i64 0), .val (.int .i64 0), .val (.int .i64 0), .val (.int .i64 0), .val (.int .i64 0), .val (.int .i64 0)] := by kernel_rfl
@[go_sem] theorem Try.ty.el75 : elemOfSlice Try.prog 75 = none := by kernel_rfl
@[go_sem] theorem Try.ty.ar75 : arrayOf Try.prog 75 = some (3, 74) := by kernel_rfl
@[go_sem] theorem Try.ty.st75 : isStr Try.prog 75 = false := by kernel_rfl
@[go_sem] theorem Try.ty.bo75 : isBool Try.prog 75 = false := by kernel_rfl
@[go_sem] theorem Try.ty.ki75 : kindOf Try.prog 75 = none := by kernel_rfl
@[go_sem] theorem Try.ty.if75 : isIface Try.prog 75 = some false := by kernel_rfl
@[go_sem] theorem Try.ty.bk75 : buildOk Try.prog 75 = true := by kernel_rfl
@[go_sem] theorem Try.ty.fp0_75 : fieldPl Try.prog 75 0 = some (0, 2) := by kernel_rfl
@[go_sem] theorem Try.ty.fp1_75 : fieldPl Try.prog 75 1 = some (2, 2) := by kernel_rfl
@[go_sem] theorem Try.ty.fp2_75 : fieldPl Try.prog 75 2 = some (4, 2) := by kernel_rfl
@[go_sem] theorem Try.ty.un75 : Try.prog.underlying 75 = some (.array 3 74) := by kernel_rfl
@[go_sem] theorem Try.ty.sz78 : szOf Try.prog 78 = some 4 := by kernel_rfl
@[go_sem] theorem Try.ty.by78 : bytesIn Try.prog 78 = some 40 := by kernel_rfl
@[go_sem] theorem Try.ty.ag78 : aggOf Try.prog 78 = some true := by kernel_rfl
@[go_sem] theorem Try.ty.zr78 : zeroOf Try.prog 78 = some [.val (.pointer none), .val (.pointer none), .val (.pointer none), .val (.string ByteArray.empty)] := by kernel_rfl
@[go_sem] theorem Try.ty.el78 : elemOfSlice Try.prog 78 = none := by kernel_rfl
@[go_sem] theorem Try.ty.ar78 : arrayOf Try.prog 78 = none := by kernel_rfl
@[go_sem] theorem Try.ty.st78 : isStr Try.prog 78 = false := by kernel_rfl
@[go_sem] theorem Try.ty.bo78 : isBool Try.prog 78 = false := by kernel_rfl
@[go_sem] theorem Try.ty.ki78 : kindOf Try.prog 78 = none := by kernel_rfl
@[go_sem] theorem Try.ty.if78 : isIface Try.prog 78 = some false := by kernel_rfl
@[go_sem] theorem Try.ty.fo0_78 : fieldOf Try.prog 78 0 = some (17, 0) := by kernel_rfl
@[go_sem] theorem Try.ty.fp0_78 : fieldPl Try.prog 78 0 = some (0, 1) := by kernel_rfl
@[go_sem] theorem Try.ty.fo1_78 : fieldOf Try.prog 78 1 = some (17, 1) := by kernel_rfl
@[go_sem] theorem Try.ty.fp1_78 : fieldPl Try.prog 78 1 = some (1, 1) := by kernel_rfl
@[go_sem] theorem Try.ty.fo2_78 : fieldOf Try.prog 78 2 = some (17, 2) := by kernel_rfl
@[go_sem] theorem Try.ty.fp2_78 : fieldPl Try.prog 78 2 = some (2, 1) := by kernel_rfl
@[go_sem] theorem Try.ty.fo3_78 : fieldOf Try.prog 78 3 = some (9, 3) := by kernel_rfl
@[go_sem] theorem Try.ty.fp3_78 : fieldPl Try.prog 78 3 = some (3, 1) := by kernel_rfl
@[go_sem] theorem Try.ty.bk78 : buildOk Try.prog 78 = true := by kernel_rfl
@[go_sem] theorem Try.ty.sz80 : szOf Try.prog 80 = some 0 := by kernel_rfl
@[go_sem] theorem Try.ty.by80 : bytesIn Try.prog 80 = some 0 := by kernel_rfl
@[go_sem] theorem Try.ty.ag80 : aggOf Try.prog 80 = some true := by kernel_rfl
@[go_sem] theorem Try.ty.zr80 : zeroOf Try.prog 80 = some [] := by kernel_rfl
@[go_sem] theorem Try.ty.el80 : elemOfSlice Try.prog 80 = none := by kernel_rfl
@[go_sem] theorem Try.ty.ar80 : arrayOf Try.prog 80 = some (0, 16) := by kernel_rfl
@[go_sem] theorem Try.ty.st80 : isStr Try.prog 80 = false := by kernel_rfl
@[go_sem] theorem Try.ty.bo80 : isBool Try.prog 80 = false := by kernel_rfl
@[go_sem] theorem Try.ty.ki80 : kindOf Try.prog 80 = none := by kernel_rfl
@[go_sem] theorem Try.ty.if80 : isIface Try.prog 80 = some false := by kernel_rfl
@[go_sem] theorem Try.ty.bk80 : buildOk Try.prog 80 = true := by kernel_rfl
@[go_sem] theorem Try.ty.un80 : Try.prog.underlying 80 = some (.array 0 16) := by kernel_rfl
@[go_sem] theorem Try.ty.sz81 : szOf Try.prog 81 = some 0 := by kernel_rfl
@[go_sem] theorem Try.ty.by81 : bytesIn Try.prog 81 = some 0 := by kernel_rfl
@[go_sem] theorem Try.ty.ag81 : aggOf Try.prog 81 = some true := by kernel_rfl
@[go_sem] theorem Try.ty.zr81 : zeroOf Try.prog 81 = some [] := by kernel_rfl
@[go_sem] theorem Try.ty.el81 : elemOfSlice Try.prog 81 = none := by kernel_rfl
@[go_sem] theorem Try.ty.ar81 : arrayOf Try.prog 81 = none := by kernel_rfl
@[go_sem] theorem Try.ty.st81 : isStr Try.prog 81 = false := by kernel_rfl
@[go_sem] theorem Try.ty.bo81 : isBool Try.prog 81 = false := by kernel_rfl
@[go_sem] theorem Try.ty.ki81 : kindOf Try.prog 81 = none := by kernel_rfl
@[go_sem] theorem Try.ty.if81 : isIface Try.prog 81 = some false := by kernel_rfl
@[go_sem] theorem Try.ty.fo0_81 : fieldOf Try.prog 81 0 = some (80, 0) := by kernel_rfl
@[go_sem] theorem Try.ty.fp0_81 : fieldPl Try.prog 81 0 = some (0, 0) := by kernel_rfl
@[go_sem] theorem Try.ty.bk81 : buildOk Try.prog 81 = true := by kernel_rfl
@[go_sem] theorem Try.ty.sz84 : szOf Try.prog 84 = some 1 := by kernel_rfl
@[go_sem] theorem Try.ty.by84 : bytesIn Try.prog 84 = some 4 := by kernel_rfl
@[go_sem] theorem Try.ty.ag84 : aggOf Try.prog 84 = some false := by kernel_rfl
@[go_sem] theorem Try.ty.zr84 : zeroOf Try.prog 84 = some [.val (.int .u32 0)] := by kernel_rfl
@[go_sem] theorem Try.ty.el84 : elemOfSlice Try.prog 84 = none := by kernel_rfl
@[go_sem] theorem Try.ty.ar84 : arrayOf Try.prog 84 = none := by kernel_rfl
@[go_sem] theorem Try.ty.st84 : isStr Try.prog 84 = false := by kernel_rfl
@[go_sem] theorem Try.ty.bo84 : isBool Try.prog 84 = false := by kernel_rfl
@[go_sem] theorem Try.ty.ki84 : kindOf Try.prog 84 = some .u32 := by kernel_rfl
@[go_sem] theorem Try.ty.if84 : isIface Try.prog 84 = some false := by kernel_rfl
@[go_sem] theorem Try.ty.un84 : Try.prog.underlying 84 = some (.int .u32) := by kernel_rfl
@[go_sem] theorem Try.ty.sz88 : szOf Try.prog 88 = some 1 := by kernel_rfl
@[go_sem] theorem Try.ty.by88 : bytesIn Try.prog 88 = some 8 := by kernel_rfl
@[go_sem] theorem Try.ty.ag88 : aggOf Try.prog 88 = some false := by kernel_rfl
@[go_sem] theorem Try.ty.zr88 : zeroOf Try.prog 88 = some [.val (.pointer none)] := by kernel_rfl
@[go_sem] theorem Try.ty.el88 : elemOfSlice Try.prog 88 = none := by kernel_rfl
@[go_sem] theorem Try.ty.ar88 : arrayOf Try.prog 88 = none := by kernel_rfl
@[go_sem] theorem Try.ty.st88 : isStr Try.prog 88 = false := by kernel_rfl
@[go_sem] theorem Try.ty.bo88 : isBool Try.prog 88 = false := by kernel_rfl
@[go_sem] theorem Try.ty.ki88 : kindOf Try.prog 88 = none := by kernel_rfl
@[go_sem] theorem Try.ty.if88 : isIface Try.prog 88 = some false := by kernel_rfl
@[go_sem] theorem Try.ty.un88 : Try.prog.underlying 88 = some (.pointer 5) := by kernel_rfl
end Go.Sh
