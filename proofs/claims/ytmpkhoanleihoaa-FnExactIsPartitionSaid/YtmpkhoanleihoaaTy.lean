/-
  What the shadow asks of this program's types, each a closed fact.
-/
import Derived.Test.YtmpkhoanleihoaaShK
import Derived.Test.YtmpkhoanleihoaaChecked
import Derived.KernelRfl
namespace Go.Sh
set_option linter.unusedSimpArgs false
set_option linter.unusedVariables false
open Go Go.Proofs
theorem Try.mixed : Try.prog.follows .mixedOrders = true := by kernel_rfl
@[go_sem] theorem Try.ty.sz2 : szOf Try.prog 2 = some 1 := by kernel_rfl
@[go_sem] theorem Try.ty.by2 : bytesIn Try.prog 2 = some 8 := by kernel_rfl
@[go_sem] theorem Try.ty.ag2 : aggOf Try.prog 2 = some false := by kernel_rfl
@[go_sem] theorem Try.ty.zr2 : zeroOf Try.prog 2 = some [.val (.int .i64 0)] := by kernel_rfl
@[go_sem] theorem Try.ty.el2 : elemOfSlice Try.prog 2 = none := by kernel_rfl
@[go_sem] theorem Try.ty.ar2 : arrayOf Try.prog 2 = none := by kernel_rfl
@[go_sem] theorem Try.ty.st2 : isStr Try.prog 2 = false := by kernel_rfl
@[go_sem] theorem Try.ty.bo2 : isBool Try.prog 2 = false := by kernel_rfl
@[go_sem] theorem Try.ty.ki2 : kindOf Try.prog 2 = some .i64 := by kernel_rfl
@[go_sem] theorem Try.ty.if2 : isIface Try.prog 2 = some false := by kernel_rfl
@[go_sem] theorem Try.ty.un2 : Try.prog.underlying 2 = some (.int .i64) := by kernel_rfl
@[go_sem] theorem Try.ty.sz3 : szOf Try.prog 3 = some 1 := by kernel_rfl
@[go_sem] theorem Try.ty.by3 : bytesIn Try.prog 3 = some 8 := by kernel_rfl
@[go_sem] theorem Try.ty.ag3 : aggOf Try.prog 3 = some false := by kernel_rfl
@[go_sem] theorem Try.ty.zr3 : zeroOf Try.prog 3 = some [.val (.int .i64 0)] := by kernel_rfl
@[go_sem] theorem Try.ty.el3 : elemOfSlice Try.prog 3 = none := by kernel_rfl
@[go_sem] theorem Try.ty.ar3 : arrayOf Try.prog 3 = none := by kernel_rfl
@[go_sem] theorem Try.ty.st3 : isStr Try.prog 3 = false := by kernel_rfl
@[go_sem] theorem Try.ty.bo3 : isBool Try.prog 3 = false := by kernel_rfl
@[go_sem] theorem Try.ty.ki3 : kindOf Try.prog 3 = some .i64 := by kernel_rfl
@[go_sem] theorem Try.ty.if3 : isIface Try.prog 3 = some false := by kernel_rfl
@[go_sem] theorem Try.ty.un3 : Try.prog.underlying 3 = some (.int .i64) := by kernel_rfl
@[go_sem] theorem Try.ty.sz4 : szOf Try.prog 4 = some 1 := by kernel_rfl
@[go_sem] theorem Try.ty.by4 : bytesIn Try.prog 4 = some 1 := by kernel_rfl
@[go_sem] theorem Try.ty.ag4 : aggOf Try.prog 4 = some false := by kernel_rfl
@[go_sem] theorem Try.ty.zr4 : zeroOf Try.prog 4 = some [.val (.bool false)] := by kernel_rfl
@[go_sem] theorem Try.ty.el4 : elemOfSlice Try.prog 4 = none := by kernel_rfl
@[go_sem] theorem Try.ty.ar4 : arrayOf Try.prog 4 = none := by kernel_rfl
@[go_sem] theorem Try.ty.st4 : isStr Try.prog 4 = false := by kernel_rfl
@[go_sem] theorem Try.ty.bo4 : isBool Try.prog 4 = true := by kernel_rfl
@[go_sem] theorem Try.ty.ki4 : kindOf Try.prog 4 = none := by kernel_rfl
@[go_sem] theorem Try.ty.if4 : isIface Try.prog 4 = some false := by kernel_rfl
@[go_sem] theorem Try.ty.un4 : Try.prog.underlying 4 = some (.bool) := by kernel_rfl
@[go_sem] theorem Try.ty.sz5 : szOf Try.prog 5 = some 1 := by kernel_rfl
@[go_sem] theorem Try.ty.by5 : bytesIn Try.prog 5 = some 1 := by kernel_rfl
@[go_sem] theorem Try.ty.ag5 : aggOf Try.prog 5 = some false := by kernel_rfl
@[go_sem] theorem Try.ty.zr5 : zeroOf Try.prog 5 = some [.val (.int .u8 0)] := by kernel_rfl
@[go_sem] theorem Try.ty.el5 : elemOfSlice Try.prog 5 = none := by kernel_rfl
@[go_sem] theorem Try.ty.ar5 : arrayOf Try.prog 5 = none := by kernel_rfl
@[go_sem] theorem Try.ty.st5 : isStr Try.prog 5 = false := by kernel_rfl
@[go_sem] theorem Try.ty.bo5 : isBool Try.prog 5 = false := by kernel_rfl
@[go_sem] theorem Try.ty.ki5 : kindOf Try.prog 5 = some .u8 := by kernel_rfl
@[go_sem] theorem Try.ty.if5 : isIface Try.prog 5 = some false := by kernel_rfl
@[go_sem] theorem Try.ty.un5 : Try.prog.underlying 5 = some (.int .u8) := by kernel_rfl
@[go_sem] theorem Try.ty.sz7 : szOf Try.prog 7 = some 4 := by kernel_rfl
@[go_sem] theorem Try.ty.by7 : bytesIn Try.prog 7 = some 24 := by kernel_rfl
@[go_sem] theorem Try.ty.ag7 : aggOf Try.prog 7 = some true := by kernel_rfl
@[go_sem] theorem Try.ty.zr7 : zeroOf Try.prog 7 = some [.val (.int .i64 0), .val (.int .i64 0), .val (.bool false), .val (.int .u8 0)] := by kernel_rfl
@[go_sem] theorem Try.ty.el7 : elemOfSlice Try.prog 7 = none := by kernel_rfl
@[go_sem] theorem Try.ty.ar7 : arrayOf Try.prog 7 = none := by kernel_rfl
@[go_sem] theorem Try.ty.st7 : isStr Try.prog 7 = false := by kernel_rfl
@[go_sem] theorem Try.ty.bo7 : isBool Try.prog 7 = false := by kernel_rfl
@[go_sem] theorem Try.ty.ki7 : kindOf Try.prog 7 = none := by kernel_rfl
@[go_sem] theorem Try.ty.if7 : isIface Try.prog 7 = some false := by kernel_rfl
@[go_sem] theorem Try.ty.fo0_7 : fieldOf Try.prog 7 0 = some (2, 0) := by kernel_rfl
@[go_sem] theorem Try.ty.fp0_7 : fieldPl Try.prog 7 0 = some (0, 1) := by kernel_rfl
@[go_sem] theorem Try.ty.fo1_7 : fieldOf Try.prog 7 1 = some (3, 1) := by kernel_rfl
@[go_sem] theorem Try.ty.fp1_7 : fieldPl Try.prog 7 1 = some (1, 1) := by kernel_rfl
@[go_sem] theorem Try.ty.fo2_7 : fieldOf Try.prog 7 2 = some (4, 2) := by kernel_rfl
@[go_sem] theorem Try.ty.fp2_7 : fieldPl Try.prog 7 2 = some (2, 1) := by kernel_rfl
@[go_sem] theorem Try.ty.fo3_7 : fieldOf Try.prog 7 3 = some (6, 3) := by kernel_rfl
@[go_sem] theorem Try.ty.fp3_7 : fieldPl Try.prog 7 3 = some (3, 1) := by kernel_rfl
@[go_sem] theorem Try.ty.bk7 : buildOk Try.prog 7 = true := by kernel_rfl
@[go_sem] theorem Try.ty.sz9 : szOf Try.prog 9 = some 1 := by kernel_rfl
@[go_sem] theorem Try.ty.by9 : bytesIn Try.prog 9 = some 16 := by kernel_rfl
@[go_sem] theorem Try.ty.ag9 : aggOf Try.prog 9 = some false := by kernel_rfl
@[go_sem] theorem Try.ty.zr9 : zeroOf Try.prog 9 = some [.val (.string ByteArray.empty)] := by kernel_rfl
@[go_sem] theorem Try.ty.el9 : elemOfSlice Try.prog 9 = none := by kernel_rfl
@[go_sem] theorem Try.ty.ar9 : arrayOf Try.prog 9 = none := by kernel_rfl
@[go_sem] theorem Try.ty.st9 : isStr Try.prog 9 = true := by kernel_rfl
@[go_sem] theorem Try.ty.bo9 : isBool Try.prog 9 = false := by kernel_rfl
@[go_sem] theorem Try.ty.ki9 : kindOf Try.prog 9 = none := by kernel_rfl
@[go_sem] theorem Try.ty.if9 : isIface Try.prog 9 = some false := by kernel_rfl
@[go_sem] theorem Try.ty.un9 : Try.prog.underlying 9 = some (.string) := by kernel_rfl
@[go_sem] theorem Try.ty.sz12 : szOf Try.prog 12 = some 1 := by kernel_rfl
@[go_sem] theorem Try.ty.by12 : bytesIn Try.prog 12 = some 8 := by kernel_rfl
@[go_sem] theorem Try.ty.ag12 : aggOf Try.prog 12 = some false := by kernel_rfl
@[go_sem] theorem Try.ty.zr12 : zeroOf Try.prog 12 = some [.val (.int .u64 0)] := by kernel_rfl
@[go_sem] theorem Try.ty.el12 : elemOfSlice Try.prog 12 = none := by kernel_rfl
@[go_sem] theorem Try.ty.ar12 : arrayOf Try.prog 12 = none := by kernel_rfl
@[go_sem] theorem Try.ty.st12 : isStr Try.prog 12 = false := by kernel_rfl
@[go_sem] theorem Try.ty.bo12 : isBool Try.prog 12 = false := by kernel_rfl
@[go_sem] theorem Try.ty.ki12 : kindOf Try.prog 12 = some .u64 := by kernel_rfl
@[go_sem] theorem Try.ty.if12 : isIface Try.prog 12 = some false := by kernel_rfl
@[go_sem] theorem Try.ty.un12 : Try.prog.underlying 12 = some (.int .u64) := by kernel_rfl
@[go_sem] theorem Try.ty.sz13 : szOf Try.prog 13 = some 2 := by kernel_rfl
@[go_sem] theorem Try.ty.by13 : bytesIn Try.prog 13 = some 24 := by kernel_rfl
@[go_sem] theorem Try.ty.ag13 : aggOf Try.prog 13 = some true := by kernel_rfl
@[go_sem] theorem Try.ty.zr13 : zeroOf Try.prog 13 = some [.val (.string ByteArray.empty), .val (.int .u64 0)] := by kernel_rfl
@[go_sem] theorem Try.ty.el13 : elemOfSlice Try.prog 13 = none := by kernel_rfl
@[go_sem] theorem Try.ty.ar13 : arrayOf Try.prog 13 = none := by kernel_rfl
@[go_sem] theorem Try.ty.st13 : isStr Try.prog 13 = false := by kernel_rfl
@[go_sem] theorem Try.ty.bo13 : isBool Try.prog 13 = false := by kernel_rfl
@[go_sem] theorem Try.ty.ki13 : kindOf Try.prog 13 = none := by kernel_rfl
@[go_sem] theorem Try.ty.if13 : isIface Try.prog 13 = some false := by kernel_rfl
@[go_sem] theorem Try.ty.fo0_13 : fieldOf Try.prog 13 0 = some (9, 0) := by kernel_rfl
@[go_sem] theorem Try.ty.fp0_13 : fieldPl Try.prog 13 0 = some (0, 1) := by kernel_rfl
@[go_sem] theorem Try.ty.fo1_13 : fieldOf Try.prog 13 1 = some (12, 1) := by kernel_rfl
@[go_sem] theorem Try.ty.fp1_13 : fieldPl Try.prog 13 1 = some (1, 1) := by kernel_rfl
@[go_sem] theorem Try.ty.bk13 : buildOk Try.prog 13 = true := by kernel_rfl
@[go_sem] theorem Try.ty.sz15 : szOf Try.prog 15 = some 1 := by kernel_rfl
@[go_sem] theorem Try.ty.by15 : bytesIn Try.prog 15 = some 8 := by kernel_rfl
@[go_sem] theorem Try.ty.ag15 : aggOf Try.prog 15 = some false := by kernel_rfl
@[go_sem] theorem Try.ty.zr15 : zeroOf Try.prog 15 = some [.val (.pointer none)] := by kernel_rfl
@[go_sem] theorem Try.ty.el15 : elemOfSlice Try.prog 15 = none := by kernel_rfl
@[go_sem] theorem Try.ty.ar15 : arrayOf Try.prog 15 = none := by kernel_rfl
@[go_sem] theorem Try.ty.st15 : isStr Try.prog 15 = false := by kernel_rfl
@[go_sem] theorem Try.ty.bo15 : isBool Try.prog 15 = false := by kernel_rfl
@[go_sem] theorem Try.ty.ki15 : kindOf Try.prog 15 = none := by kernel_rfl
@[go_sem] theorem Try.ty.if15 : isIface Try.prog 15 = some false := by kernel_rfl
@[go_sem] theorem Try.ty.un15 : Try.prog.underlying 15 = some (.pointer 111) := by kernel_rfl
@[go_sem] theorem Try.ty.sz16 : szOf Try.prog 16 = some 1 := by kernel_rfl
@[go_sem] theorem Try.ty.by16 : bytesIn Try.prog 16 = some 8 := by kernel_rfl
@[go_sem] theorem Try.ty.ag16 : aggOf Try.prog 16 = some false := by kernel_rfl
@[go_sem] theorem Try.ty.zr16 : zeroOf Try.prog 16 = some [.val (.pointer none)] := by kernel_rfl
@[go_sem] theorem Try.ty.el16 : elemOfSlice Try.prog 16 = none := by kernel_rfl
@[go_sem] theorem Try.ty.ar16 : arrayOf Try.prog 16 = none := by kernel_rfl
@[go_sem] theorem Try.ty.st16 : isStr Try.prog 16 = false := by kernel_rfl
@[go_sem] theorem Try.ty.bo16 : isBool Try.prog 16 = false := by kernel_rfl
@[go_sem] theorem Try.ty.ki16 : kindOf Try.prog 16 = none := by kernel_rfl
@[go_sem] theorem Try.ty.if16 : isIface Try.prog 16 = some false := by kernel_rfl
@[go_sem] theorem Try.ty.un16 : Try.prog.underlying 16 = some (.pointer 114) := by kernel_rfl
@[go_sem] theorem Try.ty.sz17 : szOf Try.prog 17 = some 1 := by kernel_rfl
@[go_sem] theorem Try.ty.by17 : bytesIn Try.prog 17 = some 8 := by kernel_rfl
@[go_sem] theorem Try.ty.ag17 : aggOf Try.prog 17 = some false := by kernel_rfl
@[go_sem] theorem Try.ty.zr17 : zeroOf Try.prog 17 = some [.val (.pointer none)] := by kernel_rfl
@[go_sem] theorem Try.ty.el17 : elemOfSlice Try.prog 17 = none := by kernel_rfl
@[go_sem] theorem Try.ty.ar17 : arrayOf Try.prog 17 = none := by kernel_rfl
@[go_sem] theorem Try.ty.st17 : isStr Try.prog 17 = false := by kernel_rfl
@[go_sem] theorem Try.ty.bo17 : isBool Try.prog 17 = false := by kernel_rfl
@[go_sem] theorem Try.ty.ki17 : kindOf Try.prog 17 = none := by kernel_rfl
@[go_sem] theorem Try.ty.if17 : isIface Try.prog 17 = some false := by kernel_rfl
@[go_sem] theorem Try.ty.un17 : Try.prog.underlying 17 = some (.pointer 124) := by kernel_rfl
@[go_sem] theorem Try.ty.sz18 : szOf Try.prog 18 = some 1 := by kernel_rfl
@[go_sem] theorem Try.ty.by18 : bytesIn Try.prog 18 = some 8 := by kernel_rfl
@[go_sem] theorem Try.ty.ag18 : aggOf Try.prog 18 = some true := by kernel_rfl
@[go_sem] theorem Try.ty.zr18 : zeroOf Try.prog 18 = some [.val (.pointer none)] := by kernel_rfl
@[go_sem] theorem Try.ty.el18 : elemOfSlice Try.prog 18 = none := by kernel_rfl
@[go_sem] theorem Try.ty.ar18 : arrayOf Try.prog 18 = none := by kernel_rfl
@[go_sem] theorem Try.ty.st18 : isStr Try.prog 18 = false := by kernel_rfl
@[go_sem] theorem Try.ty.bo18 : isBool Try.prog 18 = false := by kernel_rfl
@[go_sem] theorem Try.ty.ki18 : kindOf Try.prog 18 = none := by kernel_rfl
@[go_sem] theorem Try.ty.if18 : isIface Try.prog 18 = some false := by kernel_rfl
@[go_sem] theorem Try.ty.fo0_18 : fieldOf Try.prog 18 0 = some (17, 0) := by kernel_rfl
@[go_sem] theorem Try.ty.fp0_18 : fieldPl Try.prog 18 0 = some (0, 1) := by kernel_rfl
@[go_sem] theorem Try.ty.bk18 : buildOk Try.prog 18 = true := by kernel_rfl
@[go_sem] theorem Try.ty.sz21 : szOf Try.prog 21 = some 1 := by kernel_rfl
@[go_sem] theorem Try.ty.by21 : bytesIn Try.prog 21 = some 4 := by kernel_rfl
@[go_sem] theorem Try.ty.ag21 : aggOf Try.prog 21 = some false := by kernel_rfl
@[go_sem] theorem Try.ty.zr21 : zeroOf Try.prog 21 = some [.val (.int .i32 0)] := by kernel_rfl
@[go_sem] theorem Try.ty.el21 : elemOfSlice Try.prog 21 = none := by kernel_rfl
@[go_sem] theorem Try.ty.ar21 : arrayOf Try.prog 21 = none := by kernel_rfl
@[go_sem] theorem Try.ty.st21 : isStr Try.prog 21 = false := by kernel_rfl
@[go_sem] theorem Try.ty.bo21 : isBool Try.prog 21 = false := by kernel_rfl
@[go_sem] theorem Try.ty.ki21 : kindOf Try.prog 21 = some .i32 := by kernel_rfl
@[go_sem] theorem Try.ty.if21 : isIface Try.prog 21 = some false := by kernel_rfl
@[go_sem] theorem Try.ty.un21 : Try.prog.underlying 21 = some (.int .i32) := by kernel_rfl
@[go_sem] theorem Try.ty.sz22 : szOf Try.prog 22 = some 1 := by kernel_rfl
@[go_sem] theorem Try.ty.by22 : bytesIn Try.prog 22 = some 24 := by kernel_rfl
@[go_sem] theorem Try.ty.ag22 : aggOf Try.prog 22 = some false := by kernel_rfl
@[go_sem] theorem Try.ty.zr22 : zeroOf Try.prog 22 = some [.val (.slice none 0 0)] := by kernel_rfl
@[go_sem] theorem Try.ty.el22 : elemOfSlice Try.prog 22 = some 3 := by kernel_rfl
@[go_sem] theorem Try.ty.ar22 : arrayOf Try.prog 22 = none := by kernel_rfl
@[go_sem] theorem Try.ty.st22 : isStr Try.prog 22 = false := by kernel_rfl
@[go_sem] theorem Try.ty.bo22 : isBool Try.prog 22 = false := by kernel_rfl
@[go_sem] theorem Try.ty.ki22 : kindOf Try.prog 22 = none := by kernel_rfl
@[go_sem] theorem Try.ty.if22 : isIface Try.prog 22 = some false := by kernel_rfl
@[go_sem] theorem Try.ty.un22 : Try.prog.underlying 22 = some (.slice 3) := by kernel_rfl
@[go_sem] theorem Try.ty.sz28 : szOf Try.prog 28 = some 1 := by kernel_rfl
@[go_sem] theorem Try.ty.by28 : bytesIn Try.prog 28 = some 24 := by kernel_rfl
@[go_sem] theorem Try.ty.ag28 : aggOf Try.prog 28 = some false := by kernel_rfl
@[go_sem] theorem Try.ty.zr28 : zeroOf Try.prog 28 = some [.val (.slice none 0 0)] := by kernel_rfl
@[go_sem] theorem Try.ty.el28 : elemOfSlice Try.prog 28 = some 71 := by kernel_rfl
@[go_sem] theorem Try.ty.ar28 : arrayOf Try.prog 28 = none := by kernel_rfl
@[go_sem] theorem Try.ty.st28 : isStr Try.prog 28 = false := by kernel_rfl
@[go_sem] theorem Try.ty.bo28 : isBool Try.prog 28 = false := by kernel_rfl
@[go_sem] theorem Try.ty.ki28 : kindOf Try.prog 28 = none := by kernel_rfl
@[go_sem] theorem Try.ty.if28 : isIface Try.prog 28 = some false := by kernel_rfl
@[go_sem] theorem Try.ty.un28 : Try.prog.underlying 28 = some (.slice 71) := by kernel_rfl
@[go_sem] theorem Try.ty.sz31 : szOf Try.prog 31 = some 1 := by kernel_rfl
@[go_sem] theorem Try.ty.by31 : bytesIn Try.prog 31 = some 24 := by kernel_rfl
@[go_sem] theorem Try.ty.ag31 : aggOf Try.prog 31 = some false := by kernel_rfl
@[go_sem] theorem Try.ty.zr31 : zeroOf Try.prog 31 = some [.val (.slice none 0 0)] := by kernel_rfl
@[go_sem] theorem Try.ty.el31 : elemOfSlice Try.prog 31 = some 69 := by kernel_rfl
@[go_sem] theorem Try.ty.ar31 : arrayOf Try.prog 31 = none := by kernel_rfl
@[go_sem] theorem Try.ty.st31 : isStr Try.prog 31 = false := by kernel_rfl
@[go_sem] theorem Try.ty.bo31 : isBool Try.prog 31 = false := by kernel_rfl
@[go_sem] theorem Try.ty.ki31 : kindOf Try.prog 31 = none := by kernel_rfl
@[go_sem] theorem Try.ty.if31 : isIface Try.prog 31 = some false := by kernel_rfl
@[go_sem] theorem Try.ty.un31 : Try.prog.underlying 31 = some (.slice 69) := by kernel_rfl
@[go_sem] theorem Try.ty.sz35 : szOf Try.prog 35 = some 4 := by kernel_rfl
@[go_sem] theorem Try.ty.by35 : bytesIn Try.prog 35 = some 48 := by kernel_rfl
@[go_sem] theorem Try.ty.ag35 : aggOf Try.prog 35 = some true := by kernel_rfl
@[go_sem] theorem Try.ty.zr35 : zeroOf Try.prog 35 = some [.val (.slice none 0 0), .val (.int .i64 0), .val (.bool false), .val (.int .i64 0)] := by kernel_rfl
@[go_sem] theorem Try.ty.el35 : elemOfSlice Try.prog 35 = none := by kernel_rfl
@[go_sem] theorem Try.ty.ar35 : arrayOf Try.prog 35 = none := by kernel_rfl
@[go_sem] theorem Try.ty.st35 : isStr Try.prog 35 = false := by kernel_rfl
@[go_sem] theorem Try.ty.bo35 : isBool Try.prog 35 = false := by kernel_rfl
@[go_sem] theorem Try.ty.ki35 : kindOf Try.prog 35 = none := by kernel_rfl
@[go_sem] theorem Try.ty.if35 : isIface Try.prog 35 = some false := by kernel_rfl
@[go_sem] theorem Try.ty.fo0_35 : fieldOf Try.prog 35 0 = some (22, 0) := by kernel_rfl
@[go_sem] theorem Try.ty.fp0_35 : fieldPl Try.prog 35 0 = some (0, 1) := by kernel_rfl
@[go_sem] theorem Try.ty.fo1_35 : fieldOf Try.prog 35 1 = some (3, 1) := by kernel_rfl
@[go_sem] theorem Try.ty.fp1_35 : fieldPl Try.prog 35 1 = some (1, 1) := by kernel_rfl
@[go_sem] theorem Try.ty.fo2_35 : fieldOf Try.prog 35 2 = some (4, 2) := by kernel_rfl
@[go_sem] theorem Try.ty.fp2_35 : fieldPl Try.prog 35 2 = some (2, 1) := by kernel_rfl
@[go_sem] theorem Try.ty.fo3_35 : fieldOf Try.prog 35 3 = some (3, 3) := by kernel_rfl
@[go_sem] theorem Try.ty.fp3_35 : fieldPl Try.prog 35 3 = some (3, 1) := by kernel_rfl
@[go_sem] theorem Try.ty.bk35 : buildOk Try.prog 35 = true := by kernel_rfl
@[go_sem] theorem Try.ty.sz36 : szOf Try.prog 36 = some 4 := by kernel_rfl
@[go_sem] theorem Try.ty.by36 : bytesIn Try.prog 36 = some 48 := by kernel_rfl
@[go_sem] theorem Try.ty.ag36 : aggOf Try.prog 36 = some true := by kernel_rfl
@[go_sem] theorem Try.ty.zr36 : zeroOf Try.prog 36 = some [.val (.slice none 0 0), .val (.int .i64 0), .val (.bool false), .val (.int .i64 0)] := by kernel_rfl
@[go_sem] theorem Try.ty.el36 : elemOfSlice Try.prog 36 = none := by kernel_rfl
@[go_sem] theorem Try.ty.ar36 : arrayOf Try.prog 36 = none := by kernel_rfl
@[go_sem] theorem Try.ty.st36 : isStr Try.prog 36 = false := by kernel_rfl
@[go_sem] theorem Try.ty.bo36 : isBool Try.prog 36 = false := by kernel_rfl
@[go_sem] theorem Try.ty.ki36 : kindOf Try.prog 36 = none := by kernel_rfl
@[go_sem] theorem Try.ty.if36 : isIface Try.prog 36 = some false := by kernel_rfl
@[go_sem] theorem Try.ty.fo0_36 : fieldOf Try.prog 36 0 = some (22, 0) := by kernel_rfl
@[go_sem] theorem Try.ty.fp0_36 : fieldPl Try.prog 36 0 = some (0, 1) := by kernel_rfl
@[go_sem] theorem Try.ty.fo1_36 : fieldOf Try.prog 36 1 = some (3, 1) := by kernel_rfl
@[go_sem] theorem Try.ty.fp1_36 : fieldPl Try.prog 36 1 = some (1, 1) := by kernel_rfl
@[go_sem] theorem Try.ty.fo2_36 : fieldOf Try.prog 36 2 = some (4, 2) := by kernel_rfl
@[go_sem] theorem Try.ty.fp2_36 : fieldPl Try.prog 36 2 = some (2, 1) := by kernel_rfl
@[go_sem] theorem Try.ty.fo3_36 : fieldOf Try.prog 36 3 = some (3, 3) := by kernel_rfl
@[go_sem] theorem Try.ty.fp3_36 : fieldPl Try.prog 36 3 = some (3, 1) := by kernel_rfl
@[go_sem] theorem Try.ty.bk36 : buildOk Try.prog 36 = true := by kernel_rfl
@[go_sem] theorem Try.ty.sz39 : szOf Try.prog 39 = some 4 := by kernel_rfl
@[go_sem] theorem Try.ty.by39 : bytesIn Try.prog 39 = some 48 := by kernel_rfl
@[go_sem] theorem Try.ty.ag39 : aggOf Try.prog 39 = some true := by kernel_rfl
@[go_sem] theorem Try.ty.zr39 : zeroOf Try.prog 39 = some [.val (.slice none 0 0), .val (.int .i64 0), .val (.bool false), .val (.int .i64 0)] := by kernel_rfl
@[go_sem] theorem Try.ty.el39 : elemOfSlice Try.prog 39 = none := by kernel_rfl
@[go_sem] theorem Try.ty.ar39 : arrayOf Try.prog 39 = none := by kernel_rfl
@[go_sem] theorem Try.ty.st39 : isStr Try.prog 39 = false := by kernel_rfl
@[go_sem] theorem Try.ty.bo39 : isBool Try.prog 39 = false := by kernel_rfl
@[go_sem] theorem Try.ty.ki39 : kindOf Try.prog 39 = none := by kernel_rfl
@[go_sem] theorem Try.ty.if39 : isIface Try.prog 39 = some false := by kernel_rfl
@[go_sem] theorem Try.ty.fo0_39 : fieldOf Try.prog 39 0 = some (22, 0) := by kernel_rfl
@[go_sem] theorem Try.ty.fp0_39 : fieldPl Try.prog 39 0 = some (0, 1) := by kernel_rfl
@[go_sem] theorem Try.ty.fo1_39 : fieldOf Try.prog 39 1 = some (3, 1) := by kernel_rfl
@[go_sem] theorem Try.ty.fp1_39 : fieldPl Try.prog 39 1 = some (1, 1) := by kernel_rfl
@[go_sem] theorem Try.ty.fo2_39 : fieldOf Try.prog 39 2 = some (4, 2) := by kernel_rfl
@[go_sem] theorem Try.ty.fp2_39 : fieldPl Try.prog 39 2 = some (2, 1) := by kernel_rfl
@[go_sem] theorem Try.ty.fo3_39 : fieldOf Try.prog 39 3 = some (3, 3) := by kernel_rfl
@[go_sem] theorem Try.ty.fp3_39 : fieldPl Try.prog 39 3 = some (3, 1) := by kernel_rfl
@[go_sem] theorem Try.ty.bk39 : buildOk Try.prog 39 = true := by kernel_rfl
@[go_sem] theorem Try.ty.sz42 : szOf Try.prog 42 = some 1 := by kernel_rfl
@[go_sem] theorem Try.ty.by42 : bytesIn Try.prog 42 = some 24 := by kernel_rfl
@[go_sem] theorem Try.ty.ag42 : aggOf Try.prog 42 = some false := by kernel_rfl
@[go_sem] theorem Try.ty.zr42 : zeroOf Try.prog 42 = some [.val (.slice none 0 0)] := by kernel_rfl
@[go_sem] theorem Try.ty.el42 : elemOfSlice Try.prog 42 = some 22 := by kernel_rfl
@[go_sem] theorem Try.ty.ar42 : arrayOf Try.prog 42 = none := by kernel_rfl
@[go_sem] theorem Try.ty.st42 : isStr Try.prog 42 = false := by kernel_rfl
@[go_sem] theorem Try.ty.bo42 : isBool Try.prog 42 = false := by kernel_rfl
@[go_sem] theorem Try.ty.ki42 : kindOf Try.prog 42 = none := by kernel_rfl
@[go_sem] theorem Try.ty.if42 : isIface Try.prog 42 = some false := by kernel_rfl
@[go_sem] theorem Try.ty.un42 : Try.prog.underlying 42 = some (.slice 22) := by kernel_rfl
@[go_sem] theorem Try.ty.sz47 : szOf Try.prog 47 = some 1 := by kernel_rfl
@[go_sem] theorem Try.ty.by47 : bytesIn Try.prog 47 = some 24 := by kernel_rfl
@[go_sem] theorem Try.ty.ag47 : aggOf Try.prog 47 = some false := by kernel_rfl
@[go_sem] theorem Try.ty.zr47 : zeroOf Try.prog 47 = some [.val (.slice none 0 0)] := by kernel_rfl
@[go_sem] theorem Try.ty.el47 : elemOfSlice Try.prog 47 = some 5 := by kernel_rfl
@[go_sem] theorem Try.ty.ar47 : arrayOf Try.prog 47 = none := by kernel_rfl
@[go_sem] theorem Try.ty.st47 : isStr Try.prog 47 = false := by kernel_rfl
@[go_sem] theorem Try.ty.bo47 : isBool Try.prog 47 = false := by kernel_rfl
@[go_sem] theorem Try.ty.ki47 : kindOf Try.prog 47 = none := by kernel_rfl
@[go_sem] theorem Try.ty.if47 : isIface Try.prog 47 = some false := by kernel_rfl
@[go_sem] theorem Try.ty.un47 : Try.prog.underlying 47 = some (.slice 5) := by kernel_rfl
@[go_sem] theorem Try.ty.sz49 : szOf Try.prog 49 = some 1 := by kernel_rfl
@[go_sem] theorem Try.ty.by49 : bytesIn Try.prog 49 = some 24 := by kernel_rfl
@[go_sem] theorem Try.ty.ag49 : aggOf Try.prog 49 = some false := by kernel_rfl
@[go_sem] theorem Try.ty.zr49 : zeroOf Try.prog 49 = some [.val (.slice none 0 0)] := by kernel_rfl
@[go_sem] theorem Try.ty.el49 : elemOfSlice Try.prog 49 = some 58 := by kernel_rfl
@[go_sem] theorem Try.ty.ar49 : arrayOf Try.prog 49 = none := by kernel_rfl
@[go_sem] theorem Try.ty.st49 : isStr Try.prog 49 = false := by kernel_rfl
@[go_sem] theorem Try.ty.bo49 : isBool Try.prog 49 = false := by kernel_rfl
@[go_sem] theorem Try.ty.ki49 : kindOf Try.prog 49 = none := by kernel_rfl
@[go_sem] theorem Try.ty.if49 : isIface Try.prog 49 = some false := by kernel_rfl
@[go_sem] theorem Try.ty.un49 : Try.prog.underlying 49 = some (.slice 58) := by kernel_rfl
@[go_sem] theorem Try.ty.sz57 : szOf Try.prog 57 = some 4 := by kernel_rfl
@[go_sem] theorem Try.ty.by57 : bytesIn Try.prog 57 = some 32 := by kernel_rfl
@[go_sem] theorem Try.ty.ag57 : aggOf Try.prog 57 = some true := by kernel_rfl
@[go_sem] theorem Try.ty.zr57 : zeroOf Try.prog 57 = some [.val (.int .i64 0), .val (.int .i64 0), .val (.int .i64 0), .val (.int .i64 0)] := by kernel_rfl
@[go_sem] theorem Try.ty.el57 : elemOfSlice Try.prog 57 = none := by kernel_rfl
@[go_sem] theorem Try.ty.ar57 : arrayOf Try.prog 57 = none := by kernel_rfl
@[go_sem] theorem Try.ty.st57 : isStr Try.prog 57 = false := by kernel_rfl
@[go_sem] theorem Try.ty.bo57 : isBool Try.prog 57 = false := by kernel_rfl
@[go_sem] theorem Try.ty.ki57 : kindOf Try.prog 57 = none := by kernel_rfl
@[go_sem] theorem Try.ty.if57 : isIface Try.prog 57 = some false := by kernel_rfl
@[go_sem] theorem Try.ty.fo0_57 : fieldOf Try.prog 57 0 = some (3, 0) := by kernel_rfl
@[go_sem] theorem Try.ty.fp0_57 : fieldPl Try.prog 57 0 = some (0, 1) := by kernel_rfl
@[go_sem] theorem Try.ty.fo1_57 : fieldOf Try.prog 57 1 = some (3, 1) := by kernel_rfl
@[go_sem] theorem Try.ty.fp1_57 : fieldPl Try.prog 57 1 = some (1, 1) := by kernel_rfl
@[go_sem] theorem Try.ty.fo2_57 : fieldOf Try.prog 57 2 = some (3, 2) := by kernel_rfl
@[go_sem] theorem Try.ty.fp2_57 : fieldPl Try.prog 57 2 = some (2, 1) := by kernel_rfl
@[go_sem] theorem Try.ty.fo3_57 : fieldOf Try.prog 57 3 = some (3, 3) := by kernel_rfl
@[go_sem] theorem Try.ty.fp3_57 : fieldPl Try.prog 57 3 = some (3, 1) := by kernel_rfl
@[go_sem] theorem Try.ty.bk57 : buildOk Try.prog 57 = true := by kernel_rfl
@[go_sem] theorem Try.ty.sz58 : szOf Try.prog 58 = some 4 := by kernel_rfl
@[go_sem] theorem Try.ty.by58 : bytesIn Try.prog 58 = some 32 := by kernel_rfl
@[go_sem] theorem Try.ty.ag58 : aggOf Try.prog 58 = some true := by kernel_rfl
@[go_sem] theorem Try.ty.zr58 : zeroOf Try.prog 58 = some [.val (.int .i64 0), .val (.int .i64 0), .val (.int .i64 0), .val (.int .i64 0)] := by kernel_rfl
@[go_sem] theorem Try.ty.el58 : elemOfSlice Try.prog 58 = none := by kernel_rfl
@[go_sem] theorem Try.ty.ar58 : arrayOf Try.prog 58 = none := by kernel_rfl
@[go_sem] theorem Try.ty.st58 : isStr Try.prog 58 = false := by kernel_rfl
@[go_sem] theorem Try.ty.bo58 : isBool Try.prog 58 = false := by kernel_rfl
@[go_sem] theorem Try.ty.ki58 : kindOf Try.prog 58 = none := by kernel_rfl
@[go_sem] theorem Try.ty.if58 : isIface Try.prog 58 = some false := by kernel_rfl
@[go_sem] theorem Try.ty.fo0_58 : fieldOf Try.prog 58 0 = some (3, 0) := by kernel_rfl
@[go_sem] theorem Try.ty.fp0_58 : fieldPl Try.prog 58 0 = some (0, 1) := by kernel_rfl
@[go_sem] theorem Try.ty.fo1_58 : fieldOf Try.prog 58 1 = some (3, 1) := by kernel_rfl
@[go_sem] theorem Try.ty.fp1_58 : fieldPl Try.prog 58 1 = some (1, 1) := by kernel_rfl
@[go_sem] theorem Try.ty.fo2_58 : fieldOf Try.prog 58 2 = some (3, 2) := by kernel_rfl
@[go_sem] theorem Try.ty.fp2_58 : fieldPl Try.prog 58 2 = some (2, 1) := by kernel_rfl
@[go_sem] theorem Try.ty.fo3_58 : fieldOf Try.prog 58 3 = some (3, 3) := by kernel_rfl
@[go_sem] theorem Try.ty.fp3_58 : fieldPl Try.prog 58 3 = some (3, 1) := by kernel_rfl
@[go_sem] theorem Try.ty.bk58 : buildOk Try.prog 58 = true := by kernel_rfl
@[go_sem] theorem Try.ty.sz68 : szOf Try.prog 68 = some 3 := by kernel_rfl
@[go_sem] theorem Try.ty.by68 : bytesIn Try.prog 68 = some 24 := by kernel_rfl
@[go_sem] theorem Try.ty.ag68 : aggOf Try.prog 68 = some true := by kernel_rfl
@[go_sem] theorem Try.ty.zr68 : zeroOf Try.prog 68 = some [.val (.int .i64 0), .val (.int .i64 0), .val (.bool false)] := by kernel_rfl
@[go_sem] theorem Try.ty.el68 : elemOfSlice Try.prog 68 = none := by kernel_rfl
@[go_sem] theorem Try.ty.ar68 : arrayOf Try.prog 68 = none := by kernel_rfl
@[go_sem] theorem Try.ty.st68 : isStr Try.prog 68 = false := by kernel_rfl
@[go_sem] theorem Try.ty.bo68 : isBool Try.prog 68 = false := by kernel_rfl
@[go_sem] theorem Try.ty.ki68 : kindOf Try.prog 68 = none := by kernel_rfl
@[go_sem] theorem Try.ty.if68 : isIface Try.prog 68 = some false := by kernel_rfl
@[go_sem] theorem Try.ty.fo0_68 : fieldOf Try.prog 68 0 = some (3, 0) := by kernel_rfl
@[go_sem] theorem Try.ty.fp0_68 : fieldPl Try.prog 68 0 = some (0, 1) := by kernel_rfl
@[go_sem] theorem Try.ty.fo1_68 : fieldOf Try.prog 68 1 = some (3, 1) := by kernel_rfl
@[go_sem] theorem Try.ty.fp1_68 : fieldPl Try.prog 68 1 = some (1, 1) := by kernel_rfl
@[go_sem] theorem Try.ty.fo2_68 : fieldOf Try.prog 68 2 = some (4, 2) := by kernel_rfl
@[go_sem] theorem Try.ty.fp2_68 : fieldPl Try.prog 68 2 = some (2, 1) := by kernel_rfl
@[go_sem] theorem Try.ty.bk68 : buildOk Try.prog 68 = true := by kernel_rfl
@[go_sem] theorem Try.ty.sz69 : szOf Try.prog 69 = some 3 := by kernel_rfl
@[go_sem] theorem Try.ty.by69 : bytesIn Try.prog 69 = some 24 := by kernel_rfl
@[go_sem] theorem Try.ty.ag69 : aggOf Try.prog 69 = some true := by kernel_rfl
@[go_sem] theorem Try.ty.zr69 : zeroOf Try.prog 69 = some [.val (.int .i64 0), .val (.int .i64 0), .val (.bool false)] := by kernel_rfl
@[go_sem] theorem Try.ty.el69 : elemOfSlice Try.prog 69 = none := by kernel_rfl
@[go_sem] theorem Try.ty.ar69 : arrayOf Try.prog 69 = none := by kernel_rfl
@[go_sem] theorem Try.ty.st69 : isStr Try.prog 69 = false := by kernel_rfl
@[go_sem] theorem Try.ty.bo69 : isBool Try.prog 69 = false := by kernel_rfl
@[go_sem] theorem Try.ty.ki69 : kindOf Try.prog 69 = none := by kernel_rfl
@[go_sem] theorem Try.ty.if69 : isIface Try.prog 69 = some false := by kernel_rfl
@[go_sem] theorem Try.ty.fo0_69 : fieldOf Try.prog 69 0 = some (3, 0) := by kernel_rfl
@[go_sem] theorem Try.ty.fp0_69 : fieldPl Try.prog 69 0 = some (0, 1) := by kernel_rfl
@[go_sem] theorem Try.ty.fo1_69 : fieldOf Try.prog 69 1 = some (3, 1) := by kernel_rfl
@[go_sem] theorem Try.ty.fp1_69 : fieldPl Try.prog 69 1 = some (1, 1) := by kernel_rfl
@[go_sem] theorem Try.ty.fo2_69 : fieldOf Try.prog 69 2 = some (4, 2) := by kernel_rfl
@[go_sem] theorem Try.ty.fp2_69 : fieldPl Try.prog 69 2 = some (2, 1) := by kernel_rfl
@[go_sem] theorem Try.ty.bk69 : buildOk Try.prog 69 = true := by kernel_rfl
@[go_sem] theorem Try.ty.sz71 : szOf Try.prog 71 = some 3 := by kernel_rfl
@[go_sem] theorem Try.ty.by71 : bytesIn Try.prog 71 = some 24 := by kernel_rfl
@[go_sem] theorem Try.ty.ag71 : aggOf Try.prog 71 = some true := by kernel_rfl
@[go_sem] theorem Try.ty.zr71 : zeroOf Try.prog 71 = some [.val (.int .i64 0), .val (.int .i64 0), .val (.bool false)] := by kernel_rfl
@[go_sem] theorem Try.ty.el71 : elemOfSlice Try.prog 71 = none := by kernel_rfl
@[go_sem] theorem Try.ty.ar71 : arrayOf Try.prog 71 = none := by kernel_rfl
@[go_sem] theorem Try.ty.st71 : isStr Try.prog 71 = false := by kernel_rfl
@[go_sem] theorem Try.ty.bo71 : isBool Try.prog 71 = false := by kernel_rfl
@[go_sem] theorem Try.ty.ki71 : kindOf Try.prog 71 = none := by kernel_rfl
@[go_sem] theorem Try.ty.if71 : isIface Try.prog 71 = some false := by kernel_rfl
@[go_sem] theorem Try.ty.fo0_71 : fieldOf Try.prog 71 0 = some (3, 0) := by kernel_rfl
@[go_sem] theorem Try.ty.fp0_71 : fieldPl Try.prog 71 0 = some (0, 1) := by kernel_rfl
@[go_sem] theorem Try.ty.fo1_71 : fieldOf Try.prog 71 1 = some (3, 1) := by kernel_rfl
@[go_sem] theorem Try.ty.fp1_71 : fieldPl Try.prog 71 1 = some (1, 1) := by kernel_rfl
@[go_sem] theorem Try.ty.fo2_71 : fieldOf Try.prog 71 2 = some (4, 2) := by kernel_rfl
@[go_sem] theorem Try.ty.fp2_71 : fieldPl Try.prog 71 2 = some (2, 1) := by kernel_rfl
@[go_sem] theorem Try.ty.bk71 : buildOk Try.prog 71 = true := by kernel_rfl
@[go_sem] theorem Try.ty.sz75 : szOf Try.prog 75 = some 1 := by kernel_rfl
@[go_sem] theorem Try.ty.by75 : bytesIn Try.prog 75 = some 8 := by kernel_rfl
@[go_sem] theorem Try.ty.ag75 : aggOf Try.prog 75 = some false := by kernel_rfl
@[go_sem] theorem Try.ty.zr75 : zeroOf Try.prog 75 = some [.val (.pointer none)] := by kernel_rfl
@[go_sem] theorem Try.ty.el75 : elemOfSlice Try.prog 75 = none := by kernel_rfl
@[go_sem] theorem Try.ty.ar75 : arrayOf Try.prog 75 = none := by kernel_rfl
@[go_sem] theorem Try.ty.st75 : isStr Try.prog 75 = false := by kernel_rfl
@[go_sem] theorem Try.ty.bo75 : isBool Try.prog 75 = false := by kernel_rfl
@[go_sem] theorem Try.ty.ki75 : kindOf Try.prog 75 = none := by kernel_rfl
@[go_sem] theorem Try.ty.if75 : isIface Try.prog 75 = some false := by kernel_rfl
@[go_sem] theorem Try.ty.un75 : Try.prog.underlying 75 = some (.pointer 93) := by kernel_rfl
@[go_sem] theorem Try.ty.sz82 : szOf Try.prog 82 = some 2 := by kernel_rfl
@[go_sem] theorem Try.ty.by82 : bytesIn Try.prog 82 = some 16 := by kernel_rfl
@[go_sem] theorem Try.ty.ag82 : aggOf Try.prog 82 = some true := by kernel_rfl
@[go_sem] theorem Try.ty.zr82 : zeroOf Try.prog 82 = some [.val (.int .i64 0), .val (.int .i64 0)] := by kernel_rfl
@[go_sem] theorem Try.ty.el82 : elemOfSlice Try.prog 82 = none := by kernel_rfl
@[go_sem] theorem Try.ty.ar82 : arrayOf Try.prog 82 = some (2, 3) := by kernel_rfl
@[go_sem] theorem Try.ty.st82 : isStr Try.prog 82 = false := by kernel_rfl
@[go_sem] theorem Try.ty.bo82 : isBool Try.prog 82 = false := by kernel_rfl
@[go_sem] theorem Try.ty.ki82 : kindOf Try.prog 82 = none := by kernel_rfl
@[go_sem] theorem Try.ty.if82 : isIface Try.prog 82 = some false := by kernel_rfl
@[go_sem] theorem Try.ty.bk82 : buildOk Try.prog 82 = true := by kernel_rfl
@[go_sem] theorem Try.ty.un82 : Try.prog.underlying 82 = some (.array 2 3) := by kernel_rfl
@[go_sem] theorem Try.ty.sz83 : szOf Try.prog 83 = some 6 := by kernel_rfl
@[go_sem] theorem Try.ty.by83 : bytesIn Try.prog 83 = some 48 := by kernel_rfl
@[go_sem] theorem Try.ty.ag83 : aggOf Try.prog 83 = some true := by kernel_rfl
@[go_sem] theorem Try.ty.zr83 : zeroOf Try.prog 83 = some [.val (.int .i64 0), .val (.int .i64 0), .val (.int .i64 0), .val (.int .i64 0), .val (.int .i64 0), .val (.int .i64 0)] := by kernel_rfl
@[go_sem] theorem Try.ty.el83 : elemOfSlice Try.prog 83 = none := by kernel_rfl
@[go_sem] theorem Try.ty.ar83 : arrayOf Try.prog 83 = some (3, 82) := by kernel_rfl
@[go_sem] theorem Try.ty.st83 : isStr Try.prog 83 = false := by kernel_rfl
@[go_sem] theorem Try.ty.bo83 : isBool Try.prog 83 = false := by kernel_rfl
@[go_sem] theorem Try.ty.ki83 : kindOf Try.prog 83 = none := by kernel_rfl
@[go_sem] theorem Try.ty.if83 : isIface Try.prog 83 = some false := by kernel_rfl
@[go_sem] theorem Try.ty.bk83 : buildOk Try.prog 83 = true := by kernel_rfl
@[go_sem] theorem Try.ty.un83 : Try.prog.underlying 83 = some (.array 3 82) := by kernel_rfl
@[go_sem] theorem Try.ty.sz87 : szOf Try.prog 87 = some 5 := by kernel_rfl
@[go_sem] theorem Try.ty.by87 : bytesIn Try.prog 87 = some 88 := by kernel_rfl
@[go_sem] theorem Try.ty.ag87 : aggOf Try.prog 87 = some true := by kernel_rfl
@[go_sem] theorem Try.ty.zr87 : zeroOf Try.prog 87 = some [.val (.slice none 0 0), .val (.slice none 0 0), .val (.slice none 0 0), .val (.int .i64 0), .val (.int .i64 0)] := by kernel_rfl
@[go_sem] theorem Try.ty.el87 : elemOfSlice Try.prog 87 = none := by kernel_rfl
@[go_sem] theorem Try.ty.ar87 : arrayOf Try.prog 87 = none := by kernel_rfl
@[go_sem] theorem Try.ty.st87 : isStr Try.prog 87 = false := by kernel_rfl
@[go_sem] theorem Try.ty.bo87 : isBool Try.prog 87 = false := by kernel_rfl
@[go_sem] theorem Try.ty.ki87 : kindOf Try.prog 87 = none := by kernel_rfl
@[go_sem] theorem Try.ty.if87 : isIface Try.prog 87 = some false := by kernel_rfl
@[go_sem] theorem Try.ty.fo0_87 : fieldOf Try.prog 87 0 = some (42, 0) := by kernel_rfl
@[go_sem] theorem Try.ty.fp0_87 : fieldPl Try.prog 87 0 = some (0, 1) := by kernel_rfl
@[go_sem] theorem Try.ty.fo1_87 : fieldOf Try.prog 87 1 = some (31, 1) := by kernel_rfl
@[go_sem] theorem Try.ty.fp1_87 : fieldPl Try.prog 87 1 = some (1, 1) := by kernel_rfl
@[go_sem] theorem Try.ty.fo2_87 : fieldOf Try.prog 87 2 = some (22, 2) := by kernel_rfl
@[go_sem] theorem Try.ty.fp2_87 : fieldPl Try.prog 87 2 = some (2, 1) := by kernel_rfl
@[go_sem] theorem Try.ty.fo3_87 : fieldOf Try.prog 87 3 = some (3, 3) := by kernel_rfl
@[go_sem] theorem Try.ty.fp3_87 : fieldPl Try.prog 87 3 = some (3, 1) := by kernel_rfl
@[go_sem] theorem Try.ty.fo4_87 : fieldOf Try.prog 87 4 = some (3, 4) := by kernel_rfl
@[go_sem] theorem Try.ty.fp4_87 : fieldPl Try.prog 87 4 = some (4, 1) := by kernel_rfl
@[go_sem] theorem Try.ty.bk87 : buildOk Try.prog 87 = true := by kernel_rfl
@[go_sem] theorem Try.ty.sz88 : szOf Try.prog 88 = some 5 := by kernel_rfl
@[go_sem] theorem Try.ty.by88 : bytesIn Try.prog 88 = some 88 := by kernel_rfl
@[go_sem] theorem Try.ty.ag88 : aggOf Try.prog 88 = some true := by kernel_rfl
@[go_sem] theorem Try.ty.zr88 : zeroOf Try.prog 88 = some [.val (.slice none 0 0), .val (.slice none 0 0), .val (.slice none 0 0), .val (.int .i64 0), .val (.int .i64 0)] := by kernel_rfl
@[go_sem] theorem Try.ty.el88 : elemOfSlice Try.prog 88 = none := by kernel_rfl
@[go_sem] theorem Try.ty.ar88 : arrayOf Try.prog 88 = none := by kernel_rfl
@[go_sem] theorem Try.ty.st88 : isStr Try.prog 88 = false := by kernel_rfl
@[go_sem] theorem Try.ty.bo88 : isBool Try.prog 88 = false := by kernel_rfl
@[go_sem] theorem Try.ty.ki88 : kindOf Try.prog 88 = none := by kernel_rfl
@[go_sem] theorem Try.ty.if88 : isIface Try.prog 88 = some false := by kernel_rfl
@[go_sem] theorem Try.ty.fo0_88 : fieldOf Try.prog 88 0 = some (42, 0) := by kernel_rfl
@[go_sem] theorem Try.ty.fp0_88 : fieldPl Try.prog 88 0 = some (0, 1) := by kernel_rfl
@[go_sem] theorem Try.ty.fo1_88 : fieldOf Try.prog 88 1 = some (31, 1) := by kernel_rfl
@[go_sem] theorem Try.ty.fp1_88 : fieldPl Try.prog 88 1 = some (1, 1) := by kernel_rfl
@[go_sem] theorem Try.ty.fo2_88 : fieldOf Try.prog 88 2 = some (22, 2) := by kernel_rfl
@[go_sem] theorem Try.ty.fp2_88 : fieldPl Try.prog 88 2 = some (2, 1) := by kernel_rfl
@[go_sem] theorem Try.ty.fo3_88 : fieldOf Try.prog 88 3 = some (3, 3) := by kernel_rfl
@[go_sem] theorem Try.ty.fp3_88 : fieldPl Try.prog 88 3 = some (3, 1) := by kernel_rfl
@[go_sem] theorem Try.ty.fo4_88 : fieldOf Try.prog 88 4 = some (3, 4) := by kernel_rfl
@[go_sem] theorem Try.ty.fp4_88 : fieldPl Try.prog 88 4 = some (4, 1) := by kernel_rfl
@[go_sem] theorem Try.ty.bk88 : buildOk Try.prog 88 = true := by kernel_rfl
@[go_sem] theorem Try.ty.sz92 : szOf Try.prog 92 = some 3 := by kernel_rfl
@[go_sem] theorem Try.ty.by92 : bytesIn Try.prog 92 = some 40 := by kernel_rfl
@[go_sem] theorem Try.ty.ag92 : aggOf Try.prog 92 = some true := by kernel_rfl
@[go_sem] theorem Try.ty.zr92 : zeroOf Try.prog 92 = some [.val (.slice none 0 0), .val (.int .i64 0), .val (.int .i64 0)] := by kernel_rfl
@[go_sem] theorem Try.ty.el92 : elemOfSlice Try.prog 92 = none := by kernel_rfl
@[go_sem] theorem Try.ty.ar92 : arrayOf Try.prog 92 = none := by kernel_rfl
@[go_sem] theorem Try.ty.st92 : isStr Try.prog 92 = false := by kernel_rfl
@[go_sem] theorem Try.ty.bo92 : isBool Try.prog 92 = false := by kernel_rfl
@[go_sem] theorem Try.ty.ki92 : kindOf Try.prog 92 = none := by kernel_rfl
@[go_sem] theorem Try.ty.if92 : isIface Try.prog 92 = some false := by kernel_rfl
@[go_sem] theorem Try.ty.fo0_92 : fieldOf Try.prog 92 0 = some (47, 0) := by kernel_rfl
@[go_sem] theorem Try.ty.fp0_92 : fieldPl Try.prog 92 0 = some (0, 1) := by kernel_rfl
@[go_sem] theorem Try.ty.fo1_92 : fieldOf Try.prog 92 1 = some (3, 1) := by kernel_rfl
@[go_sem] theorem Try.ty.fp1_92 : fieldPl Try.prog 92 1 = some (1, 1) := by kernel_rfl
@[go_sem] theorem Try.ty.fo2_92 : fieldOf Try.prog 92 2 = some (3, 2) := by kernel_rfl
@[go_sem] theorem Try.ty.fp2_92 : fieldPl Try.prog 92 2 = some (2, 1) := by kernel_rfl
@[go_sem] theorem Try.ty.bk92 : buildOk Try.prog 92 = true := by kernel_rfl
@[go_sem] theorem Try.ty.sz93 : szOf Try.prog 93 = some 3 := by kernel_rfl
@[go_sem] theorem Try.ty.by93 : bytesIn Try.prog 93 = some 40 := by kernel_rfl
@[go_sem] theorem Try.ty.ag93 : aggOf Try.prog 93 = some true := by kernel_rfl
@[go_sem] theorem Try.ty.zr93 : zeroOf Try.prog 93 = some [.val (.slice none 0 0), .val (.int .i64 0), .val (.int .i64 0)] := by kernel_rfl
@[go_sem] theorem Try.ty.el93 : elemOfSlice Try.prog 93 = none := by kernel_rfl
@[go_sem] theorem Try.ty.ar93 : arrayOf Try.prog 93 = none := by kernel_rfl
@[go_sem] theorem Try.ty.st93 : isStr Try.prog 93 = false := by kernel_rfl
@[go_sem] theorem Try.ty.bo93 : isBool Try.prog 93 = false := by kernel_rfl
@[go_sem] theorem Try.ty.ki93 : kindOf Try.prog 93 = none := by kernel_rfl
@[go_sem] theorem Try.ty.if93 : isIface Try.prog 93 = some false := by kernel_rfl
@[go_sem] theorem Try.ty.fo0_93 : fieldOf Try.prog 93 0 = some (47, 0) := by kernel_rfl
@[go_sem] theorem Try.ty.fp0_93 : fieldPl Try.prog 93 0 = some (0, 1) := by kernel_rfl
@[go_sem] theorem Try.ty.fo1_93 : fieldOf Try.prog 93 1 = some (3, 1) := by kernel_rfl
@[go_sem] theorem Try.ty.fp1_93 : fieldPl Try.prog 93 1 = some (1, 1) := by kernel_rfl
@[go_sem] theorem Try.ty.fo2_93 : fieldOf Try.prog 93 2 = some (3, 2) := by kernel_rfl
@[go_sem] theorem Try.ty.fp2_93 : fieldPl Try.prog 93 2 = some (2, 1) := by kernel_rfl
@[go_sem] theorem Try.ty.bk93 : buildOk Try.prog 93 = true := by kernel_rfl
@[go_sem] theorem Try.ty.sz98 : szOf Try.prog 98 = some 1 := by kernel_rfl
@[go_sem] theorem Try.ty.by98 : bytesIn Try.prog 98 = some 8 := by kernel_rfl
@[go_sem] theorem Try.ty.ag98 : aggOf Try.prog 98 = some false := by kernel_rfl
@[go_sem] theorem Try.ty.zr98 : zeroOf Try.prog 98 = some [.val (.pointer none)] := by kernel_rfl
@[go_sem] theorem Try.ty.el98 : elemOfSlice Try.prog 98 = none := by kernel_rfl
@[go_sem] theorem Try.ty.ar98 : arrayOf Try.prog 98 = none := by kernel_rfl
@[go_sem] theorem Try.ty.st98 : isStr Try.prog 98 = false := by kernel_rfl
@[go_sem] theorem Try.ty.bo98 : isBool Try.prog 98 = false := by kernel_rfl
@[go_sem] theorem Try.ty.ki98 : kindOf Try.prog 98 = none := by kernel_rfl
@[go_sem] theorem Try.ty.if98 : isIface Try.prog 98 = some false := by kernel_rfl
@[go_sem] theorem Try.ty.un98 : Try.prog.underlying 98 = some (.pointer 88) := by kernel_rfl
@[go_sem] theorem Try.ty.sz103 : szOf Try.prog 103 = some 1 := by kernel_rfl
@[go_sem] theorem Try.ty.by103 : bytesIn Try.prog 103 = some 8 := by kernel_rfl
@[go_sem] theorem Try.ty.ag103 : aggOf Try.prog 103 = some false := by kernel_rfl
@[go_sem] theorem Try.ty.zr103 : zeroOf Try.prog 103 = some [.val (.int .u64 0)] := by kernel_rfl
@[go_sem] theorem Try.ty.el103 : elemOfSlice Try.prog 103 = none := by kernel_rfl
@[go_sem] theorem Try.ty.ar103 : arrayOf Try.prog 103 = none := by kernel_rfl
@[go_sem] theorem Try.ty.st103 : isStr Try.prog 103 = false := by kernel_rfl
@[go_sem] theorem Try.ty.bo103 : isBool Try.prog 103 = false := by kernel_rfl
@[go_sem] theorem Try.ty.ki103 : kindOf Try.prog 103 = some .u64 := by kernel_rfl
@[go_sem] theorem Try.ty.if103 : isIface Try.prog 103 = some false := by kernel_rfl
@[go_sem] theorem Try.ty.un103 : Try.prog.underlying 103 = some (.int .u64) := by kernel_rfl
@[go_sem] theorem Try.ty.sz105 : szOf Try.prog 105 = some 1 := by kernel_rfl
@[go_sem] theorem Try.ty.by105 : bytesIn Try.prog 105 = some 24 := by kernel_rfl
@[go_sem] theorem Try.ty.ag105 : aggOf Try.prog 105 = some false := by kernel_rfl
@[go_sem] theorem Try.ty.zr105 : zeroOf Try.prog 105 = some [.val (.slice none 0 0)] := by kernel_rfl
@[go_sem] theorem Try.ty.el105 : elemOfSlice Try.prog 105 = some 107 := by kernel_rfl
@[go_sem] theorem Try.ty.ar105 : arrayOf Try.prog 105 = none := by kernel_rfl
@[go_sem] theorem Try.ty.st105 : isStr Try.prog 105 = false := by kernel_rfl
@[go_sem] theorem Try.ty.bo105 : isBool Try.prog 105 = false := by kernel_rfl
@[go_sem] theorem Try.ty.ki105 : kindOf Try.prog 105 = none := by kernel_rfl
@[go_sem] theorem Try.ty.if105 : isIface Try.prog 105 = some false := by kernel_rfl
@[go_sem] theorem Try.ty.un105 : Try.prog.underlying 105 = some (.slice 107) := by kernel_rfl
@[go_sem] theorem Try.ty.sz107 : szOf Try.prog 107 = some 1 := by kernel_rfl
@[go_sem] theorem Try.ty.by107 : bytesIn Try.prog 107 = some 24 := by kernel_rfl
@[go_sem] theorem Try.ty.ag107 : aggOf Try.prog 107 = some false := by kernel_rfl
@[go_sem] theorem Try.ty.zr107 : zeroOf Try.prog 107 = some [.val (.slice none 0 0)] := by kernel_rfl
@[go_sem] theorem Try.ty.el107 : elemOfSlice Try.prog 107 = some 4 := by kernel_rfl
@[go_sem] theorem Try.ty.ar107 : arrayOf Try.prog 107 = none := by kernel_rfl
@[go_sem] theorem Try.ty.st107 : isStr Try.prog 107 = false := by kernel_rfl
@[go_sem] theorem Try.ty.bo107 : isBool Try.prog 107 = false := by kernel_rfl
@[go_sem] theorem Try.ty.ki107 : kindOf Try.prog 107 = none := by kernel_rfl
@[go_sem] theorem Try.ty.if107 : isIface Try.prog 107 = some false := by kernel_rfl
@[go_sem] theorem Try.ty.un107 : Try.prog.underlying 107 = some (.slice 4) := by kernel_rfl
@[go_sem] theorem Try.ty.sz110 : szOf Try.prog 110 = some 4 := by kernel_rfl
@[go_sem] theorem Try.ty.by110 : bytesIn Try.prog 110 = some 40 := by kernel_rfl
@[go_sem] theorem Try.ty.ag110 : aggOf Try.prog 110 = some true := by kernel_rfl
@[go_sem] theorem Try.ty.zr110 : zeroOf Try.prog 110 = some [.val (.pointer none), .val (.pointer none), .val (.pointer none), .val (.string ByteArray.empty)] := by kernel_rfl
@[go_sem] theorem Try.ty.el110 : elemOfSlice Try.prog 110 = none := by kernel_rfl
@[go_sem] theorem Try.ty.ar110 : arrayOf Try.prog 110 = none := by kernel_rfl
@[go_sem] theorem Try.ty.st110 : isStr Try.prog 110 = false := by kernel_rfl
@[go_sem] theorem Try.ty.bo110 : isBool Try.prog 110 = false := by kernel_rfl
@[go_sem] theorem Try.ty.ki110 : kindOf Try.prog 110 = none := by kernel_rfl
@[go_sem] theorem Try.ty.if110 : isIface Try.prog 110 = some false := by kernel_rfl
@[go_sem] theorem Try.ty.fo0_110 : fieldOf Try.prog 110 0 = some (17, 0) := by kernel_rfl
@[go_sem] theorem Try.ty.fp0_110 : fieldPl Try.prog 110 0 = some (0, 1) := by kernel_rfl
@[go_sem] theorem Try.ty.fo1_110 : fieldOf Try.prog 110 1 = some (17, 1) := by kernel_rfl
@[go_sem] theorem Try.ty.fp1_110 : fieldPl Try.prog 110 1 = some (1, 1) := by kernel_rfl
@[go_sem] theorem Try.ty.fo2_110 : fieldOf Try.prog 110 2 = some (17, 2) := by kernel_rfl
@[go_sem] theorem Try.ty.fp2_110 : fieldPl Try.prog 110 2 = some (2, 1) := by kernel_rfl
@[go_sem] theorem Try.ty.fo3_110 : fieldOf Try.prog 110 3 = some (9, 3) := by kernel_rfl
@[go_sem] theorem Try.ty.fp3_110 : fieldPl Try.prog 110 3 = some (3, 1) := by kernel_rfl
@[go_sem] theorem Try.ty.bk110 : buildOk Try.prog 110 = true := by kernel_rfl
@[go_sem] theorem Try.ty.sz112 : szOf Try.prog 112 = some 0 := by kernel_rfl
@[go_sem] theorem Try.ty.by112 : bytesIn Try.prog 112 = some 0 := by kernel_rfl
@[go_sem] theorem Try.ty.ag112 : aggOf Try.prog 112 = some true := by kernel_rfl
@[go_sem] theorem Try.ty.zr112 : zeroOf Try.prog 112 = some [] := by kernel_rfl
@[go_sem] theorem Try.ty.el112 : elemOfSlice Try.prog 112 = none := by kernel_rfl
@[go_sem] theorem Try.ty.ar112 : arrayOf Try.prog 112 = some (0, 16) := by kernel_rfl
@[go_sem] theorem Try.ty.st112 : isStr Try.prog 112 = false := by kernel_rfl
@[go_sem] theorem Try.ty.bo112 : isBool Try.prog 112 = false := by kernel_rfl
@[go_sem] theorem Try.ty.ki112 : kindOf Try.prog 112 = none := by kernel_rfl
@[go_sem] theorem Try.ty.if112 : isIface Try.prog 112 = some false := by kernel_rfl
@[go_sem] theorem Try.ty.bk112 : buildOk Try.prog 112 = true := by kernel_rfl
@[go_sem] theorem Try.ty.un112 : Try.prog.underlying 112 = some (.array 0 16) := by kernel_rfl
@[go_sem] theorem Try.ty.sz113 : szOf Try.prog 113 = some 0 := by kernel_rfl
@[go_sem] theorem Try.ty.by113 : bytesIn Try.prog 113 = some 0 := by kernel_rfl
@[go_sem] theorem Try.ty.ag113 : aggOf Try.prog 113 = some true := by kernel_rfl
@[go_sem] theorem Try.ty.zr113 : zeroOf Try.prog 113 = some [] := by kernel_rfl
@[go_sem] theorem Try.ty.el113 : elemOfSlice Try.prog 113 = none := by kernel_rfl
@[go_sem] theorem Try.ty.ar113 : arrayOf Try.prog 113 = none := by kernel_rfl
@[go_sem] theorem Try.ty.st113 : isStr Try.prog 113 = false := by kernel_rfl
@[go_sem] theorem Try.ty.bo113 : isBool Try.prog 113 = false := by kernel_rfl
@[go_sem] theorem Try.ty.ki113 : kindOf Try.prog 113 = none := by kernel_rfl
@[go_sem] theorem Try.ty.if113 : isIface Try.prog 113 = some false := by kernel_rfl
@[go_sem] theorem Try.ty.fo0_113 : fieldOf Try.prog 113 0 = some (112, 0) := by kernel_rfl
@[go_sem] theorem Try.ty.fp0_113 : fieldPl Try.prog 113 0 = some (0, 0) := by kernel_rfl
@[go_sem] theorem Try.ty.bk113 : buildOk Try.prog 113 = true := by kernel_rfl
@[go_sem] theorem Try.ty.sz116 : szOf Try.prog 116 = some 1 := by kernel_rfl
@[go_sem] theorem Try.ty.by116 : bytesIn Try.prog 116 = some 4 := by kernel_rfl
@[go_sem] theorem Try.ty.ag116 : aggOf Try.prog 116 = some false := by kernel_rfl
@[go_sem] theorem Try.ty.zr116 : zeroOf Try.prog 116 = some [.val (.int .u32 0)] := by kernel_rfl
@[go_sem] theorem Try.ty.el116 : elemOfSlice Try.prog 116 = none := by kernel_rfl
@[go_sem] theorem Try.ty.ar116 : arrayOf Try.prog 116 = none := by kernel_rfl
@[go_sem] theorem Try.ty.st116 : isStr Try.prog 116 = false := by kernel_rfl
@[go_sem] theorem Try.ty.bo116 : isBool Try.prog 116 = false := by kernel_rfl
@[go_sem] theorem Try.ty.ki116 : kindOf Try.prog 116 = some .u32 := by kernel_rfl
@[go_sem] theorem Try.ty.if116 : isIface Try.prog 116 = some false := by kernel_rfl
@[go_sem] theorem Try.ty.un116 : Try.prog.underlying 116 = some (.int .u32) := by kernel_rfl
@[go_sem] theorem Try.ty.sz120 : szOf Try.prog 120 = some 1 := by kernel_rfl
@[go_sem] theorem Try.ty.by120 : bytesIn Try.prog 120 = some 8 := by kernel_rfl
@[go_sem] theorem Try.ty.ag120 : aggOf Try.prog 120 = some false := by kernel_rfl
@[go_sem] theorem Try.ty.zr120 : zeroOf Try.prog 120 = some [.val (.pointer none)] := by kernel_rfl
@[go_sem] theorem Try.ty.el120 : elemOfSlice Try.prog 120 = none := by kernel_rfl
@[go_sem] theorem Try.ty.ar120 : arrayOf Try.prog 120 = none := by kernel_rfl
@[go_sem] theorem Try.ty.st120 : isStr Try.prog 120 = false := by kernel_rfl
@[go_sem] theorem Try.ty.bo120 : isBool Try.prog 120 = false := by kernel_rfl
@[go_sem] theorem Try.ty.ki120 : kindOf Try.prog 120 = none := by kernel_rfl
@[go_sem] theorem Try.ty.if120 : isIface Try.prog 120 = some false := by kernel_rfl
@[go_sem] theorem Try.ty.un120 : Try.prog.underlying 120 = some (.pointer 5) := by kernel_rfl
end Go.Sh
