/-
  What the shadow asks of this program's types, each a closed fact.
-/
import Derived.Test.YtlhkjegbhfbboaaShL
import Derived.Test.YtlhkjegbhfbboaaChecked
import Derived.KernelRfl
namespace Go.Sh
set_option linter.unusedSimpArgs false
set_option linter.unusedVariables false
open Go Go.Proofs
theorem Try.mixed : Try.prog.follows .mixedOrders = true := by kernel_rfl
@[go_sem] theorem Try.ty.sz2 : szOf Try.prog 2 = some 1 := by kernel_rfl
@[go_sem] theorem Try.ty.by2 : bytesIn Try.prog 2 = some 8 := by kernel_rfl
@[go_sem] theorem Try.ty.ag2 : aggOf Try.prog 2 = some false := by kernel_rfl
@[go_sem] theorem Try.ty.zr2 : zeroOf Try.prog 2 = some [.val (.int .i64 0)] := by kernel_rfl
@[go_sem] theorem Try.ty.el2 : elemOfSlice Try.prog 2 = none := by kernel_rfl
@[go_sem] theorem Try.ty.ar2 : arrayOf Try.prog 2 = none := by kernel_rfl
@[go_sem] theorem Try.ty.st2 : isStr Try.prog 2 = false := by kernel_rfl
@[go_sem] theorem Try.ty.bo2 : isBool Try.prog 2 = false := by kernel_rfl
@[go_sem] theorem Try.ty.ki2 : kindOf Try.prog 2 = some .i64 := by kernel_rfl
@[go_sem] theorem Try.ty.if2 : isIface Try.prog 2 = some false := by kernel_rfl
@[go_sem] theorem Try.ty.un2 : Try.prog.underlying 2 = some (.int .i64) := by kernel_rfl
@[go_sem] theorem Try.ty.sz3 : szOf Try.prog 3 = some 1 := by kernel_rfl
@[go_sem] theorem Try.ty.by3 : bytesIn Try.prog 3 = some 8 := by kernel_rfl
@[go_sem] theorem Try.ty.ag3 : aggOf Try.prog 3 = some false := by kernel_rfl
@[go_sem] theorem Try.ty.zr3 : zeroOf Try.prog 3 = some [.val (.int .i64 0)] := by kernel_rfl
@[go_sem] theorem Try.ty.el3 : elemOfSlice Try.prog 3 = none := by kernel_rfl
@[go_sem] theorem Try.ty.ar3 : arrayOf Try.prog 3 = none := by kernel_rfl
@[go_sem] theorem Try.ty.st3 : isStr Try.prog 3 = false := by kernel_rfl
@[go_sem] theorem Try.ty.bo3 : isBool Try.prog 3 = false := by kernel_rfl
@[go_sem] theorem Try.ty.ki3 : kindOf Try.prog 3 = some .i64 := by kernel_rfl
@[go_sem] theorem Try.ty.if3 : isIface Try.prog 3 = some false := by kernel_rfl
@[go_sem] theorem Try.ty.un3 : Try.prog.underlying 3 = some (.int .i64) := by kernel_rfl
@[go_sem] theorem Try.ty.sz4 : szOf Try.prog 4 = some 1 := by kernel_rfl
@[go_sem] theorem Try.ty.by4 : bytesIn Try.prog 4 = some 1 := by kernel_rfl
@[go_sem] theorem Try.ty.ag4 : aggOf Try.prog 4 = some false := by kernel_rfl
@[go_sem] theorem Try.ty.zr4 : zeroOf Try.prog 4 = some [.val (.bool false)] := by kernel_rfl
@[go_sem] theorem Try.ty.el4 : elemOfSlice Try.prog 4 = none := by kernel_rfl
@[go_sem] theorem Try.ty.ar4 : arrayOf Try.prog 4 = none := by kernel_rfl
@[go_sem] theorem Try.ty.st4 : isStr Try.prog 4 = false := by kernel_rfl
@[go_sem] theorem Try.ty.bo4 : isBool Try.prog 4 = true := by kernel_rfl
@[go_sem] theorem Try.ty.ki4 : kindOf Try.prog 4 = none := by kernel_rfl
@[go_sem] theorem Try.ty.if4 : isIface Try.prog 4 = some false := by kernel_rfl
@[go_sem] theorem Try.ty.un4 : Try.prog.underlying 4 = some (.bool) := by kernel_rfl
@[go_sem] theorem Try.ty.sz5 : szOf Try.prog 5 = some 1 := by kernel_rfl
@[go_sem] theorem Try.ty.by5 : bytesIn Try.prog 5 = some 1 := by kernel_rfl
@[go_sem] theorem Try.ty.ag5 : aggOf Try.prog 5 = some false := by kernel_rfl
@[go_sem] theorem Try.ty.zr5 : zeroOf Try.prog 5 = some [.val (.int .u8 0)] := by kernel_rfl
@[go_sem] theorem Try.ty.el5 : elemOfSlice Try.prog 5 = none := by kernel_rfl
@[go_sem] theorem Try.ty.ar5 : arrayOf Try.prog 5 = none := by kernel_rfl
@[go_sem] theorem Try.ty.st5 : isStr Try.prog 5 = false := by kernel_rfl
@[go_sem] theorem Try.ty.bo5 : isBool Try.prog 5 = false := by kernel_rfl
@[go_sem] theorem Try.ty.ki5 : kindOf Try.prog 5 = some .u8 := by kernel_rfl
@[go_sem] theorem Try.ty.if5 : isIface Try.prog 5 = some false := by kernel_rfl
@[go_sem] theorem Try.ty.un5 : Try.prog.underlying 5 = some (.int .u8) := by kernel_rfl
@[go_sem] theorem Try.ty.sz7 : szOf Try.prog 7 = some 4 := by kernel_rfl
@[go_sem] theorem Try.ty.by7 : bytesIn Try.prog 7 = some 24 := by kernel_rfl
@[go_sem] theorem Try.ty.ag7 : aggOf Try.prog 7 = some true := by kernel_rfl
@[go_sem] theorem Try.ty.zr7 : zeroOf Try.prog 7 = some [.val (.int .i64 0), .val (.int .i64 0), .val (.bool false), .val (.int .u8 0)] := by kernel_rfl
@[go_sem] theorem Try.ty.el7 : elemOfSlice Try.prog 7 = none := by kernel_rfl
@[go_sem] theorem Try.ty.ar7 : arrayOf Try.prog 7 = none := by kernel_rfl
@[go_sem] theorem Try.ty.st7 : isStr Try.prog 7 = false := by kernel_rfl
@[go_sem] theorem Try.ty.bo7 : isBool Try.prog 7 = false := by kernel_rfl
@[go_sem] theorem Try.ty.ki7 : kindOf Try.prog 7 = none := by kernel_rfl
@[go_sem] theorem Try.ty.if7 : isIface Try.prog 7 = some false := by kernel_rfl
@[go_sem] theorem Try.ty.fo0_7 : fieldOf Try.prog 7 0 = some (2, 0) := by kernel_rfl
@[go_sem] theorem Try.ty.fp0_7 : fieldPl Try.prog 7 0 = some (0, 1) := by kernel_rfl
@[go_sem] theorem Try.ty.fo1_7 : fieldOf Try.prog 7 1 = some (3, 1) := by kernel_rfl
@[go_sem] theorem Try.ty.fp1_7 : fieldPl Try.prog 7 1 = some (1, 1) := by kernel_rfl
@[go_sem] theorem Try.ty.fo2_7 : fieldOf Try.prog 7 2 = some (4, 2) := by kernel_rfl
@[go_sem] theorem Try.ty.fp2_7 : fieldPl Try.prog 7 2 = some (2, 1) := by kernel_rfl
@[go_sem] theorem Try.ty.fo3_7 : fieldOf Try.prog 7 3 = some (6, 3) := by kernel_rfl
@[go_sem] theorem Try.ty.fp3_7 : fieldPl Try.prog 7 3 = some (3, 1) := by kernel_rfl
@[go_sem] theorem Try.ty.bk7 : buildOk Try.prog 7 = true := by kernel_rfl
@[go_sem] theorem Try.ty.sz9 : szOf Try.prog 9 = some 1 := by kernel_rfl
@[go_sem] theorem Try.ty.by9 : bytesIn Try.prog 9 = some 16 := by kernel_rfl
@[go_sem] theorem Try.ty.ag9 : aggOf Try.prog 9 = some false := by kernel_rfl
@[go_sem] theorem Try.ty.zr9 : zeroOf Try.prog 9 = some [.val (.string ByteArray.empty)] := by kernel_rfl
@[go_sem] theorem Try.ty.el9 : elemOfSlice Try.prog 9 = none := by kernel_rfl
@[go_sem] theorem Try.ty.ar9 : arrayOf Try.prog 9 = none := by kernel_rfl
@[go_sem] theorem Try.ty.st9 : isStr Try.prog 9 = true := by kernel_rfl
@[go_sem] theorem Try.ty.bo9 : isBool Try.prog 9 = false := by kernel_rfl
@[go_sem] theorem Try.ty.ki9 : kindOf Try.prog 9 = none := by kernel_rfl
@[go_sem] theorem Try.ty.if9 : isIface Try.prog 9 = some false := by kernel_rfl
@[go_sem] theorem Try.ty.un9 : Try.prog.underlying 9 = some (.string) := by kernel_rfl
@[go_sem] theorem Try.ty.sz12 : szOf Try.prog 12 = some 1 := by kernel_rfl
@[go_sem] theorem Try.ty.by12 : bytesIn Try.prog 12 = some 8 := by kernel_rfl
@[go_sem] theorem Try.ty.ag12 : aggOf Try.prog 12 = some false := by kernel_rfl
@[go_sem] theorem Try.ty.zr12 : zeroOf Try.prog 12 = some [.val (.int .u64 0)] := by kernel_rfl
@[go_sem] theorem Try.ty.el12 : elemOfSlice Try.prog 12 = none := by kernel_rfl
@[go_sem] theorem Try.ty.ar12 : arrayOf Try.prog 12 = none := by kernel_rfl
@[go_sem] theorem Try.ty.st12 : isStr Try.prog 12 = false := by kernel_rfl
@[go_sem] theorem Try.ty.bo12 : isBool Try.prog 12 = false := by kernel_rfl
@[go_sem] theorem Try.ty.ki12 : kindOf Try.prog 12 = some .u64 := by kernel_rfl
@[go_sem] theorem Try.ty.if12 : isIface Try.prog 12 = some false := by kernel_rfl
@[go_sem] theorem Try.ty.un12 : Try.prog.underlying 12 = some (.int .u64) := by kernel_rfl
@[go_sem] theorem Try.ty.sz13 : szOf Try.prog 13 = some 2 := by kernel_rfl
@[go_sem] theorem Try.ty.by13 : bytesIn Try.prog 13 = some 24 := by kernel_rfl
@[go_sem] theorem Try.ty.ag13 : aggOf Try.prog 13 = some true := by kernel_rfl
@[go_sem] theorem Try.ty.zr13 : zeroOf Try.prog 13 = some [.val (.string ByteArray.empty), .val (.int .u64 0)] := by kernel_rfl
@[go_sem] theorem Try.ty.el13 : elemOfSlice Try.prog 13 = none := by kernel_rfl
@[go_sem] theorem Try.ty.ar13 : arrayOf Try.prog 13 = none := by kernel_rfl
@[go_sem] theorem Try.ty.st13 : isStr Try.prog 13 = false := by kernel_rfl
@[go_sem] theorem Try.ty.bo13 : isBool Try.prog 13 = false := by kernel_rfl
@[go_sem] theorem Try.ty.ki13 : kindOf Try.prog 13 = none := by kernel_rfl
@[go_sem] theorem Try.ty.if13 : isIface Try.prog 13 = some false := by kernel_rfl
@[go_sem] theorem Try.ty.fo0_13 : fieldOf Try.prog 13 0 = some (9, 0) := by kernel_rfl
@[go_sem] theorem Try.ty.fp0_13 : fieldPl Try.prog 13 0 = some (0, 1) := by kernel_rfl
@[go_sem] theorem Try.ty.fo1_13 : fieldOf Try.prog 13 1 = some (12, 1) := by kernel_rfl
@[go_sem] theorem Try.ty.fp1_13 : fieldPl Try.prog 13 1 = some (1, 1) := by kernel_rfl
@[go_sem] theorem Try.ty.bk13 : buildOk Try.prog 13 = true := by kernel_rfl
@[go_sem] theorem Try.ty.sz15 : szOf Try.prog 15 = some 1 := by kernel_rfl
@[go_sem] theorem Try.ty.by15 : bytesIn Try.prog 15 = some 8 := by kernel_rfl
@[go_sem] theorem Try.ty.ag15 : aggOf Try.prog 15 = some false := by kernel_rfl
@[go_sem] theorem Try.ty.zr15 : zeroOf Try.prog 15 = some [.val (.pointer none)] := by kernel_rfl
@[go_sem] theorem Try.ty.el15 : elemOfSlice Try.prog 15 = none := by kernel_rfl
@[go_sem] theorem Try.ty.ar15 : arrayOf Try.prog 15 = none := by kernel_rfl
@[go_sem] theorem Try.ty.st15 : isStr Try.prog 15 = false := by kernel_rfl
@[go_sem] theorem Try.ty.bo15 : isBool Try.prog 15 = false := by kernel_rfl
@[go_sem] theorem Try.ty.ki15 : kindOf Try.prog 15 = none := by kernel_rfl
@[go_sem] theorem Try.ty.if15 : isIface Try.prog 15 = some false := by kernel_rfl
@[go_sem] theorem Try.ty.un15 : Try.prog.underlying 15 = some (.pointer 43) := by kernel_rfl
@[go_sem] theorem Try.ty.sz16 : szOf Try.prog 16 = some 1 := by kernel_rfl
@[go_sem] theorem Try.ty.by16 : bytesIn Try.prog 16 = some 8 := by kernel_rfl
@[go_sem] theorem Try.ty.ag16 : aggOf Try.prog 16 = some false := by kernel_rfl
@[go_sem] theorem Try.ty.zr16 : zeroOf Try.prog 16 = some [.val (.pointer none)] := by kernel_rfl
@[go_sem] theorem Try.ty.el16 : elemOfSlice Try.prog 16 = none := by kernel_rfl
@[go_sem] theorem Try.ty.ar16 : arrayOf Try.prog 16 = none := by kernel_rfl
@[go_sem] theorem Try.ty.st16 : isStr Try.prog 16 = false := by kernel_rfl
@[go_sem] theorem Try.ty.bo16 : isBool Try.prog 16 = false := by kernel_rfl
@[go_sem] theorem Try.ty.ki16 : kindOf Try.prog 16 = none := by kernel_rfl
@[go_sem] theorem Try.ty.if16 : isIface Try.prog 16 = some false := by kernel_rfl
@[go_sem] theorem Try.ty.un16 : Try.prog.underlying 16 = some (.pointer 46) := by kernel_rfl
@[go_sem] theorem Try.ty.sz17 : szOf Try.prog 17 = some 1 := by kernel_rfl
@[go_sem] theorem Try.ty.by17 : bytesIn Try.prog 17 = some 8 := by kernel_rfl
@[go_sem] theorem Try.ty.ag17 : aggOf Try.prog 17 = some false := by kernel_rfl
@[go_sem] theorem Try.ty.zr17 : zeroOf Try.prog 17 = some [.val (.pointer none)] := by kernel_rfl
@[go_sem] theorem Try.ty.el17 : elemOfSlice Try.prog 17 = none := by kernel_rfl
@[go_sem] theorem Try.ty.ar17 : arrayOf Try.prog 17 = none := by kernel_rfl
@[go_sem] theorem Try.ty.st17 : isStr Try.prog 17 = false := by kernel_rfl
@[go_sem] theorem Try.ty.bo17 : isBool Try.prog 17 = false := by kernel_rfl
@[go_sem] theorem Try.ty.ki17 : kindOf Try.prog 17 = none := by kernel_rfl
@[go_sem] theorem Try.ty.if17 : isIface Try.prog 17 = some false := by kernel_rfl
@[go_sem] theorem Try.ty.un17 : Try.prog.underlying 17 = some (.pointer 56) := by kernel_rfl
@[go_sem] theorem Try.ty.sz18 : szOf Try.prog 18 = some 1 := by kernel_rfl
@[go_sem] theorem Try.ty.by18 : bytesIn Try.prog 18 = some 8 := by kernel_rfl
@[go_sem] theorem Try.ty.ag18 : aggOf Try.prog 18 = some true := by kernel_rfl
@[go_sem] theorem Try.ty.zr18 : zeroOf Try.prog 18 = some [.val (.pointer none)] := by kernel_rfl
@[go_sem] theorem Try.ty.el18 : elemOfSlice Try.prog 18 = none := by kernel_rfl
@[go_sem] theorem Try.ty.ar18 : arrayOf Try.prog 18 = none := by kernel_rfl
@[go_sem] theorem Try.ty.st18 : isStr Try.prog 18 = false := by kernel_rfl
@[go_sem] theorem Try.ty.bo18 : isBool Try.prog 18 = false := by kernel_rfl
@[go_sem] theorem Try.ty.ki18 : kindOf Try.prog 18 = none := by kernel_rfl
@[go_sem] theorem Try.ty.if18 : isIface Try.prog 18 = some false := by kernel_rfl
@[go_sem] theorem Try.ty.fo0_18 : fieldOf Try.prog 18 0 = some (17, 0) := by kernel_rfl
@[go_sem] theorem Try.ty.fp0_18 : fieldPl Try.prog 18 0 = some (0, 1) := by kernel_rfl
@[go_sem] theorem Try.ty.bk18 : buildOk Try.prog 18 = true := by kernel_rfl
@[go_sem] theorem Try.ty.sz21 : szOf Try.prog 21 = some 1 := by kernel_rfl
@[go_sem] theorem Try.ty.by21 : bytesIn Try.prog 21 = some 4 := by kernel_rfl
@[go_sem] theorem Try.ty.ag21 : aggOf Try.prog 21 = some false := by kernel_rfl
@[go_sem] theorem Try.ty.zr21 : zeroOf Try.prog 21 = some [.val (.int .i32 0)] := by kernel_rfl
@[go_sem] theorem Try.ty.el21 : elemOfSlice Try.prog 21 = none := by kernel_rfl
@[go_sem] theorem Try.ty.ar21 : arrayOf Try.prog 21 = none := by kernel_rfl
@[go_sem] theorem Try.ty.st21 : isStr Try.prog 21 = false := by kernel_rfl
@[go_sem] theorem Try.ty.bo21 : isBool Try.prog 21 = false := by kernel_rfl
@[go_sem] theorem Try.ty.ki21 : kindOf Try.prog 21 = some .i32 := by kernel_rfl
@[go_sem] theorem Try.ty.if21 : isIface Try.prog 21 = some false := by kernel_rfl
@[go_sem] theorem Try.ty.un21 : Try.prog.underlying 21 = some (.int .i32) := by kernel_rfl
@[go_sem] theorem Try.ty.sz22 : szOf Try.prog 22 = some 1 := by kernel_rfl
@[go_sem] theorem Try.ty.by22 : bytesIn Try.prog 22 = some 24 := by kernel_rfl
@[go_sem] theorem Try.ty.ag22 : aggOf Try.prog 22 = some false := by kernel_rfl
@[go_sem] theorem Try.ty.zr22 : zeroOf Try.prog 22 = some [.val (.slice none 0 0)] := by kernel_rfl
@[go_sem] theorem Try.ty.el22 : elemOfSlice Try.prog 22 = some 23 := by kernel_rfl
@[go_sem] theorem Try.ty.ar22 : arrayOf Try.prog 22 = none := by kernel_rfl
@[go_sem] theorem Try.ty.st22 : isStr Try.prog 22 = false := by kernel_rfl
@[go_sem] theorem Try.ty.bo22 : isBool Try.prog 22 = false := by kernel_rfl
@[go_sem] theorem Try.ty.ki22 : kindOf Try.prog 22 = none := by kernel_rfl
@[go_sem] theorem Try.ty.if22 : isIface Try.prog 22 = some false := by kernel_rfl
@[go_sem] theorem Try.ty.un22 : Try.prog.underlying 22 = some (.slice 23) := by kernel_rfl
@[go_sem] theorem Try.ty.sz23 : szOf Try.prog 23 = some 1 := by kernel_rfl
@[go_sem] theorem Try.ty.by23 : bytesIn Try.prog 23 = some 24 := by kernel_rfl
@[go_sem] theorem Try.ty.ag23 : aggOf Try.prog 23 = some false := by kernel_rfl
@[go_sem] theorem Try.ty.zr23 : zeroOf Try.prog 23 = some [.val (.slice none 0 0)] := by kernel_rfl
@[go_sem] theorem Try.ty.el23 : elemOfSlice Try.prog 23 = some 3 := by kernel_rfl
@[go_sem] theorem Try.ty.ar23 : arrayOf Try.prog 23 = none := by kernel_rfl
@[go_sem] theorem Try.ty.st23 : isStr Try.prog 23 = false := by kernel_rfl
@[go_sem] theorem Try.ty.bo23 : isBool Try.prog 23 = false := by kernel_rfl
@[go_sem] theorem Try.ty.ki23 : kindOf Try.prog 23 = none := by kernel_rfl
@[go_sem] theorem Try.ty.if23 : isIface Try.prog 23 = some false := by kernel_rfl
@[go_sem] theorem Try.ty.un23 : Try.prog.underlying 23 = some (.slice 3) := by kernel_rfl
@[go_sem] theorem Try.ty.sz42 : szOf Try.prog 42 = some 4 := by kernel_rfl
@[go_sem] theorem Try.ty.by42 : bytesIn Try.prog 42 = some 40 := by kernel_rfl
@[go_sem] theorem Try.ty.ag42 : aggOf Try.prog 42 = some true := by kernel_rfl
@[go_sem] theorem Try.ty.zr42 : zeroOf Try.prog 42 = some [.val (.pointer none), .val (.pointer none), .val (.pointer none), .val (.string ByteArray.empty)] := by kernel_rfl
@[go_sem] theorem Try.ty.el42 : elemOfSlice Try.prog 42 = none := by kernel_rfl
@[go_sem] theorem Try.ty.ar42 : arrayOf Try.prog 42 = none := by kernel_rfl
@[go_sem] theorem Try.ty.st42 : isStr Try.prog 42 = false := by kernel_rfl
@[go_sem] theorem Try.ty.bo42 : isBool Try.prog 42 = false := by kernel_rfl
@[go_sem] theorem Try.ty.ki42 : kindOf Try.prog 42 = none := by kernel_rfl
@[go_sem] theorem Try.ty.if42 : isIface Try.prog 42 = some false := by kernel_rfl
@[go_sem] theorem Try.ty.fo0_42 : fieldOf Try.prog 42 0 = some (17, 0) := by kernel_rfl
@[go_sem] theorem Try.ty.fp0_42 : fieldPl Try.prog 42 0 = some (0, 1) := by kernel_rfl
@[go_sem] theorem Try.ty.fo1_42 : fieldOf Try.prog 42 1 = some (17, 1) := by kernel_rfl
@[go_sem] theorem Try.ty.fp1_42 : fieldPl Try.prog 42 1 = some (1, 1) := by kernel_rfl
@[go_sem] theorem Try.ty.fo2_42 : fieldOf Try.prog 42 2 = some (17, 2) := by kernel_rfl
@[go_sem] theorem Try.ty.fp2_42 : fieldPl Try.prog 42 2 = some (2, 1) := by kernel_rfl
@[go_sem] theorem Try.ty.fo3_42 : fieldOf Try.prog 42 3 = some (9, 3) := by kernel_rfl
@[go_sem] theorem Try.ty.fp3_42 : fieldPl Try.prog 42 3 = some (3, 1) := by kernel_rfl
@[go_sem] theorem Try.ty.bk42 : buildOk Try.prog 42 = true := by kernel_rfl
@[go_sem] theorem Try.ty.sz44 : szOf Try.prog 44 = some 0 := by kernel_rfl
@[go_sem] theorem Try.ty.by44 : bytesIn Try.prog 44 = some 0 := by kernel_rfl
@[go_sem] theorem Try.ty.ag44 : aggOf Try.prog 44 = some true := by kernel_rfl
@[go_sem] theorem Try.ty.zr44 : zeroOf Try.prog 44 = some [] := by kernel_rfl
@[go_sem] theorem Try.ty.el44 : elemOfSlice Try.prog 44 = none := by kernel_rfl
@[go_sem] theorem Try.ty.ar44 : arrayOf Try.prog 44 = some (0, 16) := by kernel_rfl
@[go_sem] theorem Try.ty.st44 : isStr Try.prog 44 = false := by kernel_rfl
@[go_sem] theorem Try.ty.bo44 : isBool Try.prog 44 = false := by kernel_rfl
@[go_sem] theorem Try.ty.ki44 : kindOf Try.prog 44 = none := by kernel_rfl
@[go_sem] theorem Try.ty.if44 : isIface Try.prog 44 = some false := by kernel_rfl
@[go_sem] theorem Try.ty.bk44 : buildOk Try.prog 44 = true := by kernel_rfl
@[go_sem] theorem Try.ty.un44 : Try.prog.underlying 44 = some (.array 0 16) := by kernel_rfl
@[go_sem] theorem Try.ty.sz45 : szOf Try.prog 45 = some 0 := by kernel_rfl
@[go_sem] theorem Try.ty.by45 : bytesIn Try.prog 45 = some 0 := by kernel_rfl
@[go_sem] theorem Try.ty.ag45 : aggOf Try.prog 45 = some true := by kernel_rfl
@[go_sem] theorem Try.ty.zr45 : zeroOf Try.prog 45 = some [] := by kernel_rfl
@[go_sem] theorem Try.ty.el45 : elemOfSlice Try.prog 45 = none := by kernel_rfl
@[go_sem] theorem Try.ty.ar45 : arrayOf Try.prog 45 = none := by kernel_rfl
@[go_sem] theorem Try.ty.st45 : isStr Try.prog 45 = false := by kernel_rfl
@[go_sem] theorem Try.ty.bo45 : isBool Try.prog 45 = false := by kernel_rfl
@[go_sem] theorem Try.ty.ki45 : kindOf Try.prog 45 = none := by kernel_rfl
@[go_sem] theorem Try.ty.if45 : isIface Try.prog 45 = some false := by kernel_rfl
@[go_sem] theorem Try.ty.fo0_45 : fieldOf Try.prog 45 0 = some (44, 0) := by kernel_rfl
@[go_sem] theorem Try.ty.fp0_45 : fieldPl Try.prog 45 0 = some (0, 0) := by kernel_rfl
@[go_sem] theorem Try.ty.bk45 : buildOk Try.prog 45 = true := by kernel_rfl
@[go_sem] theorem Try.ty.sz48 : szOf Try.prog 48 = some 1 := by kernel_rfl
@[go_sem] theorem Try.ty.by48 : bytesIn Try.prog 48 = some 4 := by kernel_rfl
@[go_sem] theorem Try.ty.ag48 : aggOf Try.prog 48 = some false := by kernel_rfl
@[go_sem] theorem Try.ty.zr48 : zeroOf Try.prog 48 = some [.val (.int .u32 0)] := by kernel_rfl
@[go_sem] theorem Try.ty.el48 : elemOfSlice Try.prog 48 = none := by kernel_rfl
@[go_sem] theorem Try.ty.ar48 : arrayOf Try.prog 48 = none := by kernel_rfl
@[go_sem] theorem Try.ty.st48 : isStr Try.prog 48 = false := by kernel_rfl
@[go_sem] theorem Try.ty.bo48 : isBool Try.prog 48 = false := by kernel_rfl
@[go_sem] theorem Try.ty.ki48 : kindOf Try.prog 48 = some .u32 := by kernel_rfl
@[go_sem] theorem Try.ty.if48 : isIface Try.prog 48 = some false := by kernel_rfl
@[go_sem] theorem Try.ty.un48 : Try.prog.underlying 48 = some (.int .u32) := by kernel_rfl
@[go_sem] theorem Try.ty.sz52 : szOf Try.prog 52 = some 1 := by kernel_rfl
@[go_sem] theorem Try.ty.by52 : bytesIn Try.prog 52 = some 8 := by kernel_rfl
@[go_sem] theorem Try.ty.ag52 : aggOf Try.prog 52 = some false := by kernel_rfl
@[go_sem] theorem Try.ty.zr52 : zeroOf Try.prog 52 = some [.val (.pointer none)] := by kernel_rfl
@[go_sem] theorem Try.ty.el52 : elemOfSlice Try.prog 52 = none := by kernel_rfl
@[go_sem] theorem Try.ty.ar52 : arrayOf Try.prog 52 = none := by kernel_rfl
@[go_sem] theorem Try.ty.st52 : isStr Try.prog 52 = false := by kernel_rfl
@[go_sem] theorem Try.ty.bo52 : isBool Try.prog 52 = false := by kernel_rfl
@[go_sem] theorem Try.ty.ki52 : kindOf Try.prog 52 = none := by kernel_rfl
@[go_sem] theorem Try.ty.if52 : isIface Try.prog 52 = some false := by kernel_rfl
@[go_sem] theorem Try.ty.un52 : Try.prog.underlying 52 = some (.pointer 5) := by kernel_rfl
end Go.Sh
