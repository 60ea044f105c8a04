/-
  What the shadow asks of this program's types, each a closed fact.
-/
import Derived.Test.YtjgplijipbnjcaaShL
import Derived.Test.YtjgplijipbnjcaaChecked
import Derived.KernelRfl
namespace Go.Sh
set_option linter.unusedSimpArgs false
set_option linter.unusedVariables false
open Go Go.Proofs
theorem Try.mixed : Try.prog.follows .mixedOrders = true := by kernel_rfl
@[go_sem] theorem Try.ty.sz1 : szOf Try.prog 1 = some 1 := by kernel_rfl
@[go_sem] theorem Try.ty.by1 : bytesIn Try.prog 1 = some 8 := by kernel_rfl
@[go_sem] theorem Try.ty.ag1 : aggOf Try.prog 1 = some false := by kernel_rfl
@[go_sem] theorem Try.ty.zr1 : zeroOf Try.prog 1 = some [.val .nilFunc] := by kernel_rfl
@[go_sem] theorem Try.ty.el1 : elemOfSlice Try.prog 1 = none := by kernel_rfl
@[go_sem] theorem Try.ty.ar1 : arrayOf Try.prog 1 = none := by kernel_rfl
@[go_sem] theorem Try.ty.st1 : isStr Try.prog 1 = false := by kernel_rfl
@[go_sem] theorem Try.ty.bo1 : isBool Try.prog 1 = false := by kernel_rfl
@[go_sem] theorem Try.ty.ki1 : kindOf Try.prog 1 = none := by kernel_rfl
@[go_sem] theorem Try.ty.if1 : isIface Try.prog 1 = some false := by kernel_rfl
@[go_sem] theorem Try.ty.sz2 : szOf Try.prog 2 = some 1 := by kernel_rfl
@[go_sem] theorem Try.ty.by2 : bytesIn Try.prog 2 = some 8 := by kernel_rfl
@[go_sem] theorem Try.ty.ag2 : aggOf Try.prog 2 = some false := by kernel_rfl
@[go_sem] theorem Try.ty.zr2 : zeroOf Try.prog 2 = some [.val (.int .i64 0)] := by kernel_rfl
@[go_sem] theorem Try.ty.el2 : elemOfSlice Try.prog 2 = none := by kernel_rfl
@[go_sem] theorem Try.ty.ar2 : arrayOf Try.prog 2 = none := by kernel_rfl
@[go_sem] theorem Try.ty.st2 : isStr Try.prog 2 = false := by kernel_rfl
@[go_sem] theorem Try.ty.bo2 : isBool Try.prog 2 = false := by kernel_rfl
@[go_sem] theorem Try.ty.ki2 : kindOf Try.prog 2 = some .i64 := by kernel_rfl
@[go_sem] theorem Try.ty.if2 : isIface Try.prog 2 = some false := by kernel_rfl
@[go_sem] theorem Try.ty.un2 : Try.prog.underlying 2 = some (.int .i64) := by kernel_rfl
@[go_sem] theorem Try.ty.sz3 : szOf Try.prog 3 = some 1 := by kernel_rfl
@[go_sem] theorem Try.ty.by3 : bytesIn Try.prog 3 = some 8 := by kernel_rfl
@[go_sem] theorem Try.ty.ag3 : aggOf Try.prog 3 = some false := by kernel_rfl
@[go_sem] theorem Try.ty.zr3 : zeroOf Try.prog 3 = some [.val (.int .i64 0)] := by kernel_rfl
@[go_sem] theorem Try.ty.el3 : elemOfSlice Try.prog 3 = none := by kernel_rfl
@[go_sem] theorem Try.ty.ar3 : arrayOf Try.prog 3 = none := by kernel_rfl
@[go_sem] theorem Try.ty.st3 : isStr Try.prog 3 = false := by kernel_rfl
@[go_sem] theorem Try.ty.bo3 : isBool Try.prog 3 = false := by kernel_rfl
@[go_sem] theorem Try.ty.ki3 : kindOf Try.prog 3 = some .i64 := by kernel_rfl
@[go_sem] theorem Try.ty.if3 : isIface Try.prog 3 = some false := by kernel_rfl
@[go_sem] theorem Try.ty.un3 : Try.prog.underlying 3 = some (.int .i64) := by kernel_rfl
@[go_sem] theorem Try.ty.sz4 : szOf Try.prog 4 = some 1 := by kernel_rfl
@[go_sem] theorem Try.ty.by4 : bytesIn Try.prog 4 = some 1 := by kernel_rfl
@[go_sem] theorem Try.ty.ag4 : aggOf Try.prog 4 = some false := by kernel_rfl
@[go_sem] theorem Try.ty.zr4 : zeroOf Try.prog 4 = some [.val (.bool false)] := by kernel_rfl
@[go_sem] theorem Try.ty.el4 : elemOfSlice Try.prog 4 = none := by kernel_rfl
@[go_sem] theorem Try.ty.ar4 : arrayOf Try.prog 4 = none := by kernel_rfl
@[go_sem] theorem Try.ty.st4 : isStr Try.prog 4 = false := by kernel_rfl
@[go_sem] theorem Try.ty.bo4 : isBool Try.prog 4 = true := by kernel_rfl
@[go_sem] theorem Try.ty.ki4 : kindOf Try.prog 4 = none := by kernel_rfl
@[go_sem] theorem Try.ty.if4 : isIface Try.prog 4 = some false := by kernel_rfl
@[go_sem] theorem Try.ty.un4 : Try.prog.underlying 4 = some (.bool) := by kernel_rfl
@[go_sem] theorem Try.ty.sz5 : szOf Try.prog 5 = some 1 := by kernel_rfl
@[go_sem] theorem Try.ty.by5 : bytesIn Try.prog 5 = some 1 := by kernel_rfl
@[go_sem] theorem Try.ty.ag5 : aggOf Try.prog 5 = some false := by kernel_rfl
@[go_sem] theorem Try.ty.zr5 : zeroOf Try.prog 5 = some [.val (.int .u8 0)] := by kernel_rfl
@[go_sem] theorem Try.ty.el5 : elemOfSlice Try.prog 5 = none := by kernel_rfl
@[go_sem] theorem Try.ty.ar5 : arrayOf Try.prog 5 = none := by kernel_rfl
@[go_sem] theorem Try.ty.st5 : isStr Try.prog 5 = false := by kernel_rfl
@[go_sem] theorem Try.ty.bo5 : isBool Try.prog 5 = false := by kernel_rfl
@[go_sem] theorem Try.ty.ki5 : kindOf Try.prog 5 = some .u8 := by kernel_rfl
@[go_sem] theorem Try.ty.if5 : isIface Try.prog 5 = some false := by kernel_rfl
@[go_sem] theorem Try.ty.un5 : Try.prog.underlying 5 = some (.int .u8) := by kernel_rfl
@[go_sem] theorem Try.ty.sz7 : szOf Try.prog 7 = some 4 := by kernel_rfl
@[go_sem] theorem Try.ty.by7 : bytesIn Try.prog 7 = some 24 := by kernel_rfl
@[go_sem] theorem Try.ty.ag7 : aggOf Try.prog 7 = some true := by kernel_rfl
@[go_sem] theorem Try.ty.zr7 : zeroOf Try.prog 7 = some [.val (.int .i64 0), .val (.int .i64 0), .val (.bool false), .val (.int .u8 0)] := by kernel_rfl
@[go_sem] theorem Try.ty.el7 : elemOfSlice Try.prog 7 = none := by kernel_rfl
@[go_sem] theorem Try.ty.ar7 : arrayOf Try.prog 7 = none := by kernel_rfl
@[go_sem] theorem Try.ty.st7 : isStr Try.prog 7 = false := by kernel_rfl
@[go_sem] theorem Try.ty.bo7 : isBool Try.prog 7 = false := by kernel_rfl
@[go_sem] theorem Try.ty.ki7 : kindOf Try.prog 7 = none := by kernel_rfl
@[go_sem] theorem Try.ty.if7 : isIface Try.prog 7 = some false := by kernel_rfl
@[go_sem] theorem Try.ty.fo0_7 : fieldOf Try.prog 7 0 = some (2, 0) := by kernel_rfl
@[go_sem] theorem Try.ty.fp0_7 : fieldPl Try.prog 7 0 = some (0, 1) := by kernel_rfl
@[go_sem] theorem Try.ty.fo1_7 : fieldOf Try.prog 7 1 = some (3, 1) := by kernel_rfl
@[go_sem] theorem Try.ty.fp1_7 : fieldPl Try.prog 7 1 = some (1, 1) := by kernel_rfl
@[go_sem] theorem Try.ty.fo2_7 : fieldOf Try.prog 7 2 = some (4, 2) := by kernel_rfl
@[go_sem] theorem Try.ty.fp2_7 : fieldPl Try.prog 7 2 = some (2, 1) := by kernel_rfl
@[go_sem] theorem Try.ty.fo3_7 : fieldOf Try.prog 7 3 = some (6, 3) := by kernel_rfl
@[go_sem] theorem Try.ty.fp3_7 : fieldPl Try.prog 7 3 = some (3, 1) := by kernel_rfl
@[go_sem] theorem Try.ty.bk7 : buildOk Try.prog 7 = true := by kernel_rfl
@[go_sem] theorem Try.ty.sz9 : szOf Try.prog 9 = some 1 := by kernel_rfl
@[go_sem] theorem Try.ty.by9 : bytesIn Try.prog 9 = some 16 := by kernel_rfl
@[go_sem] theorem Try.ty.ag9 : aggOf Try.prog 9 = some false := by kernel_rfl
@[go_sem] theorem Try.ty.zr9 : zeroOf Try.prog 9 = some [.val (.string ByteArray.empty)] := by kernel_rfl
@[go_sem] theorem Try.ty.el9 : elemOfSlice Try.prog 9 = none := by kernel_rfl
@[go_sem] theorem Try.ty.ar9 : arrayOf Try.prog 9 = none := by kernel_rfl
@[go_sem] theorem Try.ty.st9 : isStr Try.prog 9 = true := by kernel_rfl
@[go_sem] theorem Try.ty.bo9 : isBool Try.prog 9 = false := by kernel_rfl
@[go_sem] theorem Try.ty.ki9 : kindOf Try.prog 9 = none := by kernel_rfl
@[go_sem] theorem Try.ty.if9 : isIface Try.prog 9 = some false := by kernel_rfl
@[go_sem] theorem Try.ty.un9 : Try.prog.underlying 9 = some (.string) := by kernel_rfl
@[go_sem] theorem Try.ty.sz12 : szOf Try.prog 12 = some 1 := by kernel_rfl
@[go_sem] theorem Try.ty.by12 : bytesIn Try.prog 12 = some 8 := by kernel_rfl
@[go_sem] theorem Try.ty.ag12 : aggOf Try.prog 12 = some false := by kernel_rfl
@[go_sem] theorem Try.ty.zr12 : zeroOf Try.prog 12 = some [.val (.int .u64 0)] := by kernel_rfl
@[go_sem] theorem Try.ty.el12 : elemOfSlice Try.prog 12 = none := by kernel_rfl
@[go_sem] theorem Try.ty.ar12 : arrayOf Try.prog 12 = none := by kernel_rfl
@[go_sem] theorem Try.ty.st12 : isStr Try.prog 12 = false := by kernel_rfl
@[go_sem] theorem Try.ty.bo12 : isBool Try.prog 12 = false := by kernel_rfl
@[go_sem] theorem Try.ty.ki12 : kindOf Try.prog 12 = some .u64 := by kernel_rfl
@[go_sem] theorem Try.ty.if12 : isIface Try.prog 12 = some false := by kernel_rfl
@[go_sem] theorem Try.ty.un12 : Try.prog.underlying 12 = some (.int .u64) := by kernel_rfl
@[go_sem] theorem Try.ty.sz13 : szOf Try.prog 13 = some 2 := by kernel_rfl
@[go_sem] theorem Try.ty.by13 : bytesIn Try.prog 13 = some 24 := by kernel_rfl
@[go_sem] theorem Try.ty.ag13 : aggOf Try.prog 13 = some true := by kernel_rfl
@[go_sem] theorem Try.ty.zr13 : zeroOf Try.prog 13 = some [.val (.string ByteArray.empty), .val (.int .u64 0)] := by kernel_rfl
@[go_sem] theorem Try.ty.el13 : elemOfSlice Try.prog 13 = none := by kernel_rfl
@[go_sem] theorem Try.ty.ar13 : arrayOf Try.prog 13 = none := by kernel_rfl
@[go_sem] theorem Try.ty.st13 : isStr Try.prog 13 = false := by kernel_rfl
@[go_sem] theorem Try.ty.bo13 : isBool Try.prog 13 = false := by kernel_rfl
@[go_sem] theorem Try.ty.ki13 : kindOf Try.prog 13 = none := by kernel_rfl
@[go_sem] theorem Try.ty.if13 : isIface Try.prog 13 = some false := by kernel_rfl
@[go_sem] theorem Try.ty.fo0_13 : fieldOf Try.prog 13 0 = some (9, 0) := by kernel_rfl
@[go_sem] theorem Try.ty.fp0_13 : fieldPl Try.prog 13 0 = some (0, 1) := by kernel_rfl
@[go_sem] theorem Try.ty.fo1_13 : fieldOf Try.prog 13 1 = some (12, 1) := by kernel_rfl
@[go_sem] theorem Try.ty.fp1_13 : fieldPl Try.prog 13 1 = some (1, 1) := by kernel_rfl
@[go_sem] theorem Try.ty.bk13 : buildOk Try.prog 13 = true := by kernel_rfl
@[go_sem] theorem Try.ty.sz15 : szOf Try.prog 15 = some 1 := by kernel_rfl
@[go_sem] theorem Try.ty.by15 : bytesIn Try.prog 15 = some 8 := by kernel_rfl
@[go_sem] theorem Try.ty.ag15 : aggOf Try.prog 15 = some false := by kernel_rfl
@[go_sem] theorem Try.ty.zr15 : zeroOf Try.prog 15 = some [.val (.pointer none)] := by kernel_rfl
@[go_sem] theorem Try.ty.el15 : elemOfSlice Try.prog 15 = none := by kernel_rfl
@[go_sem] theorem Try.ty.ar15 : arrayOf Try.prog 15 = none := by kernel_rfl
@[go_sem] theorem Try.ty.st15 : isStr Try.prog 15 = false := by kernel_rfl
@[go_sem] theorem Try.ty.bo15 : isBool Try.prog 15 = false := by kernel_rfl
@[go_sem] theorem Try.ty.ki15 : kindOf Try.prog 15 = none := by kernel_rfl
@[go_sem] theorem Try.ty.if15 : isIface Try.prog 15 = some false := by kernel_rfl
@[go_sem] theorem Try.ty.un15 : Try.prog.underlying 15 = some (.pointer 103) := by kernel_rfl
@[go_sem] theorem Try.ty.sz16 : szOf Try.prog 16 = some 1 := by kernel_rfl
@[go_sem] theorem Try.ty.by16 : bytesIn Try.prog 16 = some 8 := by kernel_rfl
@[go_sem] theorem Try.ty.ag16 : aggOf Try.prog 16 = some false := by kernel_rfl
@[go_sem] theorem Try.ty.zr16 : zeroOf Try.prog 16 = some [.val (.pointer none)] := by kernel_rfl
@[go_sem] theorem Try.ty.el16 : elemOfSlice Try.prog 16 = none := by kernel_rfl
@[go_sem] theorem Try.ty.ar16 : arrayOf Try.prog 16 = none := by kernel_rfl
@[go_sem] theorem Try.ty.st16 : isStr Try.prog 16 = false := by kernel_rfl
@[go_sem] theorem Try.ty.bo16 : isBool Try.prog 16 = false := by kernel_rfl
@[go_sem] theorem Try.ty.ki16 : kindOf Try.prog 16 = none := by kernel_rfl
@[go_sem] theorem Try.ty.if16 : isIface Try.prog 16 = some false := by kernel_rfl
@[go_sem] theorem Try.ty.un16 : Try.prog.underlying 16 = some (.pointer 106) := by kernel_rfl
@[go_sem] theorem Try.ty.sz17 : szOf Try.prog 17 = some 1 := by kernel_rfl
@[go_sem] theorem Try.ty.by17 : bytesIn Try.prog 17 = some 8 := by kernel_rfl
@[go_sem] theorem Try.ty.ag17 : aggOf Try.prog 17 = some false := by kernel_rfl
@[go_sem] theorem Try.ty.zr17 : zeroOf Try.prog 17 = some [.val (.pointer none)] := by kernel_rfl
@[go_sem] theorem Try.ty.el17 : elemOfSlice Try.prog 17 = none := by kernel_rfl
@[go_sem] theorem Try.ty.ar17 : arrayOf Try.prog 17 = none := by kernel_rfl
@[go_sem] theorem Try.ty.st17 : isStr Try.prog 17 = false := by kernel_rfl
@[go_sem] theorem Try.ty.bo17 : isBool Try.prog 17 = false := by kernel_rfl
@[go_sem] theorem Try.ty.ki17 : kindOf Try.prog 17 = none := by kernel_rfl
@[go_sem] theorem Try.ty.if17 : isIface Try.prog 17 = some false := by kernel_rfl
@[go_sem] theorem Try.ty.un17 : Try.prog.underlying 17 = some (.pointer 115) := by kernel_rfl
@[go_sem] theorem Try.ty.sz18 : szOf Try.prog 18 = some 1 := by kernel_rfl
@[go_sem] theorem Try.ty.by18 : bytesIn Try.prog 18 = some 8 := by kernel_rfl
@[go_sem] theorem Try.ty.ag18 : aggOf Try.prog 18 = some true := by kernel_rfl
@[go_sem] theorem Try.ty.zr18 : zeroOf Try.prog 18 = some [.val (.pointer none)] := by kernel_rfl
@[go_sem] theorem Try.ty.el18 : elemOfSlice Try.prog 18 = none := by kernel_rfl
@[go_sem] theorem Try.ty.ar18 : arrayOf Try.prog 18 = none := by kernel_rfl
@[go_sem] theorem Try.ty.st18 : isStr Try.prog 18 = false := by kernel_rfl
@[go_sem] theorem Try.ty.bo18 : isBool Try.prog 18 = false := by kernel_rfl
@[go_sem] theorem Try.ty.ki18 : kindOf Try.prog 18 = none := by kernel_rfl
@[go_sem] theorem Try.ty.if18 : isIface Try.prog 18 = some false := by kernel_rfl
@[go_sem] theorem Try.ty.fo0_18 : fieldOf Try.prog 18 0 = some (17, 0) := by kernel_rfl
@[go_sem] theorem Try.ty.fp0_18 : fieldPl Try.prog 18 0 = some (0, 1) := by kernel_rfl
@[go_sem] theorem Try.ty.bk18 : buildOk Try.prog 18 = true := by kernel_rfl
@[go_sem] theorem Try.ty.sz21 : szOf Try.prog 21 = some 1 := by kernel_rfl
@[go_sem] theorem Try.ty.by21 : bytesIn Try.prog 21 = some 4 := by kernel_rfl
@[go_sem] theorem Try.ty.ag21 : aggOf Try.prog 21 = some false := by kernel_rfl
@[go_sem] theorem Try.ty.zr21 : zeroOf Try.prog 21 = some [.val (.int .i32 0)] := by kernel_rfl
@[go_sem] theorem Try.ty.el21 : elemOfSlice Try.prog 21 = none := by kernel_rfl
@[go_sem] theorem Try.ty.ar21 : arrayOf Try.prog 21 = none := by kernel_rfl
@[go_sem] theorem Try.ty.st21 : isStr Try.prog 21 = false := by kernel_rfl
@[go_sem] theorem Try.ty.bo21 : isBool Try.prog 21 = false := by kernel_rfl
@[go_sem] theorem Try.ty.ki21 : kindOf Try.prog 21 = some .i32 := by kernel_rfl
@[go_sem] theorem Try.ty.if21 : isIface Try.prog 21 = some false := by kernel_rfl
@[go_sem] theorem Try.ty.un21 : Try.prog.underlying 21 = some (.int .i32) := by kernel_rfl
@[go_sem] theorem Try.ty.sz22 : szOf Try.prog 22 = some 1 := by kernel_rfl
@[go_sem] theorem Try.ty.by22 : bytesIn Try.prog 22 = some 24 := by kernel_rfl
@[go_sem] theorem Try.ty.ag22 : aggOf Try.prog 22 = some false := by kernel_rfl
@[go_sem] theorem Try.ty.zr22 : zeroOf Try.prog 22 = some [.val (.slice none 0 0)] := by kernel_rfl
@[go_sem] theorem Try.ty.el22 : elemOfSlice Try.prog 22 = some 3 := by kernel_rfl
@[go_sem] theorem Try.ty.ar22 : arrayOf Try.prog 22 = none := by kernel_rfl
@[go_sem] theorem Try.ty.st22 : isStr Try.prog 22 = false := by kernel_rfl
@[go_sem] theorem Try.ty.bo22 : isBool Try.prog 22 = false := by kernel_rfl
@[go_sem] theorem Try.ty.ki22 : kindOf Try.prog 22 = none := by kernel_rfl
@[go_sem] theorem Try.ty.if22 : isIface Try.prog 22 = some false := by kernel_rfl
@[go_sem] theorem Try.ty.un22 : Try.prog.underlying 22 = some (.slice 3) := by kernel_rfl
@[go_sem] theorem Try.ty.sz23 : szOf Try.prog 23 = some 1 := by kernel_rfl
@[go_sem] theorem Try.ty.by23 : bytesIn Try.prog 23 = some 24 := by kernel_rfl
@[go_sem] theorem Try.ty.ag23 : aggOf Try.prog 23 = some false := by kernel_rfl
@[go_sem] theorem Try.ty.zr23 : zeroOf Try.prog 23 = some [.val (.slice none 0 0)] := by kernel_rfl
@[go_sem] theorem Try.ty.el23 : elemOfSlice Try.prog 23 = some 22 := by kernel_rfl
@[go_sem] theorem Try.ty.ar23 : arrayOf Try.prog 23 = none := by kernel_rfl
@[go_sem] theorem Try.ty.st23 : isStr Try.prog 23 = false := by kernel_rfl
@[go_sem] theorem Try.ty.bo23 : isBool Try.prog 23 = false := by kernel_rfl
@[go_sem] theorem Try.ty.ki23 : kindOf Try.prog 23 = none := by kernel_rfl
@[go_sem] theorem Try.ty.if23 : isIface Try.prog 23 = some false := by kernel_rfl
@[go_sem] theorem Try.ty.un23 : Try.prog.underlying 23 = some (.slice 22) := by kernel_rfl
@[go_sem] theorem Try.ty.sz24 : szOf Try.prog 24 = some 1 := by kernel_rfl
@[go_sem] theorem Try.ty.by24 : bytesIn Try.prog 24 = some 8 := by kernel_rfl
@[go_sem] theorem Try.ty.ag24 : aggOf Try.prog 24 = some false := by kernel_rfl
@[go_sem] theorem Try.ty.zr24 : zeroOf Try.prog 24 = some [.val .nilFunc] := by kernel_rfl
@[go_sem] theorem Try.ty.el24 : elemOfSlice Try.prog 24 = none := by kernel_rfl
@[go_sem] theorem Try.ty.ar24 : arrayOf Try.prog 24 = none := by kernel_rfl
@[go_sem] theorem Try.ty.st24 : isStr Try.prog 24 = false := by kernel_rfl
@[go_sem] theorem Try.ty.bo24 : isBool Try.prog 24 = false := by kernel_rfl
@[go_sem] theorem Try.ty.ki24 : kindOf Try.prog 24 = none := by kernel_rfl
@[go_sem] theorem Try.ty.if24 : isIface Try.prog 24 = some false := by kernel_rfl
@[go_sem] theorem Try.ty.sz25 : szOf Try.prog 25 = some 1 := by kernel_rfl
@[go_sem] theorem Try.ty.by25 : bytesIn Try.prog 25 = some 8 := by kernel_rfl
@[go_sem] theorem Try.ty.ag25 : aggOf Try.prog 25 = some false := by kernel_rfl
@[go_sem] theorem Try.ty.zr25 : zeroOf Try.prog 25 = some [.val .nilFunc] := by kernel_rfl
@[go_sem] theorem Try.ty.el25 : elemOfSlice Try.prog 25 = none := by kernel_rfl
@[go_sem] theorem Try.ty.ar25 : arrayOf Try.prog 25 = none := by kernel_rfl
@[go_sem] theorem Try.ty.st25 : isStr Try.prog 25 = false := by kernel_rfl
@[go_sem] theorem Try.ty.bo25 : isBool Try.prog 25 = false := by kernel_rfl
@[go_sem] theorem Try.ty.ki25 : kindOf Try.prog 25 = none := by kernel_rfl
@[go_sem] theorem Try.ty.if25 : isIface Try.prog 25 = some false := by kernel_rfl
@[go_sem] theorem Try.ty.sz26 : szOf Try.prog 26 = some 1 := by kernel_rfl
@[go_sem] theorem Try.ty.by26 : bytesIn Try.prog 26 = some 8 := by kernel_rfl
@[go_sem] theorem Try.ty.ag26 : aggOf Try.prog 26 = some false := by kernel_rfl
@[go_sem] theorem Try.ty.zr26 : zeroOf Try.prog 26 = some [.val .nilFunc] := by kernel_rfl
@[go_sem] theorem Try.ty.el26 : elemOfSlice Try.prog 26 = none := by kernel_rfl
@[go_sem] theorem Try.ty.ar26 : arrayOf Try.prog 26 = none := by kernel_rfl
@[go_sem] theorem Try.ty.st26 : isStr Try.prog 26 = false := by kernel_rfl
@[go_sem] theorem Try.ty.bo26 : isBool Try.prog 26 = false := by kernel_rfl
@[go_sem] theorem Try.ty.ki26 : kindOf Try.prog 26 = none := by kernel_rfl
@[go_sem] theorem Try.ty.if26 : isIface Try.prog 26 = some false := by kernel_rfl
@[go_sem] theorem Try.ty.sz27 : szOf Try.prog 27 = some 1 := by kernel_rfl
@[go_sem] theorem Try.ty.by27 : bytesIn Try.prog 27 = some 8 := by kernel_rfl
@[go_sem] theorem Try.ty.ag27 : aggOf Try.prog 27 = some false := by kernel_rfl
@[go_sem] theorem Try.ty.zr27 : zeroOf Try.prog 27 = some [.val .nilFunc] := by kernel_rfl
@[go_sem] theorem Try.ty.el27 : elemOfSlice Try.prog 27 = none := by kernel_rfl
@[go_sem] theorem Try.ty.ar27 : arrayOf Try.prog 27 = none := by kernel_rfl
@[go_sem] theorem Try.ty.st27 : isStr Try.prog 27 = false := by kernel_rfl
@[go_sem] theorem Try.ty.bo27 : isBool Try.prog 27 = false := by kernel_rfl
@[go_sem] theorem Try.ty.ki27 : kindOf Try.prog 27 = none := by kernel_rfl
@[go_sem] theorem Try.ty.if27 : isIface Try.prog 27 = some false := by kernel_rfl
@[go_sem] theorem Try.ty.sz28 : szOf Try.prog 28 = some 1 := by kernel_rfl
@[go_sem] theorem Try.ty.by28 : bytesIn Try.prog 28 = some 8 := by kernel_rfl
@[go_sem] theorem Try.ty.ag28 : aggOf Try.prog 28 = some false := by kernel_rfl
@[go_sem] theorem Try.ty.zr28 : zeroOf Try.prog 28 = some [.val .nilFunc] := by kernel_rfl
@[go_sem] theorem Try.ty.el28 : elemOfSlice Try.prog 28 = none := by kernel_rfl
@[go_sem] theorem Try.ty.ar28 : arrayOf Try.prog 28 = none := by kernel_rfl
@[go_sem] theorem Try.ty.st28 : isStr Try.prog 28 = false := by kernel_rfl
@[go_sem] theorem Try.ty.bo28 : isBool Try.prog 28 = false := by kernel_rfl
@[go_sem] theorem Try.ty.ki28 : kindOf Try.prog 28 = none := by kernel_rfl
@[go_sem] theorem Try.ty.if28 : isIface Try.prog 28 = some false := by kernel_rfl
@[go_sem] theorem Try.ty.sz29 : szOf Try.prog 29 = some 1 := by kernel_rfl
@[go_sem] theorem Try.ty.by29 : bytesIn Try.prog 29 = some 8 := by kernel_rfl
@[go_sem] theorem Try.ty.ag29 : aggOf Try.prog 29 = some false := by kernel_rfl
@[go_sem] theorem Try.ty.zr29 : zeroOf Try.prog 29 = some [.val .nilFunc] := by kernel_rfl
@[go_sem] theorem Try.ty.el29 : elemOfSlice Try.prog 29 = none := by kernel_rfl
@[go_sem] theorem Try.ty.ar29 : arrayOf Try.prog 29 = none := by kernel_rfl
@[go_sem] theorem Try.ty.st29 : isStr Try.prog 29 = false := by kernel_rfl
@[go_sem] theorem Try.ty.bo29 : isBool Try.prog 29 = false := by kernel_rfl
@[go_sem] theorem Try.ty.ki29 : kindOf Try.prog 29 = none := by kernel_rfl
@[go_sem] theorem Try.ty.if29 : isIface Try.prog 29 = some false := by kernel_rfl
@[go_sem] theorem Try.ty.sz30 : szOf Try.prog 30 = some 1 := by kernel_rfl
@[go_sem] theorem Try.ty.by30 : bytesIn Try.prog 30 = some 8 := by kernel_rfl
@[go_sem] theorem Try.ty.ag30 : aggOf Try.prog 30 = some false := by kernel_rfl
@[go_sem] theorem Try.ty.zr30 : zeroOf Try.prog 30 = some [.val .nilFunc] := by kernel_rfl
@[go_sem] theorem Try.ty.el30 : elemOfSlice Try.prog 30 = none := by kernel_rfl
@[go_sem] theorem Try.ty.ar30 : arrayOf Try.prog 30 = none := by kernel_rfl
@[go_sem] theorem Try.ty.st30 : isStr Try.prog 30 = false := by kernel_rfl
@[go_sem] theorem Try.ty.bo30 : isBool Try.prog 30 = false := by kernel_rfl
@[go_sem] theorem Try.ty.ki30 : kindOf Try.prog 30 = none := by kernel_rfl
@[go_sem] theorem Try.ty.if30 : isIface Try.prog 30 = some false := by kernel_rfl
@[go_sem] theorem Try.ty.sz31 : szOf Try.prog 31 = some 1 := by kernel_rfl
@[go_sem] theorem Try.ty.by31 : bytesIn Try.prog 31 = some 8 := by kernel_rfl
@[go_sem] theorem Try.ty.ag31 : aggOf Try.prog 31 = some false := by kernel_rfl
@[go_sem] theorem Try.ty.zr31 : zeroOf Try.prog 31 = some [.val .nilFunc] := by kernel_rfl
@[go_sem] theorem Try.ty.el31 : elemOfSlice Try.prog 31 = none := by kernel_rfl
@[go_sem] theorem Try.ty.ar31 : arrayOf Try.prog 31 = none := by kernel_rfl
@[go_sem] theorem Try.ty.st31 : isStr Try.prog 31 = false := by kernel_rfl
@[go_sem] theorem Try.ty.bo31 : isBool Try.prog 31 = false := by kernel_rfl
@[go_sem] theorem Try.ty.ki31 : kindOf Try.prog 31 = none := by kernel_rfl
@[go_sem] theorem Try.ty.if31 : isIface Try.prog 31 = some false := by kernel_rfl
@[go_sem] theorem Try.ty.sz32 : szOf Try.prog 32 = some 1 := by kernel_rfl
@[go_sem] theorem Try.ty.by32 : bytesIn Try.prog 32 = some 8 := by kernel_rfl
@[go_sem] theorem Try.ty.ag32 : aggOf Try.prog 32 = some false := by kernel_rfl
@[go_sem] theorem Try.ty.zr32 : zeroOf Try.prog 32 = some [.val .nilFunc] := by kernel_rfl
@[go_sem] theorem Try.ty.el32 : elemOfSlice Try.prog 32 = none := by kernel_rfl
@[go_sem] theorem Try.ty.ar32 : arrayOf Try.prog 32 = none := by kernel_rfl
@[go_sem] theorem Try.ty.st32 : isStr Try.prog 32 = false := by kernel_rfl
@[go_sem] theorem Try.ty.bo32 : isBool Try.prog 32 = false := by kernel_rfl
@[go_sem] theorem Try.ty.ki32 : kindOf Try.prog 32 = none := by kernel_rfl
@[go_sem] theorem Try.ty.if32 : isIface Try.prog 32 = some false := by kernel_rfl
@[go_sem] theorem Try.ty.sz33 : szOf Try.prog 33 = some 1 := by kernel_rfl
@[go_sem] theorem Try.ty.by33 : bytesIn Try.prog 33 = some 8 := by kernel_rfl
@[go_sem] theorem Try.ty.ag33 : aggOf Try.prog 33 = some false := by kernel_rfl
@[go_sem] theorem Try.ty.zr33 : zeroOf Try.prog 33 = some [.val .nilFunc] := by kernel_rfl
@[go_sem] theorem Try.ty.el33 : elemOfSlice Try.prog 33 = none := by kernel_rfl
@[go_sem] theorem Try.ty.ar33 : arrayOf Try.prog 33 = none := by kernel_rfl
@[go_sem] theorem Try.ty.st33 : isStr Try.prog 33 = false := by kernel_rfl
@[go_sem] theorem Try.ty.bo33 : isBool Try.prog 33 = false := by kernel_rfl
@[go_sem] theorem Try.ty.ki33 : kindOf Try.prog 33 = none := by kernel_rfl
@[go_sem] theorem Try.ty.if33 : isIface Try.prog 33 = some false := by kernel_rfl
@[go_sem] theorem Try.ty.sz34 : szOf Try.prog 34 = some 1 := by kernel_rfl
@[go_sem] theorem Try.ty.by34 : bytesIn Try.prog 34 = some 8 := by kernel_rfl
@[go_sem] theorem Try.ty.ag34 : aggOf Try.prog 34 = some false := by kernel_rfl
@[go_sem] theorem Try.ty.zr34 : zeroOf Try.prog 34 = some [.val .nilFunc] := by kernel_rfl
@[go_sem] theorem Try.ty.el34 : elemOfSlice Try.prog 34 = none := by kernel_rfl
@[go_sem] theorem Try.ty.ar34 : arrayOf Try.prog 34 = none := by kernel_rfl
@[go_sem] theorem Try.ty.st34 : isStr Try.prog 34 = false := by kernel_rfl
@[go_sem] theorem Try.ty.bo34 : isBool Try.prog 34 = false := by kernel_rfl
@[go_sem] theorem Try.ty.ki34 : kindOf Try.prog 34 = none := by kernel_rfl
@[go_sem] theorem Try.ty.if34 : isIface Try.prog 34 = some false := by kernel_rfl
@[go_sem] theorem Try.ty.sz35 : szOf Try.prog 35 = some 1 := by kernel_rfl
@[go_sem] theorem Try.ty.by35 : bytesIn Try.prog 35 = some 8 := by kernel_rfl
@[go_sem] theorem Try.ty.ag35 : aggOf Try.prog 35 = some false := by kernel_rfl
@[go_sem] theorem Try.ty.zr35 : zeroOf Try.prog 35 = some [.val .nilFunc] := by kernel_rfl
@[go_sem] theorem Try.ty.el35 : elemOfSlice Try.prog 35 = none := by kernel_rfl
@[go_sem] theorem Try.ty.ar35 : arrayOf Try.prog 35 = none := by kernel_rfl
@[go_sem] theorem Try.ty.st35 : isStr Try.prog 35 = false := by kernel_rfl
@[go_sem] theorem Try.ty.bo35 : isBool Try.prog 35 = false := by kernel_rfl
@[go_sem] theorem Try.ty.ki35 : kindOf Try.prog 35 = none := by kernel_rfl
@[go_sem] theorem Try.ty.if35 : isIface Try.prog 35 = some false := by kernel_rfl
@[go_sem] theorem Try.ty.sz36 : szOf Try.prog 36 = some 1 := by kernel_rfl
@[go_sem] theorem Try.ty.by36 : bytesIn Try.prog 36 = some 8 := by kernel_rfl
@[go_sem] theorem Try.ty.ag36 : aggOf Try.prog 36 = some false := by kernel_rfl
@[go_sem] theorem Try.ty.zr36 : zeroOf Try.prog 36 = some [.val .nilFunc] := by kernel_rfl
@[go_sem] theorem Try.ty.el36 : elemOfSlice Try.prog 36 = none := by kernel_rfl
@[go_sem] theorem Try.ty.ar36 : arrayOf Try.prog 36 = none := by kernel_rfl
@[go_sem] theorem Try.ty.st36 : isStr Try.prog 36 = false := by kernel_rfl
@[go_sem] theorem Try.ty.bo36 : isBool Try.prog 36 = false := by kernel_rfl
@[go_sem] theorem Try.ty.ki36 : kindOf Try.prog 36 = none := by kernel_rfl
@[go_sem] theorem Try.ty.if36 : isIface Try.prog 36 = some false := by kernel_rfl
@[go_sem] theorem Try.ty.sz37 : szOf Try.prog 37 = some 1 := by kernel_rfl
@[go_sem] theorem Try.ty.by37 : bytesIn Try.prog 37 = some 24 := by kernel_rfl
@[go_sem] theorem Try.ty.ag37 : aggOf Try.prog 37 = some false := by kernel_rfl
@[go_sem] theorem Try.ty.zr37 : zeroOf Try.prog 37 = some [.val (.slice none 0 0)] := by kernel_rfl
@[go_sem] theorem Try.ty.el37 : elemOfSlice Try.prog 37 = some 71 := by kernel_rfl
@[go_sem] theorem Try.ty.ar37 : arrayOf Try.prog 37 = none := by kernel_rfl
@[go_sem] theorem Try.ty.st37 : isStr Try.prog 37 = false := by kernel_rfl
@[go_sem] theorem Try.ty.bo37 : isBool Try.prog 37 = false := by kernel_rfl
@[go_sem] theorem Try.ty.ki37 : kindOf Try.prog 37 = none := by kernel_rfl
@[go_sem] theorem Try.ty.if37 : isIface Try.prog 37 = some false := by kernel_rfl
@[go_sem] theorem Try.ty.un37 : Try.prog.underlying 37 = some (.slice 71) := by kernel_rfl
@[go_sem] theorem Try.ty.sz38 : szOf Try.prog 38 = some 1 := by kernel_rfl
@[go_sem] theorem Try.ty.by38 : bytesIn Try.prog 38 = some 8 := by kernel_rfl
@[go_sem] theorem Try.ty.ag38 : aggOf Try.prog 38 = some false := by kernel_rfl
@[go_sem] theorem Try.ty.zr38 : zeroOf Try.prog 38 = some [.val .nilFunc] := by kernel_rfl
@[go_sem] theorem Try.ty.el38 : elemOfSlice Try.prog 38 = none := by kernel_rfl
@[go_sem] theorem Try.ty.ar38 : arrayOf Try.prog 38 = none := by kernel_rfl
@[go_sem] theorem Try.ty.st38 : isStr Try.prog 38 = false := by kernel_rfl
@[go_sem] theorem Try.ty.bo38 : isBool Try.prog 38 = false := by kernel_rfl
@[go_sem] theorem Try.ty.ki38 : kindOf Try.prog 38 = none := by kernel_rfl
@[go_sem] theorem Try.ty.if38 : isIface Try.prog 38 = some false := by kernel_rfl
@[go_sem] theorem Try.ty.sz39 : szOf Try.prog 39 = some 1 := by kernel_rfl
@[go_sem] theorem Try.ty.by39 : bytesIn Try.prog 39 = some 8 := by kernel_rfl
@[go_sem] theorem Try.ty.ag39 : aggOf Try.prog 39 = some false := by kernel_rfl
@[go_sem] theorem Try.ty.zr39 : zeroOf Try.prog 39 = some [.val .nilFunc] := by kernel_rfl
@[go_sem] theorem Try.ty.el39 : elemOfSlice Try.prog 39 = none := by kernel_rfl
@[go_sem] theorem Try.ty.ar39 : arrayOf Try.prog 39 = none := by kernel_rfl
@[go_sem] theorem Try.ty.st39 : isStr Try.prog 39 = false := by kernel_rfl
@[go_sem] theorem Try.ty.bo39 : isBool Try.prog 39 = false := by kernel_rfl
@[go_sem] theorem Try.ty.ki39 : kindOf Try.prog 39 = none := by kernel_rfl
@[go_sem] theorem Try.ty.if39 : isIface Try.prog 39 = some false := by kernel_rfl
@[go_sem] theorem Try.ty.sz40 : szOf Try.prog 40 = some 1 := by kernel_rfl
@[go_sem] theorem Try.ty.by40 : bytesIn Try.prog 40 = some 24 := by kernel_rfl
@[go_sem] theorem Try.ty.ag40 : aggOf Try.prog 40 = some false := by kernel_rfl
@[go_sem] theorem Try.ty.zr40 : zeroOf Try.prog 40 = some [.val (.slice none 0 0)] := by kernel_rfl
@[go_sem] theorem Try.ty.el40 : elemOfSlice Try.prog 40 = some 69 := by kernel_rfl
@[go_sem] theorem Try.ty.ar40 : arrayOf Try.prog 40 = none := by kernel_rfl
@[go_sem] theorem Try.ty.st40 : isStr Try.prog 40 = false := by kernel_rfl
@[go_sem] theorem Try.ty.bo40 : isBool Try.prog 40 = false := by kernel_rfl
@[go_sem] theorem Try.ty.ki40 : kindOf Try.prog 40 = none := by kernel_rfl
@[go_sem] theorem Try.ty.if40 : isIface Try.prog 40 = some false := by kernel_rfl
@[go_sem] theorem Try.ty.un40 : Try.prog.underlying 40 = some (.slice 69) := by kernel_rfl
@[go_sem] theorem Try.ty.sz41 : szOf Try.prog 41 = some 1 := by kernel_rfl
@[go_sem] theorem Try.ty.by41 : bytesIn Try.prog 41 = some 8 := by kernel_rfl
@[go_sem] theorem Try.ty.ag41 : aggOf Try.prog 41 = some false := by kernel_rfl
@[go_sem] theorem Try.ty.zr41 : zeroOf Try.prog 41 = some [.val .nilFunc] := by kernel_rfl
@[go_sem] theorem Try.ty.el41 : elemOfSlice Try.prog 41 = none := by kernel_rfl
@[go_sem] theorem Try.ty.ar41 : arrayOf Try.prog 41 = none := by kernel_rfl
@[go_sem] theorem Try.ty.st41 : isStr Try.prog 41 = false := by kernel_rfl
@[go_sem] theorem Try.ty.bo41 : isBool Try.prog 41 = false := by kernel_rfl
@[go_sem] theorem Try.ty.ki41 : kindOf Try.prog 41 = none := by kernel_rfl
@[go_sem] theorem Try.ty.if41 : isIface Try.prog 41 = some false := by kernel_rfl
@[go_sem] theorem Try.ty.sz42 : szOf Try.prog 42 = some 1 := by kernel_rfl
@[go_sem] theorem Try.ty.by42 : bytesIn Try.prog 42 = some 8 := by kernel_rfl
@[go_sem] theorem Try.ty.ag42 : aggOf Try.prog 42 = some false := by kernel_rfl
@[go_sem] theorem Try.ty.zr42 : zeroOf Try.prog 42 = some [.val .nilFunc] := by kernel_rfl
@[go_sem] theorem Try.ty.el42 : elemOfSlice Try.prog 42 = none := by kernel_rfl
@[go_sem] theorem Try.ty.ar42 : arrayOf Try.prog 42 = none := by kernel_rfl
@[go_sem] theorem Try.ty.st42 : isStr Try.prog 42 = false := by kernel_rfl
@[go_sem] theorem Try.ty.bo42 : isBool Try.prog 42 = false := by kernel_rfl
@[go_sem] theorem Try.ty.ki42 : kindOf Try.prog 42 = none := by kernel_rfl
@[go_sem] theorem Try.ty.if42 : isIface Try.prog 42 = some false := by kernel_rfl
@[go_sem] theorem Try.ty.sz43 : szOf Try.prog 43 = some 1 := by kernel_rfl
@[go_sem] theorem Try.ty.by43 : bytesIn Try.prog 43 = some 8 := by kernel_rfl
@[go_sem] theorem Try.ty.ag43 : aggOf Try.prog 43 = some false := by kernel_rfl
@[go_sem] theorem Try.ty.zr43 : zeroOf Try.prog 43 = some [.val .nilFunc] := by kernel_rfl
@[go_sem] theorem Try.ty.el43 : elemOfSlice Try.prog 43 = none := by kernel_rfl
@[go_sem] theorem Try.ty.ar43 : arrayOf Try.prog 43 = none := by kernel_rfl
@[go_sem] theorem Try.ty.st43 : isStr Try.prog 43 = false := by kernel_rfl
@[go_sem] theorem Try.ty.bo43 : isBool Try.prog 43 = false := by kernel_rfl
@[go_sem] theorem Try.ty.ki43 : kindOf Try.prog 43 = none := by kernel_rfl
@[go_sem] theorem Try.ty.if43 : isIface Try.prog 43 = some false := by kernel_rfl
@[go_sem] theorem Try.ty.sz44 : szOf Try.prog 44 = some 1 := by kernel_rfl
@[go_sem] theorem Try.ty.by44 : bytesIn Try.prog 44 = some 8 := by kernel_rfl
@[go_sem] theorem Try.ty.ag44 : aggOf Try.prog 44 = some false := by kernel_rfl
@[go_sem] theorem Try.ty.zr44 : zeroOf Try.prog 44 = some [.val .nilFunc] := by kernel_rfl
@[go_sem] theorem Try.ty.el44 : elemOfSlice Try.prog 44 = none := by kernel_rfl
@[go_sem] theorem Try.ty.ar44 : arrayOf Try.prog 44 = none := by kernel_rfl
@[go_sem] theorem Try.ty.st44 : isStr Try.prog 44 = false := by kernel_rfl
@[go_sem] theorem Try.ty.bo44 : isBool Try.prog 44 = false := by kernel_rfl
@[go_sem] theorem Try.ty.ki44 : kindOf Try.prog 44 = none := by kernel_rfl
@[go_sem] theorem Try.ty.if44 : isIface Try.prog 44 = some false := by kernel_rfl
@[go_sem] theorem Try.ty.sz45 : szOf Try.prog 45 = some 1 := by kernel_rfl
@[go_sem] theorem Try.ty.by45 : bytesIn Try.prog 45 = some 8 := by kernel_rfl
@[go_sem] theorem Try.ty.ag45 : aggOf Try.prog 45 = some false := by kernel_rfl
@[go_sem] theorem Try.ty.zr45 : zeroOf Try.prog 45 = some [.val .nilFunc] := by kernel_rfl
@[go_sem] theorem Try.ty.el45 : elemOfSlice Try.prog 45 = none := by kernel_rfl
@[go_sem] theorem Try.ty.ar45 : arrayOf Try.prog 45 = none := by kernel_rfl
@[go_sem] theorem Try.ty.st45 : isStr Try.prog 45 = false := by kernel_rfl
@[go_sem] theorem Try.ty.bo45 : isBool Try.prog 45 = false := by kernel_rfl
@[go_sem] theorem Try.ty.ki45 : kindOf Try.prog 45 = none := by kernel_rfl
@[go_sem] theorem Try.ty.if45 : isIface Try.prog 45 = some false := by kernel_rfl
@[go_sem] theorem Try.ty.sz46 : szOf Try.prog 46 = some 1 := by kernel_rfl
@[go_sem] theorem Try.ty.by46 : bytesIn Try.prog 46 = some 8 := by kernel_rfl
@[go_sem] theorem Try.ty.ag46 : aggOf Try.prog 46 = some false := by kernel_rfl
@[go_sem] theorem Try.ty.zr46 : zeroOf Try.prog 46 = some [.val .nilFunc] := by kernel_rfl
@[go_sem] theorem Try.ty.el46 : elemOfSlice Try.prog 46 = none := by kernel_rfl
@[go_sem] theorem Try.ty.ar46 : arrayOf Try.prog 46 = none := by kernel_rfl
@[go_sem] theorem Try.ty.st46 : isStr Try.prog 46 = false := by kernel_rfl
@[go_sem] theorem Try.ty.bo46 : isBool Try.prog 46 = false := by kernel_rfl
@[go_sem] theorem Try.ty.ki46 : kindOf Try.prog 46 = none := by kernel_rfl
@[go_sem] theorem Try.ty.if46 : isIface Try.prog 46 = some false := by kernel_rfl
@[go_sem] theorem Try.ty.sz47 : szOf Try.prog 47 = some 1 := by kernel_rfl
@[go_sem] theorem Try.ty.by47 : bytesIn Try.prog 47 = some 24 := by kernel_rfl
@[go_sem] theorem Try.ty.ag47 : aggOf Try.prog 47 = some false := by kernel_rfl
@[go_sem] theorem Try.ty.zr47 : zeroOf Try.prog 47 = some [.val (.slice none 0 0)] := by kernel_rfl
@[go_sem] theorem Try.ty.el47 : elemOfSlice Try.prog 47 = some 82 := by kernel_rfl
@[go_sem] theorem Try.ty.ar47 : arrayOf Try.prog 47 = none := by kernel_rfl
@[go_sem] theorem Try.ty.st47 : isStr Try.prog 47 = false := by kernel_rfl
@[go_sem] theorem Try.ty.bo47 : isBool Try.prog 47 = false := by kernel_rfl
@[go_sem] theorem Try.ty.ki47 : kindOf Try.prog 47 = none := by kernel_rfl
@[go_sem] theorem Try.ty.if47 : isIface Try.prog 47 = some false := by kernel_rfl
@[go_sem] theorem Try.ty.un47 : Try.prog.underlying 47 = some (.slice 82) := by kernel_rfl
@[go_sem] theorem Try.ty.sz48 : szOf Try.prog 48 = some 1 := by kernel_rfl
@[go_sem] theorem Try.ty.by48 : bytesIn Try.prog 48 = some 8 := by kernel_rfl
@[go_sem] theorem Try.ty.ag48 : aggOf Try.prog 48 = some false := by kernel_rfl
@[go_sem] theorem Try.ty.zr48 : zeroOf Try.prog 48 = some [.val .nilFunc] := by kernel_rfl
@[go_sem] theorem Try.ty.el48 : elemOfSlice Try.prog 48 = none := by kernel_rfl
@[go_sem] theorem Try.ty.ar48 : arrayOf Try.prog 48 = none := by kernel_rfl
@[go_sem] theorem Try.ty.st48 : isStr Try.prog 48 = false := by kernel_rfl
@[go_sem] theorem Try.ty.bo48 : isBool Try.prog 48 = false := by kernel_rfl
@[go_sem] theorem Try.ty.ki48 : kindOf Try.prog 48 = none := by kernel_rfl
@[go_sem] theorem Try.ty.if48 : isIface Try.prog 48 = some false := by kernel_rfl
@[go_sem] theorem Try.ty.sz49 : szOf Try.prog 49 = some 1 := by kernel_rfl
@[go_sem] theorem Try.ty.by49 : bytesIn Try.prog 49 = some 8 := by kernel_rfl
@[go_sem] theorem Try.ty.ag49 : aggOf Try.prog 49 = some false := by kernel_rfl
@[go_sem] theorem Try.ty.zr49 : zeroOf Try.prog 49 = some [.val .nilFunc] := by kernel_rfl
@[go_sem] theorem Try.ty.el49 : elemOfSlice Try.prog 49 = none := by kernel_rfl
@[go_sem] theorem Try.ty.ar49 : arrayOf Try.prog 49 = none := by kernel_rfl
@[go_sem] theorem Try.ty.st49 : isStr Try.prog 49 = false := by kernel_rfl
@[go_sem] theorem Try.ty.bo49 : isBool Try.prog 49 = false := by kernel_rfl
@[go_sem] theorem Try.ty.ki49 : kindOf Try.prog 49 = none := by kernel_rfl
@[go_sem] theorem Try.ty.if49 : isIface Try.prog 49 = some false := by kernel_rfl
@[go_sem] theorem Try.ty.sz50 : szOf Try.prog 50 = some 1 := by kernel_rfl
@[go_sem] theorem Try.ty.by50 : bytesIn Try.prog 50 = some 24 := by kernel_rfl
@[go_sem] theorem Try.ty.ag50 : aggOf Try.prog 50 = some false := by kernel_rfl
@[go_sem] theorem Try.ty.zr50 : zeroOf Try.prog 50 = some [.val (.slice none 0 0)] := by kernel_rfl
@[go_sem] theorem Try.ty.el50 : elemOfSlice Try.prog 50 = some 78 := by kernel_rfl
@[go_sem] theorem Try.ty.ar50 : arrayOf Try.prog 50 = none := by kernel_rfl
@[go_sem] theorem Try.ty.st50 : isStr Try.prog 50 = false := by kernel_rfl
@[go_sem] theorem Try.ty.bo50 : isBool Try.prog 50 = false := by kernel_rfl
@[go_sem] theorem Try.ty.ki50 : kindOf Try.prog 50 = none := by kernel_rfl
@[go_sem] theorem Try.ty.if50 : isIface Try.prog 50 = some false := by kernel_rfl
@[go_sem] theorem Try.ty.un50 : Try.prog.underlying 50 = some (.slice 78) := by kernel_rfl
@[go_sem] theorem Try.ty.sz51 : szOf Try.prog 51 = some 1 := by kernel_rfl
@[go_sem] theorem Try.ty.by51 : bytesIn Try.prog 51 = some 8 := by kernel_rfl
@[go_sem] theorem Try.ty.ag51 : aggOf Try.prog 51 = some false := by kernel_rfl
@[go_sem] theorem Try.ty.zr51 : zeroOf Try.prog 51 = some [.val .nilFunc] := by kernel_rfl
@[go_sem] theorem Try.ty.el51 : elemOfSlice Try.prog 51 = none := by kernel_rfl
@[go_sem] theorem Try.ty.ar51 : arrayOf Try.prog 51 = none := by kernel_rfl
@[go_sem] theorem Try.ty.st51 : isStr Try.prog 51 = false := by kernel_rfl
@[go_sem] theorem Try.ty.bo51 : isBool Try.prog 51 = false := by kernel_rfl
@[go_sem] theorem Try.ty.ki51 : kindOf Try.prog 51 = none := by kernel_rfl
@[go_sem] theorem Try.ty.if51 : isIface Try.prog 51 = some false := by kernel_rfl
@[go_sem] theorem Try.ty.sz52 : szOf Try.prog 52 = some 1 := by kernel_rfl
@[go_sem] theorem Try.ty.by52 : bytesIn Try.prog 52 = some 8 := by kernel_rfl
@[go_sem] theorem Try.ty.ag52 : aggOf Try.prog 52 = some false := by kernel_rfl
@[go_sem] theorem Try.ty.zr52 : zeroOf Try.prog 52 = some [.val .nilFunc] := by kernel_rfl
@[go_sem] theorem Try.ty.el52 : elemOfSlice Try.prog 52 = none := by kernel_rfl
@[go_sem] theorem Try.ty.ar52 : arrayOf Try.prog 52 = none := by kernel_rfl
@[go_sem] theorem Try.ty.st52 : isStr Try.prog 52 = false := by kernel_rfl
@[go_sem] theorem Try.ty.bo52 : isBool Try.prog 52 = false := by kernel_rfl
@[go_sem] theorem Try.ty.ki52 : kindOf Try.prog 52 = none := by kernel_rfl
@[go_sem] theorem Try.ty.if52 : isIface Try.prog 52 = some false := by kernel_rfl
@[go_sem] theorem Try.ty.sz53 : szOf Try.prog 53 = some 1 := by kernel_rfl
@[go_sem] theorem Try.ty.by53 : bytesIn Try.prog 53 = some 8 := by kernel_rfl
@[go_sem] theorem Try.ty.ag53 : aggOf Try.prog 53 = some false := by kernel_rfl
@[go_sem] theorem Try.ty.zr53 : zeroOf Try.prog 53 = some [.val .nilFunc] := by kernel_rfl
@[go_sem] theorem Try.ty.el53 : elemOfSlice Try.prog 53 = none := by kernel_rfl
@[go_sem] theorem Try.ty.ar53 : arrayOf Try.prog 53 = none := by kernel_rfl
@[go_sem] theorem Try.ty.st53 : isStr Try.prog 53 = false := by kernel_rfl
@[go_sem] theorem Try.ty.bo53 : isBool Try.prog 53 = false := by kernel_rfl
@[go_sem] theorem Try.ty.ki53 : kindOf Try.prog 53 = none := by kernel_rfl
@[go_sem] theorem Try.ty.if53 : isIface Try.prog 53 = some false := by kernel_rfl
@[go_sem] theorem Try.ty.sz54 : szOf Try.prog 54 = some 1 := by kernel_rfl
@[go_sem] theorem Try.ty.by54 : bytesIn Try.prog 54 = some 8 := by kernel_rfl
@[go_sem] theorem Try.ty.ag54 : aggOf Try.prog 54 = some false := by kernel_rfl
@[go_sem] theorem Try.ty.zr54 : zeroOf Try.prog 54 = some [.val .nilFunc] := by kernel_rfl
@[go_sem] theorem Try.ty.el54 : elemOfSlice Try.prog 54 = none := by kernel_rfl
@[go_sem] theorem Try.ty.ar54 : arrayOf Try.prog 54 = none := by kernel_rfl
@[go_sem] theorem Try.ty.st54 : isStr Try.prog 54 = false := by kernel_rfl
@[go_sem] theorem Try.ty.bo54 : isBool Try.prog 54 = false := by kernel_rfl
@[go_sem] theorem Try.ty.ki54 : kindOf Try.prog 54 = none := by kernel_rfl
@[go_sem] theorem Try.ty.if54 : isIface Try.prog 54 = some false := by kernel_rfl
@[go_sem] theorem Try.ty.sz55 : szOf Try.prog 55 = some 1 := by kernel_rfl
@[go_sem] theorem Try.ty.by55 : bytesIn Try.prog 55 = some 8 := by kernel_rfl
@[go_sem] theorem Try.ty.ag55 : aggOf Try.prog 55 = some false := by kernel_rfl
@[go_sem] theorem Try.ty.zr55 : zeroOf Try.prog 55 = some [.val .nilFunc] := by kernel_rfl
@[go_sem] theorem Try.ty.el55 : elemOfSlice Try.prog 55 = none := by kernel_rfl
@[go_sem] theorem Try.ty.ar55 : arrayOf Try.prog 55 = none := by kernel_rfl
@[go_sem] theorem Try.ty.st55 : isStr Try.prog 55 = false := by kernel_rfl
@[go_sem] theorem Try.ty.bo55 : isBool Try.prog 55 = false := by kernel_rfl
@[go_sem] theorem Try.ty.ki55 : kindOf Try.prog 55 = none := by kernel_rfl
@[go_sem] theorem Try.ty.if55 : isIface Try.prog 55 = some false := by kernel_rfl
@[go_sem] theorem Try.ty.sz56 : szOf Try.prog 56 = some 1 := by kernel_rfl
@[go_sem] theorem Try.ty.by56 : bytesIn Try.prog 56 = some 8 := by kernel_rfl
@[go_sem] theorem Try.ty.ag56 : aggOf Try.prog 56 = some false := by kernel_rfl
@[go_sem] theorem Try.ty.zr56 : zeroOf Try.prog 56 = some [.val .nilFunc] := by kernel_rfl
@[go_sem] theorem Try.ty.el56 : elemOfSlice Try.prog 56 = none := by kernel_rfl
@[go_sem] theorem Try.ty.ar56 : arrayOf Try.prog 56 = none := by kernel_rfl
@[go_sem] theorem Try.ty.st56 : isStr Try.prog 56 = false := by kernel_rfl
@[go_sem] theorem Try.ty.bo56 : isBool Try.prog 56 = false := by kernel_rfl
@[go_sem] theorem Try.ty.ki56 : kindOf Try.prog 56 = none := by kernel_rfl
@[go_sem] theorem Try.ty.if56 : isIface Try.prog 56 = some false := by kernel_rfl
@[go_sem] theorem Try.ty.sz57 : szOf Try.prog 57 = some 1 := by kernel_rfl
@[go_sem] theorem Try.ty.by57 : bytesIn Try.prog 57 = some 8 := by kernel_rfl
@[go_sem] theorem Try.ty.ag57 : aggOf Try.prog 57 = some false := by kernel_rfl
@[go_sem] theorem Try.ty.zr57 : zeroOf Try.prog 57 = some [.val .nilFunc] := by kernel_rfl
@[go_sem] theorem Try.ty.el57 : elemOfSlice Try.prog 57 = none := by kernel_rfl
@[go_sem] theorem Try.ty.ar57 : arrayOf Try.prog 57 = none := by kernel_rfl
@[go_sem] theorem Try.ty.st57 : isStr Try.prog 57 = false := by kernel_rfl
@[go_sem] theorem Try.ty.bo57 : isBool Try.prog 57 = false := by kernel_rfl
@[go_sem] theorem Try.ty.ki57 : kindOf Try.prog 57 = none := by kernel_rfl
@[go_sem] theorem Try.ty.if57 : isIface Try.prog 57 = some false := by kernel_rfl
@[go_sem] theorem Try.ty.sz58 : szOf Try.prog 58 = some 1 := by kernel_rfl
@[go_sem] theorem Try.ty.by58 : bytesIn Try.prog 58 = some 8 := by kernel_rfl
@[go_sem] theorem Try.ty.ag58 : aggOf Try.prog 58 = some false := by kernel_rfl
@[go_sem] theorem Try.ty.zr58 : zeroOf Try.prog 58 = some [.val .nilFunc] := by kernel_rfl
@[go_sem] theorem Try.ty.el58 : elemOfSlice Try.prog 58 = none := by kernel_rfl
@[go_sem] theorem Try.ty.ar58 : arrayOf Try.prog 58 = none := by kernel_rfl
@[go_sem] theorem Try.ty.st58 : isStr Try.prog 58 = false := by kernel_rfl
@[go_sem] theorem Try.ty.bo58 : isBool Try.prog 58 = false := by kernel_rfl
@[go_sem] theorem Try.ty.ki58 : kindOf Try.prog 58 = none := by kernel_rfl
@[go_sem] theorem Try.ty.if58 : isIface Try.prog 58 = some false := by kernel_rfl
@[go_sem] theorem Try.ty.sz59 : szOf Try.prog 59 = some 1 := by kernel_rfl
@[go_sem] theorem Try.ty.by59 : bytesIn Try.prog 59 = some 8 := by kernel_rfl
@[go_sem] theorem Try.ty.ag59 : aggOf Try.prog 59 = some false := by kernel_rfl
@[go_sem] theorem Try.ty.zr59 : zeroOf Try.prog 59 = some [.val .nilFunc] := by kernel_rfl
@[go_sem] theorem Try.ty.el59 : elemOfSlice Try.prog 59 = none := by kernel_rfl
@[go_sem] theorem Try.ty.ar59 : arrayOf Try.prog 59 = none := by kernel_rfl
@[go_sem] theorem Try.ty.st59 : isStr Try.prog 59 = false := by kernel_rfl
@[go_sem] theorem Try.ty.bo59 : isBool Try.prog 59 = false := by kernel_rfl
@[go_sem] theorem Try.ty.ki59 : kindOf Try.prog 59 = none := by kernel_rfl
@[go_sem] theorem Try.ty.if59 : isIface Try.prog 59 = some false := by kernel_rfl
@[go_sem] theorem Try.ty.sz60 : szOf Try.prog 60 = some 1 := by kernel_rfl
@[go_sem] theorem Try.ty.by60 : bytesIn Try.prog 60 = some 24 := by kernel_rfl
@[go_sem] theorem Try.ty.ag60 : aggOf Try.prog 60 = some false := by kernel_rfl
@[go_sem] theorem Try.ty.zr60 : zeroOf Try.prog 60 = some [.val (.slice none 0 0)] := by kernel_rfl
@[go_sem] theorem Try.ty.el60 : elemOfSlice Try.prog 60 = some 62 := by kernel_rfl
@[go_sem] theorem Try.ty.ar60 : arrayOf Try.prog 60 = none := by kernel_rfl
@[go_sem] theorem Try.ty.st60 : isStr Try.prog 60 = false := by kernel_rfl
@[go_sem] theorem Try.ty.bo60 : isBool Try.prog 60 = false := by kernel_rfl
@[go_sem] theorem Try.ty.ki60 : kindOf Try.prog 60 = none := by kernel_rfl
@[go_sem] theorem Try.ty.if60 : isIface Try.prog 60 = some false := by kernel_rfl
@[go_sem] theorem Try.ty.un60 : Try.prog.underlying 60 = some (.slice 62) := by kernel_rfl
@[go_sem] theorem Try.ty.sz61 : szOf Try.prog 61 = some 1 := by kernel_rfl
@[go_sem] theorem Try.ty.by61 : bytesIn Try.prog 61 = some 8 := by kernel_rfl
@[go_sem] theorem Try.ty.ag61 : aggOf Try.prog 61 = some false := by kernel_rfl
@[go_sem] theorem Try.ty.zr61 : zeroOf Try.prog 61 = some [.val .nilFunc] := by kernel_rfl
@[go_sem] theorem Try.ty.el61 : elemOfSlice Try.prog 61 = none := by kernel_rfl
@[go_sem] theorem Try.ty.ar61 : arrayOf Try.prog 61 = none := by kernel_rfl
@[go_sem] theorem Try.ty.st61 : isStr Try.prog 61 = false := by kernel_rfl
@[go_sem] theorem Try.ty.bo61 : isBool Try.prog 61 = false := by kernel_rfl
@[go_sem] theorem Try.ty.ki61 : kindOf Try.prog 61 = none := by kernel_rfl
@[go_sem] theorem Try.ty.if61 : isIface Try.prog 61 = some false := by kernel_rfl
@[go_sem] theorem Try.ty.sz62 : szOf Try.prog 62 = some 1 := by kernel_rfl
@[go_sem] theorem Try.ty.by62 : bytesIn Try.prog 62 = some 24 := by kernel_rfl
@[go_sem] theorem Try.ty.ag62 : aggOf Try.prog 62 = some false := by kernel_rfl
@[go_sem] theorem Try.ty.zr62 : zeroOf Try.prog 62 = some [.val (.slice none 0 0)] := by kernel_rfl
@[go_sem] theorem Try.ty.el62 : elemOfSlice Try.prog 62 = some 4 := by kernel_rfl
@[go_sem] theorem Try.ty.ar62 : arrayOf Try.prog 62 = none := by kernel_rfl
@[go_sem] theorem Try.ty.st62 : isStr Try.prog 62 = false := by kernel_rfl
@[go_sem] theorem Try.ty.bo62 : isBool Try.prog 62 = false := by kernel_rfl
@[go_sem] theorem Try.ty.ki62 : kindOf Try.prog 62 = none := by kernel_rfl
@[go_sem] theorem Try.ty.if62 : isIface Try.prog 62 = some false := by kernel_rfl
@[go_sem] theorem Try.ty.un62 : Try.prog.underlying 62 = some (.slice 4) := by kernel_rfl
@[go_sem] theorem Try.ty.sz63 : szOf Try.prog 63 = some 1 := by kernel_rfl
@[go_sem] theorem Try.ty.by63 : bytesIn Try.prog 63 = some 8 := by kernel_rfl
@[go_sem] theorem Try.ty.ag63 : aggOf Try.prog 63 = some false := by kernel_rfl
@[go_sem] theorem Try.ty.zr63 : zeroOf Try.prog 63 = some [.val .nilFunc] := by kernel_rfl
@[go_sem] theorem Try.ty.el63 : elemOfSlice Try.prog 63 = none := by kernel_rfl
@[go_sem] theorem Try.ty.ar63 : arrayOf Try.prog 63 = none := by kernel_rfl
@[go_sem] theorem Try.ty.st63 : isStr Try.prog 63 = false := by kernel_rfl
@[go_sem] theorem Try.ty.bo63 : isBool Try.prog 63 = false := by kernel_rfl
@[go_sem] theorem Try.ty.ki63 : kindOf Try.prog 63 = none := by kernel_rfl
@[go_sem] theorem Try.ty.if63 : isIface Try.prog 63 = some false := by kernel_rfl
@[go_sem] theorem Try.ty.sz64 : szOf Try.prog 64 = some 1 := by kernel_rfl
@[go_sem] theorem Try.ty.by64 : bytesIn Try.prog 64 = some 8 := by kernel_rfl
@[go_sem] theorem Try.ty.ag64 : aggOf Try.prog 64 = some false := by kernel_rfl
@[go_sem] theorem Try.ty.zr64 : zeroOf Try.prog 64 = some [.val .nilFunc] := by kernel_rfl
@[go_sem] theorem Try.ty.el64 : elemOfSlice Try.prog 64 = none := by kernel_rfl
@[go_sem] theorem Try.ty.ar64 : arrayOf Try.prog 64 = none := by kernel_rfl
@[go_sem] theorem Try.ty.st64 : isStr Try.prog 64 = false := by kernel_rfl
@[go_sem] theorem Try.ty.bo64 : isBool Try.prog 64 = false := by kernel_rfl
@[go_sem] theorem Try.ty.ki64 : kindOf Try.prog 64 = none := by kernel_rfl
@[go_sem] theorem Try.ty.if64 : isIface Try.prog 64 = some false := by kernel_rfl
@[go_sem] theorem Try.ty.sz65 : szOf Try.prog 65 = some 1 := by kernel_rfl
@[go_sem] theorem Try.ty.by65 : bytesIn Try.prog 65 = some 8 := by kernel_rfl
@[go_sem] theorem Try.ty.ag65 : aggOf Try.prog 65 = some false := by kernel_rfl
@[go_sem] theorem Try.ty.zr65 : zeroOf Try.prog 65 = some [.val .nilFunc] := by kernel_rfl
@[go_sem] theorem Try.ty.el65 : elemOfSlice Try.prog 65 = none := by kernel_rfl
@[go_sem] theorem Try.ty.ar65 : arrayOf Try.prog 65 = none := by kernel_rfl
@[go_sem] theorem Try.ty.st65 : isStr Try.prog 65 = false := by kernel_rfl
@[go_sem] theorem Try.ty.bo65 : isBool Try.prog 65 = false := by kernel_rfl
@[go_sem] theorem Try.ty.ki65 : kindOf Try.prog 65 = none := by kernel_rfl
@[go_sem] theorem Try.ty.if65 : isIface Try.prog 65 = some false := by kernel_rfl
@[go_sem] theorem Try.ty.sz66 : szOf Try.prog 66 = some 1 := by kernel_rfl
@[go_sem] theorem Try.ty.by66 : bytesIn Try.prog 66 = some 8 := by kernel_rfl
@[go_sem] theorem Try.ty.ag66 : aggOf Try.prog 66 = some false := by kernel_rfl
@[go_sem] theorem Try.ty.zr66 : zeroOf Try.prog 66 = some [.val .nilFunc] := by kernel_rfl
@[go_sem] theorem Try.ty.el66 : elemOfSlice Try.prog 66 = none := by kernel_rfl
@[go_sem] theorem Try.ty.ar66 : arrayOf Try.prog 66 = none := by kernel_rfl
@[go_sem] theorem Try.ty.st66 : isStr Try.prog 66 = false := by kernel_rfl
@[go_sem] theorem Try.ty.bo66 : isBool Try.prog 66 = false := by kernel_rfl
@[go_sem] theorem Try.ty.ki66 : kindOf Try.prog 66 = none := by kernel_rfl
@[go_sem] theorem Try.ty.if66 : isIface Try.prog 66 = some false := by kernel_rfl
@[go_sem] theorem Try.ty.sz67 : szOf Try.prog 67 = some 1 := by kernel_rfl
@[go_sem] theorem Try.ty.by67 : bytesIn Try.prog 67 = some 8 := by kernel_rfl
@[go_sem] theorem Try.ty.ag67 : aggOf Try.prog 67 = some false := by kernel_rfl
@[go_sem] theorem Try.ty.zr67 : zeroOf Try.prog 67 = some [.val .nilFunc] := by kernel_rfl
@[go_sem] theorem Try.ty.el67 : elemOfSlice Try.prog 67 = none := by kernel_rfl
@[go_sem] theorem Try.ty.ar67 : arrayOf Try.prog 67 = none := by kernel_rfl
@[go_sem] theorem Try.ty.st67 : isStr Try.prog 67 = false := by kernel_rfl
@[go_sem] theorem Try.ty.bo67 : isBool Try.prog 67 = false := by kernel_rfl
@[go_sem] theorem Try.ty.ki67 : kindOf Try.prog 67 = none := by kernel_rfl
@[go_sem] theorem Try.ty.if67 : isIface Try.prog 67 = some false := by kernel_rfl
@[go_sem] theorem Try.ty.sz68 : szOf Try.prog 68 = some 3 := by kernel_rfl
@[go_sem] theorem Try.ty.by68 : bytesIn Try.prog 68 = some 24 := by kernel_rfl
@[go_sem] theorem Try.ty.ag68 : aggOf Try.prog 68 = some true := by kernel_rfl
@[go_sem] theorem Try.ty.zr68 : zeroOf Try.prog 68 = some [.val (.int .i64 0), .val (.int .i64 0), .val (.bool false)] := by kernel_rfl
@[go_sem] theorem Try.ty.el68 : elemOfSlice Try.prog 68 = none := by kernel_rfl
@[go_sem] theorem Try.ty.ar68 : arrayOf Try.prog 68 = none := by kernel_rfl
@[go_sem] theorem Try.ty.st68 : isStr Try.prog 68 = false := by kernel_rfl
@[go_sem] theorem Try.ty.bo68 : isBool Try.prog 68 = false := by kernel_rfl
@[go_sem] theorem Try.ty.ki68 : kindOf Try.prog 68 = none := by kernel_rfl
@[go_sem] theorem Try.ty.if68 : isIface Try.prog 68 = some false := by kernel_rfl
@[go_sem] theorem Try.ty.fo0_68 : fieldOf Try.prog 68 0 = some (3, 0) := by kernel_rfl
@[go_sem] theorem Try.ty.fp0_68 : fieldPl Try.prog 68 0 = some (0, 1) := by kernel_rfl
@[go_sem] theorem Try.ty.fo1_68 : fieldOf Try.prog 68 1 = some (3, 1) := by kernel_rfl
@[go_sem] theorem Try.ty.fp1_68 : fieldPl Try.prog 68 1 = some (1, 1) := by kernel_rfl
@[go_sem] theorem Try.ty.fo2_68 : fieldOf Try.prog 68 2 = some (4, 2) := by kernel_rfl
@[go_sem] theorem Try.ty.fp2_68 : fieldPl Try.prog 68 2 = some (2, 1) := by kernel_rfl
@[go_sem] theorem Try.ty.bk68 : buildOk Try.prog 68 = true := by kernel_rfl
@[go_sem] theorem Try.ty.sz69 : szOf Try.prog 69 = some 3 := by kernel_rfl
@[go_sem] theorem Try.ty.by69 : bytesIn Try.prog 69 = some 24 := by kernel_rfl
@[go_sem] theorem Try.ty.ag69 : aggOf Try.prog 69 = some true := by kernel_rfl
@[go_sem] theorem Try.ty.zr69 : zeroOf Try.prog 69 = some [.val (.int .i64 0), .val (.int .i64 0), .val (.bool false)] := by kernel_rfl
@[go_sem] theorem Try.ty.el69 : elemOfSlice Try.prog 69 = none := by kernel_rfl
@[go_sem] theorem Try.ty.ar69 : arrayOf Try.prog 69 = none := by kernel_rfl
@[go_sem] theorem Try.ty.st69 : isStr Try.prog 69 = false := by kernel_rfl
@[go_sem] theorem Try.ty.bo69 : isBool Try.prog 69 = false := by kernel_rfl
@[go_sem] theorem Try.ty.ki69 : kindOf Try.prog 69 = none := by kernel_rfl
@[go_sem] theorem Try.ty.if69 : isIface Try.prog 69 = some false := by kernel_rfl
@[go_sem] theorem Try.ty.fo0_69 : fieldOf Try.prog 69 0 = some (3, 0) := by kernel_rfl
@[go_sem] theorem Try.ty.fp0_69 : fieldPl Try.prog 69 0 = some (0, 1) := by kernel_rfl
@[go_sem] theorem Try.ty.fo1_69 : fieldOf Try.prog 69 1 = some (3, 1) := by kernel_rfl
@[go_sem] theorem Try.ty.fp1_69 : fieldPl Try.prog 69 1 = some (1, 1) := by kernel_rfl
@[go_sem] theorem Try.ty.fo2_69 : fieldOf Try.prog 69 2 = some (4, 2) := by kernel_rfl
@[go_sem] theorem Try.ty.fp2_69 : fieldPl Try.prog 69 2 = some (2, 1) := by kernel_rfl
@[go_sem] theorem Try.ty.bk69 : buildOk Try.prog 69 = true := by kernel_rfl
@[go_sem] theorem Try.ty.sz70 : szOf Try.prog 70 = some 1 := by kernel_rfl
@[go_sem] theorem Try.ty.by70 : bytesIn Try.prog 70 = some 8 := by kernel_rfl
@[go_sem] theorem Try.ty.ag70 : aggOf Try.prog 70 = some false := by kernel_rfl
@[go_sem] theorem Try.ty.zr70 : zeroOf Try.prog 70 = some [.val .nilFunc] := by kernel_rfl
@[go_sem] theorem Try.ty.el70 : elemOfSlice Try.prog 70 = none := by kernel_rfl
@[go_sem] theorem Try.ty.ar70 : arrayOf Try.prog 70 = none := by kernel_rfl
@[go_sem] theorem Try.ty.st70 : isStr Try.prog 70 = false := by kernel_rfl
@[go_sem] theorem Try.ty.bo70 : isBool Try.prog 70 = false := by kernel_rfl
@[go_sem] theorem Try.ty.ki70 : kindOf Try.prog 70 = none := by kernel_rfl
@[go_sem] theorem Try.ty.if70 : isIface Try.prog 70 = some false := by kernel_rfl
@[go_sem] theorem Try.ty.sz71 : szOf Try.prog 71 = some 3 := by kernel_rfl
@[go_sem] theorem Try.ty.by71 : bytesIn Try.prog 71 = some 24 := by kernel_rfl
@[go_sem] theorem Try.ty.ag71 : aggOf Try.prog 71 = some true := by kernel_rfl
@[go_sem] theorem Try.ty.zr71 : zeroOf Try.prog 71 = some [.val (.int .i64 0), .val (.int .i64 0), .val (.bool false)] := by kernel_rfl
@[go_sem] theorem Try.ty.el71 : elemOfSlice Try.prog 71 = none := by kernel_rfl
@[go_sem] theorem Try.ty.ar71 : arrayOf Try.prog 71 = none := by kernel_rfl
@[go_sem] theorem Try.ty.st71 : isStr Try.prog 71 = false := by kernel_rfl
@[go_sem] theorem Try.ty.bo71 : isBool Try.prog 71 = false := by kernel_rfl
@[go_sem] theorem Try.ty.ki71 : kindOf Try.prog 71 = none := by kernel_rfl
@[go_sem] theorem Try.ty.if71 : isIface Try.prog 71 = some false := by kernel_rfl
@[go_sem] theorem Try.ty.fo0_71 : fieldOf Try.prog 71 0 = some (3, 0) := by kernel_rfl
@[go_sem] theorem Try.ty.fp0_71 : fieldPl Try.prog 71 0 = some (0, 1) := by kernel_rfl
@[go_sem] theorem Try.ty.fo1_71 : fieldOf Try.prog 71 1 = some (3, 1) := by kernel_rfl
@[go_sem] theorem Try.ty.fp1_71 : fieldPl Try.prog 71 1 = some (1, 1) := by kernel_rfl
@[go_sem] theorem Try.ty.fo2_71 : fieldOf Try.prog 71 2 = some (4, 2) := by kernel_rfl
@[go_sem] theorem Try.ty.fp2_71 : fieldPl Try.prog 71 2 = some (2, 1) := by kernel_rfl
@[go_sem] theorem Try.ty.bk71 : buildOk Try.prog 71 = true := by kernel_rfl
@[go_sem] theorem Try.ty.sz72 : szOf Try.prog 72 = some 1 := by kernel_rfl
@[go_sem] theorem Try.ty.by72 : bytesIn Try.prog 72 = some 8 := by kernel_rfl
@[go_sem] theorem Try.ty.ag72 : aggOf Try.prog 72 = some false := by kernel_rfl
@[go_sem] theorem Try.ty.zr72 : zeroOf Try.prog 72 = some [.val .nilFunc] := by kernel_rfl
@[go_sem] theorem Try.ty.el72 : elemOfSlice Try.prog 72 = none := by kernel_rfl
@[go_sem] theorem Try.ty.ar72 : arrayOf Try.prog 72 = none := by kernel_rfl
@[go_sem] theorem Try.ty.st72 : isStr Try.prog 72 = false := by kernel_rfl
@[go_sem] theorem Try.ty.bo72 : isBool Try.prog 72 = false := by kernel_rfl
@[go_sem] theorem Try.ty.ki72 : kindOf Try.prog 72 = none := by kernel_rfl
@[go_sem] theorem Try.ty.if72 : isIface Try.prog 72 = some false := by kernel_rfl
@[go_sem] theorem Try.ty.sz73 : szOf Try.prog 73 = some 1 := by kernel_rfl
@[go_sem] theorem Try.ty.by73 : bytesIn Try.prog 73 = some 8 := by kernel_rfl
@[go_sem] theorem Try.ty.ag73 : aggOf Try.prog 73 = some false := by kernel_rfl
@[go_sem] theorem Try.ty.zr73 : zeroOf Try.prog 73 = some [.val .nilFunc] := by kernel_rfl
@[go_sem] theorem Try.ty.el73 : elemOfSlice Try.prog 73 = none := by kernel_rfl
@[go_sem] theorem Try.ty.ar73 : arrayOf Try.prog 73 = none := by kernel_rfl
@[go_sem] theorem Try.ty.st73 : isStr Try.prog 73 = false := by kernel_rfl
@[go_sem] theorem Try.ty.bo73 : isBool Try.prog 73 = false := by kernel_rfl
@[go_sem] theorem Try.ty.ki73 : kindOf Try.prog 73 = none := by kernel_rfl
@[go_sem] theorem Try.ty.if73 : isIface Try.prog 73 = some false := by kernel_rfl
@[go_sem] theorem Try.ty.sz74 : szOf Try.prog 74 = some 1 := by kernel_rfl
@[go_sem] theorem Try.ty.by74 : bytesIn Try.prog 74 = some 8 := by kernel_rfl
@[go_sem] theorem Try.ty.ag74 : aggOf Try.prog 74 = some false := by kernel_rfl
@[go_sem] theorem Try.ty.zr74 : zeroOf Try.prog 74 = some [.val .nilFunc] := by kernel_rfl
@[go_sem] theorem Try.ty.el74 : elemOfSlice Try.prog 74 = none := by kernel_rfl
@[go_sem] theorem Try.ty.ar74 : arrayOf Try.prog 74 = none := by kernel_rfl
@[go_sem] theorem Try.ty.st74 : isStr Try.prog 74 = false := by kernel_rfl
@[go_sem] theorem Try.ty.bo74 : isBool Try.prog 74 = false := by kernel_rfl
@[go_sem] theorem Try.ty.ki74 : kindOf Try.prog 74 = none := by kernel_rfl
@[go_sem] theorem Try.ty.if74 : isIface Try.prog 74 = some false := by kernel_rfl
@[go_sem] theorem Try.ty.sz75 : szOf Try.prog 75 = some 1 := by kernel_rfl
@[go_sem] theorem Try.ty.by75 : bytesIn Try.prog 75 = some 8 := by kernel_rfl
@[go_sem] theorem Try.ty.ag75 : aggOf Try.prog 75 = some false := by kernel_rfl
@[go_sem] theorem Try.ty.zr75 : zeroOf Try.prog 75 = some [.val .nilFunc] := by kernel_rfl
@[go_sem] theorem Try.ty.el75 : elemOfSlice Try.prog 75 = none := by kernel_rfl
@[go_sem] theorem Try.ty.ar75 : arrayOf Try.prog 75 = none := by kernel_rfl
@[go_sem] theorem Try.ty.st75 : isStr Try.prog 75 = false := by kernel_rfl
@[go_sem] theorem Try.ty.bo75 : isBool Try.prog 75 = false := by kernel_rfl
@[go_sem] theorem Try.ty.ki75 : kindOf Try.prog 75 = none := by kernel_rfl
@[go_sem] theorem Try.ty.if75 : isIface Try.prog 75 = some false := by kernel_rfl
@[go_sem] theorem Try.ty.sz76 : szOf Try.prog 76 = some 1 := by kernel_rfl
@[go_sem] theorem Try.ty.by76 : bytesIn Try.prog 76 = some 8 := by kernel_rfl
@[go_sem] theorem Try.ty.ag76 : aggOf Try.prog 76 = some false := by kernel_rfl
@[go_sem] theorem Try.ty.zr76 : zeroOf Try.prog 76 = some [.val .nilFunc] := by kernel_rfl
@[go_sem] theorem Try.ty.el76 : elemOfSlice Try.prog 76 = none := by kernel_rfl
@[go_sem] theorem Try.ty.ar76 : arrayOf Try.prog 76 = none := by kernel_rfl
@[go_sem] theorem Try.ty.st76 : isStr Try.prog 76 = false := by kernel_rfl
@[go_sem] theorem Try.ty.bo76 : isBool Try.prog 76 = false := by kernel_rfl
@[go_sem] theorem Try.ty.ki76 : kindOf Try.prog 76 = none := by kernel_rfl
@[go_sem] theorem Try.ty.if76 : isIface Try.prog 76 = some false := by kernel_rfl
@[go_sem] theorem Try.ty.sz77 : szOf Try.prog 77 = some 4 := by kernel_rfl
@[go_sem] theorem Try.ty.by77 : bytesIn Try.prog 77 = some 32 := by kernel_rfl
@[go_sem] theorem Try.ty.ag77 : aggOf Try.prog 77 = some true := by kernel_rfl
@[go_sem] theorem Try.ty.zr77 : zeroOf Try.prog 77 = some [.val (.int .i64 0), .val (.int .i64 0), .val (.int .i64 0), .val (.int .i64 0)] := by kernel_rfl
@[go_sem] theorem Try.ty.el77 : elemOfSlice Try.prog 77 = none := by kernel_rfl
@[go_sem] theorem Try.ty.ar77 : arrayOf Try.prog 77 = none := by kernel_rfl
@[go_sem] theorem Try.ty.st77 : isStr Try.prog 77 = false := by kernel_rfl
@[go_sem] theorem Try.ty.bo77 : isBool Try.prog 77 = false := by kernel_rfl
@[go_sem] theorem Try.ty.ki77 : kindOf Try.prog 77 = none := by kernel_rfl
@[go_sem] theorem Try.ty.if77 : isIface Try.prog 77 = some false := by kernel_rfl
@[go_sem] theorem Try.ty.fo0_77 : fieldOf Try.prog 77 0 = some (3, 0) := by kernel_rfl
@[go_sem] theorem Try.ty.fp0_77 : fieldPl Try.prog 77 0 = some (0, 1) := by kernel_rfl
@[go_sem] theorem Try.ty.fo1_77 : fieldOf Try.prog 77 1 = some (3, 1) := by kernel_rfl
@[go_sem] theorem Try.ty.fp1_77 : fieldPl Try.prog 77 1 = some (1, 1) := by kernel_rfl
@[go_sem] theorem Try.ty.fo2_77 : fieldOf Try.prog 77 2 = some (3, 2) := by kernel_rfl
@[go_sem] theorem Try.ty.fp2_77 : fieldPl Try.prog 77 2 = some (2, 1) := by kernel_rfl
@[go_sem] theorem Try.ty.fo3_77 : fieldOf Try.prog 77 3 = some (3, 3) := by kernel_rfl
@[go_sem] theorem Try.ty.fp3_77 : fieldPl Try.prog 77 3 = some (3, 1) := by kernel_rfl
@[go_sem] theorem Try.ty.bk77 : buildOk Try.prog 77 = true := by kernel_rfl
@[go_sem] theorem Try.ty.sz78 : szOf Try.prog 78 = some 4 := by kernel_rfl
@[go_sem] theorem Try.ty.by78 : bytesIn Try.prog 78 = some 32 := by kernel_rfl
@[go_sem] theorem Try.ty.ag78 : aggOf Try.prog 78 = some true := by kernel_rfl
@[go_sem] theorem Try.ty.zr78 : zeroOf Try.prog 78 = some [.val (.int .i64 0), .val (.int .i64 0), .val (.int .i64 0), .val (.int .i64 0)] := by kernel_rfl
@[go_sem] theorem Try.ty.el78 : elemOfSlice Try.prog 78 = none := by kernel_rfl
@[go_sem] theorem Try.ty.ar78 : arrayOf Try.prog 78 = none := by kernel_rfl
@[go_sem] theorem Try.ty.st78 : isStr Try.prog 78 = false := by kernel_rfl
@[go_sem] theorem Try.ty.bo78 : isBool Try.prog 78 = false := by kernel_rfl
@[go_sem] theorem Try.ty.ki78 : kindOf Try.prog 78 = none := by kernel_rfl
@[go_sem] theorem Try.ty.if78 : isIface Try.prog 78 = some false := by kernel_rfl
@[go_sem] theorem Try.ty.fo0_78 : fieldOf Try.prog 78 0 = some (3, 0) := by kernel_rfl
@[go_sem] theorem Try.ty.fp0_78 : fieldPl Try.prog 78 0 = some (0, 1) := by kernel_rfl
@[go_sem] theorem Try.ty.fo1_78 : fieldOf Try.prog 78 1 = some (3, 1) := by kernel_rfl
@[go_sem] theorem Try.ty.fp1_78 : fieldPl Try.prog 78 1 = some (1, 1) := by kernel_rfl
@[go_sem] theorem Try.ty.fo2_78 : fieldOf Try.prog 78 2 = some (3, 2) := by kernel_rfl
@[go_sem] theorem Try.ty.fp2_78 : fieldPl Try.prog 78 2 = some (2, 1) := by kernel_rfl
@[go_sem] theorem Try.ty.fo3_78 : fieldOf Try.prog 78 3 = some (3, 3) := by kernel_rfl
@[go_sem] theorem Try.ty.fp3_78 : fieldPl Try.prog 78 3 = some (3, 1) := by kernel_rfl
@[go_sem] theorem Try.ty.bk78 : buildOk Try.prog 78 = true := by kernel_rfl
@[go_sem] theorem Try.ty.sz79 : szOf Try.prog 79 = some 1 := by kernel_rfl
@[go_sem] theorem Try.ty.by79 : bytesIn Try.prog 79 = some 8 := by kernel_rfl
@[go_sem] theorem Try.ty.ag79 : aggOf Try.prog 79 = some false := by kernel_rfl
@[go_sem] theorem Try.ty.zr79 : zeroOf Try.prog 79 = some [.val .nilFunc] := by kernel_rfl
@[go_sem] theorem Try.ty.el79 : elemOfSlice Try.prog 79 = none := by kernel_rfl
@[go_sem] theorem Try.ty.ar79 : arrayOf Try.prog 79 = none := by kernel_rfl
@[go_sem] theorem Try.ty.st79 : isStr Try.prog 79 = false := by kernel_rfl
@[go_sem] theorem Try.ty.bo79 : isBool Try.prog 79 = false := by kernel_rfl
@[go_sem] theorem Try.ty.ki79 : kindOf Try.prog 79 = none := by kernel_rfl
@[go_sem] theorem Try.ty.if79 : isIface Try.prog 79 = some false := by kernel_rfl
@[go_sem] theorem Try.ty.sz80 : szOf Try.prog 80 = some 1 := by kernel_rfl
@[go_sem] theorem Try.ty.by80 : bytesIn Try.prog 80 = some 8 := by kernel_rfl
@[go_sem] theorem Try.ty.ag80 : aggOf Try.prog 80 = some false := by kernel_rfl
@[go_sem] theorem Try.ty.zr80 : zeroOf Try.prog 80 = some [.val .nilFunc] := by kernel_rfl
@[go_sem] theorem Try.ty.el80 : elemOfSlice Try.prog 80 = none := by kernel_rfl
@[go_sem] theorem Try.ty.ar80 : arrayOf Try.prog 80 = none := by kernel_rfl
@[go_sem] theorem Try.ty.st80 : isStr Try.prog 80 = false := by kernel_rfl
@[go_sem] theorem Try.ty.bo80 : isBool Try.prog 80 = false := by kernel_rfl
@[go_sem] theorem Try.ty.ki80 : kindOf Try.prog 80 = none := by kernel_rfl
@[go_sem] theorem Try.ty.if80 : isIface Try.prog 80 = some false := by kernel_rfl
@[go_sem] theorem Try.ty.sz81 : szOf Try.prog 81 = some 1 := by kernel_rfl
@[go_sem] theorem Try.ty.by81 : bytesIn Try.prog 81 = some 8 := by kernel_rfl
@[go_sem] theorem Try.ty.ag81 : aggOf Try.prog 81 = some false := by kernel_rfl
@[go_sem] theorem Try.ty.zr81 : zeroOf Try.prog 81 = some [.val .nilFunc] := by kernel_rfl
@[go_sem] theorem Try.ty.el81 : elemOfSlice Try.prog 81 = none := by kernel_rfl
@[go_sem] theorem Try.ty.ar81 : arrayOf Try.prog 81 = none := by kernel_rfl
@[go_sem] theorem Try.ty.st81 : isStr Try.prog 81 = false := by kernel_rfl
@[go_sem] theorem Try.ty.bo81 : isBool Try.prog 81 = false := by kernel_rfl
@[go_sem] theorem Try.ty.ki81 : kindOf Try.prog 81 = none := by kernel_rfl
@[go_sem] theorem Try.ty.if81 : isIface Try.prog 81 = some false := by kernel_rfl
@[go_sem] theorem Try.ty.sz82 : szOf Try.prog 82 = some 4 := by kernel_rfl
@[go_sem] theorem Try.ty.by82 : bytesIn Try.prog 82 = some 32 := by kernel_rfl
@[go_sem] theorem Try.ty.ag82 : aggOf Try.prog 82 = some true := by kernel_rfl
@[go_sem] theorem Try.ty.zr82 : zeroOf Try.prog 82 = some [.val (.int .i64 0), .val (.int .i64 0), .val (.int .i64 0), .val (.int .i64 0)] := by kernel_rfl
@[go_sem] theorem Try.ty.el82 : elemOfSlice Try.prog 82 = none := by kernel_rfl
@[go_sem] theorem Try.ty.ar82 : arrayOf Try.prog 82 = none := by kernel_rfl
@[go_sem] theorem Try.ty.st82 : isStr Try.prog 82 = false := by kernel_rfl
@[go_sem] theorem Try.ty.bo82 : isBool Try.prog 82 = false := by kernel_rfl
@[go_sem] theorem Try.ty.ki82 : kindOf Try.prog 82 = none := by kernel_rfl
@[go_sem] theorem Try.ty.if82 : isIface Try.prog 82 = some false := by kernel_rfl
@[go_sem] theorem Try.ty.fo0_82 : fieldOf Try.prog 82 0 = some (3, 0) := by kernel_rfl
@[go_sem] theorem Try.ty.fp0_82 : fieldPl Try.prog 82 0 = some (0, 1) := by kernel_rfl
@[go_sem] theorem Try.ty.fo1_82 : fieldOf Try.prog 82 1 = some (3, 1) := by kernel_rfl
@[go_sem] theorem Try.ty.fp1_82 : fieldPl Try.prog 82 1 = some (1, 1) := by kernel_rfl
@[go_sem] theorem Try.ty.fo2_82 : fieldOf Try.prog 82 2 = some (3, 2) := by kernel_rfl
@[go_sem] theorem Try.ty.fp2_82 : fieldPl Try.prog 82 2 = some (2, 1) := by kernel_rfl
@[go_sem] theorem Try.ty.fo3_82 : fieldOf Try.prog 82 3 = some (3, 3) := by kernel_rfl
@[go_sem] theorem Try.ty.fp3_82 : fieldPl Try.prog 82 3 = some (3, 1) := by kernel_rfl
@[go_sem] theorem Try.ty.bk82 : buildOk Try.prog 82 = true := by kernel_rfl
@[go_sem] theorem Try.ty.sz83 : szOf Try.prog 83 = some 1 := by kernel_rfl
@[go_sem] theorem Try.ty.by83 : bytesIn Try.prog 83 = some 8 := by kernel_rfl
@[go_sem] theorem Try.ty.ag83 : aggOf Try.prog 83 = some false := by kernel_rfl
@[go_sem] theorem Try.ty.zr83 : zeroOf Try.prog 83 = some [.val .nilFunc] := by kernel_rfl
@[go_sem] theorem Try.ty.el83 : elemOfSlice Try.prog 83 = none := by kernel_rfl
@[go_sem] theorem Try.ty.ar83 : arrayOf Try.prog 83 = none := by kernel_rfl
@[go_sem] theorem Try.ty.st83 : isStr Try.prog 83 = false := by kernel_rfl
@[go_sem] theorem Try.ty.bo83 : isBool Try.prog 83 = false := by kernel_rfl
@[go_sem] theorem Try.ty.ki83 : kindOf Try.prog 83 = none := by kernel_rfl
@[go_sem] theorem Try.ty.if83 : isIface Try.prog 83 = some false := by kernel_rfl
@[go_sem] theorem Try.ty.sz84 : szOf Try.prog 84 = some 2 := by kernel_rfl
@[go_sem] theorem Try.ty.by84 : bytesIn Try.prog 84 = some 16 := by kernel_rfl
@[go_sem] theorem Try.ty.ag84 : aggOf Try.prog 84 = some true := by kernel_rfl
@[go_sem] theorem Try.ty.zr84 : zeroOf Try.prog 84 = some [.val (.int .i64 0), .val (.int .i64 0)] := by kernel_rfl
@[go_sem] theorem Try.ty.el84 : elemOfSlice Try.prog 84 = none := by kernel_rfl
@[go_sem] theorem Try.ty.ar84 : arrayOf Try.prog 84 = some (2, 3) := by kernel_rfl
@[go_sem] theorem Try.ty.st84 : isStr Try.prog 84 = false := by kernel_rfl
@[go_sem] theorem Try.ty.bo84 : isBool Try.prog 84 = false := by kernel_rfl
@[go_sem] theorem Try.ty.ki84 : kindOf Try.prog 84 = none := by kernel_rfl
@[go_sem] theorem Try.ty.if84 : isIface Try.prog 84 = some false := by kernel_rfl
@[go_sem] theorem Try.ty.bk84 : buildOk Try.prog 84 = true := by kernel_rfl
@[go_sem] theorem Try.ty.fp0_84 : fieldPl Try.prog 84 0 = some (0, 1) := by kernel_rfl
@[go_sem] theorem Try.ty.fp1_84 : fieldPl Try.prog 84 1 = some (1, 1) := by kernel_rfl
@[go_sem] theorem Try.ty.un84 : Try.prog.underlying 84 = some (.array 2 3) := by kernel_rfl
@[go_sem] theorem Try.ty.sz85 : szOf Try.prog 85 = some 6 := by kernel_rfl
@[go_sem] theorem Try.ty.by85 : bytesIn Try.prog 85 = some 48 := by kernel_rfl
@[go_sem] theorem Try.ty.ag85 : aggOf Try.prog 85 = some true := by kernel_rfl
@[go_sem] theorem Try.ty.zr85 : zeroOf Try.prog 85 = some [.val (.int .i64 0), .val (.int .i64 0), .val (.int .i64 0), .val (.int .i64 0), .val (.int .i64 0), .val (.int .i64 0)] := by kernel_rfl
@[go_sem] theorem Try.ty.el85 : elemOfSlice Try.prog 85 = none := by kernel_rfl
@[go_sem] theorem Try.ty.ar85 : arrayOf Try.prog 85 = some (3, 84) := by kernel_rfl
@[go_sem] theorem Try.ty.st85 : isStr Try.prog 85 = false := by kernel_rfl
@[go_sem] theorem Try.ty.bo85 : isBool Try.prog 85 = false := by kernel_rfl
@[go_sem] theorem Try.ty.ki85 : kindOf Try.prog 85 = none := by kernel_rfl
@[go_sem] theorem Try.ty.if85 : isIface Try.prog 85 = some false := by kernel_rfl
@[go_sem] theorem Try.ty.bk85 : buildOk Try.prog 85 = true := by kernel_rfl
@[go_sem] theorem Try.ty.fp0_85 : fieldPl Try.prog 85 0 = some (0, 2) := by kernel_rfl
@[go_sem] theorem Try.ty.fp1_85 : fieldPl Try.prog 85 1 = some (2, 2) := by kernel_rfl
@[go_sem] theorem Try.ty.fp2_85 : fieldPl Try.prog 85 2 = some (4, 2) := by kernel_rfl
@[go_sem] theorem Try.ty.un85 : Try.prog.underlying 85 = some (.array 3 84) := by kernel_rfl
@[go_sem] theorem Try.ty.sz86 : szOf Try.prog 86 = some 1 := by kernel_rfl
@[go_sem] theorem Try.ty.by86 : bytesIn Try.prog 86 = some 8 := by kernel_rfl
@[go_sem] theorem Try.ty.ag86 : aggOf Try.prog 86 = some false := by kernel_rfl
@[go_sem] theorem Try.ty.zr86 : zeroOf Try.prog 86 = some [.val .nilFunc] := by kernel_rfl
@[go_sem] theorem Try.ty.el86 : elemOfSlice Try.prog 86 = none := by kernel_rfl
@[go_sem] theorem Try.ty.ar86 : arrayOf Try.prog 86 = none := by kernel_rfl
@[go_sem] theorem Try.ty.st86 : isStr Try.prog 86 = false := by kernel_rfl
@[go_sem] theorem Try.ty.bo86 : isBool Try.prog 86 = false := by kernel_rfl
@[go_sem] theorem Try.ty.ki86 : kindOf Try.prog 86 = none := by kernel_rfl
@[go_sem] theorem Try.ty.if86 : isIface Try.prog 86 = some false := by kernel_rfl
@[go_sem] theorem Try.ty.sz87 : szOf Try.prog 87 = some 1 := by kernel_rfl
@[go_sem] theorem Try.ty.by87 : bytesIn Try.prog 87 = some 8 := by kernel_rfl
@[go_sem] theorem Try.ty.ag87 : aggOf Try.prog 87 = some false := by kernel_rfl
@[go_sem] theorem Try.ty.zr87 : zeroOf Try.prog 87 = some [.val .nilFunc] := by kernel_rfl
@[go_sem] theorem Try.ty.el87 : elemOfSlice Try.prog 87 = none := by kernel_rfl
@[go_sem] theorem Try.ty.ar87 : arrayOf Try.prog 87 = none := by kernel_rfl
@[go_sem] theorem Try.ty.st87 : isStr Try.prog 87 = false := by kernel_rfl
@[go_sem] theorem Try.ty.bo87 : isBool Try.prog 87 = false := by kernel_rfl
@[go_sem] theorem Try.ty.ki87 : kindOf Try.prog 87 = none := by kernel_rfl
@[go_sem] theorem Try.ty.if87 : isIface Try.prog 87 = some false := by kernel_rfl
@[go_sem] theorem Try.ty.sz88 : szOf Try.prog 88 = some 1 := by kernel_rfl
@[go_sem] theorem Try.ty.by88 : bytesIn Try.prog 88 = some 8 := by kernel_rfl
@[go_sem] theorem Try.ty.ag88 : aggOf Try.prog 88 = some false := by kernel_rfl
@[go_sem] theorem Try.ty.zr88 : zeroOf Try.prog 88 = some [.val .nilFunc] := by kernel_rfl
@[go_sem] theorem Try.ty.el88 : elemOfSlice Try.prog 88 = none := by kernel_rfl
@[go_sem] theorem Try.ty.ar88 : arrayOf Try.prog 88 = none := by kernel_rfl
@[go_sem] theorem Try.ty.st88 : isStr Try.prog 88 = false := by kernel_rfl
@[go_sem] theorem Try.ty.bo88 : isBool Try.prog 88 = false := by kernel_rfl
@[go_sem] theorem Try.ty.ki88 : kindOf Try.prog 88 = none := by kernel_rfl
@[go_sem] theorem Try.ty.if88 : isIface Try.prog 88 = some false := by kernel_rfl
@[go_sem] theorem Try.ty.sz89 : szOf Try.prog 89 = some 1 := by kernel_rfl
@[go_sem] theorem Try.ty.by89 : bytesIn Try.prog 89 = some 8 := by kernel_rfl
@[go_sem] theorem Try.ty.ag89 : aggOf Try.prog 89 = some false := by kernel_rfl
@[go_sem] theorem Try.ty.zr89 : zeroOf Try.prog 89 = some [.val .nilFunc] := by kernel_rfl
@[go_sem] theorem Try.ty.el89 : elemOfSlice Try.prog 89 = none := by kernel_rfl
@[go_sem] theorem Try.ty.ar89 : arrayOf Try.prog 89 = none := by kernel_rfl
@[go_sem] theorem Try.ty.st89 : isStr Try.prog 89 = false := by kernel_rfl
@[go_sem] theorem Try.ty.bo89 : isBool Try.prog 89 = false := by kernel_rfl
@[go_sem] theorem Try.ty.ki89 : kindOf Try.prog 89 = none := by kernel_rfl
@[go_sem] theorem Try.ty.if89 : isIface Try.prog 89 = some false := by kernel_rfl
@[go_sem] theorem Try.ty.sz90 : szOf Try.prog 90 = some 1 := by kernel_rfl
@[go_sem] theorem Try.ty.by90 : bytesIn Try.prog 90 = some 8 := by kernel_rfl
@[go_sem] theorem Try.ty.ag90 : aggOf Try.prog 90 = some false := by kernel_rfl
@[go_sem] theorem Try.ty.zr90 : zeroOf Try.prog 90 = some [.val .nilFunc] := by kernel_rfl
@[go_sem] theorem Try.ty.el90 : elemOfSlice Try.prog 90 = none := by kernel_rfl
@[go_sem] theorem Try.ty.ar90 : arrayOf Try.prog 90 = none := by kernel_rfl
@[go_sem] theorem Try.ty.st90 : isStr Try.prog 90 = false := by kernel_rfl
@[go_sem] theorem Try.ty.bo90 : isBool Try.prog 90 = false := by kernel_rfl
@[go_sem] theorem Try.ty.ki90 : kindOf Try.prog 90 = none := by kernel_rfl
@[go_sem] theorem Try.ty.if90 : isIface Try.prog 90 = some false := by kernel_rfl
@[go_sem] theorem Try.ty.sz91 : szOf Try.prog 91 = some 1 := by kernel_rfl
@[go_sem] theorem Try.ty.by91 : bytesIn Try.prog 91 = some 8 := by kernel_rfl
@[go_sem] theorem Try.ty.ag91 : aggOf Try.prog 91 = some false := by kernel_rfl
@[go_sem] theorem Try.ty.zr91 : zeroOf Try.prog 91 = some [.val .nilFunc] := by kernel_rfl
@[go_sem] theorem Try.ty.el91 : elemOfSlice Try.prog 91 = none := by kernel_rfl
@[go_sem] theorem Try.ty.ar91 : arrayOf Try.prog 91 = none := by kernel_rfl
@[go_sem] theorem Try.ty.st91 : isStr Try.prog 91 = false := by kernel_rfl
@[go_sem] theorem Try.ty.bo91 : isBool Try.prog 91 = false := by kernel_rfl
@[go_sem] theorem Try.ty.ki91 : kindOf Try.prog 91 = none := by kernel_rfl
@[go_sem] theorem Try.ty.if91 : isIface Try.prog 91 = some false := by kernel_rfl
@[go_sem] theorem Try.ty.sz92 : szOf Try.prog 92 = some 1 := by kernel_rfl
@[go_sem] theorem Try.ty.by92 : bytesIn Try.prog 92 = some 8 := by kernel_rfl
@[go_sem] theorem Try.ty.ag92 : aggOf Try.prog 92 = some false := by kernel_rfl
@[go_sem] theorem Try.ty.zr92 : zeroOf Try.prog 92 = some [.val (.int .u64 0)] := by kernel_rfl
@[go_sem] theorem Try.ty.el92 : elemOfSlice Try.prog 92 = none := by kernel_rfl
@[go_sem] theorem Try.ty.ar92 : arrayOf Try.prog 92 = none := by kernel_rfl
@[go_sem] theorem Try.ty.st92 : isStr Try.prog 92 = false := by kernel_rfl
@[go_sem] theorem Try.ty.bo92 : isBool Try.prog 92 = false := by kernel_rfl
@[go_sem] theorem Try.ty.ki92 : kindOf Try.prog 92 = some .u64 := by kernel_rfl
@[go_sem] theorem Try.ty.if92 : isIface Try.prog 92 = some false := by kernel_rfl
@[go_sem] theorem Try.ty.un92 : Try.prog.underlying 92 = some (.int .u64) := by kernel_rfl
@[go_sem] theorem Try.ty.sz94 : szOf Try.prog 94 = some 1 := by kernel_rfl
@[go_sem] theorem Try.ty.by94 : bytesIn Try.prog 94 = some 8 := by kernel_rfl
@[go_sem] theorem Try.ty.ag94 : aggOf Try.prog 94 = some false := by kernel_rfl
@[go_sem] theorem Try.ty.zr94 : zeroOf Try.prog 94 = some [.val .nilFunc] := by kernel_rfl
@[go_sem] theorem Try.ty.el94 : elemOfSlice Try.prog 94 = none := by kernel_rfl
@[go_sem] theorem Try.ty.ar94 : arrayOf Try.prog 94 = none := by kernel_rfl
@[go_sem] theorem Try.ty.st94 : isStr Try.prog 94 = false := by kernel_rfl
@[go_sem] theorem Try.ty.bo94 : isBool Try.prog 94 = false := by kernel_rfl
@[go_sem] theorem Try.ty.ki94 : kindOf Try.prog 94 = none := by kernel_rfl
@[go_sem] theorem Try.ty.if94 : isIface Try.prog 94 = some false := by kernel_rfl
@[go_sem] theorem Try.ty.sz95 : szOf Try.prog 95 = some 1 := by kernel_rfl
@[go_sem] theorem Try.ty.by95 : bytesIn Try.prog 95 = some 4 := by kernel_rfl
@[go_sem] theorem Try.ty.ag95 : aggOf Try.prog 95 = some false := by kernel_rfl
@[go_sem] theorem Try.ty.zr95 : zeroOf Try.prog 95 = some [.val (.int .u32 0)] := by kernel_rfl
@[go_sem] theorem Try.ty.el95 : elemOfSlice Try.prog 95 = none := by kernel_rfl
@[go_sem] theorem Try.ty.ar95 : arrayOf Try.prog 95 = none := by kernel_rfl
@[go_sem] theorem Try.ty.st95 : isStr Try.prog 95 = false := by kernel_rfl
@[go_sem] theorem Try.ty.bo95 : isBool Try.prog 95 = false := by kernel_rfl
@[go_sem] theorem Try.ty.ki95 : kindOf Try.prog 95 = some .u32 := by kernel_rfl
@[go_sem] theorem Try.ty.if95 : isIface Try.prog 95 = some false := by kernel_rfl
@[go_sem] theorem Try.ty.un95 : Try.prog.underlying 95 = some (.int .u32) := by kernel_rfl
@[go_sem] theorem Try.ty.sz97 : szOf Try.prog 97 = some 1 := by kernel_rfl
@[go_sem] theorem Try.ty.by97 : bytesIn Try.prog 97 = some 8 := by kernel_rfl
@[go_sem] theorem Try.ty.ag97 : aggOf Try.prog 97 = some false := by kernel_rfl
@[go_sem] theorem Try.ty.zr97 : zeroOf Try.prog 97 = some [.val .nilFunc] := by kernel_rfl
@[go_sem] theorem Try.ty.el97 : elemOfSlice Try.prog 97 = none := by kernel_rfl
@[go_sem] theorem Try.ty.ar97 : arrayOf Try.prog 97 = none := by kernel_rfl
@[go_sem] theorem Try.ty.st97 : isStr Try.prog 97 = false := by kernel_rfl
@[go_sem] theorem Try.ty.bo97 : isBool Try.prog 97 = false := by kernel_rfl
@[go_sem] theorem Try.ty.ki97 : kindOf Try.prog 97 = none := by kernel_rfl
@[go_sem] theorem Try.ty.if97 : isIface Try.prog 97 = some false := by kernel_rfl
@[go_sem] theorem Try.ty.sz98 : szOf Try.prog 98 = some 1 := by kernel_rfl
@[go_sem] theorem Try.ty.by98 : bytesIn Try.prog 98 = some 8 := by kernel_rfl
@[go_sem] theorem Try.ty.ag98 : aggOf Try.prog 98 = some false := by kernel_rfl
@[go_sem] theorem Try.ty.zr98 : zeroOf Try.prog 98 = some [.val (.int .u64 0)] := by kernel_rfl
@[go_sem] theorem Try.ty.el98 : elemOfSlice Try.prog 98 = none := by kernel_rfl
@[go_sem] theorem Try.ty.ar98 : arrayOf Try.prog 98 = none := by kernel_rfl
@[go_sem] theorem Try.ty.st98 : isStr Try.prog 98 = false := by kernel_rfl
@[go_sem] theorem Try.ty.bo98 : isBool Try.prog 98 = false := by kernel_rfl
@[go_sem] theorem Try.ty.ki98 : kindOf Try.prog 98 = some .u64 := by kernel_rfl
@[go_sem] theorem Try.ty.if98 : isIface Try.prog 98 = some false := by kernel_rfl
@[go_sem] theorem Try.ty.un98 : Try.prog.underlying 98 = some (.int .u64) := by kernel_rfl
@[go_sem] theorem Try.ty.sz100 : szOf Try.prog 100 = some 1 := by kernel_rfl
@[go_sem] theorem Try.ty.by100 : bytesIn Try.prog 100 = some 8 := by kernel_rfl
@[go_sem] theorem Try.ty.ag100 : aggOf Try.prog 100 = some false := by kernel_rfl
@[go_sem] theorem Try.ty.zr100 : zeroOf Try.prog 100 = some [.val .nilFunc] := by kernel_rfl
@[go_sem] theorem Try.ty.el100 : elemOfSlice Try.prog 100 = none := by kernel_rfl
@[go_sem] theorem Try.ty.ar100 : arrayOf Try.prog 100 = none := by kernel_rfl
@[go_sem] theorem Try.ty.st100 : isStr Try.prog 100 = false := by kernel_rfl
@[go_sem] theorem Try.ty.bo100 : isBool Try.prog 100 = false := by kernel_rfl
@[go_sem] theorem Try.ty.ki100 : kindOf Try.prog 100 = none := by kernel_rfl
@[go_sem] theorem Try.ty.if100 : isIface Try.prog 100 = some false := by kernel_rfl
@[go_sem] theorem Try.ty.sz101 : szOf Try.prog 101 = some 1 := by kernel_rfl
@[go_sem] theorem Try.ty.by101 : bytesIn Try.prog 101 = some 8 := by kernel_rfl
@[go_sem] theorem Try.ty.ag101 : aggOf Try.prog 101 = some false := by kernel_rfl
@[go_sem] theorem Try.ty.zr101 : zeroOf Try.prog 101 = some [.val .nilFunc] := by kernel_rfl
@[go_sem] theorem Try.ty.el101 : elemOfSlice Try.prog 101 = none := by kernel_rfl
@[go_sem] theorem Try.ty.ar101 : arrayOf Try.prog 101 = none := by kernel_rfl
@[go_sem] theorem Try.ty.st101 : isStr Try.prog 101 = false := by kernel_rfl
@[go_sem] theorem Try.ty.bo101 : isBool Try.prog 101 = false := by kernel_rfl
@[go_sem] theorem Try.ty.ki101 : kindOf Try.prog 101 = none := by kernel_rfl
@[go_sem] theorem Try.ty.if101 : isIface Try.prog 101 = some false := by kernel_rfl
@[go_sem] theorem Try.ty.sz102 : szOf Try.prog 102 = some 4 := by kernel_rfl
@[go_sem] theorem Try.ty.by102 : bytesIn Try.prog 102 = some 40 := by kernel_rfl
@[go_sem] theorem Try.ty.ag102 : aggOf Try.prog 102 = some true := by kernel_rfl
@[go_sem] theorem Try.ty.zr102 : zeroOf Try.prog 102 = some [.val (.pointer none), .val (.pointer none), .val (.pointer none), .val (.string ByteArray.empty)] := by kernel_rfl
@[go_sem] theorem Try.ty.el102 : elemOfSlice Try.prog 102 = none := by kernel_rfl
@[go_sem] theorem Try.ty.ar102 : arrayOf Try.prog 102 = none := by kernel_rfl
@[go_sem] theorem Try.ty.st102 : isStr Try.prog 102 = false := by kernel_rfl
@[go_sem] theorem Try.ty.bo102 : isBool Try.prog 102 = false := by kernel_rfl
@[go_sem] theorem Try.ty.ki102 : kindOf Try.prog 102 = none := by kernel_rfl
@[go_sem] theorem Try.ty.if102 : isIface Try.prog 102 = some false := by kernel_rfl
@[go_sem] theorem Try.ty.fo0_102 : fieldOf Try.prog 102 0 = some (17, 0) := by kernel_rfl
@[go_sem] theorem Try.ty.fp0_102 : fieldPl Try.prog 102 0 = some (0, 1) := by kernel_rfl
@[go_sem] theorem Try.ty.fo1_102 : fieldOf Try.prog 102 1 = some (17, 1) := by kernel_rfl
@[go_sem] theorem Try.ty.fp1_102 : fieldPl Try.prog 102 1 = some (1, 1) := by kernel_rfl
@[go_sem] theorem Try.ty.fo2_102 : fieldOf Try.prog 102 2 = some (17, 2) := by kernel_rfl
@[go_sem] theorem Try.ty.fp2_102 : fieldPl Try.prog 102 2 = some (2, 1) := by kernel_rfl
@[go_sem] theorem Try.ty.fo3_102 : fieldOf Try.prog 102 3 = some (9, 3) := by kernel_rfl
@[go_sem] theorem Try.ty.fp3_102 : fieldPl Try.prog 102 3 = some (3, 1) := by kernel_rfl
@[go_sem] theorem Try.ty.bk102 : buildOk Try.prog 102 = true := by kernel_rfl
@[go_sem] theorem Try.ty.sz104 : szOf Try.prog 104 = some 0 := by kernel_rfl
@[go_sem] theorem Try.ty.by104 : bytesIn Try.prog 104 = some 0 := by kernel_rfl
@[go_sem] theorem Try.ty.ag104 : aggOf Try.prog 104 = some true := by kernel_rfl
@[go_sem] theorem Try.ty.zr104 : zeroOf Try.prog 104 = some [] := by kernel_rfl
@[go_sem] theorem Try.ty.el104 : elemOfSlice Try.prog 104 = none := by kernel_rfl
@[go_sem] theorem Try.ty.ar104 : arrayOf Try.prog 104 = some (0, 16) := by kernel_rfl
@[go_sem] theorem Try.ty.st104 : isStr Try.prog 104 = false := by kernel_rfl
@[go_sem] theorem Try.ty.bo104 : isBool Try.prog 104 = false := by kernel_rfl
@[go_sem] theorem Try.ty.ki104 : kindOf Try.prog 104 = none := by kernel_rfl
@[go_sem] theorem Try.ty.if104 : isIface Try.prog 104 = some false := by kernel_rfl
@[go_sem] theorem Try.ty.bk104 : buildOk Try.prog 104 = true := by kernel_rfl
@[go_sem] theorem Try.ty.un104 : Try.prog.underlying 104 = some (.array 0 16) := by kernel_rfl
@[go_sem] theorem Try.ty.sz105 : szOf Try.prog 105 = some 0 := by kernel_rfl
@[go_sem] theorem Try.ty.by105 : bytesIn Try.prog 105 = some 0 := by kernel_rfl
@[go_sem] theorem Try.ty.ag105 : aggOf Try.prog 105 = some true := by kernel_rfl
@[go_sem] theorem Try.ty.zr105 : zeroOf Try.prog 105 = some [] := by kernel_rfl
@[go_sem] theorem Try.ty.el105 : elemOfSlice Try.prog 105 = none := by kernel_rfl
@[go_sem] theorem Try.ty.ar105 : arrayOf Try.prog 105 = none := by kernel_rfl
@[go_sem] theorem Try.ty.st105 : isStr Try.prog 105 = false := by kernel_rfl
@[go_sem] theorem Try.ty.bo105 : isBool Try.prog 105 = false := by kernel_rfl
@[go_sem] theorem Try.ty.ki105 : kindOf Try.prog 105 = none := by kernel_rfl
@[go_sem] theorem Try.ty.if105 : isIface Try.prog 105 = some false := by kernel_rfl
@[go_sem] theorem Try.ty.fo0_105 : fieldOf Try.prog 105 0 = some (104, 0) := by kernel_rfl
@[go_sem] theorem Try.ty.fp0_105 : fieldPl Try.prog 105 0 = some (0, 0) := by kernel_rfl
@[go_sem] theorem Try.ty.bk105 : buildOk Try.prog 105 = true := by kernel_rfl
@[go_sem] theorem Try.ty.sz107 : szOf Try.prog 107 = some 1 := by kernel_rfl
@[go_sem] theorem Try.ty.by107 : bytesIn Try.prog 107 = some 8 := by kernel_rfl
@[go_sem] theorem Try.ty.ag107 : aggOf Try.prog 107 = some false := by kernel_rfl
@[go_sem] theorem Try.ty.zr107 : zeroOf Try.prog 107 = some [.val .nilFunc] := by kernel_rfl
@[go_sem] theorem Try.ty.el107 : elemOfSlice Try.prog 107 = none := by kernel_rfl
@[go_sem] theorem Try.ty.ar107 : arrayOf Try.prog 107 = none := by kernel_rfl
@[go_sem] theorem Try.ty.st107 : isStr Try.prog 107 = false := by kernel_rfl
@[go_sem] theorem Try.ty.bo107 : isBool Try.prog 107 = false := by kernel_rfl
@[go_sem] theorem Try.ty.ki107 : kindOf Try.prog 107 = none := by kernel_rfl
@[go_sem] theorem Try.ty.if107 : isIface Try.prog 107 = some false := by kernel_rfl
@[go_sem] theorem Try.ty.sz110 : szOf Try.prog 110 = some 1 := by kernel_rfl
@[go_sem] theorem Try.ty.by110 : bytesIn Try.prog 110 = some 8 := by kernel_rfl
@[go_sem] theorem Try.ty.ag110 : aggOf Try.prog 110 = some false := by kernel_rfl
@[go_sem] theorem Try.ty.zr110 : zeroOf Try.prog 110 = some [.val .nilFunc] := by kernel_rfl
@[go_sem] theorem Try.ty.el110 : elemOfSlice Try.prog 110 = none := by kernel_rfl
@[go_sem] theorem Try.ty.ar110 : arrayOf Try.prog 110 = none := by kernel_rfl
@[go_sem] theorem Try.ty.st110 : isStr Try.prog 110 = false := by kernel_rfl
@[go_sem] theorem Try.ty.bo110 : isBool Try.prog 110 = false := by kernel_rfl
@[go_sem] theorem Try.ty.ki110 : kindOf Try.prog 110 = none := by kernel_rfl
@[go_sem] theorem Try.ty.if110 : isIface Try.prog 110 = some false := by kernel_rfl
@[go_sem] theorem Try.ty.sz111 : szOf Try.prog 111 = some 1 := by kernel_rfl
@[go_sem] theorem Try.ty.by111 : bytesIn Try.prog 111 = some 8 := by kernel_rfl
@[go_sem] theorem Try.ty.ag111 : aggOf Try.prog 111 = some false := by kernel_rfl
@[go_sem] theorem Try.ty.zr111 : zeroOf Try.prog 111 = some [.val (.pointer none)] := by kernel_rfl
@[go_sem] theorem Try.ty.el111 : elemOfSlice Try.prog 111 = none := by kernel_rfl
@[go_sem] theorem Try.ty.ar111 : arrayOf Try.prog 111 = none := by kernel_rfl
@[go_sem] theorem Try.ty.st111 : isStr Try.prog 111 = false := by kernel_rfl
@[go_sem] theorem Try.ty.bo111 : isBool Try.prog 111 = false := by kernel_rfl
@[go_sem] theorem Try.ty.ki111 : kindOf Try.prog 111 = none := by kernel_rfl
@[go_sem] theorem Try.ty.if111 : isIface Try.prog 111 = some false := by kernel_rfl
@[go_sem] theorem Try.ty.un111 : Try.prog.underlying 111 = some (.pointer 5) := by kernel_rfl
end Go.Sh
