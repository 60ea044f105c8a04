/-
  Texts put together: Ty, C1, C2, C3. What each proves stands at its own head, with its conditions.
-/
import Derived.Test.YtgkicmckimgjjaaZa3
import Derived.Test.YtgkicmckimgjjaaChecked
import Derived.KernelRfl

/-
  What the shadow asks of this program's types, each a closed fact.
-/
namespace Go.Sh
set_option linter.unusedSimpArgs false
set_option linter.unusedVariables false
open Go Go.Proofs
attribute [go_sem_proc] Nat.reduceLT Nat.reduceLeDiff Nat.reduceEqDiff Nat.reduceAdd Nat.reduceSub Nat.reduceMul reduceIte reduceCtorEq Int.reduceToNat Int.reduceLE Int.reduceLT Int.reduceNeg Int.reduceSub Int.reduceAdd Int.reduceMul
attribute [go_sem_proc ↓] reduceIte
theorem Try.mixed : Try.prog.follows .mixedOrders = true := by kernel_rfl
@[go_sem] theorem Try.ty.sz1 : szOf Try.prog 1 = some 1 := by kernel_rfl
@[go_sem] theorem Try.ty.by1 : bytesIn Try.prog 1 = some 8 := by kernel_rfl
@[go_sem] theorem Try.ty.ag1 : aggOf Try.prog 1 = some false := by kernel_rfl
@[go_sem] theorem Try.ty.zr1 : zeroOf Try.prog 1 = some [.val .nilFunc] := by kernel_rfl
@[go_sem] theorem Try.ty.el1 : elemOfSlice Try.prog 1 = none := by kernel_rfl
@[go_sem] theorem Try.ty.ar1 : arrayOf Try.prog 1 = none := by kernel_rfl
@[go_sem] theorem Try.ty.st1 : isStr Try.prog 1 = false := by kernel_rfl
@[go_sem] theorem Try.ty.bo1 : isBool Try.prog 1 = false := by kernel_rfl
@[go_sem] theorem Try.ty.ki1 : kindOf Try.prog 1 = none := by kernel_rfl
@[go_sem] theorem Try.ty.if1 : isIface Try.prog 1 = some false := by kernel_rfl
@[go_sem] theorem Try.ty.sz2 : szOf Try.prog 2 = some 1 := by kernel_rfl
@[go_sem] theorem Try.ty.by2 : bytesIn Try.prog 2 = some 8 := by kernel_rfl
@[go_sem] theorem Try.ty.ag2 : aggOf Try.prog 2 = some false := by kernel_rfl
@[go_sem] theorem Try.ty.zr2 : zeroOf Try.prog 2 = some [.val (.int .i64 0)] := by kernel_rfl
@[go_sem] theorem Try.ty.el2 : elemOfSlice Try.prog 2 = none := by kernel_rfl
@[go_sem] theorem Try.ty.ar2 : arrayOf Try.prog 2 = none := by kernel_rfl
@[go_sem] theorem Try.ty.st2 : isStr Try.prog 2 = false := by kernel_rfl
@[go_sem] theorem Try.ty.bo2 : isBool Try.prog 2 = false := by kernel_rfl
@[go_sem] theorem Try.ty.ki2 : kindOf Try.prog 2 = some .i64 := by kernel_rfl
@[go_sem] theorem Try.ty.if2 : isIface Try.prog 2 = some false := by kernel_rfl
@[go_sem] theorem Try.ty.un2 : Try.prog.underlying 2 = some (.int .i64) := by kernel_rfl
@[go_sem] theorem Try.ty.sz3 : szOf Try.prog 3 = some 1 := by kernel_rfl
@[go_sem] theorem Try.ty.by3 : bytesIn Try.prog 3 = some 8 := by kernel_rfl
@[go_sem] theorem Try.ty.ag3 : aggOf Try.prog 3 = some false := by kernel_rfl
@[go_sem] theorem Try.ty.zr3 : zeroOf Try.prog 3 = some [.val (.int .i64 0)] := by kernel_rfl
@[go_sem] theorem Try.ty.el3 : elemOfSlice Try.prog 3 = none := by kernel_rfl
@[go_sem] theorem Try.ty.ar3 : arrayOf Try.prog 3 = none := by kernel_rfl
@[go_sem] theorem Try.ty.st3 : isStr Try.prog 3 = false := by kernel_rfl
@[go_sem] theorem Try.ty.bo3 : isBool Try.prog 3 = false := by kernel_rfl
@[go_sem] theorem Try.ty.ki3 : kindOf Try.prog 3 = some .i64 := by kernel_rfl
@[go_sem] theorem Try.ty.if3 : isIface Try.prog 3 = some false := by kernel_rfl
@[go_sem] theorem Try.ty.un3 : Try.prog.underlying 3 = some (.int .i64) := by kernel_rfl
@[go_sem] theorem Try.ty.sz4 : szOf Try.prog 4 = some 1 := by kernel_rfl
@[go_sem] theorem Try.ty.by4 : bytesIn Try.prog 4 = some 1 := by kernel_rfl
@[go_sem] theorem Try.ty.ag4 : aggOf Try.prog 4 = some false := by kernel_rfl
@[go_sem] theorem Try.ty.zr4 : zeroOf Try.prog 4 = some [.val (.bool false)] := by kernel_rfl
@[go_sem] theorem Try.ty.el4 : elemOfSlice Try.prog 4 = none := by kernel_rfl
@[go_sem] theorem Try.ty.ar4 : arrayOf Try.prog 4 = none := by kernel_rfl
@[go_sem] theorem Try.ty.st4 : isStr Try.prog 4 = false := by kernel_rfl
@[go_sem] theorem Try.ty.bo4 : isBool Try.prog 4 = true := by kernel_rfl
@[go_sem] theorem Try.ty.ki4 : kindOf Try.prog 4 = none := by kernel_rfl
@[go_sem] theorem Try.ty.if4 : isIface Try.prog 4 = some false := by kernel_rfl
@[go_sem] theorem Try.ty.un4 : Try.prog.underlying 4 = some (.bool) := by kernel_rfl
@[go_sem] theorem Try.ty.sz5 : szOf Try.prog 5 = some 1 := by kernel_rfl
@[go_sem] theorem Try.ty.by5 : bytesIn Try.prog 5 = some 1 := by kernel_rfl
@[go_sem] theorem Try.ty.ag5 : aggOf Try.prog 5 = some false := by kernel_rfl
@[go_sem] theorem Try.ty.zr5 : zeroOf Try.prog 5 = some [.val (.int .u8 0)] := by kernel_rfl
@[go_sem] theorem Try.ty.el5 : elemOfSlice Try.prog 5 = none := by kernel_rfl
@[go_sem] theorem Try.ty.ar5 : arrayOf Try.prog 5 = none := by kernel_rfl
@[go_sem] theorem Try.ty.st5 : isStr Try.prog 5 = false := by kernel_rfl
@[go_sem] theorem Try.ty.bo5 : isBool Try.prog 5 = false := by kernel_rfl
@[go_sem] theorem Try.ty.ki5 : kindOf Try.prog 5 = some .u8 := by kernel_rfl
@[go_sem] theorem Try.ty.if5 : isIface Try.prog 5 = some false := by kernel_rfl
@[go_sem] theorem Try.ty.un5 : Try.prog.underlying 5 = some (.int .u8) := by kernel_rfl
@[go_sem] theorem Try.ty.sz7 : szOf Try.prog 7 = some 4 := by kernel_rfl
@[go_sem] theorem Try.ty.by7 : bytesIn Try.prog 7 = some 24 := by kernel_rfl
@[go_sem] theorem Try.ty.ag7 : aggOf Try.prog 7 = some true := by kernel_rfl
@[go_sem] theorem Try.ty.zr7 : zeroOf Try.prog 7 = some [.val (.int .i64 0), .val (.int .i64 0), .val (.bool false), .val (.int .u8 0)] := by kernel_rfl
@[go_sem] theorem Try.ty.el7 : elemOfSlice Try.prog 7 = none := by kernel_rfl
@[go_sem] theorem Try.ty.ar7 : arrayOf Try.prog 7 = none := by kernel_rfl
@[go_sem] theorem Try.ty.st7 : isStr Try.prog 7 = false := by kernel_rfl
@[go_sem] theorem Try.ty.bo7 : isBool Try.prog 7 = false := by kernel_rfl
@[go_sem] theorem Try.ty.ki7 : kindOf Try.prog 7 = none := by kernel_rfl
@[go_sem] theorem Try.ty.if7 : isIface Try.prog 7 = some false := by kernel_rfl
@[go_sem] theorem Try.ty.fo0_7 : fieldOf Try.prog 7 0 = some (2, 0) := by kernel_rfl
@[go_sem] theorem Try.ty.fp0_7 : fieldPl Try.prog 7 0 = some (0, 1) := by kernel_rfl
@[go_sem] theorem Try.ty.fo1_7 : fieldOf Try.prog 7 1 = some (3, 1) := by kernel_rfl
@[go_sem] theorem Try.ty.fp1_7 : fieldPl Try.prog 7 1 = some (1, 1) := by kernel_rfl
@[go_sem] theorem Try.ty.fo2_7 : fieldOf Try.prog 7 2 = some (4, 2) := by kernel_rfl
@[go_sem] theorem Try.ty.fp2_7 : fieldPl Try.prog 7 2 = some (2, 1) := by kernel_rfl
@[go_sem] theorem Try.ty.fo3_7 : fieldOf Try.prog 7 3 = some (6, 3) := by kernel_rfl
@[go_sem] theorem Try.ty.fp3_7 : fieldPl Try.prog 7 3 = some (3, 1) := by kernel_rfl
@[go_sem] theorem Try.ty.bk7 : buildOk Try.prog 7 = true := by kernel_rfl
@[go_sem] theorem Try.ty.sz9 : szOf Try.prog 9 = some 1 := by kernel_rfl
@[go_sem] theorem Try.ty.by9 : bytesIn Try.prog 9 = some 16 := by kernel_rfl
@[go_sem] theorem Try.ty.ag9 : aggOf Try.prog 9 = some false := by kernel_rfl
@[go_sem] theorem Try.ty.zr9 : zeroOf Try.prog 9 = some [.val (.string ByteArray.empty)] := by kernel_rfl
@[go_sem] theorem Try.ty.el9 : elemOfSlice Try.prog 9 = none := by kernel_rfl
@[go_sem] theorem Try.ty.ar9 : arrayOf Try.prog 9 = none := by kernel_rfl
@[go_sem] theorem Try.ty.st9 : isStr Try.prog 9 = true := by kernel_rfl
@[go_sem] theorem Try.ty.bo9 : isBool Try.prog 9 = false := by kernel_rfl
@[go_sem] theorem Try.ty.ki9 : kindOf Try.prog 9 = none := by kernel_rfl
@[go_sem] theorem Try.ty.if9 : isIface Try.prog 9 = some false := by kernel_rfl
@[go_sem] theorem Try.ty.un9 : Try.prog.underlying 9 = some (.string) := by kernel_rfl
@[go_sem] theorem Try.ty.sz12 : szOf Try.prog 12 = some 1 := by kernel_rfl
@[go_sem] theorem Try.ty.by12 : bytesIn Try.prog 12 = some 8 := by kernel_rfl
@[go_sem] theorem Try.ty.ag12 : aggOf Try.prog 12 = some false := by kernel_rfl
@[go_sem] theorem Try.ty.zr12 : zeroOf Try.prog 12 = some [.val (.int .u64 0)] := by kernel_rfl
@[go_sem] theorem Try.ty.el12 : elemOfSlice Try.prog 12 = none := by kernel_rfl
@[go_sem] theorem Try.ty.ar12 : arrayOf Try.prog 12 = none := by kernel_rfl
@[go_sem] theorem Try.ty.st12 : isStr Try.prog 12 = false := by kernel_rfl
@[go_sem] theorem Try.ty.bo12 : isBool Try.prog 12 = false := by kernel_rfl
@[go_sem] theorem Try.ty.ki12 : kindOf Try.prog 12 = some .u64 := by kernel_rfl
@[go_sem] theorem Try.ty.if12 : isIface Try.prog 12 = some false := by kernel_rfl
@[go_sem] theorem Try.ty.un12 : Try.prog.underlying 12 = some (.int .u64) := by kernel_rfl
@[go_sem] theorem Try.ty.sz13 : szOf Try.prog 13 = some 2 := by kernel_rfl
@[go_sem] theorem Try.ty.by13 : bytesIn Try.prog 13 = some 24 := by kernel_rfl
@[go_sem] theorem Try.ty.ag13 : aggOf Try.prog 13 = some true := by kernel_rfl
@[go_sem] theorem Try.ty.zr13 : zeroOf Try.prog 13 = some [.val (.string ByteArray.empty), .val (.int .u64 0)] := by kernel_rfl
@[go_sem] theorem Try.ty.el13 : elemOfSlice Try.prog 13 = none := by kernel_rfl
@[go_sem] theorem Try.ty.ar13 : arrayOf Try.prog 13 = none := by kernel_rfl
@[go_sem] theorem Try.ty.st13 : isStr Try.prog 13 = false := by kernel_rfl
@[go_sem] theorem Try.ty.bo13 : isBool Try.prog 13 = false := by kernel_rfl
@[go_sem] theorem Try.ty.ki13 : kindOf Try.prog 13 = none := by kernel_rfl
@[go_sem] theorem Try.ty.if13 : isIface Try.prog 13 = some false := by kernel_rfl
@[go_sem] theorem Try.ty.fo0_13 : fieldOf Try.prog 13 0 = some (9, 0) := by kernel_rfl
@[go_sem] theorem Try.ty.fp0_13 : fieldPl Try.prog 13 0 = some (0, 1) := by kernel_rfl
@[go_sem] theorem Try.ty.fo1_13 : fieldOf Try.prog 13 1 = some (12, 1) := by kernel_rfl
@[go_sem] theorem Try.ty.fp1_13 : fieldPl Try.prog 13 1 = some (1, 1) := by kernel_rfl
@[go_sem] theorem Try.ty.bk13 : buildOk Try.prog 13 = true := by kernel_rfl
@[go_sem] theorem Try.ty.sz15 : szOf Try.prog 15 = some 1 := by kernel_rfl
@[go_sem] theorem Try.ty.by15 : bytesIn Try.prog 15 = some 8 := by kernel_rfl
@[go_sem] theorem Try.ty.ag15 : aggOf Try.prog 15 = some false := by kernel_rfl
@[go_sem] theorem Try.ty.zr15 : zeroOf Try.prog 15 = some [.val (.pointer none)] := by kernel_rfl
@[go_sem] theorem Try.ty.el15 : elemOfSlice Try.prog 15 = none := by kernel_rfl
@[go_sem] theorem Try.ty.ar15 : arrayOf Try.prog 15 = none := by kernel_rfl
@[go_sem] theorem Try.ty.st15 : isStr Try.prog 15 = false := by kernel_rfl
@[go_sem] theorem Try.ty.bo15 : isBool Try.prog 15 = false := by kernel_rfl
@[go_sem] theorem Try.ty.ki15 : kindOf Try.prog 15 = none := by kernel_rfl
@[go_sem] theorem Try.ty.if15 : isIface Try.prog 15 = some false := by kernel_rfl
@[go_sem] theorem Try.ty.un15 : Try.prog.underlying 15 = some (.pointer 190) := by kernel_rfl
@[go_sem] theorem Try.ty.sz16 : szOf Try.prog 16 = some 1 := by kernel_rfl
@[go_sem] theorem Try.ty.by16 : bytesIn Try.prog 16 = some 8 := by kernel_rfl
@[go_sem] theorem Try.ty.ag16 : aggOf Try.prog 16 = some false := by kernel_rfl
@[go_sem] theorem Try.ty.zr16 : zeroOf Try.prog 16 = some [.val (.pointer none)] := by kernel_rfl
@[go_sem] theorem Try.ty.el16 : elemOfSlice Try.prog 16 = none := by kernel_rfl
@[go_sem] theorem Try.ty.ar16 : arrayOf Try.prog 16 = none := by kernel_rfl
@[go_sem] theorem Try.ty.st16 : isStr Try.prog 16 = false := by kernel_rfl
@[go_sem] theorem Try.ty.bo16 : isBool Try.prog 16 = false := by kernel_rfl
@[go_sem] theorem Try.ty.ki16 : kindOf Try.prog 16 = none := by kernel_rfl
@[go_sem] theorem Try.ty.if16 : isIface Try.prog 16 = some false := by kernel_rfl
@[go_sem] theorem Try.ty.un16 : Try.prog.underlying 16 = some (.pointer 193) := by kernel_rfl
@[go_sem] theorem Try.ty.sz17 : szOf Try.prog 17 = some 1 := by kernel_rfl
@[go_sem] theorem Try.ty.by17 : bytesIn Try.prog 17 = some 8 := by kernel_rfl
@[go_sem] theorem Try.ty.ag17 : aggOf Try.prog 17 = some false := by kernel_rfl
@[go_sem] theorem Try.ty.zr17 : zeroOf Try.prog 17 = some [.val (.pointer none)] := by kernel_rfl
@[go_sem] theorem Try.ty.el17 : elemOfSlice Try.prog 17 = none := by kernel_rfl
@[go_sem] theorem Try.ty.ar17 : arrayOf Try.prog 17 = none := by kernel_rfl
@[go_sem] theorem Try.ty.st17 : isStr Try.prog 17 = false := by kernel_rfl
@[go_sem] theorem Try.ty.bo17 : isBool Try.prog 17 = false := by kernel_rfl
@[go_sem] theorem Try.ty.ki17 : kindOf Try.prog 17 = none := by kernel_rfl
@[go_sem] theorem Try.ty.if17 : isIface Try.prog 17 = some false := by kernel_rfl
@[go_sem] theorem Try.ty.un17 : Try.prog.underlying 17 = some (.pointer 202) := by kernel_rfl
@[go_sem] theorem Try.ty.sz18 : szOf Try.prog 18 = some 1 := by kernel_rfl
@[go_sem] theorem Try.ty.by18 : bytesIn Try.prog 18 = some 8 := by kernel_rfl
@[go_sem] theorem Try.ty.ag18 : aggOf Try.prog 18 = some true := by kernel_rfl
@[go_sem] theorem Try.ty.zr18 : zeroOf Try.prog 18 = some [.val (.pointer none)] := by kernel_rfl
@[go_sem] theorem Try.ty.el18 : elemOfSlice Try.prog 18 = none := by kernel_rfl
@[go_sem] theorem Try.ty.ar18 : arrayOf Try.prog 18 = none := by kernel_rfl
@[go_sem] theorem Try.ty.st18 : isStr Try.prog 18 = false := by kernel_rfl
@[go_sem] theorem Try.ty.bo18 : isBool Try.prog 18 = false := by kernel_rfl
@[go_sem] theorem Try.ty.ki18 : kindOf Try.prog 18 = none := by kernel_rfl
@[go_sem] theorem Try.ty.if18 : isIface Try.prog 18 = some false := by kernel_rfl
@[go_sem] theorem Try.ty.fo0_18 : fieldOf Try.prog 18 0 = some (17, 0) := by kernel_rfl
@[go_sem] theorem Try.ty.fp0_18 : fieldPl Try.prog 18 0 = some (0, 1) := by kernel_rfl
@[go_sem] theorem Try.ty.bk18 : buildOk Try.prog 18 = true := by kernel_rfl
@[go_sem] theorem Try.ty.sz21 : szOf Try.prog 21 = some 1 := by kernel_rfl
@[go_sem] theorem Try.ty.by21 : bytesIn Try.prog 21 = some 4 := by kernel_rfl
@[go_sem] theorem Try.ty.ag21 : aggOf Try.prog 21 = some false := by kernel_rfl
@[go_sem] theorem Try.ty.zr21 : zeroOf Try.prog 21 = some [.val (.int .i32 0)] := by kernel_rfl
@[go_sem] theorem Try.ty.el21 : elemOfSlice Try.prog 21 = none := by kernel_rfl
@[go_sem] theorem Try.ty.ar21 : arrayOf Try.prog 21 = none := by kernel_rfl
@[go_sem] theorem Try.ty.st21 : isStr Try.prog 21 = false := by kernel_rfl
@[go_sem] theorem Try.ty.bo21 : isBool Try.prog 21 = false := by kernel_rfl
@[go_sem] theorem Try.ty.ki21 : kindOf Try.prog 21 = some .i32 := by kernel_rfl
@[go_sem] theorem Try.ty.if21 : isIface Try.prog 21 = some false := by kernel_rfl
@[go_sem] theorem Try.ty.un21 : Try.prog.underlying 21 = some (.int .i32) := by kernel_rfl
@[go_sem] theorem Try.ty.sz22 : szOf Try.prog 22 = some 1 := by kernel_rfl
@[go_sem] theorem Try.ty.by22 : bytesIn Try.prog 22 = some 24 := by kernel_rfl
@[go_sem] theorem Try.ty.ag22 : aggOf Try.prog 22 = some false := by kernel_rfl
@[go_sem] theorem Try.ty.zr22 : zeroOf Try.prog 22 = some [.val (.slice none 0 0)] := by kernel_rfl
@[go_sem] theorem Try.ty.el22 : elemOfSlice Try.prog 22 = some 5 := by kernel_rfl
@[go_sem] theorem Try.ty.ar22 : arrayOf Try.prog 22 = none := by kernel_rfl
@[go_sem] theorem Try.ty.st22 : isStr Try.prog 22 = false := by kernel_rfl
@[go_sem] theorem Try.ty.bo22 : isBool Try.prog 22 = false := by kernel_rfl
@[go_sem] theorem Try.ty.ki22 : kindOf Try.prog 22 = none := by kernel_rfl
@[go_sem] theorem Try.ty.if22 : isIface Try.prog 22 = some false := by kernel_rfl
@[go_sem] theorem Try.ty.un22 : Try.prog.underlying 22 = some (.slice 5) := by kernel_rfl
@[go_sem] theorem Try.ty.sz23 : szOf Try.prog 23 = some 1 := by kernel_rfl
@[go_sem] theorem Try.ty.by23 : bytesIn Try.prog 23 = some 8 := by kernel_rfl
@[go_sem] theorem Try.ty.ag23 : aggOf Try.prog 23 = some false := by kernel_rfl
@[go_sem] theorem Try.ty.zr23 : zeroOf Try.prog 23 = some [.val .nilFunc] := by kernel_rfl
@[go_sem] theorem Try.ty.el23 : elemOfSlice Try.prog 23 = none := by kernel_rfl
@[go_sem] theorem Try.ty.ar23 : arrayOf Try.prog 23 = none := by kernel_rfl
@[go_sem] theorem Try.ty.st23 : isStr Try.prog 23 = false := by kernel_rfl
@[go_sem] theorem Try.ty.bo23 : isBool Try.prog 23 = false := by kernel_rfl
@[go_sem] theorem Try.ty.ki23 : kindOf Try.prog 23 = none := by kernel_rfl
@[go_sem] theorem Try.ty.if23 : isIface Try.prog 23 = some false := by kernel_rfl
@[go_sem] theorem Try.ty.sz24 : szOf Try.prog 24 = some 1 := by kernel_rfl
@[go_sem] theorem Try.ty.by24 : bytesIn Try.prog 24 = some 24 := by kernel_rfl
@[go_sem] theorem Try.ty.ag24 : aggOf Try.prog 24 = some false := by kernel_rfl
@[go_sem] theorem Try.ty.zr24 : zeroOf Try.prog 24 = some [.val (.slice none 0 0)] := by kernel_rfl
@[go_sem] theorem Try.ty.el24 : elemOfSlice Try.prog 24 = some 25 := by kernel_rfl
@[go_sem] theorem Try.ty.ar24 : arrayOf Try.prog 24 = none := by kernel_rfl
@[go_sem] theorem Try.ty.st24 : isStr Try.prog 24 = false := by kernel_rfl
@[go_sem] theorem Try.ty.bo24 : isBool Try.prog 24 = false := by kernel_rfl
@[go_sem] theorem Try.ty.ki24 : kindOf Try.prog 24 = none := by kernel_rfl
@[go_sem] theorem Try.ty.if24 : isIface Try.prog 24 = some false := by kernel_rfl
@[go_sem] theorem Try.ty.un24 : Try.prog.underlying 24 = some (.slice 25) := by kernel_rfl
@[go_sem] theorem Try.ty.sz25 : szOf Try.prog 25 = some 1 := by kernel_rfl
@[go_sem] theorem Try.ty.by25 : bytesIn Try.prog 25 = some 24 := by kernel_rfl
@[go_sem] theorem Try.ty.ag25 : aggOf Try.prog 25 = some false := by kernel_rfl
@[go_sem] theorem Try.ty.zr25 : zeroOf Try.prog 25 = some [.val (.slice none 0 0)] := by kernel_rfl
@[go_sem] theorem Try.ty.el25 : elemOfSlice Try.prog 25 = some 3 := by kernel_rfl
@[go_sem] theorem Try.ty.ar25 : arrayOf Try.prog 25 = none := by kernel_rfl
@[go_sem] theorem Try.ty.st25 : isStr Try.prog 25 = false := by kernel_rfl
@[go_sem] theorem Try.ty.bo25 : isBool Try.prog 25 = false := by kernel_rfl
@[go_sem] theorem Try.ty.ki25 : kindOf Try.prog 25 = none := by kernel_rfl
@[go_sem] theorem Try.ty.if25 : isIface Try.prog 25 = some false := by kernel_rfl
@[go_sem] theorem Try.ty.un25 : Try.prog.underlying 25 = some (.slice 3) := by kernel_rfl
@[go_sem] theorem Try.ty.sz26 : szOf Try.prog 26 = some 1 := by kernel_rfl
@[go_sem] theorem Try.ty.by26 : bytesIn Try.prog 26 = some 24 := by kernel_rfl
@[go_sem] theorem Try.ty.ag26 : aggOf Try.prog 26 = some false := by kernel_rfl
@[go_sem] theorem Try.ty.zr26 : zeroOf Try.prog 26 = some [.val (.slice none 0 0)] := by kernel_rfl
@[go_sem] theorem Try.ty.el26 : elemOfSlice Try.prog 26 = some 36 := by kernel_rfl
@[go_sem] theorem Try.ty.ar26 : arrayOf Try.prog 26 = none := by kernel_rfl
@[go_sem] theorem Try.ty.st26 : isStr Try.prog 26 = false := by kernel_rfl
@[go_sem] theorem Try.ty.bo26 : isBool Try.prog 26 = false := by kernel_rfl
@[go_sem] theorem Try.ty.ki26 : kindOf Try.prog 26 = none := by kernel_rfl
@[go_sem] theorem Try.ty.if26 : isIface Try.prog 26 = some false := by kernel_rfl
@[go_sem] theorem Try.ty.un26 : Try.prog.underlying 26 = some (.slice 36) := by kernel_rfl
@[go_sem] theorem Try.ty.sz28 : szOf Try.prog 28 = some 1 := by kernel_rfl
@[go_sem] theorem Try.ty.by28 : bytesIn Try.prog 28 = some 8 := by kernel_rfl
@[go_sem] theorem Try.ty.ag28 : aggOf Try.prog 28 = some false := by kernel_rfl
@[go_sem] theorem Try.ty.zr28 : zeroOf Try.prog 28 = some [.val .nilFunc] := by kernel_rfl
@[go_sem] theorem Try.ty.el28 : elemOfSlice Try.prog 28 = none := by kernel_rfl
@[go_sem] theorem Try.ty.ar28 : arrayOf Try.prog 28 = none := by kernel_rfl
@[go_sem] theorem Try.ty.st28 : isStr Try.prog 28 = false := by kernel_rfl
@[go_sem] theorem Try.ty.bo28 : isBool Try.prog 28 = false := by kernel_rfl
@[go_sem] theorem Try.ty.ki28 : kindOf Try.prog 28 = none := by kernel_rfl
@[go_sem] theorem Try.ty.if28 : isIface Try.prog 28 = some false := by kernel_rfl
@[go_sem] theorem Try.ty.sz29 : szOf Try.prog 29 = some 1 := by kernel_rfl
@[go_sem] theorem Try.ty.by29 : bytesIn Try.prog 29 = some 8 := by kernel_rfl
@[go_sem] theorem Try.ty.ag29 : aggOf Try.prog 29 = some false := by kernel_rfl
@[go_sem] theorem Try.ty.zr29 : zeroOf Try.prog 29 = some [.val .nilFunc] := by kernel_rfl
@[go_sem] theorem Try.ty.el29 : elemOfSlice Try.prog 29 = none := by kernel_rfl
@[go_sem] theorem Try.ty.ar29 : arrayOf Try.prog 29 = none := by kernel_rfl
@[go_sem] theorem Try.ty.st29 : isStr Try.prog 29 = false := by kernel_rfl
@[go_sem] theorem Try.ty.bo29 : isBool Try.prog 29 = false := by kernel_rfl
@[go_sem] theorem Try.ty.ki29 : kindOf Try.prog 29 = none := by kernel_rfl
@[go_sem] theorem Try.ty.if29 : isIface Try.prog 29 = some false := by kernel_rfl
@[go_sem] theorem Try.ty.sz30 : szOf Try.prog 30 = some 1 := by kernel_rfl
@[go_sem] theorem Try.ty.by30 : bytesIn Try.prog 30 = some 8 := by kernel_rfl
@[go_sem] theorem Try.ty.ag30 : aggOf Try.prog 30 = some false := by kernel_rfl
@[go_sem] theorem Try.ty.zr30 : zeroOf Try.prog 30 = some [.val .nilFunc] := by kernel_rfl
@[go_sem] theorem Try.ty.el30 : elemOfSlice Try.prog 30 = none := by kernel_rfl
@[go_sem] theorem Try.ty.ar30 : arrayOf Try.prog 30 = none := by kernel_rfl
@[go_sem] theorem Try.ty.st30 : isStr Try.prog 30 = false := by kernel_rfl
@[go_sem] theorem Try.ty.bo30 : isBool Try.prog 30 = false := by kernel_rfl
@[go_sem] theorem Try.ty.ki30 : kindOf Try.prog 30 = none := by kernel_rfl
@[go_sem] theorem Try.ty.if30 : isIface Try.prog 30 = some false := by kernel_rfl
@[go_sem] theorem Try.ty.sz31 : szOf Try.prog 31 = some 1 := by kernel_rfl
@[go_sem] theorem Try.ty.by31 : bytesIn Try.prog 31 = some 8 := by kernel_rfl
@[go_sem] theorem Try.ty.ag31 : aggOf Try.prog 31 = some false := by kernel_rfl
@[go_sem] theorem Try.ty.zr31 : zeroOf Try.prog 31 = some [.val .nilFunc] := by kernel_rfl
@[go_sem] theorem Try.ty.el31 : elemOfSlice Try.prog 31 = none := by kernel_rfl
@[go_sem] theorem Try.ty.ar31 : arrayOf Try.prog 31 = none := by kernel_rfl
@[go_sem] theorem Try.ty.st31 : isStr Try.prog 31 = false := by kernel_rfl
@[go_sem] theorem Try.ty.bo31 : isBool Try.prog 31 = false := by kernel_rfl
@[go_sem] theorem Try.ty.ki31 : kindOf Try.prog 31 = none := by kernel_rfl
@[go_sem] theorem Try.ty.if31 : isIface Try.prog 31 = some false := by kernel_rfl
@[go_sem] theorem Try.ty.sz32 : szOf Try.prog 32 = some 1 := by kernel_rfl
@[go_sem] theorem Try.ty.by32 : bytesIn Try.prog 32 = some 8 := by kernel_rfl
@[go_sem] theorem Try.ty.ag32 : aggOf Try.prog 32 = some false := by kernel_rfl
@[go_sem] theorem Try.ty.zr32 : zeroOf Try.prog 32 = some [.val .nilFunc] := by kernel_rfl
@[go_sem] theorem Try.ty.el32 : elemOfSlice Try.prog 32 = none := by kernel_rfl
@[go_sem] theorem Try.ty.ar32 : arrayOf Try.prog 32 = none := by kernel_rfl
@[go_sem] theorem Try.ty.st32 : isStr Try.prog 32 = false := by kernel_rfl
@[go_sem] theorem Try.ty.bo32 : isBool Try.prog 32 = false := by kernel_rfl
@[go_sem] theorem Try.ty.ki32 : kindOf Try.prog 32 = none := by kernel_rfl
@[go_sem] theorem Try.ty.if32 : isIface Try.prog 32 = some false := by kernel_rfl
@[go_sem] theorem Try.ty.sz33 : szOf Try.prog 33 = some 1 := by kernel_rfl
@[go_sem] theorem Try.ty.by33 : bytesIn Try.prog 33 = some 8 := by kernel_rfl
@[go_sem] theorem Try.ty.ag33 : aggOf Try.prog 33 = some false := by kernel_rfl
@[go_sem] theorem Try.ty.zr33 : zeroOf Try.prog 33 = some [.val .nilFunc] := by kernel_rfl
@[go_sem] theorem Try.ty.el33 : elemOfSlice Try.prog 33 = none := by kernel_rfl
@[go_sem] theorem Try.ty.ar33 : arrayOf Try.prog 33 = none := by kernel_rfl
@[go_sem] theorem Try.ty.st33 : isStr Try.prog 33 = false := by kernel_rfl
@[go_sem] theorem Try.ty.bo33 : isBool Try.prog 33 = false := by kernel_rfl
@[go_sem] theorem Try.ty.ki33 : kindOf Try.prog 33 = none := by kernel_rfl
@[go_sem] theorem Try.ty.if33 : isIface Try.prog 33 = some false := by kernel_rfl
@[go_sem] theorem Try.ty.sz34 : szOf Try.prog 34 = some 1 := by kernel_rfl
@[go_sem] theorem Try.ty.by34 : bytesIn Try.prog 34 = some 8 := by kernel_rfl
@[go_sem] theorem Try.ty.ag34 : aggOf Try.prog 34 = some false := by kernel_rfl
@[go_sem] theorem Try.ty.zr34 : zeroOf Try.prog 34 = some [.val .nilFunc] := by kernel_rfl
@[go_sem] theorem Try.ty.el34 : elemOfSlice Try.prog 34 = none := by kernel_rfl
@[go_sem] theorem Try.ty.ar34 : arrayOf Try.prog 34 = none := by kernel_rfl
@[go_sem] theorem Try.ty.st34 : isStr Try.prog 34 = false := by kernel_rfl
@[go_sem] theorem Try.ty.bo34 : isBool Try.prog 34 = false := by kernel_rfl
@[go_sem] theorem Try.ty.ki34 : kindOf Try.prog 34 = none := by kernel_rfl
@[go_sem] theorem Try.ty.if34 : isIface Try.prog 34 = some false := by kernel_rfl
@[go_sem] theorem Try.ty.sz35 : szOf Try.prog 35 = some 4 := by kernel_rfl
@[go_sem] theorem Try.ty.by35 : bytesIn Try.prog 35 = some 32 := by kernel_rfl
@[go_sem] theorem Try.ty.ag35 : aggOf Try.prog 35 = some true := by kernel_rfl
@[go_sem] theorem Try.ty.zr35 : zeroOf Try.prog 35 = some [.val (.int .i64 0), .val (.int .i64 0), .val (.int .i64 0), .val (.int .i64 0)] := by kernel_rfl
@[go_sem] theorem Try.ty.el35 : elemOfSlice Try.prog 35 = none := by kernel_rfl
@[go_sem] theorem Try.ty.ar35 : arrayOf Try.prog 35 = none := by kernel_rfl
@[go_sem] theorem Try.ty.st35 : isStr Try.prog 35 = false := by kernel_rfl
@[go_sem] theorem Try.ty.bo35 : isBool Try.prog 35 = false := by kernel_rfl
@[go_sem] theorem Try.ty.ki35 : kindOf Try.prog 35 = none := by kernel_rfl
@[go_sem] theorem Try.ty.if35 : isIface Try.prog 35 = some false := by kernel_rfl
@[go_sem] theorem Try.ty.fo0_35 : fieldOf Try.prog 35 0 = some (3, 0) := by kernel_rfl
@[go_sem] theorem Try.ty.fp0_35 : fieldPl Try.prog 35 0 = some (0, 1) := by kernel_rfl
@[go_sem] theorem Try.ty.fo1_35 : fieldOf Try.prog 35 1 = some (3, 1) := by kernel_rfl
@[go_sem] theorem Try.ty.fp1_35 : fieldPl Try.prog 35 1 = some (1, 1) := by kernel_rfl
@[go_sem] theorem Try.ty.fo2_35 : fieldOf Try.prog 35 2 = some (3, 2) := by kernel_rfl
@[go_sem] theorem Try.ty.fp2_35 : fieldPl Try.prog 35 2 = some (2, 1) := by kernel_rfl
@[go_sem] theorem Try.ty.fo3_35 : fieldOf Try.prog 35 3 = some (3, 3) := by kernel_rfl
@[go_sem] theorem Try.ty.fp3_35 : fieldPl Try.prog 35 3 = some (3, 1) := by kernel_rfl
@[go_sem] theorem Try.ty.bk35 : buildOk Try.prog 35 = true := by kernel_rfl
@[go_sem] theorem Try.ty.sz36 : szOf Try.prog 36 = some 4 := by kernel_rfl
@[go_sem] theorem Try.ty.by36 : bytesIn Try.prog 36 = some 32 := by kernel_rfl
@[go_sem] theorem Try.ty.ag36 : aggOf Try.prog 36 = some true := by kernel_rfl
@[go_sem] theorem Try.ty.zr36 : zeroOf Try.prog 36 = some [.val (.int .i64 0), .val (.int .i64 0), .val (.int .i64 0), .val (.int .i64 0)] := by kernel_rfl
@[go_sem] theorem Try.ty.el36 : elemOfSlice Try.prog 36 = none := by kernel_rfl
@[go_sem] theorem Try.ty.ar36 : arrayOf Try.prog 36 = none := by kernel_rfl
@[go_sem] theorem Try.ty.st36 : isStr Try.prog 36 = false := by kernel_rfl
@[go_sem] theorem Try.ty.bo36 : isBool Try.prog 36 = false := by kernel_rfl
@[go_sem] theorem Try.ty.ki36 : kindOf Try.prog 36 = none := by kernel_rfl
@[go_sem] theorem Try.ty.if36 : isIface Try.prog 36 = some false := by kernel_rfl
@[go_sem] theorem Try.ty.fo0_36 : fieldOf Try.prog 36 0 = some (3, 0) := by kernel_rfl
@[go_sem] theorem Try.ty.fp0_36 : fieldPl Try.prog 36 0 = some (0, 1) := by kernel_rfl
@[go_sem] theorem Try.ty.fo1_36 : fieldOf Try.prog 36 1 = some (3, 1) := by kernel_rfl
@[go_sem] theorem Try.ty.fp1_36 : fieldPl Try.prog 36 1 = some (1, 1) := by kernel_rfl
@[go_sem] theorem Try.ty.fo2_36 : fieldOf Try.prog 36 2 = some (3, 2) := by kernel_rfl
@[go_sem] theorem Try.ty.fp2_36 : fieldPl Try.prog 36 2 = some (2, 1) := by kernel_rfl
@[go_sem] theorem Try.ty.fo3_36 : fieldOf Try.prog 36 3 = some (3, 3) := by kernel_rfl
@[go_sem] theorem Try.ty.fp3_36 : fieldPl Try.prog 36 3 = some (3, 1) := by kernel_rfl
@[go_sem] theorem Try.ty.bk36 : buildOk Try.prog 36 = true := by kernel_rfl
@[go_sem] theorem Try.ty.ir36 : intRec Try.prog 36 4 = true := by kernel_rfl
@[go_sem] theorem Try.ty.irl36 (x0 x1 x2 x3 : SV) : intRec Try.prog 36 [x0, x1, x2, x3].length = true := Try.ty.ir36
@[go_sem] theorem Try.ty.sz37 : szOf Try.prog 37 = some 1 := by kernel_rfl
@[go_sem] theorem Try.ty.by37 : bytesIn Try.prog 37 = some 8 := by kernel_rfl
@[go_sem] theorem Try.ty.ag37 : aggOf Try.prog 37 = some false := by kernel_rfl
@[go_sem] theorem Try.ty.zr37 : zeroOf Try.prog 37 = some [.val .nilFunc] := by kernel_rfl
@[go_sem] theorem Try.ty.el37 : elemOfSlice Try.prog 37 = none := by kernel_rfl
@[go_sem] theorem Try.ty.ar37 : arrayOf Try.prog 37 = none := by kernel_rfl
@[go_sem] theorem Try.ty.st37 : isStr Try.prog 37 = false := by kernel_rfl
@[go_sem] theorem Try.ty.bo37 : isBool Try.prog 37 = false := by kernel_rfl
@[go_sem] theorem Try.ty.ki37 : kindOf Try.prog 37 = none := by kernel_rfl
@[go_sem] theorem Try.ty.if37 : isIface Try.prog 37 = some false := by kernel_rfl
@[go_sem] theorem Try.ty.sz38 : szOf Try.prog 38 = some 1 := by kernel_rfl
@[go_sem] theorem Try.ty.by38 : bytesIn Try.prog 38 = some 8 := by kernel_rfl
@[go_sem] theorem Try.ty.ag38 : aggOf Try.prog 38 = some false := by kernel_rfl
@[go_sem] theorem Try.ty.zr38 : zeroOf Try.prog 38 = some [.val .nilFunc] := by kernel_rfl
@[go_sem] theorem Try.ty.el38 : elemOfSlice Try.prog 38 = none := by kernel_rfl
@[go_sem] theorem Try.ty.ar38 : arrayOf Try.prog 38 = none := by kernel_rfl
@[go_sem] theorem Try.ty.st38 : isStr Try.prog 38 = false := by kernel_rfl
@[go_sem] theorem Try.ty.bo38 : isBool Try.prog 38 = false := by kernel_rfl
@[go_sem] theorem Try.ty.ki38 : kindOf Try.prog 38 = none := by kernel_rfl
@[go_sem] theorem Try.ty.if38 : isIface Try.prog 38 = some false := by kernel_rfl
@[go_sem] theorem Try.ty.sz39 : szOf Try.prog 39 = some 1 := by kernel_rfl
@[go_sem] theorem Try.ty.by39 : bytesIn Try.prog 39 = some 24 := by kernel_rfl
@[go_sem] theorem Try.ty.ag39 : aggOf Try.prog 39 = some false := by kernel_rfl
@[go_sem] theorem Try.ty.zr39 : zeroOf Try.prog 39 = some [.val (.slice none 0 0)] := by kernel_rfl
@[go_sem] theorem Try.ty.el39 : elemOfSlice Try.prog 39 = some 116 := by kernel_rfl
@[go_sem] theorem Try.ty.ar39 : arrayOf Try.prog 39 = none := by kernel_rfl
@[go_sem] theorem Try.ty.st39 : isStr Try.prog 39 = false := by kernel_rfl
@[go_sem] theorem Try.ty.bo39 : isBool Try.prog 39 = false := by kernel_rfl
@[go_sem] theorem Try.ty.ki39 : kindOf Try.prog 39 = none := by kernel_rfl
@[go_sem] theorem Try.ty.if39 : isIface Try.prog 39 = some false := by kernel_rfl
@[go_sem] theorem Try.ty.un39 : Try.prog.underlying 39 = some (.slice 116) := by kernel_rfl
@[go_sem] theorem Try.ty.sz40 : szOf Try.prog 40 = some 1 := by kernel_rfl
@[go_sem] theorem Try.ty.by40 : bytesIn Try.prog 40 = some 8 := by kernel_rfl
@[go_sem] theorem Try.ty.ag40 : aggOf Try.prog 40 = some false := by kernel_rfl
@[go_sem] theorem Try.ty.zr40 : zeroOf Try.prog 40 = some [.val .nilFunc] := by kernel_rfl
@[go_sem] theorem Try.ty.el40 : elemOfSlice Try.prog 40 = none := by kernel_rfl
@[go_sem] theorem Try.ty.ar40 : arrayOf Try.prog 40 = none := by kernel_rfl
@[go_sem] theorem Try.ty.st40 : isStr Try.prog 40 = false := by kernel_rfl
@[go_sem] theorem Try.ty.bo40 : isBool Try.prog 40 = false := by kernel_rfl
@[go_sem] theorem Try.ty.ki40 : kindOf Try.prog 40 = none := by kernel_rfl
@[go_sem] theorem Try.ty.if40 : isIface Try.prog 40 = some false := by kernel_rfl
@[go_sem] theorem Try.ty.sz41 : szOf Try.prog 41 = some 1 := by kernel_rfl
@[go_sem] theorem Try.ty.by41 : bytesIn Try.prog 41 = some 8 := by kernel_rfl
@[go_sem] theorem Try.ty.ag41 : aggOf Try.prog 41 = some false := by kernel_rfl
@[go_sem] theorem Try.ty.zr41 : zeroOf Try.prog 41 = some [.val .nilFunc] := by kernel_rfl
@[go_sem] theorem Try.ty.el41 : elemOfSlice Try.prog 41 = none := by kernel_rfl
@[go_sem] theorem Try.ty.ar41 : arrayOf Try.prog 41 = none := by kernel_rfl
@[go_sem] theorem Try.ty.st41 : isStr Try.prog 41 = false := by kernel_rfl
@[go_sem] theorem Try.ty.bo41 : isBool Try.prog 41 = false := by kernel_rfl
@[go_sem] theorem Try.ty.ki41 : kindOf Try.prog 41 = none := by kernel_rfl
@[go_sem] theorem Try.ty.if41 : isIface Try.prog 41 = some false := by kernel_rfl
@[go_sem] theorem Try.ty.sz42 : szOf Try.prog 42 = some 1 := by kernel_rfl
@[go_sem] theorem Try.ty.by42 : bytesIn Try.prog 42 = some 8 := by kernel_rfl
@[go_sem] theorem Try.ty.ag42 : aggOf Try.prog 42 = some false := by kernel_rfl
@[go_sem] theorem Try.ty.zr42 : zeroOf Try.prog 42 = some [.val .nilFunc] := by kernel_rfl
@[go_sem] theorem Try.ty.el42 : elemOfSlice Try.prog 42 = none := by kernel_rfl
@[go_sem] theorem Try.ty.ar42 : arrayOf Try.prog 42 = none := by kernel_rfl
@[go_sem] theorem Try.ty.st42 : isStr Try.prog 42 = false := by kernel_rfl
@[go_sem] theorem Try.ty.bo42 : isBool Try.prog 42 = false := by kernel_rfl
@[go_sem] theorem Try.ty.ki42 : kindOf Try.prog 42 = none := by kernel_rfl
@[go_sem] theorem Try.ty.if42 : isIface Try.prog 42 = some false := by kernel_rfl
@[go_sem] theorem Try.ty.sz43 : szOf Try.prog 43 = some 1 := by kernel_rfl
@[go_sem] theorem Try.ty.by43 : bytesIn Try.prog 43 = some 8 := by kernel_rfl
@[go_sem] theorem Try.ty.ag43 : aggOf Try.prog 43 = some false := by kernel_rfl
@[go_sem] theorem Try.ty.zr43 : zeroOf Try.prog 43 = some [.val .nilFunc] := by kernel_rfl
@[go_sem] theorem Try.ty.el43 : elemOfSlice Try.prog 43 = none := by kernel_rfl
@[go_sem] theorem Try.ty.ar43 : arrayOf Try.prog 43 = none := by kernel_rfl
@[go_sem] theorem Try.ty.st43 : isStr Try.prog 43 = false := by kernel_rfl
@[go_sem] theorem Try.ty.bo43 : isBool Try.prog 43 = false := by kernel_rfl
@[go_sem] theorem Try.ty.ki43 : kindOf Try.prog 43 = none := by kernel_rfl
@[go_sem] theorem Try.ty.if43 : isIface Try.prog 43 = some false := by kernel_rfl
@[go_sem] theorem Try.ty.sz44 : szOf Try.prog 44 = some 1 := by kernel_rfl
@[go_sem] theorem Try.ty.by44 : bytesIn Try.prog 44 = some 8 := by kernel_rfl
@[go_sem] theorem Try.ty.ag44 : aggOf Try.prog 44 = some false := by kernel_rfl
@[go_sem] theorem Try.ty.zr44 : zeroOf Try.prog 44 = some [.val .nilFunc] := by kernel_rfl
@[go_sem] theorem Try.ty.el44 : elemOfSlice Try.prog 44 = none := by kernel_rfl
@[go_sem] theorem Try.ty.ar44 : arrayOf Try.prog 44 = none := by kernel_rfl
@[go_sem] theorem Try.ty.st44 : isStr Try.prog 44 = false := by kernel_rfl
@[go_sem] theorem Try.ty.bo44 : isBool Try.prog 44 = false := by kernel_rfl
@[go_sem] theorem Try.ty.ki44 : kindOf Try.prog 44 = none := by kernel_rfl
@[go_sem] theorem Try.ty.if44 : isIface Try.prog 44 = some false := by kernel_rfl
@[go_sem] theorem Try.ty.sz45 : szOf Try.prog 45 = some 1 := by kernel_rfl
@[go_sem] theorem Try.ty.by45 : bytesIn Try.prog 45 = some 8 := by kernel_rfl
@[go_sem] theorem Try.ty.ag45 : aggOf Try.prog 45 = some false := by kernel_rfl
@[go_sem] theorem Try.ty.zr45 : zeroOf Try.prog 45 = some [.val .nilFunc] := by kernel_rfl
@[go_sem] theorem Try.ty.el45 : elemOfSlice Try.prog 45 = none := by kernel_rfl
@[go_sem] theorem Try.ty.ar45 : arrayOf Try.prog 45 = none := by kernel_rfl
@[go_sem] theorem Try.ty.st45 : isStr Try.prog 45 = false := by kernel_rfl
@[go_sem] theorem Try.ty.bo45 : isBool Try.prog 45 = false := by kernel_rfl
@[go_sem] theorem Try.ty.ki45 : kindOf Try.prog 45 = none := by kernel_rfl
@[go_sem] theorem Try.ty.if45 : isIface Try.prog 45 = some false := by kernel_rfl
@[go_sem] theorem Try.ty.sz46 : szOf Try.prog 46 = some 1 := by kernel_rfl
@[go_sem] theorem Try.ty.by46 : bytesIn Try.prog 46 = some 24 := by kernel_rfl
@[go_sem] theorem Try.ty.ag46 : aggOf Try.prog 46 = some false := by kernel_rfl
@[go_sem] theorem Try.ty.zr46 : zeroOf Try.prog 46 = some [.val (.slice none 0 0)] := by kernel_rfl
@[go_sem] theorem Try.ty.el46 : elemOfSlice Try.prog 46 = some 131 := by kernel_rfl
@[go_sem] theorem Try.ty.ar46 : arrayOf Try.prog 46 = none := by kernel_rfl
@[go_sem] theorem Try.ty.st46 : isStr Try.prog 46 = false := by kernel_rfl
@[go_sem] theorem Try.ty.bo46 : isBool Try.prog 46 = false := by kernel_rfl
@[go_sem] theorem Try.ty.ki46 : kindOf Try.prog 46 = none := by kernel_rfl
@[go_sem] theorem Try.ty.if46 : isIface Try.prog 46 = some false := by kernel_rfl
@[go_sem] theorem Try.ty.un46 : Try.prog.underlying 46 = some (.slice 131) := by kernel_rfl
@[go_sem] theorem Try.ty.sz47 : szOf Try.prog 47 = some 1 := by kernel_rfl
@[go_sem] theorem Try.ty.by47 : bytesIn Try.prog 47 = some 24 := by kernel_rfl
@[go_sem] theorem Try.ty.ag47 : aggOf Try.prog 47 = some true := by kernel_rfl
@[go_sem] theorem Try.ty.zr47 : zeroOf Try.prog 47 = some [.val (.slice none 0 0)] := by kernel_rfl
@[go_sem] theorem Try.ty.el47 : elemOfSlice Try.prog 47 = none := by kernel_rfl
@[go_sem] theorem Try.ty.ar47 : arrayOf Try.prog 47 = none := by kernel_rfl
@[go_sem] theorem Try.ty.st47 : isStr Try.prog 47 = false := by kernel_rfl
@[go_sem] theorem Try.ty.bo47 : isBool Try.prog 47 = false := by kernel_rfl
@[go_sem] theorem Try.ty.ki47 : kindOf Try.prog 47 = none := by kernel_rfl
@[go_sem] theorem Try.ty.if47 : isIface Try.prog 47 = some false := by kernel_rfl
@[go_sem] theorem Try.ty.fo0_47 : fieldOf Try.prog 47 0 = some (46, 0) := by kernel_rfl
@[go_sem] theorem Try.ty.fp0_47 : fieldPl Try.prog 47 0 = some (0, 1) := by kernel_rfl
@[go_sem] theorem Try.ty.bk47 : buildOk Try.prog 47 = true := by kernel_rfl
@[go_sem] theorem Try.ty.sz48 : szOf Try.prog 48 = some 1 := by kernel_rfl
@[go_sem] theorem Try.ty.by48 : bytesIn Try.prog 48 = some 24 := by kernel_rfl
@[go_sem] theorem Try.ty.ag48 : aggOf Try.prog 48 = some true := by kernel_rfl
@[go_sem] theorem Try.ty.zr48 : zeroOf Try.prog 48 = some [.val (.slice none 0 0)] := by kernel_rfl
@[go_sem] theorem Try.ty.el48 : elemOfSlice Try.prog 48 = none := by kernel_rfl
@[go_sem] theorem Try.ty.ar48 : arrayOf Try.prog 48 = none := by kernel_rfl
@[go_sem] theorem Try.ty.st48 : isStr Try.prog 48 = false := by kernel_rfl
@[go_sem] theorem Try.ty.bo48 : isBool Try.prog 48 = false := by kernel_rfl
@[go_sem] theorem Try.ty.ki48 : kindOf Try.prog 48 = none := by kernel_rfl
@[go_sem] theorem Try.ty.if48 : isIface Try.prog 48 = some false := by kernel_rfl
@[go_sem] theorem Try.ty.fo0_48 : fieldOf Try.prog 48 0 = some (46, 0) := by kernel_rfl
@[go_sem] theorem Try.ty.fp0_48 : fieldPl Try.prog 48 0 = some (0, 1) := by kernel_rfl
@[go_sem] theorem Try.ty.bk48 : buildOk Try.prog 48 = true := by kernel_rfl
@[go_sem] theorem Try.ty.sz49 : szOf Try.prog 49 = some 2 := by kernel_rfl
@[go_sem] theorem Try.ty.by49 : bytesIn Try.prog 49 = some 32 := by kernel_rfl
@[go_sem] theorem Try.ty.ag49 : aggOf Try.prog 49 = some true := by kernel_rfl
@[go_sem] theorem Try.ty.zr49 : zeroOf Try.prog 49 = some [.val (.slice none 0 0), .val (.int .i64 0)] := by kernel_rfl
@[go_sem] theorem Try.ty.el49 : elemOfSlice Try.prog 49 = none := by kernel_rfl
@[go_sem] theorem Try.ty.ar49 : arrayOf Try.prog 49 = none := by kernel_rfl
@[go_sem] theorem Try.ty.st49 : isStr Try.prog 49 = false := by kernel_rfl
@[go_sem] theorem Try.ty.bo49 : isBool Try.prog 49 = false := by kernel_rfl
@[go_sem] theorem Try.ty.ki49 : kindOf Try.prog 49 = none := by kernel_rfl
@[go_sem] theorem Try.ty.if49 : isIface Try.prog 49 = some false := by kernel_rfl
@[go_sem] theorem Try.ty.fo0_49 : fieldOf Try.prog 49 0 = some (25, 0) := by kernel_rfl
@[go_sem] theorem Try.ty.fp0_49 : fieldPl Try.prog 49 0 = some (0, 1) := by kernel_rfl
@[go_sem] theorem Try.ty.fo1_49 : fieldOf Try.prog 49 1 = some (3, 1) := by kernel_rfl
@[go_sem] theorem Try.ty.fp1_49 : fieldPl Try.prog 49 1 = some (1, 1) := by kernel_rfl
@[go_sem] theorem Try.ty.bk49 : buildOk Try.prog 49 = true := by kernel_rfl
@[go_sem] theorem Try.ty.sz50 : szOf Try.prog 50 = some 2 := by kernel_rfl
@[go_sem] theorem Try.ty.by50 : bytesIn Try.prog 50 = some 32 := by kernel_rfl
@[go_sem] theorem Try.ty.ag50 : aggOf Try.prog 50 = some true := by kernel_rfl
@[go_sem] theorem Try.ty.zr50 : zeroOf Try.prog 50 = some [.val (.slice none 0 0), .val (.int .i64 0)] := by kernel_rfl
@[go_sem] theorem Try.ty.el50 : elemOfSlice Try.prog 50 = none := by kernel_rfl
@[go_sem] theorem Try.ty.ar50 : arrayOf Try.prog 50 = none := by kernel_rfl
@[go_sem] theorem Try.ty.st50 : isStr Try.prog 50 = false := by kernel_rfl
@[go_sem] theorem Try.ty.bo50 : isBool Try.prog 50 = false := by kernel_rfl
@[go_sem] theorem Try.ty.ki50 : kindOf Try.prog 50 = none := by kernel_rfl
@[go_sem] theorem Try.ty.if50 : isIface Try.prog 50 = some false := by kernel_rfl
@[go_sem] theorem Try.ty.fo0_50 : fieldOf Try.prog 50 0 = some (25, 0) := by kernel_rfl
@[go_sem] theorem Try.ty.fp0_50 : fieldPl Try.prog 50 0 = some (0, 1) := by kernel_rfl
@[go_sem] theorem Try.ty.fo1_50 : fieldOf Try.prog 50 1 = some (3, 1) := by kernel_rfl
@[go_sem] theorem Try.ty.fp1_50 : fieldPl Try.prog 50 1 = some (1, 1) := by kernel_rfl
@[go_sem] theorem Try.ty.bk50 : buildOk Try.prog 50 = true := by kernel_rfl
@[go_sem] theorem Try.ty.sz51 : szOf Try.prog 51 = some 1 := by kernel_rfl
@[go_sem] theorem Try.ty.by51 : bytesIn Try.prog 51 = some 8 := by kernel_rfl
@[go_sem] theorem Try.ty.ag51 : aggOf Try.prog 51 = some false := by kernel_rfl
@[go_sem] theorem Try.ty.zr51 : zeroOf Try.prog 51 = some [.val .nilFunc] := by kernel_rfl
@[go_sem] theorem Try.ty.el51 : elemOfSlice Try.prog 51 = none := by kernel_rfl
@[go_sem] theorem Try.ty.ar51 : arrayOf Try.prog 51 = none := by kernel_rfl
@[go_sem] theorem Try.ty.st51 : isStr Try.prog 51 = false := by kernel_rfl
@[go_sem] theorem Try.ty.bo51 : isBool Try.prog 51 = false := by kernel_rfl
@[go_sem] theorem Try.ty.ki51 : kindOf Try.prog 51 = none := by kernel_rfl
@[go_sem] theorem Try.ty.if51 : isIface Try.prog 51 = some false := by kernel_rfl
@[go_sem] theorem Try.ty.sz52 : szOf Try.prog 52 = some 1 := by kernel_rfl
@[go_sem] theorem Try.ty.by52 : bytesIn Try.prog 52 = some 8 := by kernel_rfl
@[go_sem] theorem Try.ty.ag52 : aggOf Try.prog 52 = some false := by kernel_rfl
@[go_sem] theorem Try.ty.zr52 : zeroOf Try.prog 52 = some [.val .nilFunc] := by kernel_rfl
@[go_sem] theorem Try.ty.el52 : elemOfSlice Try.prog 52 = none := by kernel_rfl
@[go_sem] theorem Try.ty.ar52 : arrayOf Try.prog 52 = none := by kernel_rfl
@[go_sem] theorem Try.ty.st52 : isStr Try.prog 52 = false := by kernel_rfl
@[go_sem] theorem Try.ty.bo52 : isBool Try.prog 52 = false := by kernel_rfl
@[go_sem] theorem Try.ty.ki52 : kindOf Try.prog 52 = none := by kernel_rfl
@[go_sem] theorem Try.ty.if52 : isIface Try.prog 52 = some false := by kernel_rfl
@[go_sem] theorem Try.ty.sz53 : szOf Try.prog 53 = some 1 := by kernel_rfl
@[go_sem] theorem Try.ty.by53 : bytesIn Try.prog 53 = some 8 := by kernel_rfl
@[go_sem] theorem Try.ty.ag53 : aggOf Try.prog 53 = some false := by kernel_rfl
@[go_sem] theorem Try.ty.zr53 : zeroOf Try.prog 53 = some [.val .nilFunc] := by kernel_rfl
@[go_sem] theorem Try.ty.el53 : elemOfSlice Try.prog 53 = none := by kernel_rfl
@[go_sem] theorem Try.ty.ar53 : arrayOf Try.prog 53 = none := by kernel_rfl
@[go_sem] theorem Try.ty.st53 : isStr Try.prog 53 = false := by kernel_rfl
@[go_sem] theorem Try.ty.bo53 : isBool Try.prog 53 = false := by kernel_rfl
@[go_sem] theorem Try.ty.ki53 : kindOf Try.prog 53 = none := by kernel_rfl
@[go_sem] theorem Try.ty.if53 : isIface Try.prog 53 = some false := by kernel_rfl
@[go_sem] theorem Try.ty.sz54 : szOf Try.prog 54 = some 1 := by kernel_rfl
@[go_sem] theorem Try.ty.by54 : bytesIn Try.prog 54 = some 24 := by kernel_rfl
@[go_sem] theorem Try.ty.ag54 : aggOf Try.prog 54 = some false := by kernel_rfl
@[go_sem] theorem Try.ty.zr54 : zeroOf Try.prog 54 = some [.val (.slice none 0 0)] := by kernel_rfl
@[go_sem] theorem Try.ty.el54 : elemOfSlice Try.prog 54 = some 134 := by kernel_rfl
@[go_sem] theorem Try.ty.ar54 : arrayOf Try.prog 54 = none := by kernel_rfl
@[go_sem] theorem Try.ty.st54 : isStr Try.prog 54 = false := by kernel_rfl
@[go_sem] theorem Try.ty.bo54 : isBool Try.prog 54 = false := by kernel_rfl
@[go_sem] theorem Try.ty.ki54 : kindOf Try.prog 54 = none := by kernel_rfl
@[go_sem] theorem Try.ty.if54 : isIface Try.prog 54 = some false := by kernel_rfl
@[go_sem] theorem Try.ty.un54 : Try.prog.underlying 54 = some (.slice 134) := by kernel_rfl
@[go_sem] theorem Try.ty.sz55 : szOf Try.prog 55 = some 1 := by kernel_rfl
@[go_sem] theorem Try.ty.by55 : bytesIn Try.prog 55 = some 24 := by kernel_rfl
@[go_sem] theorem Try.ty.ag55 : aggOf Try.prog 55 = some true := by kernel_rfl
@[go_sem] theorem Try.ty.zr55 : zeroOf Try.prog 55 = some [.val (.slice none 0 0)] := by kernel_rfl
@[go_sem] theorem Try.ty.el55 : elemOfSlice Try.prog 55 = none := by kernel_rfl
@[go_sem] theorem Try.ty.ar55 : arrayOf Try.prog 55 = none := by kernel_rfl
@[go_sem] theorem Try.ty.st55 : isStr Try.prog 55 = false := by kernel_rfl
@[go_sem] theorem Try.ty.bo55 : isBool Try.prog 55 = false := by kernel_rfl
@[go_sem] theorem Try.ty.ki55 : kindOf Try.prog 55 = none := by kernel_rfl
@[go_sem] theorem Try.ty.if55 : isIface Try.prog 55 = some false := by kernel_rfl
@[go_sem] theorem Try.ty.fo0_55 : fieldOf Try.prog 55 0 = some (54, 0) := by kernel_rfl
@[go_sem] theorem Try.ty.fp0_55 : fieldPl Try.prog 55 0 = some (0, 1) := by kernel_rfl
@[go_sem] theorem Try.ty.bk55 : buildOk Try.prog 55 = true := by kernel_rfl
@[go_sem] theorem Try.ty.sz56 : szOf Try.prog 56 = some 1 := by kernel_rfl
@[go_sem] theorem Try.ty.by56 : bytesIn Try.prog 56 = some 24 := by kernel_rfl
@[go_sem] theorem Try.ty.ag56 : aggOf Try.prog 56 = some true := by kernel_rfl
@[go_sem] theorem Try.ty.zr56 : zeroOf Try.prog 56 = some [.val (.slice none 0 0)] := by kernel_rfl
@[go_sem] theorem Try.ty.el56 : elemOfSlice Try.prog 56 = none := by kernel_rfl
@[go_sem] theorem Try.ty.ar56 : arrayOf Try.prog 56 = none := by kernel_rfl
@[go_sem] theorem Try.ty.st56 : isStr Try.prog 56 = false := by kernel_rfl
@[go_sem] theorem Try.ty.bo56 : isBool Try.prog 56 = false := by kernel_rfl
@[go_sem] theorem Try.ty.ki56 : kindOf Try.prog 56 = none := by kernel_rfl
@[go_sem] theorem Try.ty.if56 : isIface Try.prog 56 = some false := by kernel_rfl
@[go_sem] theorem Try.ty.fo0_56 : fieldOf Try.prog 56 0 = some (54, 0) := by kernel_rfl
@[go_sem] theorem Try.ty.fp0_56 : fieldPl Try.prog 56 0 = some (0, 1) := by kernel_rfl
@[go_sem] theorem Try.ty.bk56 : buildOk Try.prog 56 = true := by kernel_rfl
@[go_sem] theorem Try.ty.sz57 : szOf Try.prog 57 = some 1 := by kernel_rfl
@[go_sem] theorem Try.ty.by57 : bytesIn Try.prog 57 = some 8 := by kernel_rfl
@[go_sem] theorem Try.ty.ag57 : aggOf Try.prog 57 = some false := by kernel_rfl
@[go_sem] theorem Try.ty.zr57 : zeroOf Try.prog 57 = some [.val .nilFunc] := by kernel_rfl
@[go_sem] theorem Try.ty.el57 : elemOfSlice Try.prog 57 = none := by kernel_rfl
@[go_sem] theorem Try.ty.ar57 : arrayOf Try.prog 57 = none := by kernel_rfl
@[go_sem] theorem Try.ty.st57 : isStr Try.prog 57 = false := by kernel_rfl
@[go_sem] theorem Try.ty.bo57 : isBool Try.prog 57 = false := by kernel_rfl
@[go_sem] theorem Try.ty.ki57 : kindOf Try.prog 57 = none := by kernel_rfl
@[go_sem] theorem Try.ty.if57 : isIface Try.prog 57 = some false := by kernel_rfl
@[go_sem] theorem Try.ty.sz58 : szOf Try.prog 58 = some 2 := by kernel_rfl
@[go_sem] theorem Try.ty.by58 : bytesIn Try.prog 58 = some 32 := by kernel_rfl
@[go_sem] theorem Try.ty.ag58 : aggOf Try.prog 58 = some true := by kernel_rfl
@[go_sem] theorem Try.ty.zr58 : zeroOf Try.prog 58 = some [.val (.slice none 0 0), .val (.int .i64 0)] := by kernel_rfl
@[go_sem] theorem Try.ty.el58 : elemOfSlice Try.prog 58 = none := by kernel_rfl
@[go_sem] theorem Try.ty.ar58 : arrayOf Try.prog 58 = none := by kernel_rfl
@[go_sem] theorem Try.ty.st58 : isStr Try.prog 58 = false := by kernel_rfl
@[go_sem] theorem Try.ty.bo58 : isBool Try.prog 58 = false := by kernel_rfl
@[go_sem] theorem Try.ty.ki58 : kindOf Try.prog 58 = none := by kernel_rfl
@[go_sem] theorem Try.ty.if58 : isIface Try.prog 58 = some false := by kernel_rfl
@[go_sem] theorem Try.ty.fo0_58 : fieldOf Try.prog 58 0 = some (25, 0) := by kernel_rfl
@[go_sem] theorem Try.ty.fp0_58 : fieldPl Try.prog 58 0 = some (0, 1) := by kernel_rfl
@[go_sem] theorem Try.ty.fo1_58 : fieldOf Try.prog 58 1 = some (3, 1) := by kernel_rfl
@[go_sem] theorem Try.ty.fp1_58 : fieldPl Try.prog 58 1 = some (1, 1) := by kernel_rfl
@[go_sem] theorem Try.ty.bk58 : buildOk Try.prog 58 = true := by kernel_rfl
@[go_sem] theorem Try.ty.sz59 : szOf Try.prog 59 = some 1 := by kernel_rfl
@[go_sem] theorem Try.ty.by59 : bytesIn Try.prog 59 = some 8 := by kernel_rfl
@[go_sem] theorem Try.ty.ag59 : aggOf Try.prog 59 = some false := by kernel_rfl
@[go_sem] theorem Try.ty.zr59 : zeroOf Try.prog 59 = some [.val .nilFunc] := by kernel_rfl
@[go_sem] theorem Try.ty.el59 : elemOfSlice Try.prog 59 = none := by kernel_rfl
@[go_sem] theorem Try.ty.ar59 : arrayOf Try.prog 59 = none := by kernel_rfl
@[go_sem] theorem Try.ty.st59 : isStr Try.prog 59 = false := by kernel_rfl
@[go_sem] theorem Try.ty.bo59 : isBool Try.prog 59 = false := by kernel_rfl
@[go_sem] theorem Try.ty.ki59 : kindOf Try.prog 59 = none := by kernel_rfl
@[go_sem] theorem Try.ty.if59 : isIface Try.prog 59 = some false := by kernel_rfl
@[go_sem] theorem Try.ty.sz60 : szOf Try.prog 60 = some 1 := by kernel_rfl
@[go_sem] theorem Try.ty.by60 : bytesIn Try.prog 60 = some 8 := by kernel_rfl
@[go_sem] theorem Try.ty.ag60 : aggOf Try.prog 60 = some false := by kernel_rfl
@[go_sem] theorem Try.ty.zr60 : zeroOf Try.prog 60 = some [.val .nilFunc] := by kernel_rfl
@[go_sem] theorem Try.ty.el60 : elemOfSlice Try.prog 60 = none := by kernel_rfl
@[go_sem] theorem Try.ty.ar60 : arrayOf Try.prog 60 = none := by kernel_rfl
@[go_sem] theorem Try.ty.st60 : isStr Try.prog 60 = false := by kernel_rfl
@[go_sem] theorem Try.ty.bo60 : isBool Try.prog 60 = false := by kernel_rfl
@[go_sem] theorem Try.ty.ki60 : kindOf Try.prog 60 = none := by kernel_rfl
@[go_sem] theorem Try.ty.if60 : isIface Try.prog 60 = some false := by kernel_rfl
@[go_sem] theorem Try.ty.sz61 : szOf Try.prog 61 = some 1 := by kernel_rfl
@[go_sem] theorem Try.ty.by61 : bytesIn Try.prog 61 = some 8 := by kernel_rfl
@[go_sem] theorem Try.ty.ag61 : aggOf Try.prog 61 = some false := by kernel_rfl
@[go_sem] theorem Try.ty.zr61 : zeroOf Try.prog 61 = some [.val .nilFunc] := by kernel_rfl
@[go_sem] theorem Try.ty.el61 : elemOfSlice Try.prog 61 = none := by kernel_rfl
@[go_sem] theorem Try.ty.ar61 : arrayOf Try.prog 61 = none := by kernel_rfl
@[go_sem] theorem Try.ty.st61 : isStr Try.prog 61 = false := by kernel_rfl
@[go_sem] theorem Try.ty.bo61 : isBool Try.prog 61 = false := by kernel_rfl
@[go_sem] theorem Try.ty.ki61 : kindOf Try.prog 61 = none := by kernel_rfl
@[go_sem] theorem Try.ty.if61 : isIface Try.prog 61 = some false := by kernel_rfl
@[go_sem] theorem Try.ty.sz62 : szOf Try.prog 62 = some 1 := by kernel_rfl
@[go_sem] theorem Try.ty.by62 : bytesIn Try.prog 62 = some 8 := by kernel_rfl
@[go_sem] theorem Try.ty.ag62 : aggOf Try.prog 62 = some false := by kernel_rfl
@[go_sem] theorem Try.ty.zr62 : zeroOf Try.prog 62 = some [.val .nilFunc] := by kernel_rfl
@[go_sem] theorem Try.ty.el62 : elemOfSlice Try.prog 62 = none := by kernel_rfl
@[go_sem] theorem Try.ty.ar62 : arrayOf Try.prog 62 = none := by kernel_rfl
@[go_sem] theorem Try.ty.st62 : isStr Try.prog 62 = false := by kernel_rfl
@[go_sem] theorem Try.ty.bo62 : isBool Try.prog 62 = false := by kernel_rfl
@[go_sem] theorem Try.ty.ki62 : kindOf Try.prog 62 = none := by kernel_rfl
@[go_sem] theorem Try.ty.if62 : isIface Try.prog 62 = some false := by kernel_rfl
@[go_sem] theorem Try.ty.sz63 : szOf Try.prog 63 = some 1 := by kernel_rfl
@[go_sem] theorem Try.ty.by63 : bytesIn Try.prog 63 = some 8 := by kernel_rfl
@[go_sem] theorem Try.ty.ag63 : aggOf Try.prog 63 = some false := by kernel_rfl
@[go_sem] theorem Try.ty.zr63 : zeroOf Try.prog 63 = some [.val .nilFunc] := by kernel_rfl
@[go_sem] theorem Try.ty.el63 : elemOfSlice Try.prog 63 = none := by kernel_rfl
@[go_sem] theorem Try.ty.ar63 : arrayOf Try.prog 63 = none := by kernel_rfl
@[go_sem] theorem Try.ty.st63 : isStr Try.prog 63 = false := by kernel_rfl
@[go_sem] theorem Try.ty.bo63 : isBool Try.prog 63 = false := by kernel_rfl
@[go_sem] theorem Try.ty.ki63 : kindOf Try.prog 63 = none := by kernel_rfl
@[go_sem] theorem Try.ty.if63 : isIface Try.prog 63 = some false := by kernel_rfl
@[go_sem] theorem Try.ty.sz65 : szOf Try.prog 65 = some 1 := by kernel_rfl
@[go_sem] theorem Try.ty.by65 : bytesIn Try.prog 65 = some 8 := by kernel_rfl
@[go_sem] theorem Try.ty.ag65 : aggOf Try.prog 65 = some false := by kernel_rfl
@[go_sem] theorem Try.ty.zr65 : zeroOf Try.prog 65 = some [.val .nilFunc] := by kernel_rfl
@[go_sem] theorem Try.ty.el65 : elemOfSlice Try.prog 65 = none := by kernel_rfl
@[go_sem] theorem Try.ty.ar65 : arrayOf Try.prog 65 = none := by kernel_rfl
@[go_sem] theorem Try.ty.st65 : isStr Try.prog 65 = false := by kernel_rfl
@[go_sem] theorem Try.ty.bo65 : isBool Try.prog 65 = false := by kernel_rfl
@[go_sem] theorem Try.ty.ki65 : kindOf Try.prog 65 = none := by kernel_rfl
@[go_sem] theorem Try.ty.if65 : isIface Try.prog 65 = some false := by kernel_rfl
@[go_sem] theorem Try.ty.sz66 : szOf Try.prog 66 = some 1 := by kernel_rfl
@[go_sem] theorem Try.ty.by66 : bytesIn Try.prog 66 = some 8 := by kernel_rfl
@[go_sem] theorem Try.ty.ag66 : aggOf Try.prog 66 = some false := by kernel_rfl
@[go_sem] theorem Try.ty.zr66 : zeroOf Try.prog 66 = some [.val .nilFunc] := by kernel_rfl
@[go_sem] theorem Try.ty.el66 : elemOfSlice Try.prog 66 = none := by kernel_rfl
@[go_sem] theorem Try.ty.ar66 : arrayOf Try.prog 66 = none := by kernel_rfl
@[go_sem] theorem Try.ty.st66 : isStr Try.prog 66 = false := by kernel_rfl
@[go_sem] theorem Try.ty.bo66 : isBool Try.prog 66 = false := by kernel_rfl
@[go_sem] theorem Try.ty.ki66 : kindOf Try.prog 66 = none := by kernel_rfl
@[go_sem] theorem Try.ty.if66 : isIface Try.prog 66 = some false := by kernel_rfl
@[go_sem] theorem Try.ty.sz68 : szOf Try.prog 68 = some 1 := by kernel_rfl
@[go_sem] theorem Try.ty.by68 : bytesIn Try.prog 68 = some 8 := by kernel_rfl
@[go_sem] theorem Try.ty.ag68 : aggOf Try.prog 68 = some false := by kernel_rfl
@[go_sem] theorem Try.ty.zr68 : zeroOf Try.prog 68 = some [.val .nilFunc] := by kernel_rfl
@[go_sem] theorem Try.ty.el68 : elemOfSlice Try.prog 68 = none := by kernel_rfl
@[go_sem] theorem Try.ty.ar68 : arrayOf Try.prog 68 = none := by kernel_rfl
@[go_sem] theorem Try.ty.st68 : isStr Try.prog 68 = false := by kernel_rfl
@[go_sem] theorem Try.ty.bo68 : isBool Try.prog 68 = false := by kernel_rfl
@[go_sem] theorem Try.ty.ki68 : kindOf Try.prog 68 = none := by kernel_rfl
@[go_sem] theorem Try.ty.if68 : isIface Try.prog 68 = some false := by kernel_rfl
@[go_sem] theorem Try.ty.sz69 : szOf Try.prog 69 = some 1 := by kernel_rfl
@[go_sem] theorem Try.ty.by69 : bytesIn Try.prog 69 = some 8 := by kernel_rfl
@[go_sem] theorem Try.ty.ag69 : aggOf Try.prog 69 = some false := by kernel_rfl
@[go_sem] theorem Try.ty.zr69 : zeroOf Try.prog 69 = some [.val .nilFunc] := by kernel_rfl
@[go_sem] theorem Try.ty.el69 : elemOfSlice Try.prog 69 = none := by kernel_rfl
@[go_sem] theorem Try.ty.ar69 : arrayOf Try.prog 69 = none := by kernel_rfl
@[go_sem] theorem Try.ty.st69 : isStr Try.prog 69 = false := by kernel_rfl
@[go_sem] theorem Try.ty.bo69 : isBool Try.prog 69 = false := by kernel_rfl
@[go_sem] theorem Try.ty.ki69 : kindOf Try.prog 69 = none := by kernel_rfl
@[go_sem] theorem Try.ty.if69 : isIface Try.prog 69 = some false := by kernel_rfl
@[go_sem] theorem Try.ty.sz70 : szOf Try.prog 70 = some 1 := by kernel_rfl
@[go_sem] theorem Try.ty.by70 : bytesIn Try.prog 70 = some 8 := by kernel_rfl
@[go_sem] theorem Try.ty.ag70 : aggOf Try.prog 70 = some false := by kernel_rfl
@[go_sem] theorem Try.ty.zr70 : zeroOf Try.prog 70 = some [.val .nilFunc] := by kernel_rfl
@[go_sem] theorem Try.ty.el70 : elemOfSlice Try.prog 70 = none := by kernel_rfl
@[go_sem] theorem Try.ty.ar70 : arrayOf Try.prog 70 = none := by kernel_rfl
@[go_sem] theorem Try.ty.st70 : isStr Try.prog 70 = false := by kernel_rfl
@[go_sem] theorem Try.ty.bo70 : isBool Try.prog 70 = false := by kernel_rfl
@[go_sem] theorem Try.ty.ki70 : kindOf Try.prog 70 = none := by kernel_rfl
@[go_sem] theorem Try.ty.if70 : isIface Try.prog 70 = some false := by kernel_rfl
@[go_sem] theorem Try.ty.sz71 : szOf Try.prog 71 = some 1 := by kernel_rfl
@[go_sem] theorem Try.ty.by71 : bytesIn Try.prog 71 = some 24 := by kernel_rfl
@[go_sem] theorem Try.ty.ag71 : aggOf Try.prog 71 = some false := by kernel_rfl
@[go_sem] theorem Try.ty.zr71 : zeroOf Try.prog 71 = some [.val (.slice none 0 0)] := by kernel_rfl
@[go_sem] theorem Try.ty.el71 : elemOfSlice Try.prog 71 = some 118 := by kernel_rfl
@[go_sem] theorem Try.ty.ar71 : arrayOf Try.prog 71 = none := by kernel_rfl
@[go_sem] theorem Try.ty.st71 : isStr Try.prog 71 = false := by kernel_rfl
@[go_sem] theorem Try.ty.bo71 : isBool Try.prog 71 = false := by kernel_rfl
@[go_sem] theorem Try.ty.ki71 : kindOf Try.prog 71 = none := by kernel_rfl
@[go_sem] theorem Try.ty.if71 : isIface Try.prog 71 = some false := by kernel_rfl
@[go_sem] theorem Try.ty.un71 : Try.prog.underlying 71 = some (.slice 118) := by kernel_rfl
@[go_sem] theorem Try.ty.sz72 : szOf Try.prog 72 = some 4 := by kernel_rfl
@[go_sem] theorem Try.ty.by72 : bytesIn Try.prog 72 = some 48 := by kernel_rfl
@[go_sem] theorem Try.ty.ag72 : aggOf Try.prog 72 = some true := by kernel_rfl
@[go_sem] theorem Try.ty.zr72 : zeroOf Try.prog 72 = some [.val (.slice none 0 0), .val (.int .i64 0), .val (.bool false), .val (.int .i64 0)] := by kernel_rfl
@[go_sem] theorem Try.ty.el72 : elemOfSlice Try.prog 72 = none := by kernel_rfl
@[go_sem] theorem Try.ty.ar72 : arrayOf Try.prog 72 = none := by kernel_rfl
@[go_sem] theorem Try.ty.st72 : isStr Try.prog 72 = false := by kernel_rfl
@[go_sem] theorem Try.ty.bo72 : isBool Try.prog 72 = false := by kernel_rfl
@[go_sem] theorem Try.ty.ki72 : kindOf Try.prog 72 = none := by kernel_rfl
@[go_sem] theorem Try.ty.if72 : isIface Try.prog 72 = some false := by kernel_rfl
@[go_sem] theorem Try.ty.fo0_72 : fieldOf Try.prog 72 0 = some (25, 0) := by kernel_rfl
@[go_sem] theorem Try.ty.fp0_72 : fieldPl Try.prog 72 0 = some (0, 1) := by kernel_rfl
@[go_sem] theorem Try.ty.fo1_72 : fieldOf Try.prog 72 1 = some (3, 1) := by kernel_rfl
@[go_sem] theorem Try.ty.fp1_72 : fieldPl Try.prog 72 1 = some (1, 1) := by kernel_rfl
@[go_sem] theorem Try.ty.fo2_72 : fieldOf Try.prog 72 2 = some (4, 2) := by kernel_rfl
@[go_sem] theorem Try.ty.fp2_72 : fieldPl Try.prog 72 2 = some (2, 1) := by kernel_rfl
@[go_sem] theorem Try.ty.fo3_72 : fieldOf Try.prog 72 3 = some (3, 3) := by kernel_rfl
@[go_sem] theorem Try.ty.fp3_72 : fieldPl Try.prog 72 3 = some (3, 1) := by kernel_rfl
@[go_sem] theorem Try.ty.bk72 : buildOk Try.prog 72 = true := by kernel_rfl
@[go_sem] theorem Try.ty.sz73 : szOf Try.prog 73 = some 4 := by kernel_rfl
@[go_sem] theorem Try.ty.by73 : bytesIn Try.prog 73 = some 48 := by kernel_rfl
@[go_sem] theorem Try.ty.ag73 : aggOf Try.prog 73 = some true := by kernel_rfl
@[go_sem] theorem Try.ty.zr73 : zeroOf Try.prog 73 = some [.val (.slice none 0 0), .val (.int .i64 0), .val (.bool false), .val (.int .i64 0)] := by kernel_rfl
@[go_sem] theorem Try.ty.el73 : elemOfSlice Try.prog 73 = none := by kernel_rfl
@[go_sem] theorem Try.ty.ar73 : arrayOf Try.prog 73 = none := by kernel_rfl
@[go_sem] theorem Try.ty.st73 : isStr Try.prog 73 = false := by kernel_rfl
@[go_sem] theorem Try.ty.bo73 : isBool Try.prog 73 = false := by kernel_rfl
@[go_sem] theorem Try.ty.ki73 : kindOf Try.prog 73 = none := by kernel_rfl
@[go_sem] theorem Try.ty.if73 : isIface Try.prog 73 = some false := by kernel_rfl
@[go_sem] theorem Try.ty.fo0_73 : fieldOf Try.prog 73 0 = some (25, 0) := by kernel_rfl
@[go_sem] theorem Try.ty.fp0_73 : fieldPl Try.prog 73 0 = some (0, 1) := by kernel_rfl
@[go_sem] theorem Try.ty.fo1_73 : fieldOf Try.prog 73 1 = some (3, 1) := by kernel_rfl
@[go_sem] theorem Try.ty.fp1_73 : fieldPl Try.prog 73 1 = some (1, 1) := by kernel_rfl
@[go_sem] theorem Try.ty.fo2_73 : fieldOf Try.prog 73 2 = some (4, 2) := by kernel_rfl
@[go_sem] theorem Try.ty.fp2_73 : fieldPl Try.prog 73 2 = some (2, 1) := by kernel_rfl
@[go_sem] theorem Try.ty.fo3_73 : fieldOf Try.prog 73 3 = some (3, 3) := by kernel_rfl
@[go_sem] theorem Try.ty.fp3_73 : fieldPl Try.prog 73 3 = some (3, 1) := by kernel_rfl
@[go_sem] theorem Try.ty.bk73 : buildOk Try.prog 73 = true := by kernel_rfl
@[go_sem] theorem Try.ty.sz74 : szOf Try.prog 74 = some 1 := by kernel_rfl
@[go_sem] theorem Try.ty.by74 : bytesIn Try.prog 74 = some 8 := by kernel_rfl
@[go_sem] theorem Try.ty.ag74 : aggOf Try.prog 74 = some false := by kernel_rfl
@[go_sem] theorem Try.ty.zr74 : zeroOf Try.prog 74 = some [.val .nilFunc] := by kernel_rfl
@[go_sem] theorem Try.ty.el74 : elemOfSlice Try.prog 74 = none := by kernel_rfl
@[go_sem] theorem Try.ty.ar74 : arrayOf Try.prog 74 = none := by kernel_rfl
@[go_sem] theorem Try.ty.st74 : isStr Try.prog 74 = false := by kernel_rfl
@[go_sem] theorem Try.ty.bo74 : isBool Try.prog 74 = false := by kernel_rfl
@[go_sem] theorem Try.ty.ki74 : kindOf Try.prog 74 = none := by kernel_rfl
@[go_sem] theorem Try.ty.if74 : isIface Try.prog 74 = some false := by kernel_rfl
@[go_sem] theorem Try.ty.sz75 : szOf Try.prog 75 = some 1 := by kernel_rfl
@[go_sem] theorem Try.ty.by75 : bytesIn Try.prog 75 = some 8 := by kernel_rfl
@[go_sem] theorem Try.ty.ag75 : aggOf Try.prog 75 = some false := by kernel_rfl
@[go_sem] theorem Try.ty.zr75 : zeroOf Try.prog 75 = some [.val .nilFunc] := by kernel_rfl
@[go_sem] theorem Try.ty.el75 : elemOfSlice Try.prog 75 = none := by kernel_rfl
@[go_sem] theorem Try.ty.ar75 : arrayOf Try.prog 75 = none := by kernel_rfl
@[go_sem] theorem Try.ty.st75 : isStr Try.prog 75 = false := by kernel_rfl
@[go_sem] theorem Try.ty.bo75 : isBool Try.prog 75 = false := by kernel_rfl
@[go_sem] theorem Try.ty.ki75 : kindOf Try.prog 75 = none := by kernel_rfl
@[go_sem] theorem Try.ty.if75 : isIface Try.prog 75 = some false := by kernel_rfl
@[go_sem] theorem Try.ty.sz76 : szOf Try.prog 76 = some 1 := by kernel_rfl
@[go_sem] theorem Try.ty.by76 : bytesIn Try.prog 76 = some 8 := by kernel_rfl
@[go_sem] theorem Try.ty.ag76 : aggOf Try.prog 76 = some false := by kernel_rfl
@[go_sem] theorem Try.ty.zr76 : zeroOf Try.prog 76 = some [.val .nilFunc] := by kernel_rfl
@[go_sem] theorem Try.ty.el76 : elemOfSlice Try.prog 76 = none := by kernel_rfl
@[go_sem] theorem Try.ty.ar76 : arrayOf Try.prog 76 = none := by kernel_rfl
@[go_sem] theorem Try.ty.st76 : isStr Try.prog 76 = false := by kernel_rfl
@[go_sem] theorem Try.ty.bo76 : isBool Try.prog 76 = false := by kernel_rfl
@[go_sem] theorem Try.ty.ki76 : kindOf Try.prog 76 = none := by kernel_rfl
@[go_sem] theorem Try.ty.if76 : isIface Try.prog 76 = some false := by kernel_rfl
@[go_sem] theorem Try.ty.sz77 : szOf Try.prog 77 = some 1 := by kernel_rfl
@[go_sem] theorem Try.ty.by77 : bytesIn Try.prog 77 = some 8 := by kernel_rfl
@[go_sem] theorem Try.ty.ag77 : aggOf Try.prog 77 = some false := by kernel_rfl
@[go_sem] theorem Try.ty.zr77 : zeroOf Try.prog 77 = some [.val .nilFunc] := by kernel_rfl
@[go_sem] theorem Try.ty.el77 : elemOfSlice Try.prog 77 = none := by kernel_rfl
@[go_sem] theorem Try.ty.ar77 : arrayOf Try.prog 77 = none := by kernel_rfl
@[go_sem] theorem Try.ty.st77 : isStr Try.prog 77 = false := by kernel_rfl
@[go_sem] theorem Try.ty.bo77 : isBool Try.prog 77 = false := by kernel_rfl
@[go_sem] theorem Try.ty.ki77 : kindOf Try.prog 77 = none := by kernel_rfl
@[go_sem] theorem Try.ty.if77 : isIface Try.prog 77 = some false := by kernel_rfl
@[go_sem] theorem Try.ty.sz78 : szOf Try.prog 78 = some 4 := by kernel_rfl
@[go_sem] theorem Try.ty.by78 : bytesIn Try.prog 78 = some 48 := by kernel_rfl
@[go_sem] theorem Try.ty.ag78 : aggOf Try.prog 78 = some true := by kernel_rfl
@[go_sem] theorem Try.ty.zr78 : zeroOf Try.prog 78 = some [.val (.slice none 0 0), .val (.int .i64 0), .val (.bool false), .val (.int .i64 0)] := by kernel_rfl
@[go_sem] theorem Try.ty.el78 : elemOfSlice Try.prog 78 = none := by kernel_rfl
@[go_sem] theorem Try.ty.ar78 : arrayOf Try.prog 78 = none := by kernel_rfl
@[go_sem] theorem Try.ty.st78 : isStr Try.prog 78 = false := by kernel_rfl
@[go_sem] theorem Try.ty.bo78 : isBool Try.prog 78 = false := by kernel_rfl
@[go_sem] theorem Try.ty.ki78 : kindOf Try.prog 78 = none := by kernel_rfl
@[go_sem] theorem Try.ty.if78 : isIface Try.prog 78 = some false := by kernel_rfl
@[go_sem] theorem Try.ty.fo0_78 : fieldOf Try.prog 78 0 = some (25, 0) := by kernel_rfl
@[go_sem] theorem Try.ty.fp0_78 : fieldPl Try.prog 78 0 = some (0, 1) := by kernel_rfl
@[go_sem] theorem Try.ty.fo1_78 : fieldOf Try.prog 78 1 = some (3, 1) := by kernel_rfl
@[go_sem] theorem Try.ty.fp1_78 : fieldPl Try.prog 78 1 = some (1, 1) := by kernel_rfl
@[go_sem] theorem Try.ty.fo2_78 : fieldOf Try.prog 78 2 = some (4, 2) := by kernel_rfl
@[go_sem] theorem Try.ty.fp2_78 : fieldPl Try.prog 78 2 = some (2, 1) := by kernel_rfl
@[go_sem] theorem Try.ty.fo3_78 : fieldOf Try.prog 78 3 = some (3, 3) := by kernel_rfl
@[go_sem] theorem Try.ty.fp3_78 : fieldPl Try.prog 78 3 = some (3, 1) := by kernel_rfl
@[go_sem] theorem Try.ty.bk78 : buildOk Try.prog 78 = true := by kernel_rfl
@[go_sem] theorem Try.ty.sz79 : szOf Try.prog 79 = some 1 := by kernel_rfl
@[go_sem] theorem Try.ty.by79 : bytesIn Try.prog 79 = some 8 := by kernel_rfl
@[go_sem] theorem Try.ty.ag79 : aggOf Try.prog 79 = some false := by kernel_rfl
@[go_sem] theorem Try.ty.zr79 : zeroOf Try.prog 79 = some [.val .nilFunc] := by kernel_rfl
@[go_sem] theorem Try.ty.el79 : elemOfSlice Try.prog 79 = none := by kernel_rfl
@[go_sem] theorem Try.ty.ar79 : arrayOf Try.prog 79 = none := by kernel_rfl
@[go_sem] theorem Try.ty.st79 : isStr Try.prog 79 = false := by kernel_rfl
@[go_sem] theorem Try.ty.bo79 : isBool Try.prog 79 = false := by kernel_rfl
@[go_sem] theorem Try.ty.ki79 : kindOf Try.prog 79 = none := by kernel_rfl
@[go_sem] theorem Try.ty.if79 : isIface Try.prog 79 = some false := by kernel_rfl
@[go_sem] theorem Try.ty.sz80 : szOf Try.prog 80 = some 1 := by kernel_rfl
@[go_sem] theorem Try.ty.by80 : bytesIn Try.prog 80 = some 8 := by kernel_rfl
@[go_sem] theorem Try.ty.ag80 : aggOf Try.prog 80 = some false := by kernel_rfl
@[go_sem] theorem Try.ty.zr80 : zeroOf Try.prog 80 = some [.val .nilFunc] := by kernel_rfl
@[go_sem] theorem Try.ty.el80 : elemOfSlice Try.prog 80 = none := by kernel_rfl
@[go_sem] theorem Try.ty.ar80 : arrayOf Try.prog 80 = none := by kernel_rfl
@[go_sem] theorem Try.ty.st80 : isStr Try.prog 80 = false := by kernel_rfl
@[go_sem] theorem Try.ty.bo80 : isBool Try.prog 80 = false := by kernel_rfl
@[go_sem] theorem Try.ty.ki80 : kindOf Try.prog 80 = none := by kernel_rfl
@[go_sem] theorem Try.ty.if80 : isIface Try.prog 80 = some false := by kernel_rfl
@[go_sem] theorem Try.ty.sz81 : szOf Try.prog 81 = some 1 := by kernel_rfl
@[go_sem] theorem Try.ty.by81 : bytesIn Try.prog 81 = some 8 := by kernel_rfl
@[go_sem] theorem Try.ty.ag81 : aggOf Try.prog 81 = some false := by kernel_rfl
@[go_sem] theorem Try.ty.zr81 : zeroOf Try.prog 81 = some [.val .nilFunc] := by kernel_rfl
@[go_sem] theorem Try.ty.el81 : elemOfSlice Try.prog 81 = none := by kernel_rfl
@[go_sem] theorem Try.ty.ar81 : arrayOf Try.prog 81 = none := by kernel_rfl
@[go_sem] theorem Try.ty.st81 : isStr Try.prog 81 = false := by kernel_rfl
@[go_sem] theorem Try.ty.bo81 : isBool Try.prog 81 = false := by kernel_rfl
@[go_sem] theorem Try.ty.ki81 : kindOf Try.prog 81 = none := by kernel_rfl
@[go_sem] theorem Try.ty.if81 : isIface Try.prog 81 = some false := by kernel_rfl
@[go_sem] theorem Try.ty.sz82 : szOf Try.prog 82 = some 1 := by kernel_rfl
@[go_sem] theorem Try.ty.by82 : bytesIn Try.prog 82 = some 8 := by kernel_rfl
@[go_sem] theorem Try.ty.ag82 : aggOf Try.prog 82 = some false := by kernel_rfl
@[go_sem] theorem Try.ty.zr82 : zeroOf Try.prog 82 = some [.val .nilFunc] := by kernel_rfl
@[go_sem] theorem Try.ty.el82 : elemOfSlice Try.prog 82 = none := by kernel_rfl
@[go_sem] theorem Try.ty.ar82 : arrayOf Try.prog 82 = none := by kernel_rfl
@[go_sem] theorem Try.ty.st82 : isStr Try.prog 82 = false := by kernel_rfl
@[go_sem] theorem Try.ty.bo82 : isBool Try.prog 82 = false := by kernel_rfl
@[go_sem] theorem Try.ty.ki82 : kindOf Try.prog 82 = none := by kernel_rfl
@[go_sem] theorem Try.ty.if82 : isIface Try.prog 82 = some false := by kernel_rfl
@[go_sem] theorem Try.ty.sz83 : szOf Try.prog 83 = some 1 := by kernel_rfl
@[go_sem] theorem Try.ty.by83 : bytesIn Try.prog 83 = some 8 := by kernel_rfl
@[go_sem] theorem Try.ty.ag83 : aggOf Try.prog 83 = some false := by kernel_rfl
@[go_sem] theorem Try.ty.zr83 : zeroOf Try.prog 83 = some [.val (.pointer none)] := by kernel_rfl
@[go_sem] theorem Try.ty.el83 : elemOfSlice Try.prog 83 = none := by kernel_rfl
@[go_sem] theorem Try.ty.ar83 : arrayOf Try.prog 83 = none := by kernel_rfl
@[go_sem] theorem Try.ty.st83 : isStr Try.prog 83 = false := by kernel_rfl
@[go_sem] theorem Try.ty.bo83 : isBool Try.prog 83 = false := by kernel_rfl
@[go_sem] theorem Try.ty.ki83 : kindOf Try.prog 83 = none := by kernel_rfl
@[go_sem] theorem Try.ty.if83 : isIface Try.prog 83 = some false := by kernel_rfl
@[go_sem] theorem Try.ty.un83 : Try.prog.underlying 83 = some (.pointer 121) := by kernel_rfl
@[go_sem] theorem Try.ty.sz84 : szOf Try.prog 84 = some 1 := by kernel_rfl
@[go_sem] theorem Try.ty.by84 : bytesIn Try.prog 84 = some 8 := by kernel_rfl
@[go_sem] theorem Try.ty.ag84 : aggOf Try.prog 84 = some false := by kernel_rfl
@[go_sem] theorem Try.ty.zr84 : zeroOf Try.prog 84 = some [.val .nilFunc] := by kernel_rfl
@[go_sem] theorem Try.ty.el84 : elemOfSlice Try.prog 84 = none := by kernel_rfl
@[go_sem] theorem Try.ty.ar84 : arrayOf Try.prog 84 = none := by kernel_rfl
@[go_sem] theorem Try.ty.st84 : isStr Try.prog 84 = false := by kernel_rfl
@[go_sem] theorem Try.ty.bo84 : isBool Try.prog 84 = false := by kernel_rfl
@[go_sem] theorem Try.ty.ki84 : kindOf Try.prog 84 = none := by kernel_rfl
@[go_sem] theorem Try.ty.if84 : isIface Try.prog 84 = some false := by kernel_rfl
@[go_sem] theorem Try.ty.sz86 : szOf Try.prog 86 = some 1 := by kernel_rfl
@[go_sem] theorem Try.ty.by86 : bytesIn Try.prog 86 = some 8 := by kernel_rfl
@[go_sem] theorem Try.ty.ag86 : aggOf Try.prog 86 = some false := by kernel_rfl
@[go_sem] theorem Try.ty.zr86 : zeroOf Try.prog 86 = some [.val .nilFunc] := by kernel_rfl
@[go_sem] theorem Try.ty.el86 : elemOfSlice Try.prog 86 = none := by kernel_rfl
@[go_sem] theorem Try.ty.ar86 : arrayOf Try.prog 86 = none := by kernel_rfl
@[go_sem] theorem Try.ty.st86 : isStr Try.prog 86 = false := by kernel_rfl
@[go_sem] theorem Try.ty.bo86 : isBool Try.prog 86 = false := by kernel_rfl
@[go_sem] theorem Try.ty.ki86 : kindOf Try.prog 86 = none := by kernel_rfl
@[go_sem] theorem Try.ty.if86 : isIface Try.prog 86 = some false := by kernel_rfl
@[go_sem] theorem Try.ty.sz87 : szOf Try.prog 87 = some 1 := by kernel_rfl
@[go_sem] theorem Try.ty.by87 : bytesIn Try.prog 87 = some 8 := by kernel_rfl
@[go_sem] theorem Try.ty.ag87 : aggOf Try.prog 87 = some false := by kernel_rfl
@[go_sem] theorem Try.ty.zr87 : zeroOf Try.prog 87 = some [.val .nilFunc] := by kernel_rfl
@[go_sem] theorem Try.ty.el87 : elemOfSlice Try.prog 87 = none := by kernel_rfl
@[go_sem] theorem Try.ty.ar87 : arrayOf Try.prog 87 = none := by kernel_rfl
@[go_sem] theorem Try.ty.st87 : isStr Try.prog 87 = false := by kernel_rfl
@[go_sem] theorem Try.ty.bo87 : isBool Try.prog 87 = false := by kernel_rfl
@[go_sem] theorem Try.ty.ki87 : kindOf Try.prog 87 = none := by kernel_rfl
@[go_sem] theorem Try.ty.if87 : isIface Try.prog 87 = some false := by kernel_rfl
@[go_sem] theorem Try.ty.sz88 : szOf Try.prog 88 = some 1 := by kernel_rfl
@[go_sem] theorem Try.ty.by88 : bytesIn Try.prog 88 = some 8 := by kernel_rfl
@[go_sem] theorem Try.ty.ag88 : aggOf Try.prog 88 = some false := by kernel_rfl
@[go_sem] theorem Try.ty.zr88 : zeroOf Try.prog 88 = some [.val .nilFunc] := by kernel_rfl
@[go_sem] theorem Try.ty.el88 : elemOfSlice Try.prog 88 = none := by kernel_rfl
@[go_sem] theorem Try.ty.ar88 : arrayOf Try.prog 88 = none := by kernel_rfl
@[go_sem] theorem Try.ty.st88 : isStr Try.prog 88 = false := by kernel_rfl
@[go_sem] theorem Try.ty.bo88 : isBool Try.prog 88 = false := by kernel_rfl
@[go_sem] theorem Try.ty.ki88 : kindOf Try.prog 88 = none := by kernel_rfl
@[go_sem] theorem Try.ty.if88 : isIface Try.prog 88 = some false := by kernel_rfl
@[go_sem] theorem Try.ty.sz89 : szOf Try.prog 89 = some 1 := by kernel_rfl
@[go_sem] theorem Try.ty.by89 : bytesIn Try.prog 89 = some 8 := by kernel_rfl
@[go_sem] theorem Try.ty.ag89 : aggOf Try.prog 89 = some false := by kernel_rfl
@[go_sem] theorem Try.ty.zr89 : zeroOf Try.prog 89 = some [.val .nilFunc] := by kernel_rfl
@[go_sem] theorem Try.ty.el89 : elemOfSlice Try.prog 89 = none := by kernel_rfl
@[go_sem] theorem Try.ty.ar89 : arrayOf Try.prog 89 = none := by kernel_rfl
@[go_sem] theorem Try.ty.st89 : isStr Try.prog 89 = false := by kernel_rfl
@[go_sem] theorem Try.ty.bo89 : isBool Try.prog 89 = false := by kernel_rfl
@[go_sem] theorem Try.ty.ki89 : kindOf Try.prog 89 = none := by kernel_rfl
@[go_sem] theorem Try.ty.if89 : isIface Try.prog 89 = some false := by kernel_rfl
@[go_sem] theorem Try.ty.sz90 : szOf Try.prog 90 = some 1 := by kernel_rfl
@[go_sem] theorem Try.ty.by90 : bytesIn Try.prog 90 = some 8 := by kernel_rfl
@[go_sem] theorem Try.ty.ag90 : aggOf Try.prog 90 = some false := by kernel_rfl
@[go_sem] theorem Try.ty.zr90 : zeroOf Try.prog 90 = some [.val .nilFunc] := by kernel_rfl
@[go_sem] theorem Try.ty.el90 : elemOfSlice Try.prog 90 = none := by kernel_rfl
@[go_sem] theorem Try.ty.ar90 : arrayOf Try.prog 90 = none := by kernel_rfl
@[go_sem] theorem Try.ty.st90 : isStr Try.prog 90 = false := by kernel_rfl
@[go_sem] theorem Try.ty.bo90 : isBool Try.prog 90 = false := by kernel_rfl
@[go_sem] theorem Try.ty.ki90 : kindOf Try.prog 90 = none := by kernel_rfl
@[go_sem] theorem Try.ty.if90 : isIface Try.prog 90 = some false := by kernel_rfl
@[go_sem] theorem Try.ty.sz91 : szOf Try.prog 91 = some 2 := by kernel_rfl
@[go_sem] theorem Try.ty.by91 : bytesIn Try.prog 91 = some 16 := by kernel_rfl
@[go_sem] theorem Try.ty.ag91 : aggOf Try.prog 91 = some true := by kernel_rfl
@[go_sem] theorem Try.ty.zr91 : zeroOf Try.prog 91 = some [.val (.int .i64 0), .val (.int .i64 0)] := by kernel_rfl
@[go_sem] theorem Try.ty.el91 : elemOfSlice Try.prog 91 = none := by kernel_rfl
@[go_sem] theorem Try.ty.ar91 : arrayOf Try.prog 91 = some (2, 3) := by kernel_rfl
@[go_sem] theorem Try.ty.st91 : isStr Try.prog 91 = false := by kernel_rfl
@[go_sem] theorem Try.ty.bo91 : isBool Try.prog 91 = false := by kernel_rfl
@[go_sem] theorem Try.ty.ki91 : kindOf Try.prog 91 = none := by kernel_rfl
@[go_sem] theorem Try.ty.if91 : isIface Try.prog 91 = some false := by kernel_rfl
@[go_sem] theorem Try.ty.bk91 : buildOk Try.prog 91 = true := by kernel_rfl
@[go_sem] theorem Try.ty.fp0_91 : fieldPl Try.prog 91 0 = some (0, 1) := by kernel_rfl
@[go_sem] theorem Try.ty.fp1_91 : fieldPl Try.prog 91 1 = some (1, 1) := by kernel_rfl
@[go_sem] theorem Try.ty.un91 : Try.prog.underlying 91 = some (.array 2 3) := by kernel_rfl
@[go_sem] theorem Try.ty.sz92 : szOf Try.prog 92 = some 6 := by kernel_rfl
@[go_sem] theorem Try.ty.by92 : bytesIn Try.prog 92 = some 48 := by kernel_rfl
@[go_sem] theorem Try.ty.ag92 : aggOf Try.prog 92 = some true := by kernel_rfl
@[go_sem] theorem Try.ty.zr92 : zeroOf Try.prog 92 = some [.val (.int .i64 0), .val (.int .i64 0), .val (.int .i64 0), .val (.int .i64 0), .val (.int .i64 0), .val (.int .i64 0)] := by kernel_rfl
@[go_sem] theorem Try.ty.el92 : elemOfSlice Try.prog 92 = none := by kernel_rfl
@[go_sem] theorem Try.ty.ar92 : arrayOf Try.prog 92 = some (3, 91) := by kernel_rfl
@[go_sem] theorem Try.ty.st92 : isStr Try.prog 92 = false := by kernel_rfl
@[go_sem] theorem Try.ty.bo92 : isBool Try.prog 92 = false := by kernel_rfl
@[go_sem] theorem Try.ty.ki92 : kindOf Try.prog 92 = none := by kernel_rfl
@[go_sem] theorem Try.ty.if92 : isIface Try.prog 92 = some false := by kernel_rfl
@[go_sem] theorem Try.ty.bk92 : buildOk Try.prog 92 = true := by kernel_rfl
@[go_sem] theorem Try.ty.fp0_92 : fieldPl Try.prog 92 0 = some (0, 2) := by kernel_rfl
@[go_sem] theorem Try.ty.fp1_92 : fieldPl Try.prog 92 1 = some (2, 2) := by kernel_rfl
@[go_sem] theorem Try.ty.fp2_92 : fieldPl Try.prog 92 2 = some (4, 2) := by kernel_rfl
@[go_sem] theorem Try.ty.un92 : Try.prog.underlying 92 = some (.array 3 91) := by kernel_rfl
@[go_sem] theorem Try.ty.sz93 : szOf Try.prog 93 = some 1 := by kernel_rfl
@[go_sem] theorem Try.ty.by93 : bytesIn Try.prog 93 = some 8 := by kernel_rfl
@[go_sem] theorem Try.ty.ag93 : aggOf Try.prog 93 = some false := by kernel_rfl
@[go_sem] theorem Try.ty.zr93 : zeroOf Try.prog 93 = some [.val .nilFunc] := by kernel_rfl
@[go_sem] theorem Try.ty.el93 : elemOfSlice Try.prog 93 = none := by kernel_rfl
@[go_sem] theorem Try.ty.ar93 : arrayOf Try.prog 93 = none := by kernel_rfl
@[go_sem] theorem Try.ty.st93 : isStr Try.prog 93 = false := by kernel_rfl
@[go_sem] theorem Try.ty.bo93 : isBool Try.prog 93 = false := by kernel_rfl
@[go_sem] theorem Try.ty.ki93 : kindOf Try.prog 93 = none := by kernel_rfl
@[go_sem] theorem Try.ty.if93 : isIface Try.prog 93 = some false := by kernel_rfl
@[go_sem] theorem Try.ty.sz94 : szOf Try.prog 94 = some 1 := by kernel_rfl
@[go_sem] theorem Try.ty.by94 : bytesIn Try.prog 94 = some 8 := by kernel_rfl
@[go_sem] theorem Try.ty.ag94 : aggOf Try.prog 94 = some false := by kernel_rfl
@[go_sem] theorem Try.ty.zr94 : zeroOf Try.prog 94 = some [.val .nilFunc] := by kernel_rfl
@[go_sem] theorem Try.ty.el94 : elemOfSlice Try.prog 94 = none := by kernel_rfl
@[go_sem] theorem Try.ty.ar94 : arrayOf Try.prog 94 = none := by kernel_rfl
@[go_sem] theorem Try.ty.st94 : isStr Try.prog 94 = false := by kernel_rfl
@[go_sem] theorem Try.ty.bo94 : isBool Try.prog 94 = false := by kernel_rfl
@[go_sem] theorem Try.ty.ki94 : kindOf Try.prog 94 = none := by kernel_rfl
@[go_sem] theorem Try.ty.if94 : isIface Try.prog 94 = some false := by kernel_rfl
@[go_sem] theorem Try.ty.sz95 : szOf Try.prog 95 = some 1 := by kernel_rfl
@[go_sem] theorem Try.ty.by95 : bytesIn Try.prog 95 = some 8 := by kernel_rfl
@[go_sem] theorem Try.ty.ag95 : aggOf Try.prog 95 = some false := by kernel_rfl
@[go_sem] theorem Try.ty.zr95 : zeroOf Try.prog 95 = some [.val .nilFunc] := by kernel_rfl
@[go_sem] theorem Try.ty.el95 : elemOfSlice Try.prog 95 = none := by kernel_rfl
@[go_sem] theorem Try.ty.ar95 : arrayOf Try.prog 95 = none := by kernel_rfl
@[go_sem] theorem Try.ty.st95 : isStr Try.prog 95 = false := by kernel_rfl
@[go_sem] theorem Try.ty.bo95 : isBool Try.prog 95 = false := by kernel_rfl
@[go_sem] theorem Try.ty.ki95 : kindOf Try.prog 95 = none := by kernel_rfl
@[go_sem] theorem Try.ty.if95 : isIface Try.prog 95 = some false := by kernel_rfl
@[go_sem] theorem Try.ty.sz96 : szOf Try.prog 96 = some 5 := by kernel_rfl
@[go_sem] theorem Try.ty.by96 : bytesIn Try.prog 96 = some 88 := by kernel_rfl
@[go_sem] theorem Try.ty.ag96 : aggOf Try.prog 96 = some true := by kernel_rfl
@[go_sem] theorem Try.ty.zr96 : zeroOf Try.prog 96 = some [.val (.slice none 0 0), .val (.slice none 0 0), .val (.slice none 0 0), .val (.int .i64 0), .val (.int .i64 0)] := by kernel_rfl
@[go_sem] theorem Try.ty.el96 : elemOfSlice Try.prog 96 = none := by kernel_rfl
@[go_sem] theorem Try.ty.ar96 : arrayOf Try.prog 96 = none := by kernel_rfl
@[go_sem] theorem Try.ty.st96 : isStr Try.prog 96 = false := by kernel_rfl
@[go_sem] theorem Try.ty.bo96 : isBool Try.prog 96 = false := by kernel_rfl
@[go_sem] theorem Try.ty.ki96 : kindOf Try.prog 96 = none := by kernel_rfl
@[go_sem] theorem Try.ty.if96 : isIface Try.prog 96 = some false := by kernel_rfl
@[go_sem] theorem Try.ty.fo0_96 : fieldOf Try.prog 96 0 = some (24, 0) := by kernel_rfl
@[go_sem] theorem Try.ty.fp0_96 : fieldPl Try.prog 96 0 = some (0, 1) := by kernel_rfl
@[go_sem] theorem Try.ty.fo1_96 : fieldOf Try.prog 96 1 = some (39, 1) := by kernel_rfl
@[go_sem] theorem Try.ty.fp1_96 : fieldPl Try.prog 96 1 = some (1, 1) := by kernel_rfl
@[go_sem] theorem Try.ty.fo2_96 : fieldOf Try.prog 96 2 = some (25, 2) := by kernel_rfl
@[go_sem] theorem Try.ty.fp2_96 : fieldPl Try.prog 96 2 = some (2, 1) := by kernel_rfl
@[go_sem] theorem Try.ty.fo3_96 : fieldOf Try.prog 96 3 = some (3, 3) := by kernel_rfl
@[go_sem] theorem Try.ty.fp3_96 : fieldPl Try.prog 96 3 = some (3, 1) := by kernel_rfl
@[go_sem] theorem Try.ty.fo4_96 : fieldOf Try.prog 96 4 = some (3, 4) := by kernel_rfl
@[go_sem] theorem Try.ty.fp4_96 : fieldPl Try.prog 96 4 = some (4, 1) := by kernel_rfl
@[go_sem] theorem Try.ty.bk96 : buildOk Try.prog 96 = true := by kernel_rfl
@[go_sem] theorem Try.ty.sz97 : szOf Try.prog 97 = some 5 := by kernel_rfl
@[go_sem] theorem Try.ty.by97 : bytesIn Try.prog 97 = some 88 := by kernel_rfl
@[go_sem] theorem Try.ty.ag97 : aggOf Try.prog 97 = some true := by kernel_rfl
@[go_sem] theorem Try.ty.zr97 : zeroOf Try.prog 97 = some [.val (.slice none 0 0), .val (.slice none 0 0), .val (.slice none 0 0), .val (.int .i64 0), .val (.int .i64 0)] := by kernel_rfl
@[go_sem] theorem Try.ty.el97 : elemOfSlice Try.prog 97 = none := by kernel_rfl
@[go_sem] theorem Try.ty.ar97 : arrayOf Try.prog 97 = none := by kernel_rfl
@[go_sem] theorem Try.ty.st97 : isStr Try.prog 97 = false := by kernel_rfl
@[go_sem] theorem Try.ty.bo97 : isBool Try.prog 97 = false := by kernel_rfl
@[go_sem] theorem Try.ty.ki97 : kindOf Try.prog 97 = none := by kernel_rfl
@[go_sem] theorem Try.ty.if97 : isIface Try.prog 97 = some false := by kernel_rfl
@[go_sem] theorem Try.ty.fo0_97 : fieldOf Try.prog 97 0 = some (24, 0) := by kernel_rfl
@[go_sem] theorem Try.ty.fp0_97 : fieldPl Try.prog 97 0 = some (0, 1) := by kernel_rfl
@[go_sem] theorem Try.ty.fo1_97 : fieldOf Try.prog 97 1 = some (39, 1) := by kernel_rfl
@[go_sem] theorem Try.ty.fp1_97 : fieldPl Try.prog 97 1 = some (1, 1) := by kernel_rfl
@[go_sem] theorem Try.ty.fo2_97 : fieldOf Try.prog 97 2 = some (25, 2) := by kernel_rfl
@[go_sem] theorem Try.ty.fp2_97 : fieldPl Try.prog 97 2 = some (2, 1) := by kernel_rfl
@[go_sem] theorem Try.ty.fo3_97 : fieldOf Try.prog 97 3 = some (3, 3) := by kernel_rfl
@[go_sem] theorem Try.ty.fp3_97 : fieldPl Try.prog 97 3 = some (3, 1) := by kernel_rfl
@[go_sem] theorem Try.ty.fo4_97 : fieldOf Try.prog 97 4 = some (3, 4) := by kernel_rfl
@[go_sem] theorem Try.ty.fp4_97 : fieldPl Try.prog 97 4 = some (4, 1) := by kernel_rfl
@[go_sem] theorem Try.ty.bk97 : buildOk Try.prog 97 = true := by kernel_rfl
@[go_sem] theorem Try.ty.sz99 : szOf Try.prog 99 = some 1 := by kernel_rfl
@[go_sem] theorem Try.ty.by99 : bytesIn Try.prog 99 = some 8 := by kernel_rfl
@[go_sem] theorem Try.ty.ag99 : aggOf Try.prog 99 = some false := by kernel_rfl
@[go_sem] theorem Try.ty.zr99 : zeroOf Try.prog 99 = some [.val .nilFunc] := by kernel_rfl
@[go_sem] theorem Try.ty.el99 : elemOfSlice Try.prog 99 = none := by kernel_rfl
@[go_sem] theorem Try.ty.ar99 : arrayOf Try.prog 99 = none := by kernel_rfl
@[go_sem] theorem Try.ty.st99 : isStr Try.prog 99 = false := by kernel_rfl
@[go_sem] theorem Try.ty.bo99 : isBool Try.prog 99 = false := by kernel_rfl
@[go_sem] theorem Try.ty.ki99 : kindOf Try.prog 99 = none := by kernel_rfl
@[go_sem] theorem Try.ty.if99 : isIface Try.prog 99 = some false := by kernel_rfl
@[go_sem] theorem Try.ty.sz100 : szOf Try.prog 100 = some 1 := by kernel_rfl
@[go_sem] theorem Try.ty.by100 : bytesIn Try.prog 100 = some 8 := by kernel_rfl
@[go_sem] theorem Try.ty.ag100 : aggOf Try.prog 100 = some false := by kernel_rfl
@[go_sem] theorem Try.ty.zr100 : zeroOf Try.prog 100 = some [.val .nilFunc] := by kernel_rfl
@[go_sem] theorem Try.ty.el100 : elemOfSlice Try.prog 100 = none := by kernel_rfl
@[go_sem] theorem Try.ty.ar100 : arrayOf Try.prog 100 = none := by kernel_rfl
@[go_sem] theorem Try.ty.st100 : isStr Try.prog 100 = false := by kernel_rfl
@[go_sem] theorem Try.ty.bo100 : isBool Try.prog 100 = false := by kernel_rfl
@[go_sem] theorem Try.ty.ki100 : kindOf Try.prog 100 = none := by kernel_rfl
@[go_sem] theorem Try.ty.if100 : isIface Try.prog 100 = some false := by kernel_rfl
@[go_sem] theorem Try.ty.sz101 : szOf Try.prog 101 = some 1 := by kernel_rfl
@[go_sem] theorem Try.ty.by101 : bytesIn Try.prog 101 = some 8 := by kernel_rfl
@[go_sem] theorem Try.ty.ag101 : aggOf Try.prog 101 = some false := by kernel_rfl
@[go_sem] theorem Try.ty.zr101 : zeroOf Try.prog 101 = some [.val .nilFunc] := by kernel_rfl
@[go_sem] theorem Try.ty.el101 : elemOfSlice Try.prog 101 = none := by kernel_rfl
@[go_sem] theorem Try.ty.ar101 : arrayOf Try.prog 101 = none := by kernel_rfl
@[go_sem] theorem Try.ty.st101 : isStr Try.prog 101 = false := by kernel_rfl
@[go_sem] theorem Try.ty.bo101 : isBool Try.prog 101 = false := by kernel_rfl
@[go_sem] theorem Try.ty.ki101 : kindOf Try.prog 101 = none := by kernel_rfl
@[go_sem] theorem Try.ty.if101 : isIface Try.prog 101 = some false := by kernel_rfl
@[go_sem] theorem Try.ty.sz102 : szOf Try.prog 102 = some 1 := by kernel_rfl
@[go_sem] theorem Try.ty.by102 : bytesIn Try.prog 102 = some 8 := by kernel_rfl
@[go_sem] theorem Try.ty.ag102 : aggOf Try.prog 102 = some false := by kernel_rfl
@[go_sem] theorem Try.ty.zr102 : zeroOf Try.prog 102 = some [.val .nilFunc] := by kernel_rfl
@[go_sem] theorem Try.ty.el102 : elemOfSlice Try.prog 102 = none := by kernel_rfl
@[go_sem] theorem Try.ty.ar102 : arrayOf Try.prog 102 = none := by kernel_rfl
@[go_sem] theorem Try.ty.st102 : isStr Try.prog 102 = false := by kernel_rfl
@[go_sem] theorem Try.ty.bo102 : isBool Try.prog 102 = false := by kernel_rfl
@[go_sem] theorem Try.ty.ki102 : kindOf Try.prog 102 = none := by kernel_rfl
@[go_sem] theorem Try.ty.if102 : isIface Try.prog 102 = some false := by kernel_rfl
@[go_sem] theorem Try.ty.sz103 : szOf Try.prog 103 = some 1 := by kernel_rfl
@[go_sem] theorem Try.ty.by103 : bytesIn Try.prog 103 = some 8 := by kernel_rfl
@[go_sem] theorem Try.ty.ag103 : aggOf Try.prog 103 = some false := by kernel_rfl
@[go_sem] theorem Try.ty.zr103 : zeroOf Try.prog 103 = some [.val .nilFunc] := by kernel_rfl
@[go_sem] theorem Try.ty.el103 : elemOfSlice Try.prog 103 = none := by kernel_rfl
@[go_sem] theorem Try.ty.ar103 : arrayOf Try.prog 103 = none := by kernel_rfl
@[go_sem] theorem Try.ty.st103 : isStr Try.prog 103 = false := by kernel_rfl
@[go_sem] theorem Try.ty.bo103 : isBool Try.prog 103 = false := by kernel_rfl
@[go_sem] theorem Try.ty.ki103 : kindOf Try.prog 103 = none := by kernel_rfl
@[go_sem] theorem Try.ty.if103 : isIface Try.prog 103 = some false := by kernel_rfl
@[go_sem] theorem Try.ty.sz104 : szOf Try.prog 104 = some 1 := by kernel_rfl
@[go_sem] theorem Try.ty.by104 : bytesIn Try.prog 104 = some 8 := by kernel_rfl
@[go_sem] theorem Try.ty.ag104 : aggOf Try.prog 104 = some false := by kernel_rfl
@[go_sem] theorem Try.ty.zr104 : zeroOf Try.prog 104 = some [.val .nilFunc] := by kernel_rfl
@[go_sem] theorem Try.ty.el104 : elemOfSlice Try.prog 104 = none := by kernel_rfl
@[go_sem] theorem Try.ty.ar104 : arrayOf Try.prog 104 = none := by kernel_rfl
@[go_sem] theorem Try.ty.st104 : isStr Try.prog 104 = false := by kernel_rfl
@[go_sem] theorem Try.ty.bo104 : isBool Try.prog 104 = false := by kernel_rfl
@[go_sem] theorem Try.ty.ki104 : kindOf Try.prog 104 = none := by kernel_rfl
@[go_sem] theorem Try.ty.if104 : isIface Try.prog 104 = some false := by kernel_rfl
@[go_sem] theorem Try.ty.sz105 : szOf Try.prog 105 = some 1 := by kernel_rfl
@[go_sem] theorem Try.ty.by105 : bytesIn Try.prog 105 = some 8 := by kernel_rfl
@[go_sem] theorem Try.ty.ag105 : aggOf Try.prog 105 = some false := by kernel_rfl
@[go_sem] theorem Try.ty.zr105 : zeroOf Try.prog 105 = some [.val .nilFunc] := by kernel_rfl
@[go_sem] theorem Try.ty.el105 : elemOfSlice Try.prog 105 = none := by kernel_rfl
@[go_sem] theorem Try.ty.ar105 : arrayOf Try.prog 105 = none := by kernel_rfl
@[go_sem] theorem Try.ty.st105 : isStr Try.prog 105 = false := by kernel_rfl
@[go_sem] theorem Try.ty.bo105 : isBool Try.prog 105 = false := by kernel_rfl
@[go_sem] theorem Try.ty.ki105 : kindOf Try.prog 105 = none := by kernel_rfl
@[go_sem] theorem Try.ty.if105 : isIface Try.prog 105 = some false := by kernel_rfl
@[go_sem] theorem Try.ty.sz106 : szOf Try.prog 106 = some 1 := by kernel_rfl
@[go_sem] theorem Try.ty.by106 : bytesIn Try.prog 106 = some 8 := by kernel_rfl
@[go_sem] theorem Try.ty.ag106 : aggOf Try.prog 106 = some false := by kernel_rfl
@[go_sem] theorem Try.ty.zr106 : zeroOf Try.prog 106 = some [.val .nilFunc] := by kernel_rfl
@[go_sem] theorem Try.ty.el106 : elemOfSlice Try.prog 106 = none := by kernel_rfl
@[go_sem] theorem Try.ty.ar106 : arrayOf Try.prog 106 = none := by kernel_rfl
@[go_sem] theorem Try.ty.st106 : isStr Try.prog 106 = false := by kernel_rfl
@[go_sem] theorem Try.ty.bo106 : isBool Try.prog 106 = false := by kernel_rfl
@[go_sem] theorem Try.ty.ki106 : kindOf Try.prog 106 = none := by kernel_rfl
@[go_sem] theorem Try.ty.if106 : isIface Try.prog 106 = some false := by kernel_rfl
@[go_sem] theorem Try.ty.sz107 : szOf Try.prog 107 = some 1 := by kernel_rfl
@[go_sem] theorem Try.ty.by107 : bytesIn Try.prog 107 = some 8 := by kernel_rfl
@[go_sem] theorem Try.ty.ag107 : aggOf Try.prog 107 = some false := by kernel_rfl
@[go_sem] theorem Try.ty.zr107 : zeroOf Try.prog 107 = some [.val .nilFunc] := by kernel_rfl
@[go_sem] theorem Try.ty.el107 : elemOfSlice Try.prog 107 = none := by kernel_rfl
@[go_sem] theorem Try.ty.ar107 : arrayOf Try.prog 107 = none := by kernel_rfl
@[go_sem] theorem Try.ty.st107 : isStr Try.prog 107 = false := by kernel_rfl
@[go_sem] theorem Try.ty.bo107 : isBool Try.prog 107 = false := by kernel_rfl
@[go_sem] theorem Try.ty.ki107 : kindOf Try.prog 107 = none := by kernel_rfl
@[go_sem] theorem Try.ty.if107 : isIface Try.prog 107 = some false := by kernel_rfl
@[go_sem] theorem Try.ty.sz108 : szOf Try.prog 108 = some 1 := by kernel_rfl
@[go_sem] theorem Try.ty.by108 : bytesIn Try.prog 108 = some 8 := by kernel_rfl
@[go_sem] theorem Try.ty.ag108 : aggOf Try.prog 108 = some false := by kernel_rfl
@[go_sem] theorem Try.ty.zr108 : zeroOf Try.prog 108 = some [.val .nilFunc] := by kernel_rfl
@[go_sem] theorem Try.ty.el108 : elemOfSlice Try.prog 108 = none := by kernel_rfl
@[go_sem] theorem Try.ty.ar108 : arrayOf Try.prog 108 = none := by kernel_rfl
@[go_sem] theorem Try.ty.st108 : isStr Try.prog 108 = false := by kernel_rfl
@[go_sem] theorem Try.ty.bo108 : isBool Try.prog 108 = false := by kernel_rfl
@[go_sem] theorem Try.ty.ki108 : kindOf Try.prog 108 = none := by kernel_rfl
@[go_sem] theorem Try.ty.if108 : isIface Try.prog 108 = some false := by kernel_rfl
@[go_sem] theorem Try.ty.sz109 : szOf Try.prog 109 = some 1 := by kernel_rfl
@[go_sem] theorem Try.ty.by109 : bytesIn Try.prog 109 = some 8 := by kernel_rfl
@[go_sem] theorem Try.ty.ag109 : aggOf Try.prog 109 = some false := by kernel_rfl
@[go_sem] theorem Try.ty.zr109 : zeroOf Try.prog 109 = some [.val .nilFunc] := by kernel_rfl
@[go_sem] theorem Try.ty.el109 : elemOfSlice Try.prog 109 = none := by kernel_rfl
@[go_sem] theorem Try.ty.ar109 : arrayOf Try.prog 109 = none := by kernel_rfl
@[go_sem] theorem Try.ty.st109 : isStr Try.prog 109 = false := by kernel_rfl
@[go_sem] theorem Try.ty.bo109 : isBool Try.prog 109 = false := by kernel_rfl
@[go_sem] theorem Try.ty.ki109 : kindOf Try.prog 109 = none := by kernel_rfl
@[go_sem] theorem Try.ty.if109 : isIface Try.prog 109 = some false := by kernel_rfl
@[go_sem] theorem Try.ty.sz110 : szOf Try.prog 110 = some 1 := by kernel_rfl
@[go_sem] theorem Try.ty.by110 : bytesIn Try.prog 110 = some 8 := by kernel_rfl
@[go_sem] theorem Try.ty.ag110 : aggOf Try.prog 110 = some false := by kernel_rfl
@[go_sem] theorem Try.ty.zr110 : zeroOf Try.prog 110 = some [.val .nilFunc] := by kernel_rfl
@[go_sem] theorem Try.ty.el110 : elemOfSlice Try.prog 110 = none := by kernel_rfl
@[go_sem] theorem Try.ty.ar110 : arrayOf Try.prog 110 = none := by kernel_rfl
@[go_sem] theorem Try.ty.st110 : isStr Try.prog 110 = false := by kernel_rfl
@[go_sem] theorem Try.ty.bo110 : isBool Try.prog 110 = false := by kernel_rfl
@[go_sem] theorem Try.ty.ki110 : kindOf Try.prog 110 = none := by kernel_rfl
@[go_sem] theorem Try.ty.if110 : isIface Try.prog 110 = some false := by kernel_rfl
@[go_sem] theorem Try.ty.sz111 : szOf Try.prog 111 = some 1 := by kernel_rfl
@[go_sem] theorem Try.ty.by111 : bytesIn Try.prog 111 = some 8 := by kernel_rfl
@[go_sem] theorem Try.ty.ag111 : aggOf Try.prog 111 = some false := by kernel_rfl
@[go_sem] theorem Try.ty.zr111 : zeroOf Try.prog 111 = some [.val .nilFunc] := by kernel_rfl
@[go_sem] theorem Try.ty.el111 : elemOfSlice Try.prog 111 = none := by kernel_rfl
@[go_sem] theorem Try.ty.ar111 : arrayOf Try.prog 111 = none := by kernel_rfl
@[go_sem] theorem Try.ty.st111 : isStr Try.prog 111 = false := by kernel_rfl
@[go_sem] theorem Try.ty.bo111 : isBool Try.prog 111 = false := by kernel_rfl
@[go_sem] theorem Try.ty.ki111 : kindOf Try.prog 111 = none := by kernel_rfl
@[go_sem] theorem Try.ty.if111 : isIface Try.prog 111 = some false := by kernel_rfl
@[go_sem] theorem Try.ty.sz112 : szOf Try.prog 112 = some 1 := by kernel_rfl
@[go_sem] theorem Try.ty.by112 : bytesIn Try.prog 112 = some 8 := by kernel_rfl
@[go_sem] theorem Try.ty.ag112 : aggOf Try.prog 112 = some false := by kernel_rfl
@[go_sem] theorem Try.ty.zr112 : zeroOf Try.prog 112 = some [.val .nilFunc] := by kernel_rfl
@[go_sem] theorem Try.ty.el112 : elemOfSlice Try.prog 112 = none := by kernel_rfl
@[go_sem] theorem Try.ty.ar112 : arrayOf Try.prog 112 = none := by kernel_rfl
@[go_sem] theorem Try.ty.st112 : isStr Try.prog 112 = false := by kernel_rfl
@[go_sem] theorem Try.ty.bo112 : isBool Try.prog 112 = false := by kernel_rfl
@[go_sem] theorem Try.ty.ki112 : kindOf Try.prog 112 = none := by kernel_rfl
@[go_sem] theorem Try.ty.if112 : isIface Try.prog 112 = some false := by kernel_rfl
@[go_sem] theorem Try.ty.sz113 : szOf Try.prog 113 = some 1 := by kernel_rfl
@[go_sem] theorem Try.ty.by113 : bytesIn Try.prog 113 = some 8 := by kernel_rfl
@[go_sem] theorem Try.ty.ag113 : aggOf Try.prog 113 = some false := by kernel_rfl
@[go_sem] theorem Try.ty.zr113 : zeroOf Try.prog 113 = some [.val .nilFunc] := by kernel_rfl
@[go_sem] theorem Try.ty.el113 : elemOfSlice Try.prog 113 = none := by kernel_rfl
@[go_sem] theorem Try.ty.ar113 : arrayOf Try.prog 113 = none := by kernel_rfl
@[go_sem] theorem Try.ty.st113 : isStr Try.prog 113 = false := by kernel_rfl
@[go_sem] theorem Try.ty.bo113 : isBool Try.prog 113 = false := by kernel_rfl
@[go_sem] theorem Try.ty.ki113 : kindOf Try.prog 113 = none := by kernel_rfl
@[go_sem] theorem Try.ty.if113 : isIface Try.prog 113 = some false := by kernel_rfl
@[go_sem] theorem Try.ty.sz114 : szOf Try.prog 114 = some 1 := by kernel_rfl
@[go_sem] theorem Try.ty.by114 : bytesIn Try.prog 114 = some 8 := by kernel_rfl
@[go_sem] theorem Try.ty.ag114 : aggOf Try.prog 114 = some false := by kernel_rfl
@[go_sem] theorem Try.ty.zr114 : zeroOf Try.prog 114 = some [.val .nilFunc] := by kernel_rfl
@[go_sem] theorem Try.ty.el114 : elemOfSlice Try.prog 114 = none := by kernel_rfl
@[go_sem] theorem Try.ty.ar114 : arrayOf Try.prog 114 = none := by kernel_rfl
@[go_sem] theorem Try.ty.st114 : isStr Try.prog 114 = false := by kernel_rfl
@[go_sem] theorem Try.ty.bo114 : isBool Try.prog 114 = false := by kernel_rfl
@[go_sem] theorem Try.ty.ki114 : kindOf Try.prog 114 = none := by kernel_rfl
@[go_sem] theorem Try.ty.if114 : isIface Try.prog 114 = some false := by kernel_rfl
@[go_sem] theorem Try.ty.sz115 : szOf Try.prog 115 = some 3 := by kernel_rfl
@[go_sem] theorem Try.ty.by115 : bytesIn Try.prog 115 = some 24 := by kernel_rfl
@[go_sem] theorem Try.ty.ag115 : aggOf Try.prog 115 = some true := by kernel_rfl
@[go_sem] theorem Try.ty.zr115 : zeroOf Try.prog 115 = some [.val (.int .i64 0), .val (.int .i64 0), .val (.bool false)] := by kernel_rfl
@[go_sem] theorem Try.ty.el115 : elemOfSlice Try.prog 115 = none := by kernel_rfl
@[go_sem] theorem Try.ty.ar115 : arrayOf Try.prog 115 = none := by kernel_rfl
@[go_sem] theorem Try.ty.st115 : isStr Try.prog 115 = false := by kernel_rfl
@[go_sem] theorem Try.ty.bo115 : isBool Try.prog 115 = false := by kernel_rfl
@[go_sem] theorem Try.ty.ki115 : kindOf Try.prog 115 = none := by kernel_rfl
@[go_sem] theorem Try.ty.if115 : isIface Try.prog 115 = some false := by kernel_rfl
@[go_sem] theorem Try.ty.fo0_115 : fieldOf Try.prog 115 0 = some (3, 0) := by kernel_rfl
@[go_sem] theorem Try.ty.fp0_115 : fieldPl Try.prog 115 0 = some (0, 1) := by kernel_rfl
@[go_sem] theorem Try.ty.fo1_115 : fieldOf Try.prog 115 1 = some (3, 1) := by kernel_rfl
@[go_sem] theorem Try.ty.fp1_115 : fieldPl Try.prog 115 1 = some (1, 1) := by kernel_rfl
@[go_sem] theorem Try.ty.fo2_115 : fieldOf Try.prog 115 2 = some (4, 2) := by kernel_rfl
@[go_sem] theorem Try.ty.fp2_115 : fieldPl Try.prog 115 2 = some (2, 1) := by kernel_rfl
@[go_sem] theorem Try.ty.bk115 : buildOk Try.prog 115 = true := by kernel_rfl
@[go_sem] theorem Try.ty.sz116 : szOf Try.prog 116 = some 3 := by kernel_rfl
@[go_sem] theorem Try.ty.by116 : bytesIn Try.prog 116 = some 24 := by kernel_rfl
@[go_sem] theorem Try.ty.ag116 : aggOf Try.prog 116 = some true := by kernel_rfl
@[go_sem] theorem Try.ty.zr116 : zeroOf Try.prog 116 = some [.val (.int .i64 0), .val (.int .i64 0), .val (.bool false)] := by kernel_rfl
@[go_sem] theorem Try.ty.el116 : elemOfSlice Try.prog 116 = none := by kernel_rfl
@[go_sem] theorem Try.ty.ar116 : arrayOf Try.prog 116 = none := by kernel_rfl
@[go_sem] theorem Try.ty.st116 : isStr Try.prog 116 = false := by kernel_rfl
@[go_sem] theorem Try.ty.bo116 : isBool Try.prog 116 = false := by kernel_rfl
@[go_sem] theorem Try.ty.ki116 : kindOf Try.prog 116 = none := by kernel_rfl
@[go_sem] theorem Try.ty.if116 : isIface Try.prog 116 = some false := by kernel_rfl
@[go_sem] theorem Try.ty.fo0_116 : fieldOf Try.prog 116 0 = some (3, 0) := by kernel_rfl
@[go_sem] theorem Try.ty.fp0_116 : fieldPl Try.prog 116 0 = some (0, 1) := by kernel_rfl
@[go_sem] theorem Try.ty.fo1_116 : fieldOf Try.prog 116 1 = some (3, 1) := by kernel_rfl
@[go_sem] theorem Try.ty.fp1_116 : fieldPl Try.prog 116 1 = some (1, 1) := by kernel_rfl
@[go_sem] theorem Try.ty.fo2_116 : fieldOf Try.prog 116 2 = some (4, 2) := by kernel_rfl
@[go_sem] theorem Try.ty.fp2_116 : fieldPl Try.prog 116 2 = some (2, 1) := by kernel_rfl
@[go_sem] theorem Try.ty.bk116 : buildOk Try.prog 116 = true := by kernel_rfl
@[go_sem] theorem Try.ty.sz117 : szOf Try.prog 117 = some 1 := by kernel_rfl
@[go_sem] theorem Try.ty.by117 : bytesIn Try.prog 117 = some 8 := by kernel_rfl
@[go_sem] theorem Try.ty.ag117 : aggOf Try.prog 117 = some false := by kernel_rfl
@[go_sem] theorem Try.ty.zr117 : zeroOf Try.prog 117 = some [.val .nilFunc] := by kernel_rfl
@[go_sem] theorem Try.ty.el117 : elemOfSlice Try.prog 117 = none := by kernel_rfl
@[go_sem] theorem Try.ty.ar117 : arrayOf Try.prog 117 = none := by kernel_rfl
@[go_sem] theorem Try.ty.st117 : isStr Try.prog 117 = false := by kernel_rfl
@[go_sem] theorem Try.ty.bo117 : isBool Try.prog 117 = false := by kernel_rfl
@[go_sem] theorem Try.ty.ki117 : kindOf Try.prog 117 = none := by kernel_rfl
@[go_sem] theorem Try.ty.if117 : isIface Try.prog 117 = some false := by kernel_rfl
@[go_sem] theorem Try.ty.sz118 : szOf Try.prog 118 = some 3 := by kernel_rfl
@[go_sem] theorem Try.ty.by118 : bytesIn Try.prog 118 = some 24 := by kernel_rfl
@[go_sem] theorem Try.ty.ag118 : aggOf Try.prog 118 = some true := by kernel_rfl
@[go_sem] theorem Try.ty.zr118 : zeroOf Try.prog 118 = some [.val (.int .i64 0), .val (.int .i64 0), .val (.bool false)] := by kernel_rfl
@[go_sem] theorem Try.ty.el118 : elemOfSlice Try.prog 118 = none := by kernel_rfl
@[go_sem] theorem Try.ty.ar118 : arrayOf Try.prog 118 = none := by kernel_rfl
@[go_sem] theorem Try.ty.st118 : isStr Try.prog 118 = false := by kernel_rfl
@[go_sem] theorem Try.ty.bo118 : isBool Try.prog 118 = false := by kernel_rfl
@[go_sem] theorem Try.ty.ki118 : kindOf Try.prog 118 = none := by kernel_rfl
@[go_sem] theorem Try.ty.if118 : isIface Try.prog 118 = some false := by kernel_rfl
@[go_sem] theorem Try.ty.fo0_118 : fieldOf Try.prog 118 0 = some (3, 0) := by kernel_rfl
@[go_sem] theorem Try.ty.fp0_118 : fieldPl Try.prog 118 0 = some (0, 1) := by kernel_rfl
@[go_sem] theorem Try.ty.fo1_118 : fieldOf Try.prog 118 1 = some (3, 1) := by kernel_rfl
@[go_sem] theorem Try.ty.fp1_118 : fieldPl Try.prog 118 1 = some (1, 1) := by kernel_rfl
@[go_sem] theorem Try.ty.fo2_118 : fieldOf Try.prog 118 2 = some (4, 2) := by kernel_rfl
@[go_sem] theorem Try.ty.fp2_118 : fieldPl Try.prog 118 2 = some (2, 1) := by kernel_rfl
@[go_sem] theorem Try.ty.bk118 : buildOk Try.prog 118 = true := by kernel_rfl
@[go_sem] theorem Try.ty.sz119 : szOf Try.prog 119 = some 1 := by kernel_rfl
@[go_sem] theorem Try.ty.by119 : bytesIn Try.prog 119 = some 8 := by kernel_rfl
@[go_sem] theorem Try.ty.ag119 : aggOf Try.prog 119 = some false := by kernel_rfl
@[go_sem] theorem Try.ty.zr119 : zeroOf Try.prog 119 = some [.val .nilFunc] := by kernel_rfl
@[go_sem] theorem Try.ty.el119 : elemOfSlice Try.prog 119 = none := by kernel_rfl
@[go_sem] theorem Try.ty.ar119 : arrayOf Try.prog 119 = none := by kernel_rfl
@[go_sem] theorem Try.ty.st119 : isStr Try.prog 119 = false := by kernel_rfl
@[go_sem] theorem Try.ty.bo119 : isBool Try.prog 119 = false := by kernel_rfl
@[go_sem] theorem Try.ty.ki119 : kindOf Try.prog 119 = none := by kernel_rfl
@[go_sem] theorem Try.ty.if119 : isIface Try.prog 119 = some false := by kernel_rfl
@[go_sem] theorem Try.ty.sz120 : szOf Try.prog 120 = some 3 := by kernel_rfl
@[go_sem] theorem Try.ty.by120 : bytesIn Try.prog 120 = some 40 := by kernel_rfl
@[go_sem] theorem Try.ty.ag120 : aggOf Try.prog 120 = some true := by kernel_rfl
@[go_sem] theorem Try.ty.zr120 : zeroOf Try.prog 120 = some [.val (.slice none 0 0), .val (.int .i64 0), .val (.int .i64 0)] := by kernel_rfl
@[go_sem] theorem Try.ty.el120 : elemOfSlice Try.prog 120 = none := by kernel_rfl
@[go_sem] theorem Try.ty.ar120 : arrayOf Try.prog 120 = none := by kernel_rfl
@[go_sem] theorem Try.ty.st120 : isStr Try.prog 120 = false := by kernel_rfl
@[go_sem] theorem Try.ty.bo120 : isBool Try.prog 120 = false := by kernel_rfl
@[go_sem] theorem Try.ty.ki120 : kindOf Try.prog 120 = none := by kernel_rfl
@[go_sem] theorem Try.ty.if120 : isIface Try.prog 120 = some false := by kernel_rfl
@[go_sem] theorem Try.ty.fo0_120 : fieldOf Try.prog 120 0 = some (22, 0) := by kernel_rfl
@[go_sem] theorem Try.ty.fp0_120 : fieldPl Try.prog 120 0 = some (0, 1) := by kernel_rfl
@[go_sem] theorem Try.ty.fo1_120 : fieldOf Try.prog 120 1 = some (3, 1) := by kernel_rfl
@[go_sem] theorem Try.ty.fp1_120 : fieldPl Try.prog 120 1 = some (1, 1) := by kernel_rfl
@[go_sem] theorem Try.ty.fo2_120 : fieldOf Try.prog 120 2 = some (3, 2) := by kernel_rfl
@[go_sem] theorem Try.ty.fp2_120 : fieldPl Try.prog 120 2 = some (2, 1) := by kernel_rfl
@[go_sem] theorem Try.ty.bk120 : buildOk Try.prog 120 = true := by kernel_rfl
@[go_sem] theorem Try.ty.sz121 : szOf Try.prog 121 = some 3 := by kernel_rfl
@[go_sem] theorem Try.ty.by121 : bytesIn Try.prog 121 = some 40 := by kernel_rfl
@[go_sem] theorem Try.ty.ag121 : aggOf Try.prog 121 = some true := by kernel_rfl
@[go_sem] theorem Try.ty.zr121 : zeroOf Try.prog 121 = some [.val (.slice none 0 0), .val (.int .i64 0), .val (.int .i64 0)] := by kernel_rfl
@[go_sem] theorem Try.ty.el121 : elemOfSlice Try.prog 121 = none := by kernel_rfl
@[go_sem] theorem Try.ty.ar121 : arrayOf Try.prog 121 = none := by kernel_rfl
@[go_sem] theorem Try.ty.st121 : isStr Try.prog 121 = false := by kernel_rfl
@[go_sem] theorem Try.ty.bo121 : isBool Try.prog 121 = false := by kernel_rfl
@[go_sem] theorem Try.ty.ki121 : kindOf Try.prog 121 = none := by kernel_rfl
@[go_sem] theorem Try.ty.if121 : isIface Try.prog 121 = some false := by kernel_rfl
@[go_sem] theorem Try.ty.fo0_121 : fieldOf Try.prog 121 0 = some (22, 0) := by kernel_rfl
@[go_sem] theorem Try.ty.fp0_121 : fieldPl Try.prog 121 0 = some (0, 1) := by kernel_rfl
@[go_sem] theorem Try.ty.fo1_121 : fieldOf Try.prog 121 1 = some (3, 1) := by kernel_rfl
@[go_sem] theorem Try.ty.fp1_121 : fieldPl Try.prog 121 1 = some (1, 1) := by kernel_rfl
@[go_sem] theorem Try.ty.fo2_121 : fieldOf Try.prog 121 2 = some (3, 2) := by kernel_rfl
@[go_sem] theorem Try.ty.fp2_121 : fieldPl Try.prog 121 2 = some (2, 1) := by kernel_rfl
@[go_sem] theorem Try.ty.bk121 : buildOk Try.prog 121 = true := by kernel_rfl
@[go_sem] theorem Try.ty.sz122 : szOf Try.prog 122 = some 1 := by kernel_rfl
@[go_sem] theorem Try.ty.by122 : bytesIn Try.prog 122 = some 8 := by kernel_rfl
@[go_sem] theorem Try.ty.ag122 : aggOf Try.prog 122 = some false := by kernel_rfl
@[go_sem] theorem Try.ty.zr122 : zeroOf Try.prog 122 = some [.val .nilFunc] := by kernel_rfl
@[go_sem] theorem Try.ty.el122 : elemOfSlice Try.prog 122 = none := by kernel_rfl
@[go_sem] theorem Try.ty.ar122 : arrayOf Try.prog 122 = none := by kernel_rfl
@[go_sem] theorem Try.ty.st122 : isStr Try.prog 122 = false := by kernel_rfl
@[go_sem] theorem Try.ty.bo122 : isBool Try.prog 122 = false := by kernel_rfl
@[go_sem] theorem Try.ty.ki122 : kindOf Try.prog 122 = none := by kernel_rfl
@[go_sem] theorem Try.ty.if122 : isIface Try.prog 122 = some false := by kernel_rfl
@[go_sem] theorem Try.ty.sz123 : szOf Try.prog 123 = some 1 := by kernel_rfl
@[go_sem] theorem Try.ty.by123 : bytesIn Try.prog 123 = some 8 := by kernel_rfl
@[go_sem] theorem Try.ty.ag123 : aggOf Try.prog 123 = some false := by kernel_rfl
@[go_sem] theorem Try.ty.zr123 : zeroOf Try.prog 123 = some [.val .nilFunc] := by kernel_rfl
@[go_sem] theorem Try.ty.el123 : elemOfSlice Try.prog 123 = none := by kernel_rfl
@[go_sem] theorem Try.ty.ar123 : arrayOf Try.prog 123 = none := by kernel_rfl
@[go_sem] theorem Try.ty.st123 : isStr Try.prog 123 = false := by kernel_rfl
@[go_sem] theorem Try.ty.bo123 : isBool Try.prog 123 = false := by kernel_rfl
@[go_sem] theorem Try.ty.ki123 : kindOf Try.prog 123 = none := by kernel_rfl
@[go_sem] theorem Try.ty.if123 : isIface Try.prog 123 = some false := by kernel_rfl
@[go_sem] theorem Try.ty.sz124 : szOf Try.prog 124 = some 1 := by kernel_rfl
@[go_sem] theorem Try.ty.by124 : bytesIn Try.prog 124 = some 8 := by kernel_rfl
@[go_sem] theorem Try.ty.ag124 : aggOf Try.prog 124 = some false := by kernel_rfl
@[go_sem] theorem Try.ty.zr124 : zeroOf Try.prog 124 = some [.val .nilFunc] := by kernel_rfl
@[go_sem] theorem Try.ty.el124 : elemOfSlice Try.prog 124 = none := by kernel_rfl
@[go_sem] theorem Try.ty.ar124 : arrayOf Try.prog 124 = none := by kernel_rfl
@[go_sem] theorem Try.ty.st124 : isStr Try.prog 124 = false := by kernel_rfl
@[go_sem] theorem Try.ty.bo124 : isBool Try.prog 124 = false := by kernel_rfl
@[go_sem] theorem Try.ty.ki124 : kindOf Try.prog 124 = none := by kernel_rfl
@[go_sem] theorem Try.ty.if124 : isIface Try.prog 124 = some false := by kernel_rfl
@[go_sem] theorem Try.ty.sz125 : szOf Try.prog 125 = some 1 := by kernel_rfl
@[go_sem] theorem Try.ty.by125 : bytesIn Try.prog 125 = some 8 := by kernel_rfl
@[go_sem] theorem Try.ty.ag125 : aggOf Try.prog 125 = some false := by kernel_rfl
@[go_sem] theorem Try.ty.zr125 : zeroOf Try.prog 125 = some [.val .nilFunc] := by kernel_rfl
@[go_sem] theorem Try.ty.el125 : elemOfSlice Try.prog 125 = none := by kernel_rfl
@[go_sem] theorem Try.ty.ar125 : arrayOf Try.prog 125 = none := by kernel_rfl
@[go_sem] theorem Try.ty.st125 : isStr Try.prog 125 = false := by kernel_rfl
@[go_sem] theorem Try.ty.bo125 : isBool Try.prog 125 = false := by kernel_rfl
@[go_sem] theorem Try.ty.ki125 : kindOf Try.prog 125 = none := by kernel_rfl
@[go_sem] theorem Try.ty.if125 : isIface Try.prog 125 = some false := by kernel_rfl
@[go_sem] theorem Try.ty.sz126 : szOf Try.prog 126 = some 1 := by kernel_rfl
@[go_sem] theorem Try.ty.by126 : bytesIn Try.prog 126 = some 8 := by kernel_rfl
@[go_sem] theorem Try.ty.ag126 : aggOf Try.prog 126 = some false := by kernel_rfl
@[go_sem] theorem Try.ty.zr126 : zeroOf Try.prog 126 = some [.val (.pointer none)] := by kernel_rfl
@[go_sem] theorem Try.ty.el126 : elemOfSlice Try.prog 126 = none := by kernel_rfl
@[go_sem] theorem Try.ty.ar126 : arrayOf Try.prog 126 = none := by kernel_rfl
@[go_sem] theorem Try.ty.st126 : isStr Try.prog 126 = false := by kernel_rfl
@[go_sem] theorem Try.ty.bo126 : isBool Try.prog 126 = false := by kernel_rfl
@[go_sem] theorem Try.ty.ki126 : kindOf Try.prog 126 = none := by kernel_rfl
@[go_sem] theorem Try.ty.if126 : isIface Try.prog 126 = some false := by kernel_rfl
@[go_sem] theorem Try.ty.un126 : Try.prog.underlying 126 = some (.pointer 97) := by kernel_rfl
@[go_sem] theorem Try.ty.sz127 : szOf Try.prog 127 = some 1 := by kernel_rfl
@[go_sem] theorem Try.ty.by127 : bytesIn Try.prog 127 = some 8 := by kernel_rfl
@[go_sem] theorem Try.ty.ag127 : aggOf Try.prog 127 = some false := by kernel_rfl
@[go_sem] theorem Try.ty.zr127 : zeroOf Try.prog 127 = some [.val .nilFunc] := by kernel_rfl
@[go_sem] theorem Try.ty.el127 : elemOfSlice Try.prog 127 = none := by kernel_rfl
@[go_sem] theorem Try.ty.ar127 : arrayOf Try.prog 127 = none := by kernel_rfl
@[go_sem] theorem Try.ty.st127 : isStr Try.prog 127 = false := by kernel_rfl
@[go_sem] theorem Try.ty.bo127 : isBool Try.prog 127 = false := by kernel_rfl
@[go_sem] theorem Try.ty.ki127 : kindOf Try.prog 127 = none := by kernel_rfl
@[go_sem] theorem Try.ty.if127 : isIface Try.prog 127 = some false := by kernel_rfl
@[go_sem] theorem Try.ty.sz128 : szOf Try.prog 128 = some 1 := by kernel_rfl
@[go_sem] theorem Try.ty.by128 : bytesIn Try.prog 128 = some 8 := by kernel_rfl
@[go_sem] theorem Try.ty.ag128 : aggOf Try.prog 128 = some false := by kernel_rfl
@[go_sem] theorem Try.ty.zr128 : zeroOf Try.prog 128 = some [.val .nilFunc] := by kernel_rfl
@[go_sem] theorem Try.ty.el128 : elemOfSlice Try.prog 128 = none := by kernel_rfl
@[go_sem] theorem Try.ty.ar128 : arrayOf Try.prog 128 = none := by kernel_rfl
@[go_sem] theorem Try.ty.st128 : isStr Try.prog 128 = false := by kernel_rfl
@[go_sem] theorem Try.ty.bo128 : isBool Try.prog 128 = false := by kernel_rfl
@[go_sem] theorem Try.ty.ki128 : kindOf Try.prog 128 = none := by kernel_rfl
@[go_sem] theorem Try.ty.if128 : isIface Try.prog 128 = some false := by kernel_rfl
@[go_sem] theorem Try.ty.sz129 : szOf Try.prog 129 = some 1 := by kernel_rfl
@[go_sem] theorem Try.ty.by129 : bytesIn Try.prog 129 = some 24 := by kernel_rfl
@[go_sem] theorem Try.ty.ag129 : aggOf Try.prog 129 = some false := by kernel_rfl
@[go_sem] theorem Try.ty.zr129 : zeroOf Try.prog 129 = some [.val (.slice none 0 0)] := by kernel_rfl
@[go_sem] theorem Try.ty.el129 : elemOfSlice Try.prog 129 = some 175 := by kernel_rfl
@[go_sem] theorem Try.ty.ar129 : arrayOf Try.prog 129 = none := by kernel_rfl
@[go_sem] theorem Try.ty.st129 : isStr Try.prog 129 = false := by kernel_rfl
@[go_sem] theorem Try.ty.bo129 : isBool Try.prog 129 = false := by kernel_rfl
@[go_sem] theorem Try.ty.ki129 : kindOf Try.prog 129 = none := by kernel_rfl
@[go_sem] theorem Try.ty.if129 : isIface Try.prog 129 = some false := by kernel_rfl
@[go_sem] theorem Try.ty.un129 : Try.prog.underlying 129 = some (.slice 175) := by kernel_rfl
@[go_sem] theorem Try.ty.sz130 : szOf Try.prog 130 = some 1 := by kernel_rfl
@[go_sem] theorem Try.ty.by130 : bytesIn Try.prog 130 = some 24 := by kernel_rfl
@[go_sem] theorem Try.ty.ag130 : aggOf Try.prog 130 = some true := by kernel_rfl
@[go_sem] theorem Try.ty.zr130 : zeroOf Try.prog 130 = some [.val (.slice none 0 0)] := by kernel_rfl
@[go_sem] theorem Try.ty.el130 : elemOfSlice Try.prog 130 = none := by kernel_rfl
@[go_sem] theorem Try.ty.ar130 : arrayOf Try.prog 130 = none := by kernel_rfl
@[go_sem] theorem Try.ty.st130 : isStr Try.prog 130 = false := by kernel_rfl
@[go_sem] theorem Try.ty.bo130 : isBool Try.prog 130 = false := by kernel_rfl
@[go_sem] theorem Try.ty.ki130 : kindOf Try.prog 130 = none := by kernel_rfl
@[go_sem] theorem Try.ty.if130 : isIface Try.prog 130 = some false := by kernel_rfl
@[go_sem] theorem Try.ty.fo0_130 : fieldOf Try.prog 130 0 = some (129, 0) := by kernel_rfl
@[go_sem] theorem Try.ty.fp0_130 : fieldPl Try.prog 130 0 = some (0, 1) := by kernel_rfl
@[go_sem] theorem Try.ty.bk130 : buildOk Try.prog 130 = true := by kernel_rfl
@[go_sem] theorem Try.ty.sz131 : szOf Try.prog 131 = some 1 := by kernel_rfl
@[go_sem] theorem Try.ty.by131 : bytesIn Try.prog 131 = some 24 := by kernel_rfl
@[go_sem] theorem Try.ty.ag131 : aggOf Try.prog 131 = some true := by kernel_rfl
@[go_sem] theorem Try.ty.zr131 : zeroOf Try.prog 131 = some [.val (.slice none 0 0)] := by kernel_rfl
@[go_sem] theorem Try.ty.el131 : elemOfSlice Try.prog 131 = none := by kernel_rfl
@[go_sem] theorem Try.ty.ar131 : arrayOf Try.prog 131 = none := by kernel_rfl
@[go_sem] theorem Try.ty.st131 : isStr Try.prog 131 = false := by kernel_rfl
@[go_sem] theorem Try.ty.bo131 : isBool Try.prog 131 = false := by kernel_rfl
@[go_sem] theorem Try.ty.ki131 : kindOf Try.prog 131 = none := by kernel_rfl
@[go_sem] theorem Try.ty.if131 : isIface Try.prog 131 = some false := by kernel_rfl
@[go_sem] theorem Try.ty.fo0_131 : fieldOf Try.prog 131 0 = some (129, 0) := by kernel_rfl
@[go_sem] theorem Try.ty.fp0_131 : fieldPl Try.prog 131 0 = some (0, 1) := by kernel_rfl
@[go_sem] theorem Try.ty.bk131 : buildOk Try.prog 131 = true := by kernel_rfl
@[go_sem] theorem Try.ty.sz132 : szOf Try.prog 132 = some 1 := by kernel_rfl
@[go_sem] theorem Try.ty.by132 : bytesIn Try.prog 132 = some 24 := by kernel_rfl
@[go_sem] theorem Try.ty.ag132 : aggOf Try.prog 132 = some false := by kernel_rfl
@[go_sem] theorem Try.ty.zr132 : zeroOf Try.prog 132 = some [.val (.slice none 0 0)] := by kernel_rfl
@[go_sem] theorem Try.ty.el132 : elemOfSlice Try.prog 132 = some 136 := by kernel_rfl
@[go_sem] theorem Try.ty.ar132 : arrayOf Try.prog 132 = none := by kernel_rfl
@[go_sem] theorem Try.ty.st132 : isStr Try.prog 132 = false := by kernel_rfl
@[go_sem] theorem Try.ty.bo132 : isBool Try.prog 132 = false := by kernel_rfl
@[go_sem] theorem Try.ty.ki132 : kindOf Try.prog 132 = none := by kernel_rfl
@[go_sem] theorem Try.ty.if132 : isIface Try.prog 132 = some false := by kernel_rfl
@[go_sem] theorem Try.ty.un132 : Try.prog.underlying 132 = some (.slice 136) := by kernel_rfl
@[go_sem] theorem Try.ty.sz133 : szOf Try.prog 133 = some 1 := by kernel_rfl
@[go_sem] theorem Try.ty.by133 : bytesIn Try.prog 133 = some 24 := by kernel_rfl
@[go_sem] theorem Try.ty.ag133 : aggOf Try.prog 133 = some true := by kernel_rfl
@[go_sem] theorem Try.ty.zr133 : zeroOf Try.prog 133 = some [.val (.slice none 0 0)] := by kernel_rfl
@[go_sem] theorem Try.ty.el133 : elemOfSlice Try.prog 133 = none := by kernel_rfl
@[go_sem] theorem Try.ty.ar133 : arrayOf Try.prog 133 = none := by kernel_rfl
@[go_sem] theorem Try.ty.st133 : isStr Try.prog 133 = false := by kernel_rfl
@[go_sem] theorem Try.ty.bo133 : isBool Try.prog 133 = false := by kernel_rfl
@[go_sem] theorem Try.ty.ki133 : kindOf Try.prog 133 = none := by kernel_rfl
@[go_sem] theorem Try.ty.if133 : isIface Try.prog 133 = some false := by kernel_rfl
@[go_sem] theorem Try.ty.fo0_133 : fieldOf Try.prog 133 0 = some (132, 0) := by kernel_rfl
@[go_sem] theorem Try.ty.fp0_133 : fieldPl Try.prog 133 0 = some (0, 1) := by kernel_rfl
@[go_sem] theorem Try.ty.bk133 : buildOk Try.prog 133 = true := by kernel_rfl
@[go_sem] theorem Try.ty.sz134 : szOf Try.prog 134 = some 1 := by kernel_rfl
@[go_sem] theorem Try.ty.by134 : bytesIn Try.prog 134 = some 24 := by kernel_rfl
@[go_sem] theorem Try.ty.ag134 : aggOf Try.prog 134 = some true := by kernel_rfl
@[go_sem] theorem Try.ty.zr134 : zeroOf Try.prog 134 = some [.val (.slice none 0 0)] := by kernel_rfl
@[go_sem] theorem Try.ty.el134 : elemOfSlice Try.prog 134 = none := by kernel_rfl
@[go_sem] theorem Try.ty.ar134 : arrayOf Try.prog 134 = none := by kernel_rfl
@[go_sem] theorem Try.ty.st134 : isStr Try.prog 134 = false := by kernel_rfl
@[go_sem] theorem Try.ty.bo134 : isBool Try.prog 134 = false := by kernel_rfl
@[go_sem] theorem Try.ty.ki134 : kindOf Try.prog 134 = none := by kernel_rfl
@[go_sem] theorem Try.ty.if134 : isIface Try.prog 134 = some false := by kernel_rfl
@[go_sem] theorem Try.ty.fo0_134 : fieldOf Try.prog 134 0 = some (132, 0) := by kernel_rfl
@[go_sem] theorem Try.ty.fp0_134 : fieldPl Try.prog 134 0 = some (0, 1) := by kernel_rfl
@[go_sem] theorem Try.ty.bk134 : buildOk Try.prog 134 = true := by kernel_rfl
@[go_sem] theorem Try.ty.sz135 : szOf Try.prog 135 = some 3 := by kernel_rfl
@[go_sem] theorem Try.ty.by135 : bytesIn Try.prog 135 = some 24 := by kernel_rfl
@[go_sem] theorem Try.ty.ag135 : aggOf Try.prog 135 = some true := by kernel_rfl
@[go_sem] theorem Try.ty.zr135 : zeroOf Try.prog 135 = some [.val (.int .i64 0), .val (.int .i64 0), .val (.bool false)] := by kernel_rfl
@[go_sem] theorem Try.ty.el135 : elemOfSlice Try.prog 135 = none := by kernel_rfl
@[go_sem] theorem Try.ty.ar135 : arrayOf Try.prog 135 = none := by kernel_rfl
@[go_sem] theorem Try.ty.st135 : isStr Try.prog 135 = false := by kernel_rfl
@[go_sem] theorem Try.ty.bo135 : isBool Try.prog 135 = false := by kernel_rfl
@[go_sem] theorem Try.ty.ki135 : kindOf Try.prog 135 = none := by kernel_rfl
@[go_sem] theorem Try.ty.if135 : isIface Try.prog 135 = some false := by kernel_rfl
@[go_sem] theorem Try.ty.fo0_135 : fieldOf Try.prog 135 0 = some (3, 0) := by kernel_rfl
@[go_sem] theorem Try.ty.fp0_135 : fieldPl Try.prog 135 0 = some (0, 1) := by kernel_rfl
@[go_sem] theorem Try.ty.fo1_135 : fieldOf Try.prog 135 1 = some (3, 1) := by kernel_rfl
@[go_sem] theorem Try.ty.fp1_135 : fieldPl Try.prog 135 1 = some (1, 1) := by kernel_rfl
@[go_sem] theorem Try.ty.fo2_135 : fieldOf Try.prog 135 2 = some (4, 2) := by kernel_rfl
@[go_sem] theorem Try.ty.fp2_135 : fieldPl Try.prog 135 2 = some (2, 1) := by kernel_rfl
@[go_sem] theorem Try.ty.bk135 : buildOk Try.prog 135 = true := by kernel_rfl
@[go_sem] theorem Try.ty.sz136 : szOf Try.prog 136 = some 3 := by kernel_rfl
@[go_sem] theorem Try.ty.by136 : bytesIn Try.prog 136 = some 24 := by kernel_rfl
@[go_sem] theorem Try.ty.ag136 : aggOf Try.prog 136 = some true := by kernel_rfl
@[go_sem] theorem Try.ty.zr136 : zeroOf Try.prog 136 = some [.val (.int .i64 0), .val (.int .i64 0), .val (.bool false)] := by kernel_rfl
@[go_sem] theorem Try.ty.el136 : elemOfSlice Try.prog 136 = none := by kernel_rfl
@[go_sem] theorem Try.ty.ar136 : arrayOf Try.prog 136 = none := by kernel_rfl
@[go_sem] theorem Try.ty.st136 : isStr Try.prog 136 = false := by kernel_rfl
@[go_sem] theorem Try.ty.bo136 : isBool Try.prog 136 = false := by kernel_rfl
@[go_sem] theorem Try.ty.ki136 : kindOf Try.prog 136 = none := by kernel_rfl
@[go_sem] theorem Try.ty.if136 : isIface Try.prog 136 = some false := by kernel_rfl
@[go_sem] theorem Try.ty.fo0_136 : fieldOf Try.prog 136 0 = some (3, 0) := by kernel_rfl
@[go_sem] theorem Try.ty.fp0_136 : fieldPl Try.prog 136 0 = some (0, 1) := by kernel_rfl
@[go_sem] theorem Try.ty.fo1_136 : fieldOf Try.prog 136 1 = some (3, 1) := by kernel_rfl
@[go_sem] theorem Try.ty.fp1_136 : fieldPl Try.prog 136 1 = some (1, 1) := by kernel_rfl
@[go_sem] theorem Try.ty.fo2_136 : fieldOf Try.prog 136 2 = some (4, 2) := by kernel_rfl
@[go_sem] theorem Try.ty.fp2_136 : fieldPl Try.prog 136 2 = some (2, 1) := by kernel_rfl
@[go_sem] theorem Try.ty.bk136 : buildOk Try.prog 136 = true := by kernel_rfl
@[go_sem] theorem Try.ty.sz137 : szOf Try.prog 137 = some 1 := by kernel_rfl
@[go_sem] theorem Try.ty.by137 : bytesIn Try.prog 137 = some 8 := by kernel_rfl
@[go_sem] theorem Try.ty.ag137 : aggOf Try.prog 137 = some false := by kernel_rfl
@[go_sem] theorem Try.ty.zr137 : zeroOf Try.prog 137 = some [.val .nilFunc] := by kernel_rfl
@[go_sem] theorem Try.ty.el137 : elemOfSlice Try.prog 137 = none := by kernel_rfl
@[go_sem] theorem Try.ty.ar137 : arrayOf Try.prog 137 = none := by kernel_rfl
@[go_sem] theorem Try.ty.st137 : isStr Try.prog 137 = false := by kernel_rfl
@[go_sem] theorem Try.ty.bo137 : isBool Try.prog 137 = false := by kernel_rfl
@[go_sem] theorem Try.ty.ki137 : kindOf Try.prog 137 = none := by kernel_rfl
@[go_sem] theorem Try.ty.if137 : isIface Try.prog 137 = some false := by kernel_rfl
@[go_sem] theorem Try.ty.sz138 : szOf Try.prog 138 = some 1 := by kernel_rfl
@[go_sem] theorem Try.ty.by138 : bytesIn Try.prog 138 = some 8 := by kernel_rfl
@[go_sem] theorem Try.ty.ag138 : aggOf Try.prog 138 = some false := by kernel_rfl
@[go_sem] theorem Try.ty.zr138 : zeroOf Try.prog 138 = some [.val .nilFunc] := by kernel_rfl
@[go_sem] theorem Try.ty.el138 : elemOfSlice Try.prog 138 = none := by kernel_rfl
@[go_sem] theorem Try.ty.ar138 : arrayOf Try.prog 138 = none := by kernel_rfl
@[go_sem] theorem Try.ty.st138 : isStr Try.prog 138 = false := by kernel_rfl
@[go_sem] theorem Try.ty.bo138 : isBool Try.prog 138 = false := by kernel_rfl
@[go_sem] theorem Try.ty.ki138 : kindOf Try.prog 138 = none := by kernel_rfl
@[go_sem] theorem Try.ty.if138 : isIface Try.prog 138 = some false := by kernel_rfl
@[go_sem] theorem Try.ty.sz139 : szOf Try.prog 139 = some 1 := by kernel_rfl
@[go_sem] theorem Try.ty.by139 : bytesIn Try.prog 139 = some 8 := by kernel_rfl
@[go_sem] theorem Try.ty.ag139 : aggOf Try.prog 139 = some false := by kernel_rfl
@[go_sem] theorem Try.ty.zr139 : zeroOf Try.prog 139 = some [.val .nilFunc] := by kernel_rfl
@[go_sem] theorem Try.ty.el139 : elemOfSlice Try.prog 139 = none := by kernel_rfl
@[go_sem] theorem Try.ty.ar139 : arrayOf Try.prog 139 = none := by kernel_rfl
@[go_sem] theorem Try.ty.st139 : isStr Try.prog 139 = false := by kernel_rfl
@[go_sem] theorem Try.ty.bo139 : isBool Try.prog 139 = false := by kernel_rfl
@[go_sem] theorem Try.ty.ki139 : kindOf Try.prog 139 = none := by kernel_rfl
@[go_sem] theorem Try.ty.if139 : isIface Try.prog 139 = some false := by kernel_rfl
@[go_sem] theorem Try.ty.sz140 : szOf Try.prog 140 = some 1 := by kernel_rfl
@[go_sem] theorem Try.ty.by140 : bytesIn Try.prog 140 = some 8 := by kernel_rfl
@[go_sem] theorem Try.ty.ag140 : aggOf Try.prog 140 = some false := by kernel_rfl
@[go_sem] theorem Try.ty.zr140 : zeroOf Try.prog 140 = some [.val .nilFunc] := by kernel_rfl
@[go_sem] theorem Try.ty.el140 : elemOfSlice Try.prog 140 = none := by kernel_rfl
@[go_sem] theorem Try.ty.ar140 : arrayOf Try.prog 140 = none := by kernel_rfl
@[go_sem] theorem Try.ty.st140 : isStr Try.prog 140 = false := by kernel_rfl
@[go_sem] theorem Try.ty.bo140 : isBool Try.prog 140 = false := by kernel_rfl
@[go_sem] theorem Try.ty.ki140 : kindOf Try.prog 140 = none := by kernel_rfl
@[go_sem] theorem Try.ty.if140 : isIface Try.prog 140 = some false := by kernel_rfl
@[go_sem] theorem Try.ty.sz141 : szOf Try.prog 141 = some 1 := by kernel_rfl
@[go_sem] theorem Try.ty.by141 : bytesIn Try.prog 141 = some 8 := by kernel_rfl
@[go_sem] theorem Try.ty.ag141 : aggOf Try.prog 141 = some false := by kernel_rfl
@[go_sem] theorem Try.ty.zr141 : zeroOf Try.prog 141 = some [.val .nilFunc] := by kernel_rfl
@[go_sem] theorem Try.ty.el141 : elemOfSlice Try.prog 141 = none := by kernel_rfl
@[go_sem] theorem Try.ty.ar141 : arrayOf Try.prog 141 = none := by kernel_rfl
@[go_sem] theorem Try.ty.st141 : isStr Try.prog 141 = false := by kernel_rfl
@[go_sem] theorem Try.ty.bo141 : isBool Try.prog 141 = false := by kernel_rfl
@[go_sem] theorem Try.ty.ki141 : kindOf Try.prog 141 = none := by kernel_rfl
@[go_sem] theorem Try.ty.if141 : isIface Try.prog 141 = some false := by kernel_rfl
@[go_sem] theorem Try.ty.sz142 : szOf Try.prog 142 = some 1 := by kernel_rfl
@[go_sem] theorem Try.ty.by142 : bytesIn Try.prog 142 = some 8 := by kernel_rfl
@[go_sem] theorem Try.ty.ag142 : aggOf Try.prog 142 = some false := by kernel_rfl
@[go_sem] theorem Try.ty.zr142 : zeroOf Try.prog 142 = some [.val .nilFunc] := by kernel_rfl
@[go_sem] theorem Try.ty.el142 : elemOfSlice Try.prog 142 = none := by kernel_rfl
@[go_sem] theorem Try.ty.ar142 : arrayOf Try.prog 142 = none := by kernel_rfl
@[go_sem] theorem Try.ty.st142 : isStr Try.prog 142 = false := by kernel_rfl
@[go_sem] theorem Try.ty.bo142 : isBool Try.prog 142 = false := by kernel_rfl
@[go_sem] theorem Try.ty.ki142 : kindOf Try.prog 142 = none := by kernel_rfl
@[go_sem] theorem Try.ty.if142 : isIface Try.prog 142 = some false := by kernel_rfl
@[go_sem] theorem Try.ty.sz143 : szOf Try.prog 143 = some 1 := by kernel_rfl
@[go_sem] theorem Try.ty.by143 : bytesIn Try.prog 143 = some 8 := by kernel_rfl
@[go_sem] theorem Try.ty.ag143 : aggOf Try.prog 143 = some false := by kernel_rfl
@[go_sem] theorem Try.ty.zr143 : zeroOf Try.prog 143 = some [.val .nilFunc] := by kernel_rfl
@[go_sem] theorem Try.ty.el143 : elemOfSlice Try.prog 143 = none := by kernel_rfl
@[go_sem] theorem Try.ty.ar143 : arrayOf Try.prog 143 = none := by kernel_rfl
@[go_sem] theorem Try.ty.st143 : isStr Try.prog 143 = false := by kernel_rfl
@[go_sem] theorem Try.ty.bo143 : isBool Try.prog 143 = false := by kernel_rfl
@[go_sem] theorem Try.ty.ki143 : kindOf Try.prog 143 = none := by kernel_rfl
@[go_sem] theorem Try.ty.if143 : isIface Try.prog 143 = some false := by kernel_rfl
@[go_sem] theorem Try.ty.sz144 : szOf Try.prog 144 = some 1 := by kernel_rfl
@[go_sem] theorem Try.ty.by144 : bytesIn Try.prog 144 = some 8 := by kernel_rfl
@[go_sem] theorem Try.ty.ag144 : aggOf Try.prog 144 = some false := by kernel_rfl
@[go_sem] theorem Try.ty.zr144 : zeroOf Try.prog 144 = some [.val (.int .u64 0)] := by kernel_rfl
@[go_sem] theorem Try.ty.el144 : elemOfSlice Try.prog 144 = none := by kernel_rfl
@[go_sem] theorem Try.ty.ar144 : arrayOf Try.prog 144 = none := by kernel_rfl
@[go_sem] theorem Try.ty.st144 : isStr Try.prog 144 = false := by kernel_rfl
@[go_sem] theorem Try.ty.bo144 : isBool Try.prog 144 = false := by kernel_rfl
@[go_sem] theorem Try.ty.ki144 : kindOf Try.prog 144 = some .u64 := by kernel_rfl
@[go_sem] theorem Try.ty.if144 : isIface Try.prog 144 = some false := by kernel_rfl
@[go_sem] theorem Try.ty.un144 : Try.prog.underlying 144 = some (.int .u64) := by kernel_rfl
@[go_sem] theorem Try.ty.sz146 : szOf Try.prog 146 = some 1 := by kernel_rfl
@[go_sem] theorem Try.ty.by146 : bytesIn Try.prog 146 = some 8 := by kernel_rfl
@[go_sem] theorem Try.ty.ag146 : aggOf Try.prog 146 = some false := by kernel_rfl
@[go_sem] theorem Try.ty.zr146 : zeroOf Try.prog 146 = some [.val .nilFunc] := by kernel_rfl
@[go_sem] theorem Try.ty.el146 : elemOfSlice Try.prog 146 = none := by kernel_rfl
@[go_sem] theorem Try.ty.ar146 : arrayOf Try.prog 146 = none := by kernel_rfl
@[go_sem] theorem Try.ty.st146 : isStr Try.prog 146 = false := by kernel_rfl
@[go_sem] theorem Try.ty.bo146 : isBool Try.prog 146 = false := by kernel_rfl
@[go_sem] theorem Try.ty.ki146 : kindOf Try.prog 146 = none := by kernel_rfl
@[go_sem] theorem Try.ty.if146 : isIface Try.prog 146 = some false := by kernel_rfl
@[go_sem] theorem Try.ty.sz147 : szOf Try.prog 147 = some 1 := by kernel_rfl
@[go_sem] theorem Try.ty.by147 : bytesIn Try.prog 147 = some 8 := by kernel_rfl
@[go_sem] theorem Try.ty.ag147 : aggOf Try.prog 147 = some false := by kernel_rfl
@[go_sem] theorem Try.ty.zr147 : zeroOf Try.prog 147 = some [.val .nilFunc] := by kernel_rfl
@[go_sem] theorem Try.ty.el147 : elemOfSlice Try.prog 147 = none := by kernel_rfl
@[go_sem] theorem Try.ty.ar147 : arrayOf Try.prog 147 = none := by kernel_rfl
@[go_sem] theorem Try.ty.st147 : isStr Try.prog 147 = false := by kernel_rfl
@[go_sem] theorem Try.ty.bo147 : isBool Try.prog 147 = false := by kernel_rfl
@[go_sem] theorem Try.ty.ki147 : kindOf Try.prog 147 = none := by kernel_rfl
@[go_sem] theorem Try.ty.if147 : isIface Try.prog 147 = some false := by kernel_rfl
@[go_sem] theorem Try.ty.sz149 : szOf Try.prog 149 = some 1 := by kernel_rfl
@[go_sem] theorem Try.ty.by149 : bytesIn Try.prog 149 = some 8 := by kernel_rfl
@[go_sem] theorem Try.ty.ag149 : aggOf Try.prog 149 = some false := by kernel_rfl
@[go_sem] theorem Try.ty.zr149 : zeroOf Try.prog 149 = some [.val .nilFunc] := by kernel_rfl
@[go_sem] theorem Try.ty.el149 : elemOfSlice Try.prog 149 = none := by kernel_rfl
@[go_sem] theorem Try.ty.ar149 : arrayOf Try.prog 149 = none := by kernel_rfl
@[go_sem] theorem Try.ty.st149 : isStr Try.prog 149 = false := by kernel_rfl
@[go_sem] theorem Try.ty.bo149 : isBool Try.prog 149 = false := by kernel_rfl
@[go_sem] theorem Try.ty.ki149 : kindOf Try.prog 149 = none := by kernel_rfl
@[go_sem] theorem Try.ty.if149 : isIface Try.prog 149 = some false := by kernel_rfl
@[go_sem] theorem Try.ty.sz150 : szOf Try.prog 150 = some 1 := by kernel_rfl
@[go_sem] theorem Try.ty.by150 : bytesIn Try.prog 150 = some 8 := by kernel_rfl
@[go_sem] theorem Try.ty.ag150 : aggOf Try.prog 150 = some false := by kernel_rfl
@[go_sem] theorem Try.ty.zr150 : zeroOf Try.prog 150 = some [.val .nilFunc] := by kernel_rfl
@[go_sem] theorem Try.ty.el150 : elemOfSlice Try.prog 150 = none := by kernel_rfl
@[go_sem] theorem Try.ty.ar150 : arrayOf Try.prog 150 = none := by kernel_rfl
@[go_sem] theorem Try.ty.st150 : isStr Try.prog 150 = false := by kernel_rfl
@[go_sem] theorem Try.ty.bo150 : isBool Try.prog 150 = false := by kernel_rfl
@[go_sem] theorem Try.ty.ki150 : kindOf Try.prog 150 = none := by kernel_rfl
@[go_sem] theorem Try.ty.if150 : isIface Try.prog 150 = some false := by kernel_rfl
@[go_sem] theorem Try.ty.sz151 : szOf Try.prog 151 = some 1 := by kernel_rfl
@[go_sem] theorem Try.ty.by151 : bytesIn Try.prog 151 = some 8 := by kernel_rfl
@[go_sem] theorem Try.ty.ag151 : aggOf Try.prog 151 = some false := by kernel_rfl
@[go_sem] theorem Try.ty.zr151 : zeroOf Try.prog 151 = some [.val .nilFunc] := by kernel_rfl
@[go_sem] theorem Try.ty.el151 : elemOfSlice Try.prog 151 = none := by kernel_rfl
@[go_sem] theorem Try.ty.ar151 : arrayOf Try.prog 151 = none := by kernel_rfl
@[go_sem] theorem Try.ty.st151 : isStr Try.prog 151 = false := by kernel_rfl
@[go_sem] theorem Try.ty.bo151 : isBool Try.prog 151 = false := by kernel_rfl
@[go_sem] theorem Try.ty.ki151 : kindOf Try.prog 151 = none := by kernel_rfl
@[go_sem] theorem Try.ty.if151 : isIface Try.prog 151 = some false := by kernel_rfl
@[go_sem] theorem Try.ty.sz152 : szOf Try.prog 152 = some 1 := by kernel_rfl
@[go_sem] theorem Try.ty.by152 : bytesIn Try.prog 152 = some 8 := by kernel_rfl
@[go_sem] theorem Try.ty.ag152 : aggOf Try.prog 152 = some false := by kernel_rfl
@[go_sem] theorem Try.ty.zr152 : zeroOf Try.prog 152 = some [.val .nilFunc] := by kernel_rfl
@[go_sem] theorem Try.ty.el152 : elemOfSlice Try.prog 152 = none := by kernel_rfl
@[go_sem] theorem Try.ty.ar152 : arrayOf Try.prog 152 = none := by kernel_rfl
@[go_sem] theorem Try.ty.st152 : isStr Try.prog 152 = false := by kernel_rfl
@[go_sem] theorem Try.ty.bo152 : isBool Try.prog 152 = false := by kernel_rfl
@[go_sem] theorem Try.ty.ki152 : kindOf Try.prog 152 = none := by kernel_rfl
@[go_sem] theorem Try.ty.if152 : isIface Try.prog 152 = some false := by kernel_rfl
@[go_sem] theorem Try.ty.sz153 : szOf Try.prog 153 = some 1 := by kernel_rfl
@[go_sem] theorem Try.ty.by153 : bytesIn Try.prog 153 = some 8 := by kernel_rfl
@[go_sem] theorem Try.ty.ag153 : aggOf Try.prog 153 = some false := by kernel_rfl
@[go_sem] theorem Try.ty.zr153 : zeroOf Try.prog 153 = some [.val .nilFunc] := by kernel_rfl
@[go_sem] theorem Try.ty.el153 : elemOfSlice Try.prog 153 = none := by kernel_rfl
@[go_sem] theorem Try.ty.ar153 : arrayOf Try.prog 153 = none := by kernel_rfl
@[go_sem] theorem Try.ty.st153 : isStr Try.prog 153 = false := by kernel_rfl
@[go_sem] theorem Try.ty.bo153 : isBool Try.prog 153 = false := by kernel_rfl
@[go_sem] theorem Try.ty.ki153 : kindOf Try.prog 153 = none := by kernel_rfl
@[go_sem] theorem Try.ty.if153 : isIface Try.prog 153 = some false := by kernel_rfl
@[go_sem] theorem Try.ty.sz154 : szOf Try.prog 154 = some 1 := by kernel_rfl
@[go_sem] theorem Try.ty.by154 : bytesIn Try.prog 154 = some 8 := by kernel_rfl
@[go_sem] theorem Try.ty.ag154 : aggOf Try.prog 154 = some false := by kernel_rfl
@[go_sem] theorem Try.ty.zr154 : zeroOf Try.prog 154 = some [.val .nilFunc] := by kernel_rfl
@[go_sem] theorem Try.ty.el154 : elemOfSlice Try.prog 154 = none := by kernel_rfl
@[go_sem] theorem Try.ty.ar154 : arrayOf Try.prog 154 = none := by kernel_rfl
@[go_sem] theorem Try.ty.st154 : isStr Try.prog 154 = false := by kernel_rfl
@[go_sem] theorem Try.ty.bo154 : isBool Try.prog 154 = false := by kernel_rfl
@[go_sem] theorem Try.ty.ki154 : kindOf Try.prog 154 = none := by kernel_rfl
@[go_sem] theorem Try.ty.if154 : isIface Try.prog 154 = some false := by kernel_rfl
@[go_sem] theorem Try.ty.sz155 : szOf Try.prog 155 = some 1 := by kernel_rfl
@[go_sem] theorem Try.ty.by155 : bytesIn Try.prog 155 = some 8 := by kernel_rfl
@[go_sem] theorem Try.ty.ag155 : aggOf Try.prog 155 = some false := by kernel_rfl
@[go_sem] theorem Try.ty.zr155 : zeroOf Try.prog 155 = some [.val .nilFunc] := by kernel_rfl
@[go_sem] theorem Try.ty.el155 : elemOfSlice Try.prog 155 = none := by kernel_rfl
@[go_sem] theorem Try.ty.ar155 : arrayOf Try.prog 155 = none := by kernel_rfl
@[go_sem] theorem Try.ty.st155 : isStr Try.prog 155 = false := by kernel_rfl
@[go_sem] theorem Try.ty.bo155 : isBool Try.prog 155 = false := by kernel_rfl
@[go_sem] theorem Try.ty.ki155 : kindOf Try.prog 155 = none := by kernel_rfl
@[go_sem] theorem Try.ty.if155 : isIface Try.prog 155 = some false := by kernel_rfl
@[go_sem] theorem Try.ty.sz156 : szOf Try.prog 156 = some 1 := by kernel_rfl
@[go_sem] theorem Try.ty.by156 : bytesIn Try.prog 156 = some 8 := by kernel_rfl
@[go_sem] theorem Try.ty.ag156 : aggOf Try.prog 156 = some false := by kernel_rfl
@[go_sem] theorem Try.ty.zr156 : zeroOf Try.prog 156 = some [.val .nilFunc] := by kernel_rfl
@[go_sem] theorem Try.ty.el156 : elemOfSlice Try.prog 156 = none := by kernel_rfl
@[go_sem] theorem Try.ty.ar156 : arrayOf Try.prog 156 = none := by kernel_rfl
@[go_sem] theorem Try.ty.st156 : isStr Try.prog 156 = false := by kernel_rfl
@[go_sem] theorem Try.ty.bo156 : isBool Try.prog 156 = false := by kernel_rfl
@[go_sem] theorem Try.ty.ki156 : kindOf Try.prog 156 = none := by kernel_rfl
@[go_sem] theorem Try.ty.if156 : isIface Try.prog 156 = some false := by kernel_rfl
@[go_sem] theorem Try.ty.sz157 : szOf Try.prog 157 = some 1 := by kernel_rfl
@[go_sem] theorem Try.ty.by157 : bytesIn Try.prog 157 = some 8 := by kernel_rfl
@[go_sem] theorem Try.ty.ag157 : aggOf Try.prog 157 = some false := by kernel_rfl
@[go_sem] theorem Try.ty.zr157 : zeroOf Try.prog 157 = some [.val .nilFunc] := by kernel_rfl
@[go_sem] theorem Try.ty.el157 : elemOfSlice Try.prog 157 = none := by kernel_rfl
@[go_sem] theorem Try.ty.ar157 : arrayOf Try.prog 157 = none := by kernel_rfl
@[go_sem] theorem Try.ty.st157 : isStr Try.prog 157 = false := by kernel_rfl
@[go_sem] theorem Try.ty.bo157 : isBool Try.prog 157 = false := by kernel_rfl
@[go_sem] theorem Try.ty.ki157 : kindOf Try.prog 157 = none := by kernel_rfl
@[go_sem] theorem Try.ty.if157 : isIface Try.prog 157 = some false := by kernel_rfl
@[go_sem] theorem Try.ty.sz158 : szOf Try.prog 158 = some 1 := by kernel_rfl
@[go_sem] theorem Try.ty.by158 : bytesIn Try.prog 158 = some 8 := by kernel_rfl
@[go_sem] theorem Try.ty.ag158 : aggOf Try.prog 158 = some false := by kernel_rfl
@[go_sem] theorem Try.ty.zr158 : zeroOf Try.prog 158 = some [.val .nilFunc] := by kernel_rfl
@[go_sem] theorem Try.ty.el158 : elemOfSlice Try.prog 158 = none := by kernel_rfl
@[go_sem] theorem Try.ty.ar158 : arrayOf Try.prog 158 = none := by kernel_rfl
@[go_sem] theorem Try.ty.st158 : isStr Try.prog 158 = false := by kernel_rfl
@[go_sem] theorem Try.ty.bo158 : isBool Try.prog 158 = false := by kernel_rfl
@[go_sem] theorem Try.ty.ki158 : kindOf Try.prog 158 = none := by kernel_rfl
@[go_sem] theorem Try.ty.if158 : isIface Try.prog 158 = some false := by kernel_rfl
@[go_sem] theorem Try.ty.sz159 : szOf Try.prog 159 = some 1 := by kernel_rfl
@[go_sem] theorem Try.ty.by159 : bytesIn Try.prog 159 = some 8 := by kernel_rfl
@[go_sem] theorem Try.ty.ag159 : aggOf Try.prog 159 = some false := by kernel_rfl
@[go_sem] theorem Try.ty.zr159 : zeroOf Try.prog 159 = some [.val .nilFunc] := by kernel_rfl
@[go_sem] theorem Try.ty.el159 : elemOfSlice Try.prog 159 = none := by kernel_rfl
@[go_sem] theorem Try.ty.ar159 : arrayOf Try.prog 159 = none := by kernel_rfl
@[go_sem] theorem Try.ty.st159 : isStr Try.prog 159 = false := by kernel_rfl
@[go_sem] theorem Try.ty.bo159 : isBool Try.prog 159 = false := by kernel_rfl
@[go_sem] theorem Try.ty.ki159 : kindOf Try.prog 159 = none := by kernel_rfl
@[go_sem] theorem Try.ty.if159 : isIface Try.prog 159 = some false := by kernel_rfl
@[go_sem] theorem Try.ty.sz160 : szOf Try.prog 160 = some 1 := by kernel_rfl
@[go_sem] theorem Try.ty.by160 : bytesIn Try.prog 160 = some 8 := by kernel_rfl
@[go_sem] theorem Try.ty.ag160 : aggOf Try.prog 160 = some false := by kernel_rfl
@[go_sem] theorem Try.ty.zr160 : zeroOf Try.prog 160 = some [.val .nilFunc] := by kernel_rfl
@[go_sem] theorem Try.ty.el160 : elemOfSlice Try.prog 160 = none := by kernel_rfl
@[go_sem] theorem Try.ty.ar160 : arrayOf Try.prog 160 = none := by kernel_rfl
@[go_sem] theorem Try.ty.st160 : isStr Try.prog 160 = false := by kernel_rfl
@[go_sem] theorem Try.ty.bo160 : isBool Try.prog 160 = false := by kernel_rfl
@[go_sem] theorem Try.ty.ki160 : kindOf Try.prog 160 = none := by kernel_rfl
@[go_sem] theorem Try.ty.if160 : isIface Try.prog 160 = some false := by kernel_rfl
@[go_sem] theorem Try.ty.sz161 : szOf Try.prog 161 = some 1 := by kernel_rfl
@[go_sem] theorem Try.ty.by161 : bytesIn Try.prog 161 = some 8 := by kernel_rfl
@[go_sem] theorem Try.ty.ag161 : aggOf Try.prog 161 = some false := by kernel_rfl
@[go_sem] theorem Try.ty.zr161 : zeroOf Try.prog 161 = some [.val .nilFunc] := by kernel_rfl
@[go_sem] theorem Try.ty.el161 : elemOfSlice Try.prog 161 = none := by kernel_rfl
@[go_sem] theorem Try.ty.ar161 : arrayOf Try.prog 161 = none := by kernel_rfl
@[go_sem] theorem Try.ty.st161 : isStr Try.prog 161 = false := by kernel_rfl
@[go_sem] theorem Try.ty.bo161 : isBool Try.prog 161 = false := by kernel_rfl
@[go_sem] theorem Try.ty.ki161 : kindOf Try.prog 161 = none := by kernel_rfl
@[go_sem] theorem Try.ty.if161 : isIface Try.prog 161 = some false := by kernel_rfl
@[go_sem] theorem Try.ty.sz162 : szOf Try.prog 162 = some 1 := by kernel_rfl
@[go_sem] theorem Try.ty.by162 : bytesIn Try.prog 162 = some 4 := by kernel_rfl
@[go_sem] theorem Try.ty.ag162 : aggOf Try.prog 162 = some false := by kernel_rfl
@[go_sem] theorem Try.ty.zr162 : zeroOf Try.prog 162 = some [.val (.int .u32 0)] := by kernel_rfl
@[go_sem] theorem Try.ty.el162 : elemOfSlice Try.prog 162 = none := by kernel_rfl
@[go_sem] theorem Try.ty.ar162 : arrayOf Try.prog 162 = none := by kernel_rfl
@[go_sem] theorem Try.ty.st162 : isStr Try.prog 162 = false := by kernel_rfl
@[go_sem] theorem Try.ty.bo162 : isBool Try.prog 162 = false := by kernel_rfl
@[go_sem] theorem Try.ty.ki162 : kindOf Try.prog 162 = some .u32 := by kernel_rfl
@[go_sem] theorem Try.ty.if162 : isIface Try.prog 162 = some false := by kernel_rfl
@[go_sem] theorem Try.ty.un162 : Try.prog.underlying 162 = some (.int .u32) := by kernel_rfl
@[go_sem] theorem Try.ty.sz164 : szOf Try.prog 164 = some 1 := by kernel_rfl
@[go_sem] theorem Try.ty.by164 : bytesIn Try.prog 164 = some 8 := by kernel_rfl
@[go_sem] theorem Try.ty.ag164 : aggOf Try.prog 164 = some false := by kernel_rfl
@[go_sem] theorem Try.ty.zr164 : zeroOf Try.prog 164 = some [.val .nilFunc] := by kernel_rfl
@[go_sem] theorem Try.ty.el164 : elemOfSlice Try.prog 164 = none := by kernel_rfl
@[go_sem] theorem Try.ty.ar164 : arrayOf Try.prog 164 = none := by kernel_rfl
@[go_sem] theorem Try.ty.st164 : isStr Try.prog 164 = false := by kernel_rfl
@[go_sem] theorem Try.ty.bo164 : isBool Try.prog 164 = false := by kernel_rfl
@[go_sem] theorem Try.ty.ki164 : kindOf Try.prog 164 = none := by kernel_rfl
@[go_sem] theorem Try.ty.if164 : isIface Try.prog 164 = some false := by kernel_rfl
@[go_sem] theorem Try.ty.sz165 : szOf Try.prog 165 = some 1 := by kernel_rfl
@[go_sem] theorem Try.ty.by165 : bytesIn Try.prog 165 = some 8 := by kernel_rfl
@[go_sem] theorem Try.ty.ag165 : aggOf Try.prog 165 = some false := by kernel_rfl
@[go_sem] theorem Try.ty.zr165 : zeroOf Try.prog 165 = some [.val (.int .u64 0)] := by kernel_rfl
@[go_sem] theorem Try.ty.el165 : elemOfSlice Try.prog 165 = none := by kernel_rfl
@[go_sem] theorem Try.ty.ar165 : arrayOf Try.prog 165 = none := by kernel_rfl
@[go_sem] theorem Try.ty.st165 : isStr Try.prog 165 = false := by kernel_rfl
@[go_sem] theorem Try.ty.bo165 : isBool Try.prog 165 = false := by kernel_rfl
@[go_sem] theorem Try.ty.ki165 : kindOf Try.prog 165 = some .u64 := by kernel_rfl
@[go_sem] theorem Try.ty.if165 : isIface Try.prog 165 = some false := by kernel_rfl
@[go_sem] theorem Try.ty.un165 : Try.prog.underlying 165 = some (.int .u64) := by kernel_rfl
@[go_sem] theorem Try.ty.sz167 : szOf Try.prog 167 = some 1 := by kernel_rfl
@[go_sem] theorem Try.ty.by167 : bytesIn Try.prog 167 = some 8 := by kernel_rfl
@[go_sem] theorem Try.ty.ag167 : aggOf Try.prog 167 = some false := by kernel_rfl
@[go_sem] theorem Try.ty.zr167 : zeroOf Try.prog 167 = some [.val .nilFunc] := by kernel_rfl
@[go_sem] theorem Try.ty.el167 : elemOfSlice Try.prog 167 = none := by kernel_rfl
@[go_sem] theorem Try.ty.ar167 : arrayOf Try.prog 167 = none := by kernel_rfl
@[go_sem] theorem Try.ty.st167 : isStr Try.prog 167 = false := by kernel_rfl
@[go_sem] theorem Try.ty.bo167 : isBool Try.prog 167 = false := by kernel_rfl
@[go_sem] theorem Try.ty.ki167 : kindOf Try.prog 167 = none := by kernel_rfl
@[go_sem] theorem Try.ty.if167 : isIface Try.prog 167 = some false := by kernel_rfl
@[go_sem] theorem Try.ty.sz168 : szOf Try.prog 168 = some 1 := by kernel_rfl
@[go_sem] theorem Try.ty.by168 : bytesIn Try.prog 168 = some 8 := by kernel_rfl
@[go_sem] theorem Try.ty.ag168 : aggOf Try.prog 168 = some false := by kernel_rfl
@[go_sem] theorem Try.ty.zr168 : zeroOf Try.prog 168 = some [.val .nilFunc] := by kernel_rfl
@[go_sem] theorem Try.ty.el168 : elemOfSlice Try.prog 168 = none := by kernel_rfl
@[go_sem] theorem Try.ty.ar168 : arrayOf Try.prog 168 = none := by kernel_rfl
@[go_sem] theorem Try.ty.st168 : isStr Try.prog 168 = false := by kernel_rfl
@[go_sem] theorem Try.ty.bo168 : isBool Try.prog 168 = false := by kernel_rfl
@[go_sem] theorem Try.ty.ki168 : kindOf Try.prog 168 = none := by kernel_rfl
@[go_sem] theorem Try.ty.if168 : isIface Try.prog 168 = some false := by kernel_rfl
@[go_sem] theorem Try.ty.sz169 : szOf Try.prog 169 = some 1 := by kernel_rfl
@[go_sem] theorem Try.ty.by169 : bytesIn Try.prog 169 = some 8 := by kernel_rfl
@[go_sem] theorem Try.ty.ag169 : aggOf Try.prog 169 = some false := by kernel_rfl
@[go_sem] theorem Try.ty.zr169 : zeroOf Try.prog 169 = some [.val .nilFunc] := by kernel_rfl
@[go_sem] theorem Try.ty.el169 : elemOfSlice Try.prog 169 = none := by kernel_rfl
@[go_sem] theorem Try.ty.ar169 : arrayOf Try.prog 169 = none := by kernel_rfl
@[go_sem] theorem Try.ty.st169 : isStr Try.prog 169 = false := by kernel_rfl
@[go_sem] theorem Try.ty.bo169 : isBool Try.prog 169 = false := by kernel_rfl
@[go_sem] theorem Try.ty.ki169 : kindOf Try.prog 169 = none := by kernel_rfl
@[go_sem] theorem Try.ty.if169 : isIface Try.prog 169 = some false := by kernel_rfl
@[go_sem] theorem Try.ty.sz170 : szOf Try.prog 170 = some 1 := by kernel_rfl
@[go_sem] theorem Try.ty.by170 : bytesIn Try.prog 170 = some 8 := by kernel_rfl
@[go_sem] theorem Try.ty.ag170 : aggOf Try.prog 170 = some false := by kernel_rfl
@[go_sem] theorem Try.ty.zr170 : zeroOf Try.prog 170 = some [.val .nilFunc] := by kernel_rfl
@[go_sem] theorem Try.ty.el170 : elemOfSlice Try.prog 170 = none := by kernel_rfl
@[go_sem] theorem Try.ty.ar170 : arrayOf Try.prog 170 = none := by kernel_rfl
@[go_sem] theorem Try.ty.st170 : isStr Try.prog 170 = false := by kernel_rfl
@[go_sem] theorem Try.ty.bo170 : isBool Try.prog 170 = false := by kernel_rfl
@[go_sem] theorem Try.ty.ki170 : kindOf Try.prog 170 = none := by kernel_rfl
@[go_sem] theorem Try.ty.if170 : isIface Try.prog 170 = some false := by kernel_rfl
@[go_sem] theorem Try.ty.sz171 : szOf Try.prog 171 = some 1 := by kernel_rfl
@[go_sem] theorem Try.ty.by171 : bytesIn Try.prog 171 = some 8 := by kernel_rfl
@[go_sem] theorem Try.ty.ag171 : aggOf Try.prog 171 = some false := by kernel_rfl
@[go_sem] theorem Try.ty.zr171 : zeroOf Try.prog 171 = some [.val .nilFunc] := by kernel_rfl
@[go_sem] theorem Try.ty.el171 : elemOfSlice Try.prog 171 = none := by kernel_rfl
@[go_sem] theorem Try.ty.ar171 : arrayOf Try.prog 171 = none := by kernel_rfl
@[go_sem] theorem Try.ty.st171 : isStr Try.prog 171 = false := by kernel_rfl
@[go_sem] theorem Try.ty.bo171 : isBool Try.prog 171 = false := by kernel_rfl
@[go_sem] theorem Try.ty.ki171 : kindOf Try.prog 171 = none := by kernel_rfl
@[go_sem] theorem Try.ty.if171 : isIface Try.prog 171 = some false := by kernel_rfl
@[go_sem] theorem Try.ty.sz172 : szOf Try.prog 172 = some 1 := by kernel_rfl
@[go_sem] theorem Try.ty.by172 : bytesIn Try.prog 172 = some 8 := by kernel_rfl
@[go_sem] theorem Try.ty.ag172 : aggOf Try.prog 172 = some false := by kernel_rfl
@[go_sem] theorem Try.ty.zr172 : zeroOf Try.prog 172 = some [.val .nilFunc] := by kernel_rfl
@[go_sem] theorem Try.ty.el172 : elemOfSlice Try.prog 172 = none := by kernel_rfl
@[go_sem] theorem Try.ty.ar172 : arrayOf Try.prog 172 = none := by kernel_rfl
@[go_sem] theorem Try.ty.st172 : isStr Try.prog 172 = false := by kernel_rfl
@[go_sem] theorem Try.ty.bo172 : isBool Try.prog 172 = false := by kernel_rfl
@[go_sem] theorem Try.ty.ki172 : kindOf Try.prog 172 = none := by kernel_rfl
@[go_sem] theorem Try.ty.if172 : isIface Try.prog 172 = some false := by kernel_rfl
@[go_sem] theorem Try.ty.sz173 : szOf Try.prog 173 = some 1 := by kernel_rfl
@[go_sem] theorem Try.ty.by173 : bytesIn Try.prog 173 = some 8 := by kernel_rfl
@[go_sem] theorem Try.ty.ag173 : aggOf Try.prog 173 = some false := by kernel_rfl
@[go_sem] theorem Try.ty.zr173 : zeroOf Try.prog 173 = some [.val .nilFunc] := by kernel_rfl
@[go_sem] theorem Try.ty.el173 : elemOfSlice Try.prog 173 = none := by kernel_rfl
@[go_sem] theorem Try.ty.ar173 : arrayOf Try.prog 173 = none := by kernel_rfl
@[go_sem] theorem Try.ty.st173 : isStr Try.prog 173 = false := by kernel_rfl
@[go_sem] theorem Try.ty.bo173 : isBool Try.prog 173 = false := by kernel_rfl
@[go_sem] theorem Try.ty.ki173 : kindOf Try.prog 173 = none := by kernel_rfl
@[go_sem] theorem Try.ty.if173 : isIface Try.prog 173 = some false := by kernel_rfl
@[go_sem] theorem Try.ty.sz174 : szOf Try.prog 174 = some 1 := by kernel_rfl
@[go_sem] theorem Try.ty.by174 : bytesIn Try.prog 174 = some 8 := by kernel_rfl
@[go_sem] theorem Try.ty.ag174 : aggOf Try.prog 174 = some false := by kernel_rfl
@[go_sem] theorem Try.ty.zr174 : zeroOf Try.prog 174 = some [.val .nilFunc] := by kernel_rfl
@[go_sem] theorem Try.ty.el174 : elemOfSlice Try.prog 174 = none := by kernel_rfl
@[go_sem] theorem Try.ty.ar174 : arrayOf Try.prog 174 = none := by kernel_rfl
@[go_sem] theorem Try.ty.st174 : isStr Try.prog 174 = false := by kernel_rfl
@[go_sem] theorem Try.ty.bo174 : isBool Try.prog 174 = false := by kernel_rfl
@[go_sem] theorem Try.ty.ki174 : kindOf Try.prog 174 = none := by kernel_rfl
@[go_sem] theorem Try.ty.if174 : isIface Try.prog 174 = some false := by kernel_rfl
@[go_sem] theorem Try.ty.sz175 : szOf Try.prog 175 = some 3 := by kernel_rfl
@[go_sem] theorem Try.ty.by175 : bytesIn Try.prog 175 = some 24 := by kernel_rfl
@[go_sem] theorem Try.ty.ag175 : aggOf Try.prog 175 = some true := by kernel_rfl
@[go_sem] theorem Try.ty.zr175 : zeroOf Try.prog 175 = some [.val (.int .i64 0), .val (.int .i64 0), .val (.bool false)] := by kernel_rfl
@[go_sem] theorem Try.ty.el175 : elemOfSlice Try.prog 175 = none := by kernel_rfl
@[go_sem] theorem Try.ty.ar175 : arrayOf Try.prog 175 = none := by kernel_rfl
@[go_sem] theorem Try.ty.st175 : isStr Try.prog 175 = false := by kernel_rfl
@[go_sem] theorem Try.ty.bo175 : isBool Try.prog 175 = false := by kernel_rfl
@[go_sem] theorem Try.ty.ki175 : kindOf Try.prog 175 = none := by kernel_rfl
@[go_sem] theorem Try.ty.if175 : isIface Try.prog 175 = some false := by kernel_rfl
@[go_sem] theorem Try.ty.fo0_175 : fieldOf Try.prog 175 0 = some (3, 0) := by kernel_rfl
@[go_sem] theorem Try.ty.fp0_175 : fieldPl Try.prog 175 0 = some (0, 1) := by kernel_rfl
@[go_sem] theorem Try.ty.fo1_175 : fieldOf Try.prog 175 1 = some (3, 1) := by kernel_rfl
@[go_sem] theorem Try.ty.fp1_175 : fieldPl Try.prog 175 1 = some (1, 1) := by kernel_rfl
@[go_sem] theorem Try.ty.fo2_175 : fieldOf Try.prog 175 2 = some (4, 2) := by kernel_rfl
@[go_sem] theorem Try.ty.fp2_175 : fieldPl Try.prog 175 2 = some (2, 1) := by kernel_rfl
@[go_sem] theorem Try.ty.bk175 : buildOk Try.prog 175 = true := by kernel_rfl
@[go_sem] theorem Try.ty.sz176 : szOf Try.prog 176 = some 1 := by kernel_rfl
@[go_sem] theorem Try.ty.by176 : bytesIn Try.prog 176 = some 8 := by kernel_rfl
@[go_sem] theorem Try.ty.ag176 : aggOf Try.prog 176 = some false := by kernel_rfl
@[go_sem] theorem Try.ty.zr176 : zeroOf Try.prog 176 = some [.val .nilFunc] := by kernel_rfl
@[go_sem] theorem Try.ty.el176 : elemOfSlice Try.prog 176 = none := by kernel_rfl
@[go_sem] theorem Try.ty.ar176 : arrayOf Try.prog 176 = none := by kernel_rfl
@[go_sem] theorem Try.ty.st176 : isStr Try.prog 176 = false := by kernel_rfl
@[go_sem] theorem Try.ty.bo176 : isBool Try.prog 176 = false := by kernel_rfl
@[go_sem] theorem Try.ty.ki176 : kindOf Try.prog 176 = none := by kernel_rfl
@[go_sem] theorem Try.ty.if176 : isIface Try.prog 176 = some false := by kernel_rfl
@[go_sem] theorem Try.ty.sz177 : szOf Try.prog 177 = some 1 := by kernel_rfl
@[go_sem] theorem Try.ty.by177 : bytesIn Try.prog 177 = some 8 := by kernel_rfl
@[go_sem] theorem Try.ty.ag177 : aggOf Try.prog 177 = some false := by kernel_rfl
@[go_sem] theorem Try.ty.zr177 : zeroOf Try.prog 177 = some [.val .nilFunc] := by kernel_rfl
@[go_sem] theorem Try.ty.el177 : elemOfSlice Try.prog 177 = none := by kernel_rfl
@[go_sem] theorem Try.ty.ar177 : arrayOf Try.prog 177 = none := by kernel_rfl
@[go_sem] theorem Try.ty.st177 : isStr Try.prog 177 = false := by kernel_rfl
@[go_sem] theorem Try.ty.bo177 : isBool Try.prog 177 = false := by kernel_rfl
@[go_sem] theorem Try.ty.ki177 : kindOf Try.prog 177 = none := by kernel_rfl
@[go_sem] theorem Try.ty.if177 : isIface Try.prog 177 = some false := by kernel_rfl
@[go_sem] theorem Try.ty.sz178 : szOf Try.prog 178 = some 1 := by kernel_rfl
@[go_sem] theorem Try.ty.by178 : bytesIn Try.prog 178 = some 8 := by kernel_rfl
@[go_sem] theorem Try.ty.ag178 : aggOf Try.prog 178 = some false := by kernel_rfl
@[go_sem] theorem Try.ty.zr178 : zeroOf Try.prog 178 = some [.val .nilFunc] := by kernel_rfl
@[go_sem] theorem Try.ty.el178 : elemOfSlice Try.prog 178 = none := by kernel_rfl
@[go_sem] theorem Try.ty.ar178 : arrayOf Try.prog 178 = none := by kernel_rfl
@[go_sem] theorem Try.ty.st178 : isStr Try.prog 178 = false := by kernel_rfl
@[go_sem] theorem Try.ty.bo178 : isBool Try.prog 178 = false := by kernel_rfl
@[go_sem] theorem Try.ty.ki178 : kindOf Try.prog 178 = none := by kernel_rfl
@[go_sem] theorem Try.ty.if178 : isIface Try.prog 178 = some false := by kernel_rfl
@[go_sem] theorem Try.ty.sz179 : szOf Try.prog 179 = some 1 := by kernel_rfl
@[go_sem] theorem Try.ty.by179 : bytesIn Try.prog 179 = some 8 := by kernel_rfl
@[go_sem] theorem Try.ty.ag179 : aggOf Try.prog 179 = some false := by kernel_rfl
@[go_sem] theorem Try.ty.zr179 : zeroOf Try.prog 179 = some [.val .nilFunc] := by kernel_rfl
@[go_sem] theorem Try.ty.el179 : elemOfSlice Try.prog 179 = none := by kernel_rfl
@[go_sem] theorem Try.ty.ar179 : arrayOf Try.prog 179 = none := by kernel_rfl
@[go_sem] theorem Try.ty.st179 : isStr Try.prog 179 = false := by kernel_rfl
@[go_sem] theorem Try.ty.bo179 : isBool Try.prog 179 = false := by kernel_rfl
@[go_sem] theorem Try.ty.ki179 : kindOf Try.prog 179 = none := by kernel_rfl
@[go_sem] theorem Try.ty.if179 : isIface Try.prog 179 = some false := by kernel_rfl
@[go_sem] theorem Try.ty.sz180 : szOf Try.prog 180 = some 1 := by kernel_rfl
@[go_sem] theorem Try.ty.by180 : bytesIn Try.prog 180 = some 8 := by kernel_rfl
@[go_sem] theorem Try.ty.ag180 : aggOf Try.prog 180 = some false := by kernel_rfl
@[go_sem] theorem Try.ty.zr180 : zeroOf Try.prog 180 = some [.val .nilFunc] := by kernel_rfl
@[go_sem] theorem Try.ty.el180 : elemOfSlice Try.prog 180 = none := by kernel_rfl
@[go_sem] theorem Try.ty.ar180 : arrayOf Try.prog 180 = none := by kernel_rfl
@[go_sem] theorem Try.ty.st180 : isStr Try.prog 180 = false := by kernel_rfl
@[go_sem] theorem Try.ty.bo180 : isBool Try.prog 180 = false := by kernel_rfl
@[go_sem] theorem Try.ty.ki180 : kindOf Try.prog 180 = none := by kernel_rfl
@[go_sem] theorem Try.ty.if180 : isIface Try.prog 180 = some false := by kernel_rfl
@[go_sem] theorem Try.ty.sz181 : szOf Try.prog 181 = some 1 := by kernel_rfl
@[go_sem] theorem Try.ty.by181 : bytesIn Try.prog 181 = some 24 := by kernel_rfl
@[go_sem] theorem Try.ty.ag181 : aggOf Try.prog 181 = some false := by kernel_rfl
@[go_sem] theorem Try.ty.zr181 : zeroOf Try.prog 181 = some [.val (.slice none 0 0)] := by kernel_rfl
@[go_sem] theorem Try.ty.el181 : elemOfSlice Try.prog 181 = some 183 := by kernel_rfl
@[go_sem] theorem Try.ty.ar181 : arrayOf Try.prog 181 = none := by kernel_rfl
@[go_sem] theorem Try.ty.st181 : isStr Try.prog 181 = false := by kernel_rfl
@[go_sem] theorem Try.ty.bo181 : isBool Try.prog 181 = false := by kernel_rfl
@[go_sem] theorem Try.ty.ki181 : kindOf Try.prog 181 = none := by kernel_rfl
@[go_sem] theorem Try.ty.if181 : isIface Try.prog 181 = some false := by kernel_rfl
@[go_sem] theorem Try.ty.un181 : Try.prog.underlying 181 = some (.slice 183) := by kernel_rfl
@[go_sem] theorem Try.ty.sz182 : szOf Try.prog 182 = some 1 := by kernel_rfl
@[go_sem] theorem Try.ty.by182 : bytesIn Try.prog 182 = some 8 := by kernel_rfl
@[go_sem] theorem Try.ty.ag182 : aggOf Try.prog 182 = some false := by kernel_rfl
@[go_sem] theorem Try.ty.zr182 : zeroOf Try.prog 182 = some [.val .nilFunc] := by kernel_rfl
@[go_sem] theorem Try.ty.el182 : elemOfSlice Try.prog 182 = none := by kernel_rfl
@[go_sem] theorem Try.ty.ar182 : arrayOf Try.prog 182 = none := by kernel_rfl
@[go_sem] theorem Try.ty.st182 : isStr Try.prog 182 = false := by kernel_rfl
@[go_sem] theorem Try.ty.bo182 : isBool Try.prog 182 = false := by kernel_rfl
@[go_sem] theorem Try.ty.ki182 : kindOf Try.prog 182 = none := by kernel_rfl
@[go_sem] theorem Try.ty.if182 : isIface Try.prog 182 = some false := by kernel_rfl
@[go_sem] theorem Try.ty.sz183 : szOf Try.prog 183 = some 1 := by kernel_rfl
@[go_sem] theorem Try.ty.by183 : bytesIn Try.prog 183 = some 24 := by kernel_rfl
@[go_sem] theorem Try.ty.ag183 : aggOf Try.prog 183 = some false := by kernel_rfl
@[go_sem] theorem Try.ty.zr183 : zeroOf Try.prog 183 = some [.val (.slice none 0 0)] := by kernel_rfl
@[go_sem] theorem Try.ty.el183 : elemOfSlice Try.prog 183 = some 4 := by kernel_rfl
@[go_sem] theorem Try.ty.ar183 : arrayOf Try.prog 183 = none := by kernel_rfl
@[go_sem] theorem Try.ty.st183 : isStr Try.prog 183 = false := by kernel_rfl
@[go_sem] theorem Try.ty.bo183 : isBool Try.prog 183 = false := by kernel_rfl
@[go_sem] theorem Try.ty.ki183 : kindOf Try.prog 183 = none := by kernel_rfl
@[go_sem] theorem Try.ty.if183 : isIface Try.prog 183 = some false := by kernel_rfl
@[go_sem] theorem Try.ty.un183 : Try.prog.underlying 183 = some (.slice 4) := by kernel_rfl
@[go_sem] theorem Try.ty.sz184 : szOf Try.prog 184 = some 1 := by kernel_rfl
@[go_sem] theorem Try.ty.by184 : bytesIn Try.prog 184 = some 8 := by kernel_rfl
@[go_sem] theorem Try.ty.ag184 : aggOf Try.prog 184 = some false := by kernel_rfl
@[go_sem] theorem Try.ty.zr184 : zeroOf Try.prog 184 = some [.val .nilFunc] := by kernel_rfl
@[go_sem] theorem Try.ty.el184 : elemOfSlice Try.prog 184 = none := by kernel_rfl
@[go_sem] theorem Try.ty.ar184 : arrayOf Try.prog 184 = none := by kernel_rfl
@[go_sem] theorem Try.ty.st184 : isStr Try.prog 184 = false := by kernel_rfl
@[go_sem] theorem Try.ty.bo184 : isBool Try.prog 184 = false := by kernel_rfl
@[go_sem] theorem Try.ty.ki184 : kindOf Try.prog 184 = none := by kernel_rfl
@[go_sem] theorem Try.ty.if184 : isIface Try.prog 184 = some false := by kernel_rfl
@[go_sem] theorem Try.ty.sz185 : szOf Try.prog 185 = some 1 := by kernel_rfl
@[go_sem] theorem Try.ty.by185 : bytesIn Try.prog 185 = some 8 := by kernel_rfl
@[go_sem] theorem Try.ty.ag185 : aggOf Try.prog 185 = some false := by kernel_rfl
@[go_sem] theorem Try.ty.zr185 : zeroOf Try.prog 185 = some [.val .nilFunc] := by kernel_rfl
@[go_sem] theorem Try.ty.el185 : elemOfSlice Try.prog 185 = none := by kernel_rfl
@[go_sem] theorem Try.ty.ar185 : arrayOf Try.prog 185 = none := by kernel_rfl
@[go_sem] theorem Try.ty.st185 : isStr Try.prog 185 = false := by kernel_rfl
@[go_sem] theorem Try.ty.bo185 : isBool Try.prog 185 = false := by kernel_rfl
@[go_sem] theorem Try.ty.ki185 : kindOf Try.prog 185 = none := by kernel_rfl
@[go_sem] theorem Try.ty.if185 : isIface Try.prog 185 = some false := by kernel_rfl
@[go_sem] theorem Try.ty.sz186 : szOf Try.prog 186 = some 1 := by kernel_rfl
@[go_sem] theorem Try.ty.by186 : bytesIn Try.prog 186 = some 8 := by kernel_rfl
@[go_sem] theorem Try.ty.ag186 : aggOf Try.prog 186 = some false := by kernel_rfl
@[go_sem] theorem Try.ty.zr186 : zeroOf Try.prog 186 = some [.val .nilFunc] := by kernel_rfl
@[go_sem] theorem Try.ty.el186 : elemOfSlice Try.prog 186 = none := by kernel_rfl
@[go_sem] theorem Try.ty.ar186 : arrayOf Try.prog 186 = none := by kernel_rfl
@[go_sem] theorem Try.ty.st186 : isStr Try.prog 186 = false := by kernel_rfl
@[go_sem] theorem Try.ty.bo186 : isBool Try.prog 186 = false := by kernel_rfl
@[go_sem] theorem Try.ty.ki186 : kindOf Try.prog 186 = none := by kernel_rfl
@[go_sem] theorem Try.ty.if186 : isIface Try.prog 186 = some false := by kernel_rfl
@[go_sem] theorem Try.ty.sz187 : szOf Try.prog 187 = some 1 := by kernel_rfl
@[go_sem] theorem Try.ty.by187 : bytesIn Try.prog 187 = some 8 := by kernel_rfl
@[go_sem] theorem Try.ty.ag187 : aggOf Try.prog 187 = some false := by kernel_rfl
@[go_sem] theorem Try.ty.zr187 : zeroOf Try.prog 187 = some [.val .nilFunc] := by kernel_rfl
@[go_sem] theorem Try.ty.el187 : elemOfSlice Try.prog 187 = none := by kernel_rfl
@[go_sem] theorem Try.ty.ar187 : arrayOf Try.prog 187 = none := by kernel_rfl
@[go_sem] theorem Try.ty.st187 : isStr Try.prog 187 = false := by kernel_rfl
@[go_sem] theorem Try.ty.bo187 : isBool Try.prog 187 = false := by kernel_rfl
@[go_sem] theorem Try.ty.ki187 : kindOf Try.prog 187 = none := by kernel_rfl
@[go_sem] theorem Try.ty.if187 : isIface Try.prog 187 = some false := by kernel_rfl
@[go_sem] theorem Try.ty.sz188 : szOf Try.prog 188 = some 1 := by kernel_rfl
@[go_sem] theorem Try.ty.by188 : bytesIn Try.prog 188 = some 8 := by kernel_rfl
@[go_sem] theorem Try.ty.ag188 : aggOf Try.prog 188 = some false := by kernel_rfl
@[go_sem] theorem Try.ty.zr188 : zeroOf Try.prog 188 = some [.val .nilFunc] := by kernel_rfl
@[go_sem] theorem Try.ty.el188 : elemOfSlice Try.prog 188 = none := by kernel_rfl
@[go_sem] theorem Try.ty.ar188 : arrayOf Try.prog 188 = none := by kernel_rfl
@[go_sem] theorem Try.ty.st188 : isStr Try.prog 188 = false := by kernel_rfl
@[go_sem] theorem Try.ty.bo188 : isBool Try.prog 188 = false := by kernel_rfl
@[go_sem] theorem Try.ty.ki188 : kindOf Try.prog 188 = none := by kernel_rfl
@[go_sem] theorem Try.ty.if188 : isIface Try.prog 188 = some false := by kernel_rfl
@[go_sem] theorem Try.ty.sz189 : szOf Try.prog 189 = some 4 := by kernel_rfl
@[go_sem] theorem Try.ty.by189 : bytesIn Try.prog 189 = some 40 := by kernel_rfl
@[go_sem] theorem Try.ty.ag189 : aggOf Try.prog 189 = some true := by kernel_rfl
@[go_sem] theorem Try.ty.zr189 : zeroOf Try.prog 189 = some [.val (.pointer none), .val (.pointer none), .val (.pointer none), .val (.string ByteArray.empty)] := by kernel_rfl
@[go_sem] theorem Try.ty.el189 : elemOfSlice Try.prog 189 = none := by kernel_rfl
@[go_sem] theorem Try.ty.ar189 : arrayOf Try.prog 189 = none := by kernel_rfl
@[go_sem] theorem Try.ty.st189 : isStr Try.prog 189 = false := by kernel_rfl
@[go_sem] theorem Try.ty.bo189 : isBool Try.prog 189 = false := by kernel_rfl
@[go_sem] theorem Try.ty.ki189 : kindOf Try.prog 189 = none := by kernel_rfl
@[go_sem] theorem Try.ty.if189 : isIface Try.prog 189 = some false := by kernel_rfl
@[go_sem] theorem Try.ty.fo0_189 : fieldOf Try.prog 189 0 = some (17, 0) := by kernel_rfl
@[go_sem] theorem Try.ty.fp0_189 : fieldPl Try.prog 189 0 = some (0, 1) := by kernel_rfl
@[go_sem] theorem Try.ty.fo1_189 : fieldOf Try.prog 189 1 = some (17, 1) := by kernel_rfl
@[go_sem] theorem Try.ty.fp1_189 : fieldPl Try.prog 189 1 = some (1, 1) := by kernel_rfl
@[go_sem] theorem Try.ty.fo2_189 : fieldOf Try.prog 189 2 = some (17, 2) := by kernel_rfl
@[go_sem] theorem Try.ty.fp2_189 : fieldPl Try.prog 189 2 = some (2, 1) := by kernel_rfl
@[go_sem] theorem Try.ty.fo3_189 : fieldOf Try.prog 189 3 = some (9, 3) := by kernel_rfl
@[go_sem] theorem Try.ty.fp3_189 : fieldPl Try.prog 189 3 = some (3, 1) := by kernel_rfl
@[go_sem] theorem Try.ty.bk189 : buildOk Try.prog 189 = true := by kernel_rfl
@[go_sem] theorem Try.ty.sz191 : szOf Try.prog 191 = some 0 := by kernel_rfl
@[go_sem] theorem Try.ty.by191 : bytesIn Try.prog 191 = some 0 := by kernel_rfl
@[go_sem] theorem Try.ty.ag191 : aggOf Try.prog 191 = some true := by kernel_rfl
@[go_sem] theorem Try.ty.zr191 : zeroOf Try.prog 191 = some [] := by kernel_rfl
@[go_sem] theorem Try.ty.el191 : elemOfSlice Try.prog 191 = none := by kernel_rfl
@[go_sem] theorem Try.ty.ar191 : arrayOf Try.prog 191 = some (0, 16) := by kernel_rfl
@[go_sem] theorem Try.ty.st191 : isStr Try.prog 191 = false := by kernel_rfl
@[go_sem] theorem Try.ty.bo191 : isBool Try.prog 191 = false := by kernel_rfl
@[go_sem] theorem Try.ty.ki191 : kindOf Try.prog 191 = none := by kernel_rfl
@[go_sem] theorem Try.ty.if191 : isIface Try.prog 191 = some false := by kernel_rfl
@[go_sem] theorem Try.ty.bk191 : buildOk Try.prog 191 = true := by kernel_rfl
@[go_sem] theorem Try.ty.un191 : Try.prog.underlying 191 = some (.array 0 16) := by kernel_rfl
@[go_sem] theorem Try.ty.sz192 : szOf Try.prog 192 = some 0 := by kernel_rfl
@[go_sem] theorem Try.ty.by192 : bytesIn Try.prog 192 = some 0 := by kernel_rfl
@[go_sem] theorem Try.ty.ag192 : aggOf Try.prog 192 = some true := by kernel_rfl
@[go_sem] theorem Try.ty.zr192 : zeroOf Try.prog 192 = some [] := by kernel_rfl
@[go_sem] theorem Try.ty.el192 : elemOfSlice Try.prog 192 = none := by kernel_rfl
@[go_sem] theorem Try.ty.ar192 : arrayOf Try.prog 192 = none := by kernel_rfl
@[go_sem] theorem Try.ty.st192 : isStr Try.prog 192 = false := by kernel_rfl
@[go_sem] theorem Try.ty.bo192 : isBool Try.prog 192 = false := by kernel_rfl
@[go_sem] theorem Try.ty.ki192 : kindOf Try.prog 192 = none := by kernel_rfl
@[go_sem] theorem Try.ty.if192 : isIface Try.prog 192 = some false := by kernel_rfl
@[go_sem] theorem Try.ty.fo0_192 : fieldOf Try.prog 192 0 = some (191, 0) := by kernel_rfl
@[go_sem] theorem Try.ty.fp0_192 : fieldPl Try.prog 192 0 = some (0, 0) := by kernel_rfl
@[go_sem] theorem Try.ty.bk192 : buildOk Try.prog 192 = true := by kernel_rfl
@[go_sem] theorem Try.ty.sz194 : szOf Try.prog 194 = some 1 := by kernel_rfl
@[go_sem] theorem Try.ty.by194 : bytesIn Try.prog 194 = some 8 := by kernel_rfl
@[go_sem] theorem Try.ty.ag194 : aggOf Try.prog 194 = some false := by kernel_rfl
@[go_sem] theorem Try.ty.zr194 : zeroOf Try.prog 194 = some [.val .nilFunc] := by kernel_rfl
@[go_sem] theorem Try.ty.el194 : elemOfSlice Try.prog 194 = none := by kernel_rfl
@[go_sem] theorem Try.ty.ar194 : arrayOf Try.prog 194 = none := by kernel_rfl
@[go_sem] theorem Try.ty.st194 : isStr Try.prog 194 = false := by kernel_rfl
@[go_sem] theorem Try.ty.bo194 : isBool Try.prog 194 = false := by kernel_rfl
@[go_sem] theorem Try.ty.ki194 : kindOf Try.prog 194 = none := by kernel_rfl
@[go_sem] theorem Try.ty.if194 : isIface Try.prog 194 = some false := by kernel_rfl
@[go_sem] theorem Try.ty.sz197 : szOf Try.prog 197 = some 1 := by kernel_rfl
@[go_sem] theorem Try.ty.by197 : bytesIn Try.prog 197 = some 8 := by kernel_rfl
@[go_sem] theorem Try.ty.ag197 : aggOf Try.prog 197 = some false := by kernel_rfl
@[go_sem] theorem Try.ty.zr197 : zeroOf Try.prog 197 = some [.val .nilFunc] := by kernel_rfl
@[go_sem] theorem Try.ty.el197 : elemOfSlice Try.prog 197 = none := by kernel_rfl
@[go_sem] theorem Try.ty.ar197 : arrayOf Try.prog 197 = none := by kernel_rfl
@[go_sem] theorem Try.ty.st197 : isStr Try.prog 197 = false := by kernel_rfl
@[go_sem] theorem Try.ty.bo197 : isBool Try.prog 197 = false := by kernel_rfl
@[go_sem] theorem Try.ty.ki197 : kindOf Try.prog 197 = none := by kernel_rfl
@[go_sem] theorem Try.ty.if197 : isIface Try.prog 197 = some false := by kernel_rfl
@[go_sem] theorem Try.ty.sz198 : szOf Try.prog 198 = some 1 := by kernel_rfl
@[go_sem] theorem Try.ty.by198 : bytesIn Try.prog 198 = some 8 := by kernel_rfl
@[go_sem] theorem Try.ty.ag198 : aggOf Try.prog 198 = some false := by kernel_rfl
@[go_sem] theorem Try.ty.zr198 : zeroOf Try.prog 198 = some [.val (.pointer none)] := by kernel_rfl
@[go_sem] theorem Try.ty.el198 : elemOfSlice Try.prog 198 = none := by kernel_rfl
@[go_sem] theorem Try.ty.ar198 : arrayOf Try.prog 198 = none := by kernel_rfl
@[go_sem] theorem Try.ty.st198 : isStr Try.prog 198 = false := by kernel_rfl
@[go_sem] theorem Try.ty.bo198 : isBool Try.prog 198 = false := by kernel_rfl
@[go_sem] theorem Try.ty.ki198 : kindOf Try.prog 198 = none := by kernel_rfl
@[go_sem] theorem Try.ty.if198 : isIface Try.prog 198 = some false := by kernel_rfl
@[go_sem] theorem Try.ty.un198 : Try.prog.underlying 198 = some (.pointer 5) := by kernel_rfl
end Go.Sh

/-
  Contracts: lists of numbers copied and compared; ranges; partitions.
-/
namespace Go.Sh
set_option linter.unusedSimpArgs false
set_option linter.unusedVariables false
open Go Go.Proofs

def inR (x a b : Int) : Bool := decide (a ≤ x) && decide (x ≤ b)

theorem inR_tt {x a b : Int} (h1 : a ≤ x) (h2 : x ≤ b) : inR x a b = true := by simp [inR, h1, h2]
theorem inR_f1 {x a b : Int} (h1 : ¬ a ≤ x) : inR x a b = false := by simp [inR, h1]
theorem inR_f2 {x a b : Int} (h1 : ¬ x ≤ b) : inR x a b = false := by simp [inR, h1]

theorem Try.l1In_ok (x a b : Int) : PCall Try.prog 71 [.val (.int .i64 x), .val (.int .i64 a), .val (.int .i64 b)] (.val (.bool (inR x a b))) := by
  refine FCall.pcall (R := fun r _ => r = .val (.bool (inR x a b))) ?_ 0 (by rintro r H rfl; simp [view, viewV])
  refine FCall.of_body Try.func71 rfl (by kernel_rfl) (by simp [Try.ntmps71]) ?_
  refine SW_of_vc Try.mixed _ _ _ (by kernel_rfl) ?_
  by_cases h1 : a ≤ x
  · by_cases h2 : x ≤ b
    · simp (disch := omega) only [Try.ntmps71, Try.results71, go_sem]
      exact Fin.val (by rw [inR_tt h1 h2])
    · simp (disch := omega) only [Try.ntmps71, Try.results71, go_sem]
      exact Fin.val (by rw [inR_f2 h2])
  · simp (disch := omega) only [Try.ntmps71, Try.results71, go_sem]
    exact Fin.val (by rw [inR_f1 h1])

theorem Try.within_ok (x a b : Int) : PCall Try.prog 67 [.val (.int .i64 x), .val (.int .i64 a), .val (.int .i64 b)] (.val (.bool (inR x a b))) := by
  refine FCall.pcall (R := fun r _ => r = .val (.bool (inR x a b))) ?_ 0 (by rintro r H rfl; simp [view, viewV])
  refine FCall.of_body Try.func67 rfl (by kernel_rfl) (by simp [Try.ntmps67]) ?_
  refine SW_of_vc Try.mixed _ _ _ (by kernel_rfl) ?_
  by_cases h1 : a ≤ x
  · by_cases h2 : x ≤ b
    · simp (disch := omega) only [Try.ntmps67, Try.results67, go_sem]
      exact Fin.val (by rw [inR_tt h1 h2])
    · simp (disch := omega) only [Try.ntmps67, Try.results67, go_sem]
      exact Fin.val (by rw [inR_f2 h2])
  · simp (disch := omega) only [Try.ntmps67, Try.results67, go_sem]
    exact Fin.val (by rw [inR_f1 h1])

def fillTo (L : List Int) (k : Nat) : List Int := L.take k ++ List.replicate (L.length - k) 0
theorem fillTo_zero (L : List Int) : fillTo L 0 = List.replicate L.length 0 := by simp [fillTo]
theorem fillTo_length (L : List Int) (k : Nat) (h : k ≤ L.length) : (fillTo L k).length = L.length := by simp [fillTo]; omega
theorem fillTo_set (L : List Int) (k : Nat) (h : k < L.length) : (fillTo L k).set k (L.getD k 0) = fillTo L (k + 1) := by
  apply List.ext_getElem?
  intro i
  simp [fillTo, List.getElem?_set, List.getElem?_append, List.getElem?_take, List.getElem?_replicate]
  grind
theorem fillTo_all (L : List Int) : fillTo L L.length = L := by simp [fillTo]

set_option maxHeartbeats 1000000 in
theorem Try.toIntS_f (L : List Int) (hL : L.length ≤ 1048576) : FCall Try.prog 38 [ri L] (IntRes L) := by
  refine FCall.of_body Try.func38 rfl (by kernel_rfl) (by simp [Try.ntmps38]) ?_
  refine SW_of_vc Try.mixed _ _ _ (by kernel_rfl) ?_
  simp (disch := omega) only [Try.ntmps38, Try.results38, go_sem]
  refine LoopW.loop (fun k : Nat => ⟨ofL [(0, ri L), (3, .own 0 0 L.length L.length 1 true), (4, .val (.int .i64 k))], hp [(0, ⟨ints (fillTo L k), true⟩)] 1⟩) (fun k => k ≤ L.length) (fun k => L.length - k) 0 (by omega)
    (Wk.of (by simp only [go_sem, ↓List.forall_mem_cons, List.not_mem_nil, false_implies, implies_true, and_true, true_and, and_self, ri_eq, Int.natCast_add, Int.cast_ofNat_Int]; try simp) (by simp only [fillTo_zero])) ?_
  intro k hk
  have hf := fillTo_length L k hk
  refine SW_of_vc Try.mixed _ _ _ (by kernel_rfl) ?_
  by_cases hlt : k < L.length
  · simp (disch := omega) only [Try.ntmps38, Try.results38, go_sem, hf, fillTo_set]
    exact ⟨k + 1, by omega, by omega, Wk.of (by simp only [go_sem, ↓List.forall_mem_cons, List.not_mem_nil, false_implies, implies_true, and_true, true_and, and_self, ri_eq, Int.natCast_add, Int.cast_ofNat_Int]; try simp) rfl⟩
  · simp (disch := omega) only [Try.ntmps38, Try.results38, go_sem, hf, fillTo_set]
    obtain rfl : k = L.length := by omega
    rw [fillTo_all]
    exact IntRes.fin (blk := ⟨ints L, true⟩) (by simp [hp, hmap]) (noRowL_ints _) (by rw [List.drop_zero, ← ints_length L, List.take_length]) (by simp [ints])

theorem Try.toIntS_ok (L : List Int) (hL : L.length ≤ 1048576) : PCall Try.prog 38 [ri L] (ri L) :=
  (Try.toIntS_f L hL).pcall 2 (fun _ _ h => h.view)

theorem eq_take_succ {A B : List Int} {k : Nat} (hA : k < A.length) (hB : k < B.length) (h : A.take k = B.take k) (e : A.getD k 0 = B.getD k 0) : A.take (k + 1) = B.take (k + 1) := by
  rw [List.take_succ_eq_append_getElem hA, List.take_succ_eq_append_getElem hB, h]
  simp [hA, hB] at e
  rw [e]

set_option maxHeartbeats 1000000 in
theorem Try.eqIntS_ok (A B : List Int) (hA : A.length ≤ 1099511627776) (hB : B.length ≤ 1099511627776) : PCall Try.prog 28 [ri A, ri B] (.val (.bool (A == B))) := by
  refine FCall.pcall (R := fun r _ => r = .val (.bool (A == B))) ?_ 0 (by rintro r H rfl; simp [view, viewV])
  refine FCall.of_body Try.func28 rfl (by kernel_rfl) (by simp [Try.ntmps28]) ?_
  refine SW_of_vc Try.mixed _ _ _ (by kernel_rfl) ?_
  by_cases hl : A.length = B.length
  · simp (disch := omega) only [Try.ntmps28, Try.results28, go_sem]
    refine LoopW.loop (fun k : Nat => ⟨ofL [(0, ri A), (1, ri B), (5, .val (.int .i64 k))], hp [] 0⟩) (fun k => k ≤ A.length ∧ A.take k = B.take k) (fun k => A.length - k) 0 ⟨by omega, by simp⟩ (Wk.of (by simp only [go_sem, ↓List.forall_mem_cons, List.not_mem_nil, false_implies, implies_true, and_true, true_and, and_self, ri_eq, Int.natCast_add, Int.cast_ofNat_Int]; try simp) rfl) ?_
    rintro k ⟨hk, hkk⟩
    refine SW_of_vc Try.mixed _ _ _ (by kernel_rfl) ?_
    by_cases hlt : k < A.length
    · by_cases he : A.getD k 0 = B.getD k 0
      · simp (disch := omega) only [Try.ntmps28, Try.results28, go_sem]
        exact ⟨k + 1, ⟨by omega, eq_take_succ hlt (by omega) hkk he⟩, by omega, Wk.of (by simp only [go_sem, ↓List.forall_mem_cons, List.not_mem_nil, false_implies, implies_true, and_true, true_and, and_self, ri_eq, Int.natCast_add, Int.cast_ofNat_Int]; try simp) rfl⟩
      · simp (disch := omega) only [Try.ntmps28, Try.results28, go_sem]
        refine Fin.val ?_
        have : A ≠ B := fun e => he (by rw [e])
        simp [this]
    · simp (disch := omega) only [Try.ntmps28, Try.results28, go_sem]
      refine Fin.val ?_
      have h1 : A.take k = A := List.take_of_length_le (by omega)
      have h2 : B.take k = B := List.take_of_length_le (by omega)
      rw [h1, h2] at hkk
      simp [hkk]
  · simp (disch := omega) only [Try.ntmps28, Try.results28, go_sem]
    refine Fin.val ?_
    have : A ≠ B := fun e => hl (by rw [e])
    simp [this]
end Go.Sh

/-
  Contracts: is a list of numbers a partition? Of the reference and of the program.
-/
namespace Go.Sh
set_option linter.unusedSimpArgs false
set_option linter.unusedVariables false
open Go Go.Proofs

theorem callP {P : Program} {f : FuncId} {args : List SV} {H : Heap} {T : SV} {K : SV → Heap → Prop} (h : CallS P f args H (fun r H' => r = T ∧ H' = H)) (k : K T H) : @CallX P f args H ⟨K⟩ :=
  h.mono (fun r H' ⟨e1, e2⟩ => by rw [e1, e2]; exact k)
theorem callD {P : Program} {f : FuncId} {args : List SV} {H : Heap} {T : SV} {K : SV → Heap → Prop} (h : CallS P f args H (fun r H' => r = T ∧ H' = H)) (k : K T H) : @CallD P f args H ⟨K⟩ :=
  ⟨T, h, k⟩

theorem PCall.call {P : Program} {f : FuncId} {args : List SV} {H : Heap} {T : SV} {K : SV → Heap → Prop} (h : PCall P f args T) (hv : viewL H 0 args = some args) (k : K T H) : @CallX P f args H ⟨K⟩ := callP (h.callS 0 hv) k
theorem PCall.callD {P : Program} {f : FuncId} {args : List SV} {H : Heap} {T : SV} {K : SV → Heap → Prop} (h : PCall P f args T) (hv : viewL H 0 args = some args) (k : K T H) : @CallD P f args H ⟨K⟩ := Sh.callD (h.callS 0 hv) k

def okP : Int → List Int → Bool
  | _, [] => true
  | nx, x :: l => inR x 0 nx && okP (max nx (x + 1)) l
def isPart (L : List Int) : Bool := okP 0 L && inR L.length 1 8

theorem drop_cons {L : List Int} {k : Nat} (h : k < L.length) : L.drop k = L.getD k 0 :: L.drop (k + 1) := by
  rw [List.drop_eq_getElem_cons h]; simp [h]
theorem okP_step {L : List Int} {k : Nat} {nx : Int} (h : k < L.length) : okP nx (L.drop k) = (inR (L.getD k 0) 0 nx && okP (max nx (L.getD k 0 + 1)) (L.drop (k + 1))) := by
  rw [drop_cons h, okP]
theorem inR_of {x a b : Int} (h : inR x a b = true) : a ≤ x ∧ x ≤ b := by simpa [inR] using h

set_option maxHeartbeats 1000000 in
theorem Try.specIsPartition_ok (L : List Int) (hL : L.length ≤ 1048576) : PCall Try.prog 74 [ri L] (.val (.bool (isPart L))) := by
  refine FCall.pcall (R := fun r _ => r = .val (.bool (isPart L))) ?_ 0 (by rintro r H rfl; simp [view, viewV])
  refine FCall.of_body Try.func74 rfl (by kernel_rfl) (by simp [Try.ntmps74]) ?_
  refine SW_of_vc Try.mixed _ _ _ (by kernel_rfl) ?_
  simp (disch := omega) only [Try.ntmps74, Try.results74, go_sem]
  refine LoopW.loop (fun p : Nat × Int => ⟨ofL [(0, ri L), (3, .val (.int .i64 (p.2 - 1))), (4, .val (.int .i64 p.1))], hp [] 0⟩) (fun p => p.1 ≤ L.length ∧ 0 ≤ p.2 ∧ p.2 ≤ p.1 ∧ okP 0 L = okP p.2 (L.drop p.1)) (fun p => L.length - p.1) (0, 0) ⟨by simp, by simp, by simp, by simp⟩ (Wk.of (by simp only [go_sem, ↓List.forall_mem_cons, List.not_mem_nil, false_implies, implies_true, and_true, true_and, and_self, ri_eq, Int.natCast_add, Int.cast_ofNat_Int]; try simp) rfl) ?_
  rintro ⟨k, nx⟩ ⟨hk, h0, h1, h2⟩
  simp only at hk h0 h1 h2
  refine SW_of_vc Try.mixed _ _ _ (by kernel_rfl) ?_
  by_cases hlt : k < L.length
  · cases hin : inR (L.getD k 0) 0 nx with
    | true =>
      obtain ⟨i1, i2⟩ := inR_of hin
      simp (disch := omega) only [Try.ntmps74, Try.results74, go_sem, Int.sub_add_cancel]
      refine (Try.l1In_ok _ _ _).call (by simp [viewL, view, viewV]) ?_
      by_cases hm : nx - 1 < L.getD k 0
      · simp (disch := omega) only [Try.ntmps74, Try.results74, go_sem, Int.sub_add_cancel, hin]
        refine ⟨(k + 1, L.getD k 0 + 1), ⟨by show k + 1 ≤ _; omega, by show 0 ≤ L.getD k 0 + 1; omega, by show L.getD k 0 + 1 ≤ ((k + 1 : Nat) : Int); omega, ?_⟩, by show L.length - (k + 1) < L.length - k; omega, Wk.of (by simp only [go_sem, ↓List.forall_mem_cons, List.not_mem_nil, false_implies, implies_true, and_true, true_and, and_self, ri_eq, Int.natCast_add, Int.cast_ofNat_Int]; try simp) rfl⟩
        rw [h2, okP_step hlt, hin, Int.max_eq_right (by omega)]; rfl
      · simp (disch := omega) only [Try.ntmps74, Try.results74, go_sem, Int.sub_add_cancel, hin]
        refine ⟨(k + 1, nx), ⟨by show k + 1 ≤ _; omega, h0, by show nx ≤ ((k + 1 : Nat) : Int); omega, ?_⟩, by show L.length - (k + 1) < L.length - k; omega, Wk.of (by simp only [go_sem, ↓List.forall_mem_cons, List.not_mem_nil, false_implies, implies_true, and_true, true_and, and_self, ri_eq, Int.natCast_add, Int.cast_ofNat_Int]; try simp) rfl⟩
        rw [h2, okP_step hlt, hin, Int.max_eq_left (by omega)]; rfl
    | false =>
      simp (disch := omega) only [Try.ntmps74, Try.results74, go_sem, Int.sub_add_cancel]
      refine (Try.l1In_ok _ _ _).call (by simp [viewL, view, viewV]) ?_
      simp (disch := omega) only [Try.ntmps74, Try.results74, go_sem, Int.sub_add_cancel, hin]
      refine Fin.val ?_
      rw [isPart, h2, okP_step hlt, hin]; rfl
  · simp (disch := omega) only [Try.ntmps74, Try.results74, go_sem, Int.sub_add_cancel]
    refine (Try.l1In_ok _ _ _).call (by simp [viewL, view, viewV]) ?_
    simp (disch := omega) only [Try.ntmps74, Try.results74, go_sem]
    refine Fin.val ?_
    rw [isPart, h2, List.drop_eq_nil_of_le (by omega)]; simp [okP]

set_option maxHeartbeats 1000000 in
theorem Try.implIsPartition_ok (L : List Int) (hL : L.length ≤ 1048576) : PCall Try.prog 50 [ri L] (.val (.bool (isPart L))) := by
  refine FCall.pcall (R := fun r _ => r = .val (.bool (isPart L))) ?_ 0 (by rintro r H rfl; simp [view, viewV])
  refine FCall.of_body Try.func50 rfl (by kernel_rfl) (by simp [Try.ntmps50]) ?_
  refine SW_of_vc Try.mixed _ _ _ (by kernel_rfl) ?_
  simp (disch := omega) only [Try.ntmps50, Try.results50, go_sem]
  refine LoopW.loop (fun p : Nat × Int => ⟨ofL [(0, ri L), (3, .val (.int .i64 p.2)), (6, ri L), (7, .val (.int .i64 L.length)), (8, .val (.int .i64 p.1))], hp [] 0⟩) (fun p => p.1 ≤ L.length ∧ 0 ≤ p.2 ∧ p.2 ≤ p.1 ∧ okP 0 L = okP p.2 (L.drop p.1)) (fun p => L.length - p.1) (0, 0) ⟨by simp, by simp, by simp, by simp⟩ (Wk.of (by simp only [go_sem, ↓List.forall_mem_cons, List.not_mem_nil, false_implies, implies_true, and_true, true_and, and_self, ri_eq, Int.natCast_add, Int.cast_ofNat_Int]; try simp) rfl) ?_
  rintro ⟨k, nx⟩ ⟨hk, h0, h1, h2⟩
  simp only at hk h0 h1 h2
  refine SW_of_vc Try.mixed _ _ _ (by kernel_rfl) ?_
  by_cases hlt : k < L.length
  · cases hin : inR (L.getD k 0) 0 nx with
    | true =>
      obtain ⟨i1, i2⟩ := inR_of hin
      simp (disch := omega) only [Try.ntmps50, Try.results50, go_sem]
      refine (Try.within_ok _ _ _).call (by simp [viewL, view, viewV]) ?_
      by_cases hm : nx < L.getD k 0 + 1
      · simp (disch := omega) only [Try.ntmps50, Try.results50, go_sem, hin]
        refine ⟨(k + 1, L.getD k 0 + 1), ⟨by show k + 1 ≤ _; omega, by show 0 ≤ L.getD k 0 + 1; omega, by show L.getD k 0 + 1 ≤ ((k + 1 : Nat) : Int); omega, ?_⟩, by show L.length - (k + 1) < L.length - k; omega, Wk.of (by simp only [go_sem, ↓List.forall_mem_cons, List.not_mem_nil, false_implies, implies_true, and_true, true_and, and_self, ri_eq, Int.natCast_add, Int.cast_ofNat_Int]; try simp) rfl⟩
        rw [h2, okP_step hlt, hin, Int.max_eq_right (by omega)]; rfl
      · simp (disch := omega) only [Try.ntmps50, Try.results50, go_sem, hin]
        refine ⟨(k + 1, nx), ⟨by show k + 1 ≤ _; omega, h0, by show nx ≤ ((k + 1 : Nat) : Int); omega, ?_⟩, by show L.length - (k + 1) < L.length - k; omega, Wk.of (by simp only [go_sem, ↓List.forall_mem_cons, List.not_mem_nil, false_implies, implies_true, and_true, true_and, and_self, ri_eq, Int.natCast_add, Int.cast_ofNat_Int]; try simp) rfl⟩
        rw [h2, okP_step hlt, hin, Int.max_eq_left (by omega)]; rfl
    | false =>
      simp (disch := omega) only [Try.ntmps50, Try.results50, go_sem]
      refine (Try.within_ok _ _ _).call (by simp [viewL, view, viewV]) ?_
      simp (disch := omega) only [Try.ntmps50, Try.results50, go_sem, hin]
      refine Fin.val ?_
      rw [isPart, h2, okP_step hlt, hin]; rfl
  · simp (disch := omega) only [Try.ntmps50, Try.results50, go_sem]
    refine (Try.within_ok _ _ _).call (by simp [viewL, view, viewV]) ?_
    simp (disch := omega) only [Try.ntmps50, Try.results50, go_sem]
    refine Fin.val ?_
    rw [isPart, h2, List.drop_eq_nil_of_le (by omega)]; simp [okP]

end Go.Sh

/-
  Contracts: orders of the items.
-/
namespace Go.Sh
set_option linter.unusedSimpArgs false
set_option linter.unusedVariables false
open Go Go.Proofs

theorem Try.isItem_ok (x n : Int) (h1 : -9223372036854775807 ≤ n) (h2 : n ≤ 9223372036854775807) : PCall Try.prog 101 [.val (.int .i64 x), .val (.int .i64 n)] (.val (.bool (inR x 0 (n - 1)))) := by
  refine FCall.pcall (R := fun r _ => r = .val (.bool (inR x 0 (n - 1)))) ?_ 0 (by rintro r H rfl; simp [view, viewV])
  refine FCall.of_body Try.func101 rfl (by kernel_rfl) (by simp [Try.ntmps101]) ?_
  refine SW_of_vc Try.mixed _ _ _ (by kernel_rfl) ?_
  simp (disch := omega) only [Try.ntmps101, Try.results101, go_sem]
  refine (Try.within_ok _ _ _).call (by simp [viewL, view, viewV]) ?_
  simp (disch := omega) only [Try.ntmps101, Try.results101, go_sem]
  exact Fin.val rfl

def idx (x : Int) (L : List Int) : Int := if x ∈ L then (L.idxOf x : Int) else -1
theorem idx_none {x : Int} {L : List Int} (h : ∀ i, i < L.length → L.getD i 0 ≠ x) : idx x L = -1 := by
  rw [idx, if_neg]
  intro hm
  obtain ⟨i, hi, e⟩ := List.getElem_of_mem hm
  exact h i hi (by simp [hi, e])
theorem idx_some {x : Int} {L : List Int} {k : Nat} (hk : k < L.length) (h : ∀ i, i < k → L.getD i 0 ≠ x) (e : L.getD k 0 = x) : idx x L = k := by
  have hm : x ∈ L := by rw [← e]; simp [hk]
  rw [idx, if_pos hm]
  congr 1
  have h1 : L.idxOf x < L.length := List.idxOf_lt_length_of_mem hm
  have h2 : L[L.idxOf x] = x := List.getElem_idxOf h1
  rcases Nat.lt_trichotomy (L.idxOf x) k with hl | hl | hl
  · exact absurd (by simp [h1]) (h _ hl)
  · exact hl
  · exfalso
    have := List.not_of_lt_findIdx (p := (· == x)) (xs := L) (i := k) (by simpa [List.idxOf] using hl)
    simp [hk] at e
    simp [e] at this
theorem idx_ge (x : Int) (L : List Int) : (0 ≤ idx x L) ↔ x ∈ L := by
  rw [idx]; split <;> simp_all

set_option maxHeartbeats 1000000 in
theorem Try.slicesIndex_ok (L : List Int) (x : Int) (hL : L.length ≤ 1099511627776) : PCall Try.prog 128 [ri L, .val (.int .i64 x)] (.val (.int .i64 (idx x L))) := by
  refine FCall.pcall (R := fun r _ => r = .val (.int .i64 (idx x L))) ?_ 0 (by rintro r H rfl; simp [view, viewV])
  refine FCall.of_body Try.func128 rfl (by kernel_rfl) (by simp [Try.ntmps128]) ?_
  refine SW_of_vc Try.mixed _ _ _ (by kernel_rfl) ?_
  simp (disch := omega) only [Try.ntmps128, Try.results128, go_sem]
  refine LoopW.loop (fun k : Nat => ⟨ofL [(0, ri L), (1, .val (.int .i64 x)), (7, .val (.int .i64 L.length)), (8, .val (.int .i64 k))], hp [] 0⟩) (fun k => k ≤ L.length ∧ ∀ i, i < k → L.getD i 0 ≠ x) (fun k => L.length - k) 0 ⟨by omega, by simp⟩ (Wk.of (by simp only [go_sem, ↓List.forall_mem_cons, List.not_mem_nil, false_implies, implies_true, and_true, true_and, and_self, ri_eq, Int.natCast_add, Int.cast_ofNat_Int]; try simp) rfl) ?_
  rintro k ⟨hk, hkk⟩
  refine SW_of_vc Try.mixed _ _ _ (by kernel_rfl) ?_
  by_cases hlt : k < L.length
  · by_cases he : x = L.getD k 0
    · simp (disch := omega) only [Try.ntmps128, Try.results128, go_sem]
      exact Fin.val (by rw [idx_some hlt hkk he.symm])
    · simp (disch := omega) only [Try.ntmps128, Try.results128, go_sem]
      refine ⟨k + 1, ⟨by omega, fun i hi => ?_⟩, by omega, Wk.of (by simp only [go_sem, ↓List.forall_mem_cons, List.not_mem_nil, false_implies, implies_true, and_true, true_and, and_self, ri_eq, Int.natCast_add, Int.cast_ofNat_Int]; try simp) rfl⟩
      rcases Nat.lt_succ_iff_lt_or_eq.mp hi with h | rfl
      · exact hkk i h
      · exact fun e => he e.symm
  · simp (disch := omega) only [Try.ntmps128, Try.results128, go_sem]
    exact Fin.val (by rw [idx_none (fun i hi => hkk i (by omega))])

theorem Try.slicesContains_ok (L : List Int) (x : Int) (hL : L.length ≤ 1099511627776) : PCall Try.prog 102 [ri L, .val (.int .i64 x)] (.val (.bool (L.contains x))) := by
  refine FCall.pcall (R := fun r _ => r = .val (.bool (L.contains x))) ?_ 0 (by rintro r H rfl; simp [view, viewV])
  refine FCall.of_body Try.func102 rfl (by kernel_rfl) (by simp [Try.ntmps102]) ?_
  refine SW_of_vc Try.mixed _ _ _ (by kernel_rfl) ?_
  simp (disch := omega) only [Try.ntmps102, Try.results102, go_sem]
  refine (Try.slicesIndex_ok _ _ hL).call (by simp [viewL, view, viewV, ri]) ?_
  simp (disch := omega) only [Try.ntmps102, Try.results102, go_sem]
  refine Fin.val ?_
  by_cases h : x ∈ L
  · have := (idx_ge x L).mpr h
    simp [h, this]
  · have : ¬ 0 ≤ idx x L := fun e => h ((idx_ge x L).mp e)
    simp [h, this]

def okO (n : Int) : List Int → List Int → Bool
  | _, [] => true
  | s, x :: l => inR x 0 (n - 1) && (!s.contains x && okO n (s ++ [x]) l)
def isOrd (n : Int) (L : List Int) : Bool := inR n 1 8 && (decide ((L.length : Int) = n) && okO n [] L)
theorem okO_step {n : Int} {L : List Int} {k : Nat} (h : k < L.length) : okO n (L.take k) (L.drop k) = (inR (L.getD k 0) 0 (n - 1) && (!(L.take k).contains (L.getD k 0) && okO n (L.take (k + 1)) (L.drop (k + 1)))) := by
  rw [drop_cons h, okO, List.take_succ_eq_append_getElem h]; simp [h]

end Go.Sh
