/-
  Texts put together: Ty, FI1, TB1, FI2, C1, C2, C3, D1, D2, D3. What each proves stands at its own head, with its conditions.
-/
import Derived.Test.YtkmckbjgffaieaaDoorZParseMatrix1
import Derived.Test.YtkmckbjgffaieaaDoorChecked
import Derived.KernelRfl
import Derived.Lib.LaidTab

/-
  What the shadow asks of this program's types, each a closed fact.
-/
namespace Go.Sh
set_option linter.unusedSimpArgs false
set_option linter.unusedVariables false
open Go Go.Proofs
attribute [go_sem_proc] Nat.reduceLT Nat.reduceLeDiff Nat.reduceEqDiff Nat.reduceAdd Nat.reduceSub Nat.reduceMul reduceIte reduceCtorEq Int.reduceToNat Int.reduceLE Int.reduceLT Int.reduceNeg Int.reduceSub Int.reduceAdd Int.reduceMul
attribute [go_sem_proc ↓] reduceIte
theorem Tryd.mixed : Tryd.prog.follows .mixedOrders = true := by kernel_rfl
@[go_sem] theorem Tryd.ty.sz1 : szOf Tryd.prog 1 = some 1 := by kernel_rfl
@[go_sem] theorem Tryd.ty.by1 : bytesIn Tryd.prog 1 = some 8 := by kernel_rfl
@[go_sem] theorem Tryd.ty.ag1 : aggOf Tryd.prog 1 = some false := by kernel_rfl
@[go_sem] theorem Tryd.ty.zr1 : zeroOf Tryd.prog 1 = some [.val .nilFunc] := by kernel_rfl
@[go_sem] theorem Tryd.ty.el1 : elemOfSlice Tryd.prog 1 = none := by kernel_rfl
@[go_sem] theorem Tryd.ty.ar1 : arrayOf Tryd.prog 1 = none := by kernel_rfl
@[go_sem] theorem Tryd.ty.st1 : isStr Tryd.prog 1 = false := by kernel_rfl
@[go_sem] theorem Tryd.ty.bo1 : isBool Tryd.prog 1 = false := by kernel_rfl
@[go_sem] theorem Tryd.ty.ki1 : kindOf Tryd.prog 1 = none := by kernel_rfl
@[go_sem] theorem Tryd.ty.if1 : isIface Tryd.prog 1 = some false := by kernel_rfl
@[go_sem] theorem Tryd.ty.sz2 : szOf Tryd.prog 2 = some 1 := by kernel_rfl
@[go_sem] theorem Tryd.ty.by2 : bytesIn Tryd.prog 2 = some 8 := by kernel_rfl
@[go_sem] theorem Tryd.ty.ag2 : aggOf Tryd.prog 2 = some false := by kernel_rfl
@[go_sem] theorem Tryd.ty.zr2 : zeroOf Tryd.prog 2 = some [.val (.int .i64 0)] := by kernel_rfl
@[go_sem] theorem Tryd.ty.el2 : elemOfSlice Tryd.prog 2 = none := by kernel_rfl
@[go_sem] theorem Tryd.ty.ar2 : arrayOf Tryd.prog 2 = none := by kernel_rfl
@[go_sem] theorem Tryd.ty.st2 : isStr Tryd.prog 2 = false := by kernel_rfl
@[go_sem] theorem Tryd.ty.bo2 : isBool Tryd.prog 2 = false := by kernel_rfl
@[go_sem] theorem Tryd.ty.ki2 : kindOf Tryd.prog 2 = some .i64 := by kernel_rfl
@[go_sem] theorem Tryd.ty.if2 : isIface Tryd.prog 2 = some false := by kernel_rfl
@[go_sem] theorem Tryd.ty.un2 : Tryd.prog.underlying 2 = some (.int .i64) := by kernel_rfl
@[go_sem] theorem Tryd.ty.sz3 : szOf Tryd.prog 3 = some 1 := by kernel_rfl
@[go_sem] theorem Tryd.ty.by3 : bytesIn Tryd.prog 3 = some 8 := by kernel_rfl
@[go_sem] theorem Tryd.ty.ag3 : aggOf Tryd.prog 3 = some false := by kernel_rfl
@[go_sem] theorem Tryd.ty.zr3 : zeroOf Tryd.prog 3 = some [.val (.int .i64 0)] := by kernel_rfl
@[go_sem] theorem Tryd.ty.el3 : elemOfSlice Tryd.prog 3 = none := by kernel_rfl
@[go_sem] theorem Tryd.ty.ar3 : arrayOf Tryd.prog 3 = none := by kernel_rfl
@[go_sem] theorem Tryd.ty.st3 : isStr Tryd.prog 3 = false := by kernel_rfl
@[go_sem] theorem Tryd.ty.bo3 : isBool Tryd.prog 3 = false := by kernel_rfl
@[go_sem] theorem Tryd.ty.ki3 : kindOf Tryd.prog 3 = some .i64 := by kernel_rfl
@[go_sem] theorem Tryd.ty.if3 : isIface Tryd.prog 3 = some false := by kernel_rfl
@[go_sem] theorem Tryd.ty.un3 : Tryd.prog.underlying 3 = some (.int .i64) := by kernel_rfl
@[go_sem] theorem Tryd.ty.sz4 : szOf Tryd.prog 4 = some 1 := by kernel_rfl
@[go_sem] theorem Tryd.ty.by4 : bytesIn Tryd.prog 4 = some 1 := by kernel_rfl
@[go_sem] theorem Tryd.ty.ag4 : aggOf Tryd.prog 4 = some false := by kernel_rfl
@[go_sem] theorem Tryd.ty.zr4 : zeroOf Tryd.prog 4 = some [.val (.bool false)] := by kernel_rfl
@[go_sem] theorem Tryd.ty.el4 : elemOfSlice Tryd.prog 4 = none := by kernel_rfl
@[go_sem] theorem Tryd.ty.ar4 : arrayOf Tryd.prog 4 = none := by kernel_rfl
@[go_sem] theorem Tryd.ty.st4 : isStr Tryd.prog 4 = false := by kernel_rfl
@[go_sem] theorem Tryd.ty.bo4 : isBool Tryd.prog 4 = true := by kernel_rfl
@[go_sem] theorem Tryd.ty.ki4 : kindOf Tryd.prog 4 = none := by kernel_rfl
@[go_sem] theorem Tryd.ty.if4 : isIface Tryd.prog 4 = some false := by kernel_rfl
@[go_sem] theorem Tryd.ty.un4 : Tryd.prog.underlying 4 = some (.bool) := by kernel_rfl
@[go_sem] theorem Tryd.ty.sz5 : szOf Tryd.prog 5 = some 1 := by kernel_rfl
@[go_sem] theorem Tryd.ty.by5 : bytesIn Tryd.prog 5 = some 1 := by kernel_rfl
@[go_sem] theorem Tryd.ty.ag5 : aggOf Tryd.prog 5 = some false := by kernel_rfl
@[go_sem] theorem Tryd.ty.zr5 : zeroOf Tryd.prog 5 = some [.val (.int .u8 0)] := by kernel_rfl
@[go_sem] theorem Tryd.ty.el5 : elemOfSlice Tryd.prog 5 = none := by kernel_rfl
@[go_sem] theorem Tryd.ty.ar5 : arrayOf Tryd.prog 5 = none := by kernel_rfl
@[go_sem] theorem Tryd.ty.st5 : isStr Tryd.prog 5 = false := by kernel_rfl
@[go_sem] theorem Tryd.ty.bo5 : isBool Tryd.prog 5 = false := by kernel_rfl
@[go_sem] theorem Tryd.ty.ki5 : kindOf Tryd.prog 5 = some .u8 := by kernel_rfl
@[go_sem] theorem Tryd.ty.if5 : isIface Tryd.prog 5 = some false := by kernel_rfl
@[go_sem] theorem Tryd.ty.un5 : Tryd.prog.underlying 5 = some (.int .u8) := by kernel_rfl
@[go_sem] theorem Tryd.ty.sz7 : szOf Tryd.prog 7 = some 4 := by kernel_rfl
@[go_sem] theorem Tryd.ty.by7 : bytesIn Tryd.prog 7 = some 24 := by kernel_rfl
@[go_sem] theorem Tryd.ty.ag7 : aggOf Tryd.prog 7 = some true := by kernel_rfl
@[go_sem] theorem Tryd.ty.zr7 : zeroOf Tryd.prog 7 = some [.val (.int .i64 0), .val (.int .i64 0), .val (.bool false), .val (.int .u8 0)] := by kernel_rfl
@[go_sem] theorem Tryd.ty.el7 : elemOfSlice Tryd.prog 7 = none := by kernel_rfl
@[go_sem] theorem Tryd.ty.ar7 : arrayOf Tryd.prog 7 = none := by kernel_rfl
@[go_sem] theorem Tryd.ty.st7 : isStr Tryd.prog 7 = false := by kernel_rfl
@[go_sem] theorem Tryd.ty.bo7 : isBool Tryd.prog 7 = false := by kernel_rfl
@[go_sem] theorem Tryd.ty.ki7 : kindOf Tryd.prog 7 = none := by kernel_rfl
@[go_sem] theorem Tryd.ty.if7 : isIface Tryd.prog 7 = some false := by kernel_rfl
@[go_sem] theorem Tryd.ty.fo0_7 : fieldOf Tryd.prog 7 0 = some (2, 0) := by kernel_rfl
@[go_sem] theorem Tryd.ty.fp0_7 : fieldPl Tryd.prog 7 0 = some (0, 1) := by kernel_rfl
@[go_sem] theorem Tryd.ty.fo1_7 : fieldOf Tryd.prog 7 1 = some (3, 1) := by kernel_rfl
@[go_sem] theorem Tryd.ty.fp1_7 : fieldPl Tryd.prog 7 1 = some (1, 1) := by kernel_rfl
@[go_sem] theorem Tryd.ty.fo2_7 : fieldOf Tryd.prog 7 2 = some (4, 2) := by kernel_rfl
@[go_sem] theorem Tryd.ty.fp2_7 : fieldPl Tryd.prog 7 2 = some (2, 1) := by kernel_rfl
@[go_sem] theorem Tryd.ty.fo3_7 : fieldOf Tryd.prog 7 3 = some (6, 3) := by kernel_rfl
@[go_sem] theorem Tryd.ty.fp3_7 : fieldPl Tryd.prog 7 3 = some (3, 1) := by kernel_rfl
@[go_sem] theorem Tryd.ty.bk7 : buildOk Tryd.prog 7 = true := by kernel_rfl
@[go_sem] theorem Tryd.ty.sz9 : szOf Tryd.prog 9 = some 1 := by kernel_rfl
@[go_sem] theorem Tryd.ty.by9 : bytesIn Tryd.prog 9 = some 16 := by kernel_rfl
@[go_sem] theorem Tryd.ty.ag9 : aggOf Tryd.prog 9 = some false := by kernel_rfl
@[go_sem] theorem Tryd.ty.zr9 : zeroOf Tryd.prog 9 = some [.val (.string ByteArray.empty)] := by kernel_rfl
@[go_sem] theorem Tryd.ty.el9 : elemOfSlice Tryd.prog 9 = none := by kernel_rfl
@[go_sem] theorem Tryd.ty.ar9 : arrayOf Tryd.prog 9 = none := by kernel_rfl
@[go_sem] theorem Tryd.ty.st9 : isStr Tryd.prog 9 = true := by kernel_rfl
@[go_sem] theorem Tryd.ty.bo9 : isBool Tryd.prog 9 = false := by kernel_rfl
@[go_sem] theorem Tryd.ty.ki9 : kindOf Tryd.prog 9 = none := by kernel_rfl
@[go_sem] theorem Tryd.ty.if9 : isIface Tryd.prog 9 = some false := by kernel_rfl
@[go_sem] theorem Tryd.ty.un9 : Tryd.prog.underlying 9 = some (.string) := by kernel_rfl
@[go_sem] theorem Tryd.ty.sz12 : szOf Tryd.prog 12 = some 1 := by kernel_rfl
@[go_sem] theorem Tryd.ty.by12 : bytesIn Tryd.prog 12 = some 8 := by kernel_rfl
@[go_sem] theorem Tryd.ty.ag12 : aggOf Tryd.prog 12 = some false := by kernel_rfl
@[go_sem] theorem Tryd.ty.zr12 : zeroOf Tryd.prog 12 = some [.val (.int .u64 0)] := by kernel_rfl
@[go_sem] theorem Tryd.ty.el12 : elemOfSlice Tryd.prog 12 = none := by kernel_rfl
@[go_sem] theorem Tryd.ty.ar12 : arrayOf Tryd.prog 12 = none := by kernel_rfl
@[go_sem] theorem Tryd.ty.st12 : isStr Tryd.prog 12 = false := by kernel_rfl
@[go_sem] theorem Tryd.ty.bo12 : isBool Tryd.prog 12 = false := by kernel_rfl
@[go_sem] theorem Tryd.ty.ki12 : kindOf Tryd.prog 12 = some .u64 := by kernel_rfl
@[go_sem] theorem Tryd.ty.if12 : isIface Tryd.prog 12 = some false := by kernel_rfl
@[go_sem] theorem Tryd.ty.un12 : Tryd.prog.underlying 12 = some (.int .u64) := by kernel_rfl
@[go_sem] theorem Tryd.ty.sz13 : szOf Tryd.prog 13 = some 2 := by kernel_rfl
@[go_sem] theorem Tryd.ty.by13 : bytesIn Tryd.prog 13 = some 24 := by kernel_rfl
@[go_sem] theorem Tryd.ty.ag13 : aggOf Tryd.prog 13 = some true := by kernel_rfl
@[go_sem] theorem Tryd.ty.zr13 : zeroOf Tryd.prog 13 = some [.val (.string ByteArray.empty), .val (.int .u64 0)] := by kernel_rfl
@[go_sem] theorem Tryd.ty.el13 : elemOfSlice Tryd.prog 13 = none := by kernel_rfl
@[go_sem] theorem Tryd.ty.ar13 : arrayOf Tryd.prog 13 = none := by kernel_rfl
@[go_sem] theorem Tryd.ty.st13 : isStr Tryd.prog 13 = false := by kernel_rfl
@[go_sem] theorem Tryd.ty.bo13 : isBool Tryd.prog 13 = false := by kernel_rfl
@[go_sem] theorem Tryd.ty.ki13 : kindOf Tryd.prog 13 = none := by kernel_rfl
@[go_sem] theorem Tryd.ty.if13 : isIface Tryd.prog 13 = some false := by kernel_rfl
@[go_sem] theorem Tryd.ty.fo0_13 : fieldOf Tryd.prog 13 0 = some (9, 0) := by kernel_rfl
@[go_sem] theorem Tryd.ty.fp0_13 : fieldPl Tryd.prog 13 0 = some (0, 1) := by kernel_rfl
@[go_sem] theorem Tryd.ty.fo1_13 : fieldOf Tryd.prog 13 1 = some (12, 1) := by kernel_rfl
@[go_sem] theorem Tryd.ty.fp1_13 : fieldPl Tryd.prog 13 1 = some (1, 1) := by kernel_rfl
@[go_sem] theorem Tryd.ty.bk13 : buildOk Tryd.prog 13 = true := by kernel_rfl
@[go_sem] theorem Tryd.ty.sz15 : szOf Tryd.prog 15 = some 1 := by kernel_rfl
@[go_sem] theorem Tryd.ty.by15 : bytesIn Tryd.prog 15 = some 8 := by kernel_rfl
@[go_sem] theorem Tryd.ty.ag15 : aggOf Tryd.prog 15 = some false := by kernel_rfl
@[go_sem] theorem Tryd.ty.zr15 : zeroOf Tryd.prog 15 = some [.val (.pointer none)] := by kernel_rfl
@[go_sem] theorem Tryd.ty.el15 : elemOfSlice Tryd.prog 15 = none := by kernel_rfl
@[go_sem] theorem Tryd.ty.ar15 : arrayOf Tryd.prog 15 = none := by kernel_rfl
@[go_sem] theorem Tryd.ty.st15 : isStr Tryd.prog 15 = false := by kernel_rfl
@[go_sem] theorem Tryd.ty.bo15 : isBool Tryd.prog 15 = false := by kernel_rfl
@[go_sem] theorem Tryd.ty.ki15 : kindOf Tryd.prog 15 = none := by kernel_rfl
@[go_sem] theorem Tryd.ty.if15 : isIface Tryd.prog 15 = some false := by kernel_rfl
@[go_sem] theorem Tryd.ty.un15 : Tryd.prog.underlying 15 = some (.pointer 149) := by kernel_rfl
@[go_sem] theorem Tryd.ty.sz16 : szOf Tryd.prog 16 = some 1 := by kernel_rfl
@[go_sem] theorem Tryd.ty.by16 : bytesIn Tryd.prog 16 = some 8 := by kernel_rfl
@[go_sem] theorem Tryd.ty.ag16 : aggOf Tryd.prog 16 = some false := by kernel_rfl
@[go_sem] theorem Tryd.ty.zr16 : zeroOf Tryd.prog 16 = some [.val (.pointer none)] := by kernel_rfl
@[go_sem] theorem Tryd.ty.el16 : elemOfSlice Tryd.prog 16 = none := by kernel_rfl
@[go_sem] theorem Tryd.ty.ar16 : arrayOf Tryd.prog 16 = none := by kernel_rfl
@[go_sem] theorem Tryd.ty.st16 : isStr Tryd.prog 16 = false := by kernel_rfl
@[go_sem] theorem Tryd.ty.bo16 : isBool Tryd.prog 16 = false := by kernel_rfl
@[go_sem] theorem Tryd.ty.ki16 : kindOf Tryd.prog 16 = none := by kernel_rfl
@[go_sem] theorem Tryd.ty.if16 : isIface Tryd.prog 16 = some false := by kernel_rfl
@[go_sem] theorem Tryd.ty.un16 : Tryd.prog.underlying 16 = some (.pointer 152) := by kernel_rfl
@[go_sem] theorem Tryd.ty.sz17 : szOf Tryd.prog 17 = some 1 := by kernel_rfl
@[go_sem] theorem Tryd.ty.by17 : bytesIn Tryd.prog 17 = some 8 := by kernel_rfl
@[go_sem] theorem Tryd.ty.ag17 : aggOf Tryd.prog 17 = some false := by kernel_rfl
@[go_sem] theorem Tryd.ty.zr17 : zeroOf Tryd.prog 17 = some [.val (.pointer none)] := by kernel_rfl
@[go_sem] theorem Tryd.ty.el17 : elemOfSlice Tryd.prog 17 = none := by kernel_rfl
@[go_sem] theorem Tryd.ty.ar17 : arrayOf Tryd.prog 17 = none := by kernel_rfl
@[go_sem] theorem Tryd.ty.st17 : isStr Tryd.prog 17 = false := by kernel_rfl
@[go_sem] theorem Tryd.ty.bo17 : isBool Tryd.prog 17 = false := by kernel_rfl
@[go_sem] theorem Tryd.ty.ki17 : kindOf Tryd.prog 17 = none := by kernel_rfl
@[go_sem] theorem Tryd.ty.if17 : isIface Tryd.prog 17 = some false := by kernel_rfl
@[go_sem] theorem Tryd.ty.un17 : Tryd.prog.underlying 17 = some (.pointer 160) := by kernel_rfl
@[go_sem] theorem Tryd.ty.sz18 : szOf Tryd.prog 18 = some 1 := by kernel_rfl
@[go_sem] theorem Tryd.ty.by18 : bytesIn Tryd.prog 18 = some 8 := by kernel_rfl
@[go_sem] theorem Tryd.ty.ag18 : aggOf Tryd.prog 18 = some true := by kernel_rfl
@[go_sem] theorem Tryd.ty.zr18 : zeroOf Tryd.prog 18 = some [.val (.pointer none)] := by kernel_rfl
@[go_sem] theorem Tryd.ty.el18 : elemOfSlice Tryd.prog 18 = none := by kernel_rfl
@[go_sem] theorem Tryd.ty.ar18 : arrayOf Tryd.prog 18 = none := by kernel_rfl
@[go_sem] theorem Tryd.ty.st18 : isStr Tryd.prog 18 = false := by kernel_rfl
@[go_sem] theorem Tryd.ty.bo18 : isBool Tryd.prog 18 = false := by kernel_rfl
@[go_sem] theorem Tryd.ty.ki18 : kindOf Tryd.prog 18 = none := by kernel_rfl
@[go_sem] theorem Tryd.ty.if18 : isIface Tryd.prog 18 = some false := by kernel_rfl
@[go_sem] theorem Tryd.ty.fo0_18 : fieldOf Tryd.prog 18 0 = some (17, 0) := by kernel_rfl
@[go_sem] theorem Tryd.ty.fp0_18 : fieldPl Tryd.prog 18 0 = some (0, 1) := by kernel_rfl
@[go_sem] theorem Tryd.ty.bk18 : buildOk Tryd.prog 18 = true := by kernel_rfl
@[go_sem] theorem Tryd.ty.sz21 : szOf Tryd.prog 21 = some 1 := by kernel_rfl
@[go_sem] theorem Tryd.ty.by21 : bytesIn Tryd.prog 21 = some 4 := by kernel_rfl
@[go_sem] theorem Tryd.ty.ag21 : aggOf Tryd.prog 21 = some false := by kernel_rfl
@[go_sem] theorem Tryd.ty.zr21 : zeroOf Tryd.prog 21 = some [.val (.int .i32 0)] := by kernel_rfl
@[go_sem] theorem Tryd.ty.el21 : elemOfSlice Tryd.prog 21 = none := by kernel_rfl
@[go_sem] theorem Tryd.ty.ar21 : arrayOf Tryd.prog 21 = none := by kernel_rfl
@[go_sem] theorem Tryd.ty.st21 : isStr Tryd.prog 21 = false := by kernel_rfl
@[go_sem] theorem Tryd.ty.bo21 : isBool Tryd.prog 21 = false := by kernel_rfl
@[go_sem] theorem Tryd.ty.ki21 : kindOf Tryd.prog 21 = some .i32 := by kernel_rfl
@[go_sem] theorem Tryd.ty.if21 : isIface Tryd.prog 21 = some false := by kernel_rfl
@[go_sem] theorem Tryd.ty.un21 : Tryd.prog.underlying 21 = some (.int .i32) := by kernel_rfl
@[go_sem] theorem Tryd.ty.sz22 : szOf Tryd.prog 22 = some 1 := by kernel_rfl
@[go_sem] theorem Tryd.ty.by22 : bytesIn Tryd.prog 22 = some 24 := by kernel_rfl
@[go_sem] theorem Tryd.ty.ag22 : aggOf Tryd.prog 22 = some false := by kernel_rfl
@[go_sem] theorem Tryd.ty.zr22 : zeroOf Tryd.prog 22 = some [.val (.slice none 0 0)] := by kernel_rfl
@[go_sem] theorem Tryd.ty.el22 : elemOfSlice Tryd.prog 22 = some 3 := by kernel_rfl
@[go_sem] theorem Tryd.ty.ar22 : arrayOf Tryd.prog 22 = none := by kernel_rfl
@[go_sem] theorem Tryd.ty.st22 : isStr Tryd.prog 22 = false := by kernel_rfl
@[go_sem] theorem Tryd.ty.bo22 : isBool Tryd.prog 22 = false := by kernel_rfl
@[go_sem] theorem Tryd.ty.ki22 : kindOf Tryd.prog 22 = none := by kernel_rfl
@[go_sem] theorem Tryd.ty.if22 : isIface Tryd.prog 22 = some false := by kernel_rfl
@[go_sem] theorem Tryd.ty.un22 : Tryd.prog.underlying 22 = some (.slice 3) := by kernel_rfl
@[go_sem] theorem Tryd.ty.sz23 : szOf Tryd.prog 23 = some 1 := by kernel_rfl
@[go_sem] theorem Tryd.ty.by23 : bytesIn Tryd.prog 23 = some 8 := by kernel_rfl
@[go_sem] theorem Tryd.ty.ag23 : aggOf Tryd.prog 23 = some false := by kernel_rfl
@[go_sem] theorem Tryd.ty.zr23 : zeroOf Tryd.prog 23 = some [.val .nilFunc] := by kernel_rfl
@[go_sem] theorem Tryd.ty.el23 : elemOfSlice Tryd.prog 23 = none := by kernel_rfl
@[go_sem] theorem Tryd.ty.ar23 : arrayOf Tryd.prog 23 = none := by kernel_rfl
@[go_sem] theorem Tryd.ty.st23 : isStr Tryd.prog 23 = false := by kernel_rfl
@[go_sem] theorem Tryd.ty.bo23 : isBool Tryd.prog 23 = false := by kernel_rfl
@[go_sem] theorem Tryd.ty.ki23 : kindOf Tryd.prog 23 = none := by kernel_rfl
@[go_sem] theorem Tryd.ty.if23 : isIface Tryd.prog 23 = some false := by kernel_rfl
@[go_sem] theorem Tryd.ty.sz24 : szOf Tryd.prog 24 = some 1 := by kernel_rfl
@[go_sem] theorem Tryd.ty.by24 : bytesIn Tryd.prog 24 = some 8 := by kernel_rfl
@[go_sem] theorem Tryd.ty.ag24 : aggOf Tryd.prog 24 = some false := by kernel_rfl
@[go_sem] theorem Tryd.ty.zr24 : zeroOf Tryd.prog 24 = some [.val .nilFunc] := by kernel_rfl
@[go_sem] theorem Tryd.ty.el24 : elemOfSlice Tryd.prog 24 = none := by kernel_rfl
@[go_sem] theorem Tryd.ty.ar24 : arrayOf Tryd.prog 24 = none := by kernel_rfl
@[go_sem] theorem Tryd.ty.st24 : isStr Tryd.prog 24 = false := by kernel_rfl
@[go_sem] theorem Tryd.ty.bo24 : isBool Tryd.prog 24 = false := by kernel_rfl
@[go_sem] theorem Tryd.ty.ki24 : kindOf Tryd.prog 24 = none := by kernel_rfl
@[go_sem] theorem Tryd.ty.if24 : isIface Tryd.prog 24 = some false := by kernel_rfl
@[go_sem] theorem Tryd.ty.sz25 : szOf Tryd.prog 25 = some 1 := by kernel_rfl
@[go_sem] theorem Tryd.ty.by25 : bytesIn Tryd.prog 25 = some 8 := by kernel_rfl
@[go_sem] theorem Tryd.ty.ag25 : aggOf Tryd.prog 25 = some false := by kernel_rfl
@[go_sem] theorem Tryd.ty.zr25 : zeroOf Tryd.prog 25 = some [.val .nilFunc] := by kernel_rfl
@[go_sem] theorem Tryd.ty.el25 : elemOfSlice Tryd.prog 25 = none := by kernel_rfl
@[go_sem] theorem Tryd.ty.ar25 : arrayOf Tryd.prog 25 = none := by kernel_rfl
@[go_sem] theorem Tryd.ty.st25 : isStr Tryd.prog 25 = false := by kernel_rfl
@[go_sem] theorem Tryd.ty.bo25 : isBool Tryd.prog 25 = false := by kernel_rfl
@[go_sem] theorem Tryd.ty.ki25 : kindOf Tryd.prog 25 = none := by kernel_rfl
@[go_sem] theorem Tryd.ty.if25 : isIface Tryd.prog 25 = some false := by kernel_rfl
@[go_sem] theorem Tryd.ty.sz26 : szOf Tryd.prog 26 = some 1 := by kernel_rfl
@[go_sem] theorem Tryd.ty.by26 : bytesIn Tryd.prog 26 = some 8 := by kernel_rfl
@[go_sem] theorem Tryd.ty.ag26 : aggOf Tryd.prog 26 = some false := by kernel_rfl
@[go_sem] theorem Tryd.ty.zr26 : zeroOf Tryd.prog 26 = some [.val .nilFunc] := by kernel_rfl
@[go_sem] theorem Tryd.ty.el26 : elemOfSlice Tryd.prog 26 = none := by kernel_rfl
@[go_sem] theorem Tryd.ty.ar26 : arrayOf Tryd.prog 26 = none := by kernel_rfl
@[go_sem] theorem Tryd.ty.st26 : isStr Tryd.prog 26 = false := by kernel_rfl
@[go_sem] theorem Tryd.ty.bo26 : isBool Tryd.prog 26 = false := by kernel_rfl
@[go_sem] theorem Tryd.ty.ki26 : kindOf Tryd.prog 26 = none := by kernel_rfl
@[go_sem] theorem Tryd.ty.if26 : isIface Tryd.prog 26 = some false := by kernel_rfl
@[go_sem] theorem Tryd.ty.sz27 : szOf Tryd.prog 27 = some 2 := by kernel_rfl
@[go_sem] theorem Tryd.ty.by27 : bytesIn Tryd.prog 27 = some 32 := by kernel_rfl
@[go_sem] theorem Tryd.ty.ag27 : aggOf Tryd.prog 27 = some true := by kernel_rfl
@[go_sem] theorem Tryd.ty.zr27 : zeroOf Tryd.prog 27 = some [.val (.slice none 0 0), .val (.int .i64 0)] := by kernel_rfl
@[go_sem] theorem Tryd.ty.el27 : elemOfSlice Tryd.prog 27 = none := by kernel_rfl
@[go_sem] theorem Tryd.ty.ar27 : arrayOf Tryd.prog 27 = none := by kernel_rfl
@[go_sem] theorem Tryd.ty.st27 : isStr Tryd.prog 27 = false := by kernel_rfl
@[go_sem] theorem Tryd.ty.bo27 : isBool Tryd.prog 27 = false := by kernel_rfl
@[go_sem] theorem Tryd.ty.ki27 : kindOf Tryd.prog 27 = none := by kernel_rfl
@[go_sem] theorem Tryd.ty.if27 : isIface Tryd.prog 27 = some false := by kernel_rfl
@[go_sem] theorem Tryd.ty.fo0_27 : fieldOf Tryd.prog 27 0 = some (22, 0) := by kernel_rfl
@[go_sem] theorem Tryd.ty.fp0_27 : fieldPl Tryd.prog 27 0 = some (0, 1) := by kernel_rfl
@[go_sem] theorem Tryd.ty.fo1_27 : fieldOf Tryd.prog 27 1 = some (3, 1) := by kernel_rfl
@[go_sem] theorem Tryd.ty.fp1_27 : fieldPl Tryd.prog 27 1 = some (1, 1) := by kernel_rfl
@[go_sem] theorem Tryd.ty.bk27 : buildOk Tryd.prog 27 = true := by kernel_rfl
@[go_sem] theorem Tryd.ty.sz28 : szOf Tryd.prog 28 = some 2 := by kernel_rfl
@[go_sem] theorem Tryd.ty.by28 : bytesIn Tryd.prog 28 = some 32 := by kernel_rfl
@[go_sem] theorem Tryd.ty.ag28 : aggOf Tryd.prog 28 = some true := by kernel_rfl
@[go_sem] theorem Tryd.ty.zr28 : zeroOf Tryd.prog 28 = some [.val (.slice none 0 0), .val (.int .i64 0)] := by kernel_rfl
@[go_sem] theorem Tryd.ty.el28 : elemOfSlice Tryd.prog 28 = none := by kernel_rfl
@[go_sem] theorem Tryd.ty.ar28 : arrayOf Tryd.prog 28 = none := by kernel_rfl
@[go_sem] theorem Tryd.ty.st28 : isStr Tryd.prog 28 = false := by kernel_rfl
@[go_sem] theorem Tryd.ty.bo28 : isBool Tryd.prog 28 = false := by kernel_rfl
@[go_sem] theorem Tryd.ty.ki28 : kindOf Tryd.prog 28 = none := by kernel_rfl
@[go_sem] theorem Tryd.ty.if28 : isIface Tryd.prog 28 = some false := by kernel_rfl
@[go_sem] theorem Tryd.ty.fo0_28 : fieldOf Tryd.prog 28 0 = some (22, 0) := by kernel_rfl
@[go_sem] theorem Tryd.ty.fp0_28 : fieldPl Tryd.prog 28 0 = some (0, 1) := by kernel_rfl
@[go_sem] theorem Tryd.ty.fo1_28 : fieldOf Tryd.prog 28 1 = some (3, 1) := by kernel_rfl
@[go_sem] theorem Tryd.ty.fp1_28 : fieldPl Tryd.prog 28 1 = some (1, 1) := by kernel_rfl
@[go_sem] theorem Tryd.ty.bk28 : buildOk Tryd.prog 28 = true := by kernel_rfl
@[go_sem] theorem Tryd.ty.sz29 : szOf Tryd.prog 29 = some 1 := by kernel_rfl
@[go_sem] theorem Tryd.ty.by29 : bytesIn Tryd.prog 29 = some 8 := by kernel_rfl
@[go_sem] theorem Tryd.ty.ag29 : aggOf Tryd.prog 29 = some false := by kernel_rfl
@[go_sem] theorem Tryd.ty.zr29 : zeroOf Tryd.prog 29 = some [.val .nilFunc] := by kernel_rfl
@[go_sem] theorem Tryd.ty.el29 : elemOfSlice Tryd.prog 29 = none := by kernel_rfl
@[go_sem] theorem Tryd.ty.ar29 : arrayOf Tryd.prog 29 = none := by kernel_rfl
@[go_sem] theorem Tryd.ty.st29 : isStr Tryd.prog 29 = false := by kernel_rfl
@[go_sem] theorem Tryd.ty.bo29 : isBool Tryd.prog 29 = false := by kernel_rfl
@[go_sem] theorem Tryd.ty.ki29 : kindOf Tryd.prog 29 = none := by kernel_rfl
@[go_sem] theorem Tryd.ty.if29 : isIface Tryd.prog 29 = some false := by kernel_rfl
@[go_sem] theorem Tryd.ty.sz30 : szOf Tryd.prog 30 = some 1 := by kernel_rfl
@[go_sem] theorem Tryd.ty.by30 : bytesIn Tryd.prog 30 = some 8 := by kernel_rfl
@[go_sem] theorem Tryd.ty.ag30 : aggOf Tryd.prog 30 = some false := by kernel_rfl
@[go_sem] theorem Tryd.ty.zr30 : zeroOf Tryd.prog 30 = some [.val .nilFunc] := by kernel_rfl
@[go_sem] theorem Tryd.ty.el30 : elemOfSlice Tryd.prog 30 = none := by kernel_rfl
@[go_sem] theorem Tryd.ty.ar30 : arrayOf Tryd.prog 30 = none := by kernel_rfl
@[go_sem] theorem Tryd.ty.st30 : isStr Tryd.prog 30 = false := by kernel_rfl
@[go_sem] theorem Tryd.ty.bo30 : isBool Tryd.prog 30 = false := by kernel_rfl
@[go_sem] theorem Tryd.ty.ki30 : kindOf Tryd.prog 30 = none := by kernel_rfl
@[go_sem] theorem Tryd.ty.if30 : isIface Tryd.prog 30 = some false := by kernel_rfl
@[go_sem] theorem Tryd.ty.sz31 : szOf Tryd.prog 31 = some 2 := by kernel_rfl
@[go_sem] theorem Tryd.ty.by31 : bytesIn Tryd.prog 31 = some 32 := by kernel_rfl
@[go_sem] theorem Tryd.ty.ag31 : aggOf Tryd.prog 31 = some true := by kernel_rfl
@[go_sem] theorem Tryd.ty.zr31 : zeroOf Tryd.prog 31 = some [.val (.slice none 0 0), .val (.int .i64 0)] := by kernel_rfl
@[go_sem] theorem Tryd.ty.el31 : elemOfSlice Tryd.prog 31 = none := by kernel_rfl
@[go_sem] theorem Tryd.ty.ar31 : arrayOf Tryd.prog 31 = none := by kernel_rfl
@[go_sem] theorem Tryd.ty.st31 : isStr Tryd.prog 31 = false := by kernel_rfl
@[go_sem] theorem Tryd.ty.bo31 : isBool Tryd.prog 31 = false := by kernel_rfl
@[go_sem] theorem Tryd.ty.ki31 : kindOf Tryd.prog 31 = none := by kernel_rfl
@[go_sem] theorem Tryd.ty.if31 : isIface Tryd.prog 31 = some false := by kernel_rfl
@[go_sem] theorem Tryd.ty.fo0_31 : fieldOf Tryd.prog 31 0 = some (22, 0) := by kernel_rfl
@[go_sem] theorem Tryd.ty.fp0_31 : fieldPl Tryd.prog 31 0 = some (0, 1) := by kernel_rfl
@[go_sem] theorem Tryd.ty.fo1_31 : fieldOf Tryd.prog 31 1 = some (3, 1) := by kernel_rfl
@[go_sem] theorem Tryd.ty.fp1_31 : fieldPl Tryd.prog 31 1 = some (1, 1) := by kernel_rfl
@[go_sem] theorem Tryd.ty.bk31 : buildOk Tryd.prog 31 = true := by kernel_rfl
@[go_sem] theorem Tryd.ty.sz32 : szOf Tryd.prog 32 = some 1 := by kernel_rfl
@[go_sem] theorem Tryd.ty.by32 : bytesIn Tryd.prog 32 = some 8 := by kernel_rfl
@[go_sem] theorem Tryd.ty.ag32 : aggOf Tryd.prog 32 = some false := by kernel_rfl
@[go_sem] theorem Tryd.ty.zr32 : zeroOf Tryd.prog 32 = some [.val .nilFunc] := by kernel_rfl
@[go_sem] theorem Tryd.ty.el32 : elemOfSlice Tryd.prog 32 = none := by kernel_rfl
@[go_sem] theorem Tryd.ty.ar32 : arrayOf Tryd.prog 32 = none := by kernel_rfl
@[go_sem] theorem Tryd.ty.st32 : isStr Tryd.prog 32 = false := by kernel_rfl
@[go_sem] theorem Tryd.ty.bo32 : isBool Tryd.prog 32 = false := by kernel_rfl
@[go_sem] theorem Tryd.ty.ki32 : kindOf Tryd.prog 32 = none := by kernel_rfl
@[go_sem] theorem Tryd.ty.if32 : isIface Tryd.prog 32 = some false := by kernel_rfl
@[go_sem] theorem Tryd.ty.sz33 : szOf Tryd.prog 33 = some 1 := by kernel_rfl
@[go_sem] theorem Tryd.ty.by33 : bytesIn Tryd.prog 33 = some 8 := by kernel_rfl
@[go_sem] theorem Tryd.ty.ag33 : aggOf Tryd.prog 33 = some false := by kernel_rfl
@[go_sem] theorem Tryd.ty.zr33 : zeroOf Tryd.prog 33 = some [.val .nilFunc] := by kernel_rfl
@[go_sem] theorem Tryd.ty.el33 : elemOfSlice Tryd.prog 33 = none := by kernel_rfl
@[go_sem] theorem Tryd.ty.ar33 : arrayOf Tryd.prog 33 = none := by kernel_rfl
@[go_sem] theorem Tryd.ty.st33 : isStr Tryd.prog 33 = false := by kernel_rfl
@[go_sem] theorem Tryd.ty.bo33 : isBool Tryd.prog 33 = false := by kernel_rfl
@[go_sem] theorem Tryd.ty.ki33 : kindOf Tryd.prog 33 = none := by kernel_rfl
@[go_sem] theorem Tryd.ty.if33 : isIface Tryd.prog 33 = some false := by kernel_rfl
@[go_sem] theorem Tryd.ty.sz34 : szOf Tryd.prog 34 = some 1 := by kernel_rfl
@[go_sem] theorem Tryd.ty.by34 : bytesIn Tryd.prog 34 = some 8 := by kernel_rfl
@[go_sem] theorem Tryd.ty.ag34 : aggOf Tryd.prog 34 = some false := by kernel_rfl
@[go_sem] theorem Tryd.ty.zr34 : zeroOf Tryd.prog 34 = some [.val .nilFunc] := by kernel_rfl
@[go_sem] theorem Tryd.ty.el34 : elemOfSlice Tryd.prog 34 = none := by kernel_rfl
@[go_sem] theorem Tryd.ty.ar34 : arrayOf Tryd.prog 34 = none := by kernel_rfl
@[go_sem] theorem Tryd.ty.st34 : isStr Tryd.prog 34 = false := by kernel_rfl
@[go_sem] theorem Tryd.ty.bo34 : isBool Tryd.prog 34 = false := by kernel_rfl
@[go_sem] theorem Tryd.ty.ki34 : kindOf Tryd.prog 34 = none := by kernel_rfl
@[go_sem] theorem Tryd.ty.if34 : isIface Tryd.prog 34 = some false := by kernel_rfl
@[go_sem] theorem Tryd.ty.sz35 : szOf Tryd.prog 35 = some 1 := by kernel_rfl
@[go_sem] theorem Tryd.ty.by35 : bytesIn Tryd.prog 35 = some 24 := by kernel_rfl
@[go_sem] theorem Tryd.ty.ag35 : aggOf Tryd.prog 35 = some false := by kernel_rfl
@[go_sem] theorem Tryd.ty.zr35 : zeroOf Tryd.prog 35 = some [.val (.slice none 0 0)] := by kernel_rfl
@[go_sem] theorem Tryd.ty.el35 : elemOfSlice Tryd.prog 35 = some 22 := by kernel_rfl
@[go_sem] theorem Tryd.ty.ar35 : arrayOf Tryd.prog 35 = none := by kernel_rfl
@[go_sem] theorem Tryd.ty.st35 : isStr Tryd.prog 35 = false := by kernel_rfl
@[go_sem] theorem Tryd.ty.bo35 : isBool Tryd.prog 35 = false := by kernel_rfl
@[go_sem] theorem Tryd.ty.ki35 : kindOf Tryd.prog 35 = none := by kernel_rfl
@[go_sem] theorem Tryd.ty.if35 : isIface Tryd.prog 35 = some false := by kernel_rfl
@[go_sem] theorem Tryd.ty.un35 : Tryd.prog.underlying 35 = some (.slice 22) := by kernel_rfl
@[go_sem] theorem Tryd.ty.sz36 : szOf Tryd.prog 36 = some 1 := by kernel_rfl
@[go_sem] theorem Tryd.ty.by36 : bytesIn Tryd.prog 36 = some 8 := by kernel_rfl
@[go_sem] theorem Tryd.ty.ag36 : aggOf Tryd.prog 36 = some false := by kernel_rfl
@[go_sem] theorem Tryd.ty.zr36 : zeroOf Tryd.prog 36 = some [.val .nilFunc] := by kernel_rfl
@[go_sem] theorem Tryd.ty.el36 : elemOfSlice Tryd.prog 36 = none := by kernel_rfl
@[go_sem] theorem Tryd.ty.ar36 : arrayOf Tryd.prog 36 = none := by kernel_rfl
@[go_sem] theorem Tryd.ty.st36 : isStr Tryd.prog 36 = false := by kernel_rfl
@[go_sem] theorem Tryd.ty.bo36 : isBool Tryd.prog 36 = false := by kernel_rfl
@[go_sem] theorem Tryd.ty.ki36 : kindOf Tryd.prog 36 = none := by kernel_rfl
@[go_sem] theorem Tryd.ty.if36 : isIface Tryd.prog 36 = some false := by kernel_rfl
@[go_sem] theorem Tryd.ty.sz37 : szOf Tryd.prog 37 = some 1 := by kernel_rfl
@[go_sem] theorem Tryd.ty.by37 : bytesIn Tryd.prog 37 = some 8 := by kernel_rfl
@[go_sem] theorem Tryd.ty.ag37 : aggOf Tryd.prog 37 = some false := by kernel_rfl
@[go_sem] theorem Tryd.ty.zr37 : zeroOf Tryd.prog 37 = some [.val .nilFunc] := by kernel_rfl
@[go_sem] theorem Tryd.ty.el37 : elemOfSlice Tryd.prog 37 = none := by kernel_rfl
@[go_sem] theorem Tryd.ty.ar37 : arrayOf Tryd.prog 37 = none := by kernel_rfl
@[go_sem] theorem Tryd.ty.st37 : isStr Tryd.prog 37 = false := by kernel_rfl
@[go_sem] theorem Tryd.ty.bo37 : isBool Tryd.prog 37 = false := by kernel_rfl
@[go_sem] theorem Tryd.ty.ki37 : kindOf Tryd.prog 37 = none := by kernel_rfl
@[go_sem] theorem Tryd.ty.if37 : isIface Tryd.prog 37 = some false := by kernel_rfl
@[go_sem] theorem Tryd.ty.sz38 : szOf Tryd.prog 38 = some 1 := by kernel_rfl
@[go_sem] theorem Tryd.ty.by38 : bytesIn Tryd.prog 38 = some 8 := by kernel_rfl
@[go_sem] theorem Tryd.ty.ag38 : aggOf Tryd.prog 38 = some false := by kernel_rfl
@[go_sem] theorem Tryd.ty.zr38 : zeroOf Tryd.prog 38 = some [.val .nilFunc] := by kernel_rfl
@[go_sem] theorem Tryd.ty.el38 : elemOfSlice Tryd.prog 38 = none := by kernel_rfl
@[go_sem] theorem Tryd.ty.ar38 : arrayOf Tryd.prog 38 = none := by kernel_rfl
@[go_sem] theorem Tryd.ty.st38 : isStr Tryd.prog 38 = false := by kernel_rfl
@[go_sem] theorem Tryd.ty.bo38 : isBool Tryd.prog 38 = false := by kernel_rfl
@[go_sem] theorem Tryd.ty.ki38 : kindOf Tryd.prog 38 = none := by kernel_rfl
@[go_sem] theorem Tryd.ty.if38 : isIface Tryd.prog 38 = some false := by kernel_rfl
@[go_sem] theorem Tryd.ty.sz39 : szOf Tryd.prog 39 = some 1 := by kernel_rfl
@[go_sem] theorem Tryd.ty.by39 : bytesIn Tryd.prog 39 = some 8 := by kernel_rfl
@[go_sem] theorem Tryd.ty.ag39 : aggOf Tryd.prog 39 = some false := by kernel_rfl
@[go_sem] theorem Tryd.ty.zr39 : zeroOf Tryd.prog 39 = some [.val .nilFunc] := by kernel_rfl
@[go_sem] theorem Tryd.ty.el39 : elemOfSlice Tryd.prog 39 = none := by kernel_rfl
@[go_sem] theorem Tryd.ty.ar39 : arrayOf Tryd.prog 39 = none := by kernel_rfl
@[go_sem] theorem Tryd.ty.st39 : isStr Tryd.prog 39 = false := by kernel_rfl
@[go_sem] theorem Tryd.ty.bo39 : isBool Tryd.prog 39 = false := by kernel_rfl
@[go_sem] theorem Tryd.ty.ki39 : kindOf Tryd.prog 39 = none := by kernel_rfl
@[go_sem] theorem Tryd.ty.if39 : isIface Tryd.prog 39 = some false := by kernel_rfl
@[go_sem] theorem Tryd.ty.sz40 : szOf Tryd.prog 40 = some 1 := by kernel_rfl
@[go_sem] theorem Tryd.ty.by40 : bytesIn Tryd.prog 40 = some 8 := by kernel_rfl
@[go_sem] theorem Tryd.ty.ag40 : aggOf Tryd.prog 40 = some false := by kernel_rfl
@[go_sem] theorem Tryd.ty.zr40 : zeroOf Tryd.prog 40 = some [.val .nilFunc] := by kernel_rfl
@[go_sem] theorem Tryd.ty.el40 : elemOfSlice Tryd.prog 40 = none := by kernel_rfl
@[go_sem] theorem Tryd.ty.ar40 : arrayOf Tryd.prog 40 = none := by kernel_rfl
@[go_sem] theorem Tryd.ty.st40 : isStr Tryd.prog 40 = false := by kernel_rfl
@[go_sem] theorem Tryd.ty.bo40 : isBool Tryd.prog 40 = false := by kernel_rfl
@[go_sem] theorem Tryd.ty.ki40 : kindOf Tryd.prog 40 = none := by kernel_rfl
@[go_sem] theorem Tryd.ty.if40 : isIface Tryd.prog 40 = some false := by kernel_rfl
@[go_sem] theorem Tryd.ty.sz42 : szOf Tryd.prog 42 = some 1 := by kernel_rfl
@[go_sem] theorem Tryd.ty.by42 : bytesIn Tryd.prog 42 = some 8 := by kernel_rfl
@[go_sem] theorem Tryd.ty.ag42 : aggOf Tryd.prog 42 = some false := by kernel_rfl
@[go_sem] theorem Tryd.ty.zr42 : zeroOf Tryd.prog 42 = some [.val .nilFunc] := by kernel_rfl
@[go_sem] theorem Tryd.ty.el42 : elemOfSlice Tryd.prog 42 = none := by kernel_rfl
@[go_sem] theorem Tryd.ty.ar42 : arrayOf Tryd.prog 42 = none := by kernel_rfl
@[go_sem] theorem Tryd.ty.st42 : isStr Tryd.prog 42 = false := by kernel_rfl
@[go_sem] theorem Tryd.ty.bo42 : isBool Tryd.prog 42 = false := by kernel_rfl
@[go_sem] theorem Tryd.ty.ki42 : kindOf Tryd.prog 42 = none := by kernel_rfl
@[go_sem] theorem Tryd.ty.if42 : isIface Tryd.prog 42 = some false := by kernel_rfl
@[go_sem] theorem Tryd.ty.sz43 : szOf Tryd.prog 43 = some 1 := by kernel_rfl
@[go_sem] theorem Tryd.ty.by43 : bytesIn Tryd.prog 43 = some 8 := by kernel_rfl
@[go_sem] theorem Tryd.ty.ag43 : aggOf Tryd.prog 43 = some false := by kernel_rfl
@[go_sem] theorem Tryd.ty.zr43 : zeroOf Tryd.prog 43 = some [.val .nilFunc] := by kernel_rfl
@[go_sem] theorem Tryd.ty.el43 : elemOfSlice Tryd.prog 43 = none := by kernel_rfl
@[go_sem] theorem Tryd.ty.ar43 : arrayOf Tryd.prog 43 = none := by kernel_rfl
@[go_sem] theorem Tryd.ty.st43 : isStr Tryd.prog 43 = false := by kernel_rfl
@[go_sem] theorem Tryd.ty.bo43 : isBool Tryd.prog 43 = false := by kernel_rfl
@[go_sem] theorem Tryd.ty.ki43 : kindOf Tryd.prog 43 = none := by kernel_rfl
@[go_sem] theorem Tryd.ty.if43 : isIface Tryd.prog 43 = some false := by kernel_rfl
@[go_sem] theorem Tryd.ty.sz44 : szOf Tryd.prog 44 = some 1 := by kernel_rfl
@[go_sem] theorem Tryd.ty.by44 : bytesIn Tryd.prog 44 = some 8 := by kernel_rfl
@[go_sem] theorem Tryd.ty.ag44 : aggOf Tryd.prog 44 = some false := by kernel_rfl
@[go_sem] theorem Tryd.ty.zr44 : zeroOf Tryd.prog 44 = some [.val .nilFunc] := by kernel_rfl
@[go_sem] theorem Tryd.ty.el44 : elemOfSlice Tryd.prog 44 = none := by kernel_rfl
@[go_sem] theorem Tryd.ty.ar44 : arrayOf Tryd.prog 44 = none := by kernel_rfl
@[go_sem] theorem Tryd.ty.st44 : isStr Tryd.prog 44 = false := by kernel_rfl
@[go_sem] theorem Tryd.ty.bo44 : isBool Tryd.prog 44 = false := by kernel_rfl
@[go_sem] theorem Tryd.ty.ki44 : kindOf Tryd.prog 44 = none := by kernel_rfl
@[go_sem] theorem Tryd.ty.if44 : isIface Tryd.prog 44 = some false := by kernel_rfl
@[go_sem] theorem Tryd.ty.sz46 : szOf Tryd.prog 46 = some 1 := by kernel_rfl
@[go_sem] theorem Tryd.ty.by46 : bytesIn Tryd.prog 46 = some 8 := by kernel_rfl
@[go_sem] theorem Tryd.ty.ag46 : aggOf Tryd.prog 46 = some false := by kernel_rfl
@[go_sem] theorem Tryd.ty.zr46 : zeroOf Tryd.prog 46 = some [.val .nilFunc] := by kernel_rfl
@[go_sem] theorem Tryd.ty.el46 : elemOfSlice Tryd.prog 46 = none := by kernel_rfl
@[go_sem] theorem Tryd.ty.ar46 : arrayOf Tryd.prog 46 = none := by kernel_rfl
@[go_sem] theorem Tryd.ty.st46 : isStr Tryd.prog 46 = false := by kernel_rfl
@[go_sem] theorem Tryd.ty.bo46 : isBool Tryd.prog 46 = false := by kernel_rfl
@[go_sem] theorem Tryd.ty.ki46 : kindOf Tryd.prog 46 = none := by kernel_rfl
@[go_sem] theorem Tryd.ty.if46 : isIface Tryd.prog 46 = some false := by kernel_rfl
@[go_sem] theorem Tryd.ty.sz47 : szOf Tryd.prog 47 = some 1 := by kernel_rfl
@[go_sem] theorem Tryd.ty.by47 : bytesIn Tryd.prog 47 = some 8 := by kernel_rfl
@[go_sem] theorem Tryd.ty.ag47 : aggOf Tryd.prog 47 = some false := by kernel_rfl
@[go_sem] theorem Tryd.ty.zr47 : zeroOf Tryd.prog 47 = some [.val .nilFunc] := by kernel_rfl
@[go_sem] theorem Tryd.ty.el47 : elemOfSlice Tryd.prog 47 = none := by kernel_rfl
@[go_sem] theorem Tryd.ty.ar47 : arrayOf Tryd.prog 47 = none := by kernel_rfl
@[go_sem] theorem Tryd.ty.st47 : isStr Tryd.prog 47 = false := by kernel_rfl
@[go_sem] theorem Tryd.ty.bo47 : isBool Tryd.prog 47 = false := by kernel_rfl
@[go_sem] theorem Tryd.ty.ki47 : kindOf Tryd.prog 47 = none := by kernel_rfl
@[go_sem] theorem Tryd.ty.if47 : isIface Tryd.prog 47 = some false := by kernel_rfl
@[go_sem] theorem Tryd.ty.sz48 : szOf Tryd.prog 48 = some 1 := by kernel_rfl
@[go_sem] theorem Tryd.ty.by48 : bytesIn Tryd.prog 48 = some 24 := by kernel_rfl
@[go_sem] theorem Tryd.ty.ag48 : aggOf Tryd.prog 48 = some false := by kernel_rfl
@[go_sem] theorem Tryd.ty.zr48 : zeroOf Tryd.prog 48 = some [.val (.slice none 0 0)] := by kernel_rfl
@[go_sem] theorem Tryd.ty.el48 : elemOfSlice Tryd.prog 48 = some 5 := by kernel_rfl
@[go_sem] theorem Tryd.ty.ar48 : arrayOf Tryd.prog 48 = none := by kernel_rfl
@[go_sem] theorem Tryd.ty.st48 : isStr Tryd.prog 48 = false := by kernel_rfl
@[go_sem] theorem Tryd.ty.bo48 : isBool Tryd.prog 48 = false := by kernel_rfl
@[go_sem] theorem Tryd.ty.ki48 : kindOf Tryd.prog 48 = none := by kernel_rfl
@[go_sem] theorem Tryd.ty.if48 : isIface Tryd.prog 48 = some false := by kernel_rfl
@[go_sem] theorem Tryd.ty.un48 : Tryd.prog.underlying 48 = some (.slice 5) := by kernel_rfl
@[go_sem] theorem Tryd.ty.sz49 : szOf Tryd.prog 49 = some 1 := by kernel_rfl
@[go_sem] theorem Tryd.ty.by49 : bytesIn Tryd.prog 49 = some 8 := by kernel_rfl
@[go_sem] theorem Tryd.ty.ag49 : aggOf Tryd.prog 49 = some false := by kernel_rfl
@[go_sem] theorem Tryd.ty.zr49 : zeroOf Tryd.prog 49 = some [.val .nilFunc] := by kernel_rfl
@[go_sem] theorem Tryd.ty.el49 : elemOfSlice Tryd.prog 49 = none := by kernel_rfl
@[go_sem] theorem Tryd.ty.ar49 : arrayOf Tryd.prog 49 = none := by kernel_rfl
@[go_sem] theorem Tryd.ty.st49 : isStr Tryd.prog 49 = false := by kernel_rfl
@[go_sem] theorem Tryd.ty.bo49 : isBool Tryd.prog 49 = false := by kernel_rfl
@[go_sem] theorem Tryd.ty.ki49 : kindOf Tryd.prog 49 = none := by kernel_rfl
@[go_sem] theorem Tryd.ty.if49 : isIface Tryd.prog 49 = some false := by kernel_rfl
@[go_sem] theorem Tryd.ty.sz51 : szOf Tryd.prog 51 = some 1 := by kernel_rfl
@[go_sem] theorem Tryd.ty.by51 : bytesIn Tryd.prog 51 = some 8 := by kernel_rfl
@[go_sem] theorem Tryd.ty.ag51 : aggOf Tryd.prog 51 = some false := by kernel_rfl
@[go_sem] theorem Tryd.ty.zr51 : zeroOf Tryd.prog 51 = some [.val .nilFunc] := by kernel_rfl
@[go_sem] theorem Tryd.ty.el51 : elemOfSlice Tryd.prog 51 = none := by kernel_rfl
@[go_sem] theorem Tryd.ty.ar51 : arrayOf Tryd.prog 51 = none := by kernel_rfl
@[go_sem] theorem Tryd.ty.st51 : isStr Tryd.prog 51 = false := by kernel_rfl
@[go_sem] theorem Tryd.ty.bo51 : isBool Tryd.prog 51 = false := by kernel_rfl
@[go_sem] theorem Tryd.ty.ki51 : kindOf Tryd.prog 51 = none := by kernel_rfl
@[go_sem] theorem Tryd.ty.if51 : isIface Tryd.prog 51 = some false := by kernel_rfl
@[go_sem] theorem Tryd.ty.sz52 : szOf Tryd.prog 52 = some 1 := by kernel_rfl
@[go_sem] theorem Tryd.ty.by52 : bytesIn Tryd.prog 52 = some 8 := by kernel_rfl
@[go_sem] theorem Tryd.ty.ag52 : aggOf Tryd.prog 52 = some false := by kernel_rfl
@[go_sem] theorem Tryd.ty.zr52 : zeroOf Tryd.prog 52 = some [.val .nilFunc] := by kernel_rfl
@[go_sem] theorem Tryd.ty.el52 : elemOfSlice Tryd.prog 52 = none := by kernel_rfl
@[go_sem] theorem Tryd.ty.ar52 : arrayOf Tryd.prog 52 = none := by kernel_rfl
@[go_sem] theorem Tryd.ty.st52 : isStr Tryd.prog 52 = false := by kernel_rfl
@[go_sem] theorem Tryd.ty.bo52 : isBool Tryd.prog 52 = false := by kernel_rfl
@[go_sem] theorem Tryd.ty.ki52 : kindOf Tryd.prog 52 = none := by kernel_rfl
@[go_sem] theorem Tryd.ty.if52 : isIface Tryd.prog 52 = some false := by kernel_rfl
@[go_sem] theorem Tryd.ty.sz53 : szOf Tryd.prog 53 = some 1 := by kernel_rfl
@[go_sem] theorem Tryd.ty.by53 : bytesIn Tryd.prog 53 = some 8 := by kernel_rfl
@[go_sem] theorem Tryd.ty.ag53 : aggOf Tryd.prog 53 = some false := by kernel_rfl
@[go_sem] theorem Tryd.ty.zr53 : zeroOf Tryd.prog 53 = some [.val .nilFunc] := by kernel_rfl
@[go_sem] theorem Tryd.ty.el53 : elemOfSlice Tryd.prog 53 = none := by kernel_rfl
@[go_sem] theorem Tryd.ty.ar53 : arrayOf Tryd.prog 53 = none := by kernel_rfl
@[go_sem] theorem Tryd.ty.st53 : isStr Tryd.prog 53 = false := by kernel_rfl
@[go_sem] theorem Tryd.ty.bo53 : isBool Tryd.prog 53 = false := by kernel_rfl
@[go_sem] theorem Tryd.ty.ki53 : kindOf Tryd.prog 53 = none := by kernel_rfl
@[go_sem] theorem Tryd.ty.if53 : isIface Tryd.prog 53 = some false := by kernel_rfl
@[go_sem] theorem Tryd.ty.sz55 : szOf Tryd.prog 55 = some 1 := by kernel_rfl
@[go_sem] theorem Tryd.ty.by55 : bytesIn Tryd.prog 55 = some 8 := by kernel_rfl
@[go_sem] theorem Tryd.ty.ag55 : aggOf Tryd.prog 55 = some false := by kernel_rfl
@[go_sem] theorem Tryd.ty.zr55 : zeroOf Tryd.prog 55 = some [.val .nilFunc] := by kernel_rfl
@[go_sem] theorem Tryd.ty.el55 : elemOfSlice Tryd.prog 55 = none := by kernel_rfl
@[go_sem] theorem Tryd.ty.ar55 : arrayOf Tryd.prog 55 = none := by kernel_rfl
@[go_sem] theorem Tryd.ty.st55 : isStr Tryd.prog 55 = false := by kernel_rfl
@[go_sem] theorem Tryd.ty.bo55 : isBool Tryd.prog 55 = false := by kernel_rfl
@[go_sem] theorem Tryd.ty.ki55 : kindOf Tryd.prog 55 = none := by kernel_rfl
@[go_sem] theorem Tryd.ty.if55 : isIface Tryd.prog 55 = some false := by kernel_rfl
@[go_sem] theorem Tryd.ty.sz56 : szOf Tryd.prog 56 = some 1 := by kernel_rfl
@[go_sem] theorem Tryd.ty.by56 : bytesIn Tryd.prog 56 = some 8 := by kernel_rfl
@[go_sem] theorem Tryd.ty.ag56 : aggOf Tryd.prog 56 = some false := by kernel_rfl
@[go_sem] theorem Tryd.ty.zr56 : zeroOf Tryd.prog 56 = some [.val .nilFunc] := by kernel_rfl
@[go_sem] theorem Tryd.ty.el56 : elemOfSlice Tryd.prog 56 = none := by kernel_rfl
@[go_sem] theorem Tryd.ty.ar56 : arrayOf Tryd.prog 56 = none := by kernel_rfl
@[go_sem] theorem Tryd.ty.st56 : isStr Tryd.prog 56 = false := by kernel_rfl
@[go_sem] theorem Tryd.ty.bo56 : isBool Tryd.prog 56 = false := by kernel_rfl
@[go_sem] theorem Tryd.ty.ki56 : kindOf Tryd.prog 56 = none := by kernel_rfl
@[go_sem] theorem Tryd.ty.if56 : isIface Tryd.prog 56 = some false := by kernel_rfl
@[go_sem] theorem Tryd.ty.sz57 : szOf Tryd.prog 57 = some 1 := by kernel_rfl
@[go_sem] theorem Tryd.ty.by57 : bytesIn Tryd.prog 57 = some 8 := by kernel_rfl
@[go_sem] theorem Tryd.ty.ag57 : aggOf Tryd.prog 57 = some false := by kernel_rfl
@[go_sem] theorem Tryd.ty.zr57 : zeroOf Tryd.prog 57 = some [.val .nilFunc] := by kernel_rfl
@[go_sem] theorem Tryd.ty.el57 : elemOfSlice Tryd.prog 57 = none := by kernel_rfl
@[go_sem] theorem Tryd.ty.ar57 : arrayOf Tryd.prog 57 = none := by kernel_rfl
@[go_sem] theorem Tryd.ty.st57 : isStr Tryd.prog 57 = false := by kernel_rfl
@[go_sem] theorem Tryd.ty.bo57 : isBool Tryd.prog 57 = false := by kernel_rfl
@[go_sem] theorem Tryd.ty.ki57 : kindOf Tryd.prog 57 = none := by kernel_rfl
@[go_sem] theorem Tryd.ty.if57 : isIface Tryd.prog 57 = some false := by kernel_rfl
@[go_sem] theorem Tryd.ty.sz58 : szOf Tryd.prog 58 = some 1 := by kernel_rfl
@[go_sem] theorem Tryd.ty.by58 : bytesIn Tryd.prog 58 = some 24 := by kernel_rfl
@[go_sem] theorem Tryd.ty.ag58 : aggOf Tryd.prog 58 = some false := by kernel_rfl
@[go_sem] theorem Tryd.ty.zr58 : zeroOf Tryd.prog 58 = some [.val (.slice none 0 0)] := by kernel_rfl
@[go_sem] theorem Tryd.ty.el58 : elemOfSlice Tryd.prog 58 = some 9 := by kernel_rfl
@[go_sem] theorem Tryd.ty.ar58 : arrayOf Tryd.prog 58 = none := by kernel_rfl
@[go_sem] theorem Tryd.ty.st58 : isStr Tryd.prog 58 = false := by kernel_rfl
@[go_sem] theorem Tryd.ty.bo58 : isBool Tryd.prog 58 = false := by kernel_rfl
@[go_sem] theorem Tryd.ty.ki58 : kindOf Tryd.prog 58 = none := by kernel_rfl
@[go_sem] theorem Tryd.ty.if58 : isIface Tryd.prog 58 = some false := by kernel_rfl
@[go_sem] theorem Tryd.ty.un58 : Tryd.prog.underlying 58 = some (.slice 9) := by kernel_rfl
@[go_sem] theorem Tryd.ty.sz59 : szOf Tryd.prog 59 = some 1 := by kernel_rfl
@[go_sem] theorem Tryd.ty.by59 : bytesIn Tryd.prog 59 = some 8 := by kernel_rfl
@[go_sem] theorem Tryd.ty.ag59 : aggOf Tryd.prog 59 = some false := by kernel_rfl
@[go_sem] theorem Tryd.ty.zr59 : zeroOf Tryd.prog 59 = some [.val .nilFunc] := by kernel_rfl
@[go_sem] theorem Tryd.ty.el59 : elemOfSlice Tryd.prog 59 = none := by kernel_rfl
@[go_sem] theorem Tryd.ty.ar59 : arrayOf Tryd.prog 59 = none := by kernel_rfl
@[go_sem] theorem Tryd.ty.st59 : isStr Tryd.prog 59 = false := by kernel_rfl
@[go_sem] theorem Tryd.ty.bo59 : isBool Tryd.prog 59 = false := by kernel_rfl
@[go_sem] theorem Tryd.ty.ki59 : kindOf Tryd.prog 59 = none := by kernel_rfl
@[go_sem] theorem Tryd.ty.if59 : isIface Tryd.prog 59 = some false := by kernel_rfl
@[go_sem] theorem Tryd.ty.sz60 : szOf Tryd.prog 60 = some 1 := by kernel_rfl
@[go_sem] theorem Tryd.ty.by60 : bytesIn Tryd.prog 60 = some 8 := by kernel_rfl
@[go_sem] theorem Tryd.ty.ag60 : aggOf Tryd.prog 60 = some false := by kernel_rfl
@[go_sem] theorem Tryd.ty.zr60 : zeroOf Tryd.prog 60 = some [.val .nilFunc] := by kernel_rfl
@[go_sem] theorem Tryd.ty.el60 : elemOfSlice Tryd.prog 60 = none := by kernel_rfl
@[go_sem] theorem Tryd.ty.ar60 : arrayOf Tryd.prog 60 = none := by kernel_rfl
@[go_sem] theorem Tryd.ty.st60 : isStr Tryd.prog 60 = false := by kernel_rfl
@[go_sem] theorem Tryd.ty.bo60 : isBool Tryd.prog 60 = false := by kernel_rfl
@[go_sem] theorem Tryd.ty.ki60 : kindOf Tryd.prog 60 = none := by kernel_rfl
@[go_sem] theorem Tryd.ty.if60 : isIface Tryd.prog 60 = some false := by kernel_rfl
@[go_sem] theorem Tryd.ty.sz61 : szOf Tryd.prog 61 = some 1 := by kernel_rfl
@[go_sem] theorem Tryd.ty.by61 : bytesIn Tryd.prog 61 = some 8 := by kernel_rfl
@[go_sem] theorem Tryd.ty.ag61 : aggOf Tryd.prog 61 = some false := by kernel_rfl
@[go_sem] theorem Tryd.ty.zr61 : zeroOf Tryd.prog 61 = some [.val .nilFunc] := by kernel_rfl
@[go_sem] theorem Tryd.ty.el61 : elemOfSlice Tryd.prog 61 = none := by kernel_rfl
@[go_sem] theorem Tryd.ty.ar61 : arrayOf Tryd.prog 61 = none := by kernel_rfl
@[go_sem] theorem Tryd.ty.st61 : isStr Tryd.prog 61 = false := by kernel_rfl
@[go_sem] theorem Tryd.ty.bo61 : isBool Tryd.prog 61 = false := by kernel_rfl
@[go_sem] theorem Tryd.ty.ki61 : kindOf Tryd.prog 61 = none := by kernel_rfl
@[go_sem] theorem Tryd.ty.if61 : isIface Tryd.prog 61 = some false := by kernel_rfl
@[go_sem] theorem Tryd.ty.sz62 : szOf Tryd.prog 62 = some 1 := by kernel_rfl
@[go_sem] theorem Tryd.ty.by62 : bytesIn Tryd.prog 62 = some 8 := by kernel_rfl
@[go_sem] theorem Tryd.ty.ag62 : aggOf Tryd.prog 62 = some false := by kernel_rfl
@[go_sem] theorem Tryd.ty.zr62 : zeroOf Tryd.prog 62 = some [.val .nilFunc] := by kernel_rfl
@[go_sem] theorem Tryd.ty.el62 : elemOfSlice Tryd.prog 62 = none := by kernel_rfl
@[go_sem] theorem Tryd.ty.ar62 : arrayOf Tryd.prog 62 = none := by kernel_rfl
@[go_sem] theorem Tryd.ty.st62 : isStr Tryd.prog 62 = false := by kernel_rfl
@[go_sem] theorem Tryd.ty.bo62 : isBool Tryd.prog 62 = false := by kernel_rfl
@[go_sem] theorem Tryd.ty.ki62 : kindOf Tryd.prog 62 = none := by kernel_rfl
@[go_sem] theorem Tryd.ty.if62 : isIface Tryd.prog 62 = some false := by kernel_rfl
@[go_sem] theorem Tryd.ty.sz63 : szOf Tryd.prog 63 = some 1 := by kernel_rfl
@[go_sem] theorem Tryd.ty.by63 : bytesIn Tryd.prog 63 = some 8 := by kernel_rfl
@[go_sem] theorem Tryd.ty.ag63 : aggOf Tryd.prog 63 = some false := by kernel_rfl
@[go_sem] theorem Tryd.ty.zr63 : zeroOf Tryd.prog 63 = some [.val .nilFunc] := by kernel_rfl
@[go_sem] theorem Tryd.ty.el63 : elemOfSlice Tryd.prog 63 = none := by kernel_rfl
@[go_sem] theorem Tryd.ty.ar63 : arrayOf Tryd.prog 63 = none := by kernel_rfl
@[go_sem] theorem Tryd.ty.st63 : isStr Tryd.prog 63 = false := by kernel_rfl
@[go_sem] theorem Tryd.ty.bo63 : isBool Tryd.prog 63 = false := by kernel_rfl
@[go_sem] theorem Tryd.ty.ki63 : kindOf Tryd.prog 63 = none := by kernel_rfl
@[go_sem] theorem Tryd.ty.if63 : isIface Tryd.prog 63 = some false := by kernel_rfl
@[go_sem] theorem Tryd.ty.sz64 : szOf Tryd.prog 64 = some 1 := by kernel_rfl
@[go_sem] theorem Tryd.ty.by64 : bytesIn Tryd.prog 64 = some 8 := by kernel_rfl
@[go_sem] theorem Tryd.ty.ag64 : aggOf Tryd.prog 64 = some false := by kernel_rfl
@[go_sem] theorem Tryd.ty.zr64 : zeroOf Tryd.prog 64 = some [.val .nilFunc] := by kernel_rfl
@[go_sem] theorem Tryd.ty.el64 : elemOfSlice Tryd.prog 64 = none := by kernel_rfl
@[go_sem] theorem Tryd.ty.ar64 : arrayOf Tryd.prog 64 = none := by kernel_rfl
@[go_sem] theorem Tryd.ty.st64 : isStr Tryd.prog 64 = false := by kernel_rfl
@[go_sem] theorem Tryd.ty.bo64 : isBool Tryd.prog 64 = false := by kernel_rfl
@[go_sem] theorem Tryd.ty.ki64 : kindOf Tryd.prog 64 = none := by kernel_rfl
@[go_sem] theorem Tryd.ty.if64 : isIface Tryd.prog 64 = some false := by kernel_rfl
@[go_sem] theorem Tryd.ty.sz65 : szOf Tryd.prog 65 = some 1 := by kernel_rfl
@[go_sem] theorem Tryd.ty.by65 : bytesIn Tryd.prog 65 = some 8 := by kernel_rfl
@[go_sem] theorem Tryd.ty.ag65 : aggOf Tryd.prog 65 = some false := by kernel_rfl
@[go_sem] theorem Tryd.ty.zr65 : zeroOf Tryd.prog 65 = some [.val .nilFunc] := by kernel_rfl
@[go_sem] theorem Tryd.ty.el65 : elemOfSlice Tryd.prog 65 = none := by kernel_rfl
@[go_sem] theorem Tryd.ty.ar65 : arrayOf Tryd.prog 65 = none := by kernel_rfl
@[go_sem] theorem Tryd.ty.st65 : isStr Tryd.prog 65 = false := by kernel_rfl
@[go_sem] theorem Tryd.ty.bo65 : isBool Tryd.prog 65 = false := by kernel_rfl
@[go_sem] theorem Tryd.ty.ki65 : kindOf Tryd.prog 65 = none := by kernel_rfl
@[go_sem] theorem Tryd.ty.if65 : isIface Tryd.prog 65 = some false := by kernel_rfl
@[go_sem] theorem Tryd.ty.sz66 : szOf Tryd.prog 66 = some 1 := by kernel_rfl
@[go_sem] theorem Tryd.ty.by66 : bytesIn Tryd.prog 66 = some 8 := by kernel_rfl
@[go_sem] theorem Tryd.ty.ag66 : aggOf Tryd.prog 66 = some false := by kernel_rfl
@[go_sem] theorem Tryd.ty.zr66 : zeroOf Tryd.prog 66 = some [.val .nilFunc] := by kernel_rfl
@[go_sem] theorem Tryd.ty.el66 : elemOfSlice Tryd.prog 66 = none := by kernel_rfl
@[go_sem] theorem Tryd.ty.ar66 : arrayOf Tryd.prog 66 = none := by kernel_rfl
@[go_sem] theorem Tryd.ty.st66 : isStr Tryd.prog 66 = false := by kernel_rfl
@[go_sem] theorem Tryd.ty.bo66 : isBool Tryd.prog 66 = false := by kernel_rfl
@[go_sem] theorem Tryd.ty.ki66 : kindOf Tryd.prog 66 = none := by kernel_rfl
@[go_sem] theorem Tryd.ty.if66 : isIface Tryd.prog 66 = some false := by kernel_rfl
@[go_sem] theorem Tryd.ty.sz68 : szOf Tryd.prog 68 = some 1 := by kernel_rfl
@[go_sem] theorem Tryd.ty.by68 : bytesIn Tryd.prog 68 = some 8 := by kernel_rfl
@[go_sem] theorem Tryd.ty.ag68 : aggOf Tryd.prog 68 = some false := by kernel_rfl
@[go_sem] theorem Tryd.ty.zr68 : zeroOf Tryd.prog 68 = some [.val .nilFunc] := by kernel_rfl
@[go_sem] theorem Tryd.ty.el68 : elemOfSlice Tryd.prog 68 = none := by kernel_rfl
@[go_sem] theorem Tryd.ty.ar68 : arrayOf Tryd.prog 68 = none := by kernel_rfl
@[go_sem] theorem Tryd.ty.st68 : isStr Tryd.prog 68 = false := by kernel_rfl
@[go_sem] theorem Tryd.ty.bo68 : isBool Tryd.prog 68 = false := by kernel_rfl
@[go_sem] theorem Tryd.ty.ki68 : kindOf Tryd.prog 68 = none := by kernel_rfl
@[go_sem] theorem Tryd.ty.if68 : isIface Tryd.prog 68 = some false := by kernel_rfl
@[go_sem] theorem Tryd.ty.sz70 : szOf Tryd.prog 70 = some 1 := by kernel_rfl
@[go_sem] theorem Tryd.ty.by70 : bytesIn Tryd.prog 70 = some 8 := by kernel_rfl
@[go_sem] theorem Tryd.ty.ag70 : aggOf Tryd.prog 70 = some false := by kernel_rfl
@[go_sem] theorem Tryd.ty.zr70 : zeroOf Tryd.prog 70 = some [.val .nilFunc] := by kernel_rfl
@[go_sem] theorem Tryd.ty.el70 : elemOfSlice Tryd.prog 70 = none := by kernel_rfl
@[go_sem] theorem Tryd.ty.ar70 : arrayOf Tryd.prog 70 = none := by kernel_rfl
@[go_sem] theorem Tryd.ty.st70 : isStr Tryd.prog 70 = false := by kernel_rfl
@[go_sem] theorem Tryd.ty.bo70 : isBool Tryd.prog 70 = false := by kernel_rfl
@[go_sem] theorem Tryd.ty.ki70 : kindOf Tryd.prog 70 = none := by kernel_rfl
@[go_sem] theorem Tryd.ty.if70 : isIface Tryd.prog 70 = some false := by kernel_rfl
@[go_sem] theorem Tryd.ty.sz71 : szOf Tryd.prog 71 = some 1 := by kernel_rfl
@[go_sem] theorem Tryd.ty.by71 : bytesIn Tryd.prog 71 = some 8 := by kernel_rfl
@[go_sem] theorem Tryd.ty.ag71 : aggOf Tryd.prog 71 = some false := by kernel_rfl
@[go_sem] theorem Tryd.ty.zr71 : zeroOf Tryd.prog 71 = some [.val .nilFunc] := by kernel_rfl
@[go_sem] theorem Tryd.ty.el71 : elemOfSlice Tryd.prog 71 = none := by kernel_rfl
@[go_sem] theorem Tryd.ty.ar71 : arrayOf Tryd.prog 71 = none := by kernel_rfl
@[go_sem] theorem Tryd.ty.st71 : isStr Tryd.prog 71 = false := by kernel_rfl
@[go_sem] theorem Tryd.ty.bo71 : isBool Tryd.prog 71 = false := by kernel_rfl
@[go_sem] theorem Tryd.ty.ki71 : kindOf Tryd.prog 71 = none := by kernel_rfl
@[go_sem] theorem Tryd.ty.if71 : isIface Tryd.prog 71 = some false := by kernel_rfl
@[go_sem] theorem Tryd.ty.sz72 : szOf Tryd.prog 72 = some 1 := by kernel_rfl
@[go_sem] theorem Tryd.ty.by72 : bytesIn Tryd.prog 72 = some 8 := by kernel_rfl
@[go_sem] theorem Tryd.ty.ag72 : aggOf Tryd.prog 72 = some false := by kernel_rfl
@[go_sem] theorem Tryd.ty.zr72 : zeroOf Tryd.prog 72 = some [.val .nilFunc] := by kernel_rfl
@[go_sem] theorem Tryd.ty.el72 : elemOfSlice Tryd.prog 72 = none := by kernel_rfl
@[go_sem] theorem Tryd.ty.ar72 : arrayOf Tryd.prog 72 = none := by kernel_rfl
@[go_sem] theorem Tryd.ty.st72 : isStr Tryd.prog 72 = false := by kernel_rfl
@[go_sem] theorem Tryd.ty.bo72 : isBool Tryd.prog 72 = false := by kernel_rfl
@[go_sem] theorem Tryd.ty.ki72 : kindOf Tryd.prog 72 = none := by kernel_rfl
@[go_sem] theorem Tryd.ty.if72 : isIface Tryd.prog 72 = some false := by kernel_rfl
@[go_sem] theorem Tryd.ty.sz73 : szOf Tryd.prog 73 = some 1 := by kernel_rfl
@[go_sem] theorem Tryd.ty.by73 : bytesIn Tryd.prog 73 = some 24 := by kernel_rfl
@[go_sem] theorem Tryd.ty.ag73 : aggOf Tryd.prog 73 = some false := by kernel_rfl
@[go_sem] theorem Tryd.ty.zr73 : zeroOf Tryd.prog 73 = some [.val (.slice none 0 0)] := by kernel_rfl
@[go_sem] theorem Tryd.ty.el73 : elemOfSlice Tryd.prog 73 = some 75 := by kernel_rfl
@[go_sem] theorem Tryd.ty.ar73 : arrayOf Tryd.prog 73 = none := by kernel_rfl
@[go_sem] theorem Tryd.ty.st73 : isStr Tryd.prog 73 = false := by kernel_rfl
@[go_sem] theorem Tryd.ty.bo73 : isBool Tryd.prog 73 = false := by kernel_rfl
@[go_sem] theorem Tryd.ty.ki73 : kindOf Tryd.prog 73 = none := by kernel_rfl
@[go_sem] theorem Tryd.ty.if73 : isIface Tryd.prog 73 = some false := by kernel_rfl
@[go_sem] theorem Tryd.ty.un73 : Tryd.prog.underlying 73 = some (.slice 75) := by kernel_rfl
@[go_sem] theorem Tryd.ty.sz74 : szOf Tryd.prog 74 = some 1 := by kernel_rfl
@[go_sem] theorem Tryd.ty.by74 : bytesIn Tryd.prog 74 = some 8 := by kernel_rfl
@[go_sem] theorem Tryd.ty.ag74 : aggOf Tryd.prog 74 = some false := by kernel_rfl
@[go_sem] theorem Tryd.ty.zr74 : zeroOf Tryd.prog 74 = some [.val .nilFunc] := by kernel_rfl
@[go_sem] theorem Tryd.ty.el74 : elemOfSlice Tryd.prog 74 = none := by kernel_rfl
@[go_sem] theorem Tryd.ty.ar74 : arrayOf Tryd.prog 74 = none := by kernel_rfl
@[go_sem] theorem Tryd.ty.st74 : isStr Tryd.prog 74 = false := by kernel_rfl
@[go_sem] theorem Tryd.ty.bo74 : isBool Tryd.prog 74 = false := by kernel_rfl
@[go_sem] theorem Tryd.ty.ki74 : kindOf Tryd.prog 74 = none := by kernel_rfl
@[go_sem] theorem Tryd.ty.if74 : isIface Tryd.prog 74 = some false := by kernel_rfl
@[go_sem] theorem Tryd.ty.sz75 : szOf Tryd.prog 75 = some 1 := by kernel_rfl
@[go_sem] theorem Tryd.ty.by75 : bytesIn Tryd.prog 75 = some 24 := by kernel_rfl
@[go_sem] theorem Tryd.ty.ag75 : aggOf Tryd.prog 75 = some false := by kernel_rfl
@[go_sem] theorem Tryd.ty.zr75 : zeroOf Tryd.prog 75 = some [.val (.slice none 0 0)] := by kernel_rfl
@[go_sem] theorem Tryd.ty.el75 : elemOfSlice Tryd.prog 75 = some 4 := by kernel_rfl
@[go_sem] theorem Tryd.ty.ar75 : arrayOf Tryd.prog 75 = none := by kernel_rfl
@[go_sem] theorem Tryd.ty.st75 : isStr Tryd.prog 75 = false := by kernel_rfl
@[go_sem] theorem Tryd.ty.bo75 : isBool Tryd.prog 75 = false := by kernel_rfl
@[go_sem] theorem Tryd.ty.ki75 : kindOf Tryd.prog 75 = none := by kernel_rfl
@[go_sem] theorem Tryd.ty.if75 : isIface Tryd.prog 75 = some false := by kernel_rfl
@[go_sem] theorem Tryd.ty.un75 : Tryd.prog.underlying 75 = some (.slice 4) := by kernel_rfl
@[go_sem] theorem Tryd.ty.sz76 : szOf Tryd.prog 76 = some 1 := by kernel_rfl
@[go_sem] theorem Tryd.ty.by76 : bytesIn Tryd.prog 76 = some 8 := by kernel_rfl
@[go_sem] theorem Tryd.ty.ag76 : aggOf Tryd.prog 76 = some false := by kernel_rfl
@[go_sem] theorem Tryd.ty.zr76 : zeroOf Tryd.prog 76 = some [.val .nilFunc] := by kernel_rfl
@[go_sem] theorem Tryd.ty.el76 : elemOfSlice Tryd.prog 76 = none := by kernel_rfl
@[go_sem] theorem Tryd.ty.ar76 : arrayOf Tryd.prog 76 = none := by kernel_rfl
@[go_sem] theorem Tryd.ty.st76 : isStr Tryd.prog 76 = false := by kernel_rfl
@[go_sem] theorem Tryd.ty.bo76 : isBool Tryd.prog 76 = false := by kernel_rfl
@[go_sem] theorem Tryd.ty.ki76 : kindOf Tryd.prog 76 = none := by kernel_rfl
@[go_sem] theorem Tryd.ty.if76 : isIface Tryd.prog 76 = some false := by kernel_rfl
@[go_sem] theorem Tryd.ty.sz77 : szOf Tryd.prog 77 = some 1 := by kernel_rfl
@[go_sem] theorem Tryd.ty.by77 : bytesIn Tryd.prog 77 = some 8 := by kernel_rfl
@[go_sem] theorem Tryd.ty.ag77 : aggOf Tryd.prog 77 = some false := by kernel_rfl
@[go_sem] theorem Tryd.ty.zr77 : zeroOf Tryd.prog 77 = some [.val (.pointer none)] := by kernel_rfl
@[go_sem] theorem Tryd.ty.el77 : elemOfSlice Tryd.prog 77 = none := by kernel_rfl
@[go_sem] theorem Tryd.ty.ar77 : arrayOf Tryd.prog 77 = none := by kernel_rfl
@[go_sem] theorem Tryd.ty.st77 : isStr Tryd.prog 77 = false := by kernel_rfl
@[go_sem] theorem Tryd.ty.bo77 : isBool Tryd.prog 77 = false := by kernel_rfl
@[go_sem] theorem Tryd.ty.ki77 : kindOf Tryd.prog 77 = none := by kernel_rfl
@[go_sem] theorem Tryd.ty.if77 : isIface Tryd.prog 77 = some false := by kernel_rfl
@[go_sem] theorem Tryd.ty.un77 : Tryd.prog.underlying 77 = some (.pointer 98) := by kernel_rfl
@[go_sem] theorem Tryd.ty.sz78 : szOf Tryd.prog 78 = some 1 := by kernel_rfl
@[go_sem] theorem Tryd.ty.by78 : bytesIn Tryd.prog 78 = some 8 := by kernel_rfl
@[go_sem] theorem Tryd.ty.ag78 : aggOf Tryd.prog 78 = some false := by kernel_rfl
@[go_sem] theorem Tryd.ty.zr78 : zeroOf Tryd.prog 78 = some [.val .nilFunc] := by kernel_rfl
@[go_sem] theorem Tryd.ty.el78 : elemOfSlice Tryd.prog 78 = none := by kernel_rfl
@[go_sem] theorem Tryd.ty.ar78 : arrayOf Tryd.prog 78 = none := by kernel_rfl
@[go_sem] theorem Tryd.ty.st78 : isStr Tryd.prog 78 = false := by kernel_rfl
@[go_sem] theorem Tryd.ty.bo78 : isBool Tryd.prog 78 = false := by kernel_rfl
@[go_sem] theorem Tryd.ty.ki78 : kindOf Tryd.prog 78 = none := by kernel_rfl
@[go_sem] theorem Tryd.ty.if78 : isIface Tryd.prog 78 = some false := by kernel_rfl
@[go_sem] theorem Tryd.ty.sz79 : szOf Tryd.prog 79 = some 1 := by kernel_rfl
@[go_sem] theorem Tryd.ty.by79 : bytesIn Tryd.prog 79 = some 8 := by kernel_rfl
@[go_sem] theorem Tryd.ty.ag79 : aggOf Tryd.prog 79 = some false := by kernel_rfl
@[go_sem] theorem Tryd.ty.zr79 : zeroOf Tryd.prog 79 = some [.val .nilFunc] := by kernel_rfl
@[go_sem] theorem Tryd.ty.el79 : elemOfSlice Tryd.prog 79 = none := by kernel_rfl
@[go_sem] theorem Tryd.ty.ar79 : arrayOf Tryd.prog 79 = none := by kernel_rfl
@[go_sem] theorem Tryd.ty.st79 : isStr Tryd.prog 79 = false := by kernel_rfl
@[go_sem] theorem Tryd.ty.bo79 : isBool Tryd.prog 79 = false := by kernel_rfl
@[go_sem] theorem Tryd.ty.ki79 : kindOf Tryd.prog 79 = none := by kernel_rfl
@[go_sem] theorem Tryd.ty.if79 : isIface Tryd.prog 79 = some false := by kernel_rfl
@[go_sem] theorem Tryd.ty.sz80 : szOf Tryd.prog 80 = some 1 := by kernel_rfl
@[go_sem] theorem Tryd.ty.by80 : bytesIn Tryd.prog 80 = some 8 := by kernel_rfl
@[go_sem] theorem Tryd.ty.ag80 : aggOf Tryd.prog 80 = some false := by kernel_rfl
@[go_sem] theorem Tryd.ty.zr80 : zeroOf Tryd.prog 80 = some [.val .nilFunc] := by kernel_rfl
@[go_sem] theorem Tryd.ty.el80 : elemOfSlice Tryd.prog 80 = none := by kernel_rfl
@[go_sem] theorem Tryd.ty.ar80 : arrayOf Tryd.prog 80 = none := by kernel_rfl
@[go_sem] theorem Tryd.ty.st80 : isStr Tryd.prog 80 = false := by kernel_rfl
@[go_sem] theorem Tryd.ty.bo80 : isBool Tryd.prog 80 = false := by kernel_rfl
@[go_sem] theorem Tryd.ty.ki80 : kindOf Tryd.prog 80 = none := by kernel_rfl
@[go_sem] theorem Tryd.ty.if80 : isIface Tryd.prog 80 = some false := by kernel_rfl
@[go_sem] theorem Tryd.ty.sz81 : szOf Tryd.prog 81 = some 1 := by kernel_rfl
@[go_sem] theorem Tryd.ty.by81 : bytesIn Tryd.prog 81 = some 8 := by kernel_rfl
@[go_sem] theorem Tryd.ty.ag81 : aggOf Tryd.prog 81 = some false := by kernel_rfl
@[go_sem] theorem Tryd.ty.zr81 : zeroOf Tryd.prog 81 = some [.val .nilFunc] := by kernel_rfl
@[go_sem] theorem Tryd.ty.el81 : elemOfSlice Tryd.prog 81 = none := by kernel_rfl
@[go_sem] theorem Tryd.ty.ar81 : arrayOf Tryd.prog 81 = none := by kernel_rfl
@[go_sem] theorem Tryd.ty.st81 : isStr Tryd.prog 81 = false := by kernel_rfl
@[go_sem] theorem Tryd.ty.bo81 : isBool Tryd.prog 81 = false := by kernel_rfl
@[go_sem] theorem Tryd.ty.ki81 : kindOf Tryd.prog 81 = none := by kernel_rfl
@[go_sem] theorem Tryd.ty.if81 : isIface Tryd.prog 81 = some false := by kernel_rfl
@[go_sem] theorem Tryd.ty.sz82 : szOf Tryd.prog 82 = some 1 := by kernel_rfl
@[go_sem] theorem Tryd.ty.by82 : bytesIn Tryd.prog 82 = some 8 := by kernel_rfl
@[go_sem] theorem Tryd.ty.ag82 : aggOf Tryd.prog 82 = some false := by kernel_rfl
@[go_sem] theorem Tryd.ty.zr82 : zeroOf Tryd.prog 82 = some [.val (.pointer none)] := by kernel_rfl
@[go_sem] theorem Tryd.ty.el82 : elemOfSlice Tryd.prog 82 = none := by kernel_rfl
@[go_sem] theorem Tryd.ty.ar82 : arrayOf Tryd.prog 82 = none := by kernel_rfl
@[go_sem] theorem Tryd.ty.st82 : isStr Tryd.prog 82 = false := by kernel_rfl
@[go_sem] theorem Tryd.ty.bo82 : isBool Tryd.prog 82 = false := by kernel_rfl
@[go_sem] theorem Tryd.ty.ki82 : kindOf Tryd.prog 82 = none := by kernel_rfl
@[go_sem] theorem Tryd.ty.if82 : isIface Tryd.prog 82 = some false := by kernel_rfl
@[go_sem] theorem Tryd.ty.un82 : Tryd.prog.underlying 82 = some (.pointer 84) := by kernel_rfl
@[go_sem] theorem Tryd.ty.sz83 : szOf Tryd.prog 83 = some 2 := by kernel_rfl
@[go_sem] theorem Tryd.ty.by83 : bytesIn Tryd.prog 83 = some 32 := by kernel_rfl
@[go_sem] theorem Tryd.ty.ag83 : aggOf Tryd.prog 83 = some true := by kernel_rfl
@[go_sem] theorem Tryd.ty.zr83 : zeroOf Tryd.prog 83 = some [.val (.pointer none), .val (.slice none 0 0)] := by kernel_rfl
@[go_sem] theorem Tryd.ty.el83 : elemOfSlice Tryd.prog 83 = none := by kernel_rfl
@[go_sem] theorem Tryd.ty.ar83 : arrayOf Tryd.prog 83 = none := by kernel_rfl
@[go_sem] theorem Tryd.ty.st83 : isStr Tryd.prog 83 = false := by kernel_rfl
@[go_sem] theorem Tryd.ty.bo83 : isBool Tryd.prog 83 = false := by kernel_rfl
@[go_sem] theorem Tryd.ty.ki83 : kindOf Tryd.prog 83 = none := by kernel_rfl
@[go_sem] theorem Tryd.ty.if83 : isIface Tryd.prog 83 = some false := by kernel_rfl
@[go_sem] theorem Tryd.ty.fo0_83 : fieldOf Tryd.prog 83 0 = some (82, 0) := by kernel_rfl
@[go_sem] theorem Tryd.ty.fp0_83 : fieldPl Tryd.prog 83 0 = some (0, 1) := by kernel_rfl
@[go_sem] theorem Tryd.ty.fo1_83 : fieldOf Tryd.prog 83 1 = some (48, 1) := by kernel_rfl
@[go_sem] theorem Tryd.ty.fp1_83 : fieldPl Tryd.prog 83 1 = some (1, 1) := by kernel_rfl
@[go_sem] theorem Tryd.ty.bk83 : buildOk Tryd.prog 83 = true := by kernel_rfl
@[go_sem] theorem Tryd.ty.sz84 : szOf Tryd.prog 84 = some 2 := by kernel_rfl
@[go_sem] theorem Tryd.ty.by84 : bytesIn Tryd.prog 84 = some 32 := by kernel_rfl
@[go_sem] theorem Tryd.ty.ag84 : aggOf Tryd.prog 84 = some true := by kernel_rfl
@[go_sem] theorem Tryd.ty.zr84 : zeroOf Tryd.prog 84 = some [.val (.pointer none), .val (.slice none 0 0)] := by kernel_rfl
@[go_sem] theorem Tryd.ty.el84 : elemOfSlice Tryd.prog 84 = none := by kernel_rfl
@[go_sem] theorem Tryd.ty.ar84 : arrayOf Tryd.prog 84 = none := by kernel_rfl
@[go_sem] theorem Tryd.ty.st84 : isStr Tryd.prog 84 = false := by kernel_rfl
@[go_sem] theorem Tryd.ty.bo84 : isBool Tryd.prog 84 = false := by kernel_rfl
@[go_sem] theorem Tryd.ty.ki84 : kindOf Tryd.prog 84 = none := by kernel_rfl
@[go_sem] theorem Tryd.ty.if84 : isIface Tryd.prog 84 = some false := by kernel_rfl
@[go_sem] theorem Tryd.ty.fo0_84 : fieldOf Tryd.prog 84 0 = some (82, 0) := by kernel_rfl
@[go_sem] theorem Tryd.ty.fp0_84 : fieldPl Tryd.prog 84 0 = some (0, 1) := by kernel_rfl
@[go_sem] theorem Tryd.ty.fo1_84 : fieldOf Tryd.prog 84 1 = some (48, 1) := by kernel_rfl
@[go_sem] theorem Tryd.ty.fp1_84 : fieldPl Tryd.prog 84 1 = some (1, 1) := by kernel_rfl
@[go_sem] theorem Tryd.ty.bk84 : buildOk Tryd.prog 84 = true := by kernel_rfl
@[go_sem] theorem Tryd.ty.sz85 : szOf Tryd.prog 85 = some 1 := by kernel_rfl
@[go_sem] theorem Tryd.ty.by85 : bytesIn Tryd.prog 85 = some 8 := by kernel_rfl
@[go_sem] theorem Tryd.ty.ag85 : aggOf Tryd.prog 85 = some false := by kernel_rfl
@[go_sem] theorem Tryd.ty.zr85 : zeroOf Tryd.prog 85 = some [.val .nilFunc] := by kernel_rfl
@[go_sem] theorem Tryd.ty.el85 : elemOfSlice Tryd.prog 85 = none := by kernel_rfl
@[go_sem] theorem Tryd.ty.ar85 : arrayOf Tryd.prog 85 = none := by kernel_rfl
@[go_sem] theorem Tryd.ty.st85 : isStr Tryd.prog 85 = false := by kernel_rfl
@[go_sem] theorem Tryd.ty.bo85 : isBool Tryd.prog 85 = false := by kernel_rfl
@[go_sem] theorem Tryd.ty.ki85 : kindOf Tryd.prog 85 = none := by kernel_rfl
@[go_sem] theorem Tryd.ty.if85 : isIface Tryd.prog 85 = some false := by kernel_rfl
@[go_sem] theorem Tryd.ty.if87 : isIface Tryd.prog 87 = some true := by kernel_rfl
@[go_sem] theorem Tryd.ty.sz89 : szOf Tryd.prog 89 = some 1 := by kernel_rfl
@[go_sem] theorem Tryd.ty.by89 : bytesIn Tryd.prog 89 = some 8 := by kernel_rfl
@[go_sem] theorem Tryd.ty.ag89 : aggOf Tryd.prog 89 = some false := by kernel_rfl
@[go_sem] theorem Tryd.ty.zr89 : zeroOf Tryd.prog 89 = some [.val .nilFunc] := by kernel_rfl
@[go_sem] theorem Tryd.ty.el89 : elemOfSlice Tryd.prog 89 = none := by kernel_rfl
@[go_sem] theorem Tryd.ty.ar89 : arrayOf Tryd.prog 89 = none := by kernel_rfl
@[go_sem] theorem Tryd.ty.st89 : isStr Tryd.prog 89 = false := by kernel_rfl
@[go_sem] theorem Tryd.ty.bo89 : isBool Tryd.prog 89 = false := by kernel_rfl
@[go_sem] theorem Tryd.ty.ki89 : kindOf Tryd.prog 89 = none := by kernel_rfl
@[go_sem] theorem Tryd.ty.if89 : isIface Tryd.prog 89 = some false := by kernel_rfl
@[go_sem] theorem Tryd.ty.sz90 : szOf Tryd.prog 90 = some 1 := by kernel_rfl
@[go_sem] theorem Tryd.ty.by90 : bytesIn Tryd.prog 90 = some 8 := by kernel_rfl
@[go_sem] theorem Tryd.ty.ag90 : aggOf Tryd.prog 90 = some false := by kernel_rfl
@[go_sem] theorem Tryd.ty.zr90 : zeroOf Tryd.prog 90 = some [.val .nilFunc] := by kernel_rfl
@[go_sem] theorem Tryd.ty.el90 : elemOfSlice Tryd.prog 90 = none := by kernel_rfl
@[go_sem] theorem Tryd.ty.ar90 : arrayOf Tryd.prog 90 = none := by kernel_rfl
@[go_sem] theorem Tryd.ty.st90 : isStr Tryd.prog 90 = false := by kernel_rfl
@[go_sem] theorem Tryd.ty.bo90 : isBool Tryd.prog 90 = false := by kernel_rfl
@[go_sem] theorem Tryd.ty.ki90 : kindOf Tryd.prog 90 = none := by kernel_rfl
@[go_sem] theorem Tryd.ty.if90 : isIface Tryd.prog 90 = some false := by kernel_rfl
@[go_sem] theorem Tryd.ty.sz91 : szOf Tryd.prog 91 = some 1 := by kernel_rfl
@[go_sem] theorem Tryd.ty.by91 : bytesIn Tryd.prog 91 = some 8 := by kernel_rfl
@[go_sem] theorem Tryd.ty.ag91 : aggOf Tryd.prog 91 = some false := by kernel_rfl
@[go_sem] theorem Tryd.ty.zr91 : zeroOf Tryd.prog 91 = some [.val .nilFunc] := by kernel_rfl
@[go_sem] theorem Tryd.ty.el91 : elemOfSlice Tryd.prog 91 = none := by kernel_rfl
@[go_sem] theorem Tryd.ty.ar91 : arrayOf Tryd.prog 91 = none := by kernel_rfl
@[go_sem] theorem Tryd.ty.st91 : isStr Tryd.prog 91 = false := by kernel_rfl
@[go_sem] theorem Tryd.ty.bo91 : isBool Tryd.prog 91 = false := by kernel_rfl
@[go_sem] theorem Tryd.ty.ki91 : kindOf Tryd.prog 91 = none := by kernel_rfl
@[go_sem] theorem Tryd.ty.if91 : isIface Tryd.prog 91 = some false := by kernel_rfl
@[go_sem] theorem Tryd.ty.sz92 : szOf Tryd.prog 92 = some 1 := by kernel_rfl
@[go_sem] theorem Tryd.ty.by92 : bytesIn Tryd.prog 92 = some 8 := by kernel_rfl
@[go_sem] theorem Tryd.ty.ag92 : aggOf Tryd.prog 92 = some false := by kernel_rfl
@[go_sem] theorem Tryd.ty.zr92 : zeroOf Tryd.prog 92 = some [.val .nilFunc] := by kernel_rfl
@[go_sem] theorem Tryd.ty.el92 : elemOfSlice Tryd.prog 92 = none := by kernel_rfl
@[go_sem] theorem Tryd.ty.ar92 : arrayOf Tryd.prog 92 = none := by kernel_rfl
@[go_sem] theorem Tryd.ty.st92 : isStr Tryd.prog 92 = false := by kernel_rfl
@[go_sem] theorem Tryd.ty.bo92 : isBool Tryd.prog 92 = false := by kernel_rfl
@[go_sem] theorem Tryd.ty.ki92 : kindOf Tryd.prog 92 = none := by kernel_rfl
@[go_sem] theorem Tryd.ty.if92 : isIface Tryd.prog 92 = some false := by kernel_rfl
@[go_sem] theorem Tryd.ty.sz93 : szOf Tryd.prog 93 = some 1 := by kernel_rfl
@[go_sem] theorem Tryd.ty.by93 : bytesIn Tryd.prog 93 = some 8 := by kernel_rfl
@[go_sem] theorem Tryd.ty.ag93 : aggOf Tryd.prog 93 = some false := by kernel_rfl
@[go_sem] theorem Tryd.ty.zr93 : zeroOf Tryd.prog 93 = some [.val .nilFunc] := by kernel_rfl
@[go_sem] theorem Tryd.ty.el93 : elemOfSlice Tryd.prog 93 = none := by kernel_rfl
@[go_sem] theorem Tryd.ty.ar93 : arrayOf Tryd.prog 93 = none := by kernel_rfl
@[go_sem] theorem Tryd.ty.st93 : isStr Tryd.prog 93 = false := by kernel_rfl
@[go_sem] theorem Tryd.ty.bo93 : isBool Tryd.prog 93 = false := by kernel_rfl
@[go_sem] theorem Tryd.ty.ki93 : kindOf Tryd.prog 93 = none := by kernel_rfl
@[go_sem] theorem Tryd.ty.if93 : isIface Tryd.prog 93 = some false := by kernel_rfl
@[go_sem] theorem Tryd.ty.sz94 : szOf Tryd.prog 94 = some 1 := by kernel_rfl
@[go_sem] theorem Tryd.ty.by94 : bytesIn Tryd.prog 94 = some 8 := by kernel_rfl
@[go_sem] theorem Tryd.ty.ag94 : aggOf Tryd.prog 94 = some false := by kernel_rfl
@[go_sem] theorem Tryd.ty.zr94 : zeroOf Tryd.prog 94 = some [.val .nilFunc] := by kernel_rfl
@[go_sem] theorem Tryd.ty.el94 : elemOfSlice Tryd.prog 94 = none := by kernel_rfl
@[go_sem] theorem Tryd.ty.ar94 : arrayOf Tryd.prog 94 = none := by kernel_rfl
@[go_sem] theorem Tryd.ty.st94 : isStr Tryd.prog 94 = false := by kernel_rfl
@[go_sem] theorem Tryd.ty.bo94 : isBool Tryd.prog 94 = false := by kernel_rfl
@[go_sem] theorem Tryd.ty.ki94 : kindOf Tryd.prog 94 = none := by kernel_rfl
@[go_sem] theorem Tryd.ty.if94 : isIface Tryd.prog 94 = some false := by kernel_rfl
@[go_sem] theorem Tryd.ty.sz95 : szOf Tryd.prog 95 = some 1 := by kernel_rfl
@[go_sem] theorem Tryd.ty.by95 : bytesIn Tryd.prog 95 = some 8 := by kernel_rfl
@[go_sem] theorem Tryd.ty.ag95 : aggOf Tryd.prog 95 = some false := by kernel_rfl
@[go_sem] theorem Tryd.ty.zr95 : zeroOf Tryd.prog 95 = some [.val .nilFunc] := by kernel_rfl
@[go_sem] theorem Tryd.ty.el95 : elemOfSlice Tryd.prog 95 = none := by kernel_rfl
@[go_sem] theorem Tryd.ty.ar95 : arrayOf Tryd.prog 95 = none := by kernel_rfl
@[go_sem] theorem Tryd.ty.st95 : isStr Tryd.prog 95 = false := by kernel_rfl
@[go_sem] theorem Tryd.ty.bo95 : isBool Tryd.prog 95 = false := by kernel_rfl
@[go_sem] theorem Tryd.ty.ki95 : kindOf Tryd.prog 95 = none := by kernel_rfl
@[go_sem] theorem Tryd.ty.if95 : isIface Tryd.prog 95 = some false := by kernel_rfl
@[go_sem] theorem Tryd.ty.sz96 : szOf Tryd.prog 96 = some 1 := by kernel_rfl
@[go_sem] theorem Tryd.ty.by96 : bytesIn Tryd.prog 96 = some 8 := by kernel_rfl
@[go_sem] theorem Tryd.ty.ag96 : aggOf Tryd.prog 96 = some false := by kernel_rfl
@[go_sem] theorem Tryd.ty.zr96 : zeroOf Tryd.prog 96 = some [.val .nilFunc] := by kernel_rfl
@[go_sem] theorem Tryd.ty.el96 : elemOfSlice Tryd.prog 96 = none := by kernel_rfl
@[go_sem] theorem Tryd.ty.ar96 : arrayOf Tryd.prog 96 = none := by kernel_rfl
@[go_sem] theorem Tryd.ty.st96 : isStr Tryd.prog 96 = false := by kernel_rfl
@[go_sem] theorem Tryd.ty.bo96 : isBool Tryd.prog 96 = false := by kernel_rfl
@[go_sem] theorem Tryd.ty.ki96 : kindOf Tryd.prog 96 = none := by kernel_rfl
@[go_sem] theorem Tryd.ty.if96 : isIface Tryd.prog 96 = some false := by kernel_rfl
@[go_sem] theorem Tryd.ty.sz97 : szOf Tryd.prog 97 = some 3 := by kernel_rfl
@[go_sem] theorem Tryd.ty.by97 : bytesIn Tryd.prog 97 = some 40 := by kernel_rfl
@[go_sem] theorem Tryd.ty.ag97 : aggOf Tryd.prog 97 = some true := by kernel_rfl
@[go_sem] theorem Tryd.ty.zr97 : zeroOf Tryd.prog 97 = some [.val (.slice none 0 0), .val (.int .i64 0), .val (.int .i64 0)] := by kernel_rfl
@[go_sem] theorem Tryd.ty.el97 : elemOfSlice Tryd.prog 97 = none := by kernel_rfl
@[go_sem] theorem Tryd.ty.ar97 : arrayOf Tryd.prog 97 = none := by kernel_rfl
@[go_sem] theorem Tryd.ty.st97 : isStr Tryd.prog 97 = false := by kernel_rfl
@[go_sem] theorem Tryd.ty.bo97 : isBool Tryd.prog 97 = false := by kernel_rfl
@[go_sem] theorem Tryd.ty.ki97 : kindOf Tryd.prog 97 = none := by kernel_rfl
@[go_sem] theorem Tryd.ty.if97 : isIface Tryd.prog 97 = some false := by kernel_rfl
@[go_sem] theorem Tryd.ty.fo0_97 : fieldOf Tryd.prog 97 0 = some (48, 0) := by kernel_rfl
@[go_sem] theorem Tryd.ty.fp0_97 : fieldPl Tryd.prog 97 0 = some (0, 1) := by kernel_rfl
@[go_sem] theorem Tryd.ty.fo1_97 : fieldOf Tryd.prog 97 1 = some (3, 1) := by kernel_rfl
@[go_sem] theorem Tryd.ty.fp1_97 : fieldPl Tryd.prog 97 1 = some (1, 1) := by kernel_rfl
@[go_sem] theorem Tryd.ty.fo2_97 : fieldOf Tryd.prog 97 2 = some (3, 2) := by kernel_rfl
@[go_sem] theorem Tryd.ty.fp2_97 : fieldPl Tryd.prog 97 2 = some (2, 1) := by kernel_rfl
@[go_sem] theorem Tryd.ty.bk97 : buildOk Tryd.prog 97 = true := by kernel_rfl
@[go_sem] theorem Tryd.ty.sz98 : szOf Tryd.prog 98 = some 3 := by kernel_rfl
@[go_sem] theorem Tryd.ty.by98 : bytesIn Tryd.prog 98 = some 40 := by kernel_rfl
@[go_sem] theorem Tryd.ty.ag98 : aggOf Tryd.prog 98 = some true := by kernel_rfl
@[go_sem] theorem Tryd.ty.zr98 : zeroOf Tryd.prog 98 = some [.val (.slice none 0 0), .val (.int .i64 0), .val (.int .i64 0)] := by kernel_rfl
@[go_sem] theorem Tryd.ty.el98 : elemOfSlice Tryd.prog 98 = none := by kernel_rfl
@[go_sem] theorem Tryd.ty.ar98 : arrayOf Tryd.prog 98 = none := by kernel_rfl
@[go_sem] theorem Tryd.ty.st98 : isStr Tryd.prog 98 = false := by kernel_rfl
@[go_sem] theorem Tryd.ty.bo98 : isBool Tryd.prog 98 = false := by kernel_rfl
@[go_sem] theorem Tryd.ty.ki98 : kindOf Tryd.prog 98 = none := by kernel_rfl
@[go_sem] theorem Tryd.ty.if98 : isIface Tryd.prog 98 = some false := by kernel_rfl
@[go_sem] theorem Tryd.ty.fo0_98 : fieldOf Tryd.prog 98 0 = some (48, 0) := by kernel_rfl
@[go_sem] theorem Tryd.ty.fp0_98 : fieldPl Tryd.prog 98 0 = some (0, 1) := by kernel_rfl
@[go_sem] theorem Tryd.ty.fo1_98 : fieldOf Tryd.prog 98 1 = some (3, 1) := by kernel_rfl
@[go_sem] theorem Tryd.ty.fp1_98 : fieldPl Tryd.prog 98 1 = some (1, 1) := by kernel_rfl
@[go_sem] theorem Tryd.ty.fo2_98 : fieldOf Tryd.prog 98 2 = some (3, 2) := by kernel_rfl
@[go_sem] theorem Tryd.ty.fp2_98 : fieldPl Tryd.prog 98 2 = some (2, 1) := by kernel_rfl
@[go_sem] theorem Tryd.ty.bk98 : buildOk Tryd.prog 98 = true := by kernel_rfl
@[go_sem] theorem Tryd.ty.sz99 : szOf Tryd.prog 99 = some 1 := by kernel_rfl
@[go_sem] theorem Tryd.ty.by99 : bytesIn Tryd.prog 99 = some 8 := by kernel_rfl
@[go_sem] theorem Tryd.ty.ag99 : aggOf Tryd.prog 99 = some false := by kernel_rfl
@[go_sem] theorem Tryd.ty.zr99 : zeroOf Tryd.prog 99 = some [.val .nilFunc] := by kernel_rfl
@[go_sem] theorem Tryd.ty.el99 : elemOfSlice Tryd.prog 99 = none := by kernel_rfl
@[go_sem] theorem Tryd.ty.ar99 : arrayOf Tryd.prog 99 = none := by kernel_rfl
@[go_sem] theorem Tryd.ty.st99 : isStr Tryd.prog 99 = false := by kernel_rfl
@[go_sem] theorem Tryd.ty.bo99 : isBool Tryd.prog 99 = false := by kernel_rfl
@[go_sem] theorem Tryd.ty.ki99 : kindOf Tryd.prog 99 = none := by kernel_rfl
@[go_sem] theorem Tryd.ty.if99 : isIface Tryd.prog 99 = some false := by kernel_rfl
@[go_sem] theorem Tryd.ty.sz100 : szOf Tryd.prog 100 = some 1 := by kernel_rfl
@[go_sem] theorem Tryd.ty.by100 : bytesIn Tryd.prog 100 = some 8 := by kernel_rfl
@[go_sem] theorem Tryd.ty.ag100 : aggOf Tryd.prog 100 = some false := by kernel_rfl
@[go_sem] theorem Tryd.ty.zr100 : zeroOf Tryd.prog 100 = some [.val (.pointer none)] := by kernel_rfl
@[go_sem] theorem Tryd.ty.el100 : elemOfSlice Tryd.prog 100 = none := by kernel_rfl
@[go_sem] theorem Tryd.ty.ar100 : arrayOf Tryd.prog 100 = none := by kernel_rfl
@[go_sem] theorem Tryd.ty.st100 : isStr Tryd.prog 100 = false := by kernel_rfl
@[go_sem] theorem Tryd.ty.bo100 : isBool Tryd.prog 100 = false := by kernel_rfl
@[go_sem] theorem Tryd.ty.ki100 : kindOf Tryd.prog 100 = none := by kernel_rfl
@[go_sem] theorem Tryd.ty.if100 : isIface Tryd.prog 100 = some false := by kernel_rfl
@[go_sem] theorem Tryd.ty.un100 : Tryd.prog.underlying 100 = some (.pointer 5) := by kernel_rfl
@[go_sem] theorem Tryd.ty.sz101 : szOf Tryd.prog 101 = some 1 := by kernel_rfl
@[go_sem] theorem Tryd.ty.by101 : bytesIn Tryd.prog 101 = some 8 := by kernel_rfl
@[go_sem] theorem Tryd.ty.ag101 : aggOf Tryd.prog 101 = some false := by kernel_rfl
@[go_sem] theorem Tryd.ty.zr101 : zeroOf Tryd.prog 101 = some [.val .nilFunc] := by kernel_rfl
@[go_sem] theorem Tryd.ty.el101 : elemOfSlice Tryd.prog 101 = none := by kernel_rfl
@[go_sem] theorem Tryd.ty.ar101 : arrayOf Tryd.prog 101 = none := by kernel_rfl
@[go_sem] theorem Tryd.ty.st101 : isStr Tryd.prog 101 = false := by kernel_rfl
@[go_sem] theorem Tryd.ty.bo101 : isBool Tryd.prog 101 = false := by kernel_rfl
@[go_sem] theorem Tryd.ty.ki101 : kindOf Tryd.prog 101 = none := by kernel_rfl
@[go_sem] theorem Tryd.ty.if101 : isIface Tryd.prog 101 = some false := by kernel_rfl
@[go_sem] theorem Tryd.ty.sz102 : szOf Tryd.prog 102 = some 1 := by kernel_rfl
@[go_sem] theorem Tryd.ty.by102 : bytesIn Tryd.prog 102 = some 8 := by kernel_rfl
@[go_sem] theorem Tryd.ty.ag102 : aggOf Tryd.prog 102 = some false := by kernel_rfl
@[go_sem] theorem Tryd.ty.zr102 : zeroOf Tryd.prog 102 = some [.val .nilFunc] := by kernel_rfl
@[go_sem] theorem Tryd.ty.el102 : elemOfSlice Tryd.prog 102 = none := by kernel_rfl
@[go_sem] theorem Tryd.ty.ar102 : arrayOf Tryd.prog 102 = none := by kernel_rfl
@[go_sem] theorem Tryd.ty.st102 : isStr Tryd.prog 102 = false := by kernel_rfl
@[go_sem] theorem Tryd.ty.bo102 : isBool Tryd.prog 102 = false := by kernel_rfl
@[go_sem] theorem Tryd.ty.ki102 : kindOf Tryd.prog 102 = none := by kernel_rfl
@[go_sem] theorem Tryd.ty.if102 : isIface Tryd.prog 102 = some false := by kernel_rfl
@[go_sem] theorem Tryd.ty.sz103 : szOf Tryd.prog 103 = some 1 := by kernel_rfl
@[go_sem] theorem Tryd.ty.by103 : bytesIn Tryd.prog 103 = some 8 := by kernel_rfl
@[go_sem] theorem Tryd.ty.ag103 : aggOf Tryd.prog 103 = some false := by kernel_rfl
@[go_sem] theorem Tryd.ty.zr103 : zeroOf Tryd.prog 103 = some [.val (.int .u64 0)] := by kernel_rfl
@[go_sem] theorem Tryd.ty.el103 : elemOfSlice Tryd.prog 103 = none := by kernel_rfl
@[go_sem] theorem Tryd.ty.ar103 : arrayOf Tryd.prog 103 = none := by kernel_rfl
@[go_sem] theorem Tryd.ty.st103 : isStr Tryd.prog 103 = false := by kernel_rfl
@[go_sem] theorem Tryd.ty.bo103 : isBool Tryd.prog 103 = false := by kernel_rfl
@[go_sem] theorem Tryd.ty.ki103 : kindOf Tryd.prog 103 = some .u64 := by kernel_rfl
@[go_sem] theorem Tryd.ty.if103 : isIface Tryd.prog 103 = some false := by kernel_rfl
@[go_sem] theorem Tryd.ty.un103 : Tryd.prog.underlying 103 = some (.int .u64) := by kernel_rfl
@[go_sem] theorem Tryd.ty.sz105 : szOf Tryd.prog 105 = some 1 := by kernel_rfl
@[go_sem] theorem Tryd.ty.by105 : bytesIn Tryd.prog 105 = some 8 := by kernel_rfl
@[go_sem] theorem Tryd.ty.ag105 : aggOf Tryd.prog 105 = some false := by kernel_rfl
@[go_sem] theorem Tryd.ty.zr105 : zeroOf Tryd.prog 105 = some [.val .nilFunc] := by kernel_rfl
@[go_sem] theorem Tryd.ty.el105 : elemOfSlice Tryd.prog 105 = none := by kernel_rfl
@[go_sem] theorem Tryd.ty.ar105 : arrayOf Tryd.prog 105 = none := by kernel_rfl
@[go_sem] theorem Tryd.ty.st105 : isStr Tryd.prog 105 = false := by kernel_rfl
@[go_sem] theorem Tryd.ty.bo105 : isBool Tryd.prog 105 = false := by kernel_rfl
@[go_sem] theorem Tryd.ty.ki105 : kindOf Tryd.prog 105 = none := by kernel_rfl
@[go_sem] theorem Tryd.ty.if105 : isIface Tryd.prog 105 = some false := by kernel_rfl
@[go_sem] theorem Tryd.ty.sz106 : szOf Tryd.prog 106 = some 1 := by kernel_rfl
@[go_sem] theorem Tryd.ty.by106 : bytesIn Tryd.prog 106 = some 8 := by kernel_rfl
@[go_sem] theorem Tryd.ty.ag106 : aggOf Tryd.prog 106 = some false := by kernel_rfl
@[go_sem] theorem Tryd.ty.zr106 : zeroOf Tryd.prog 106 = some [.val .nilFunc] := by kernel_rfl
@[go_sem] theorem Tryd.ty.el106 : elemOfSlice Tryd.prog 106 = none := by kernel_rfl
@[go_sem] theorem Tryd.ty.ar106 : arrayOf Tryd.prog 106 = none := by kernel_rfl
@[go_sem] theorem Tryd.ty.st106 : isStr Tryd.prog 106 = false := by kernel_rfl
@[go_sem] theorem Tryd.ty.bo106 : isBool Tryd.prog 106 = false := by kernel_rfl
@[go_sem] theorem Tryd.ty.ki106 : kindOf Tryd.prog 106 = none := by kernel_rfl
@[go_sem] theorem Tryd.ty.if106 : isIface Tryd.prog 106 = some false := by kernel_rfl
@[go_sem] theorem Tryd.ty.sz107 : szOf Tryd.prog 107 = some 1 := by kernel_rfl
@[go_sem] theorem Tryd.ty.by107 : bytesIn Tryd.prog 107 = some 8 := by kernel_rfl
@[go_sem] theorem Tryd.ty.ag107 : aggOf Tryd.prog 107 = some false := by kernel_rfl
@[go_sem] theorem Tryd.ty.zr107 : zeroOf Tryd.prog 107 = some [.val .nilFunc] := by kernel_rfl
@[go_sem] theorem Tryd.ty.el107 : elemOfSlice Tryd.prog 107 = none := by kernel_rfl
@[go_sem] theorem Tryd.ty.ar107 : arrayOf Tryd.prog 107 = none := by kernel_rfl
@[go_sem] theorem Tryd.ty.st107 : isStr Tryd.prog 107 = false := by kernel_rfl
@[go_sem] theorem Tryd.ty.bo107 : isBool Tryd.prog 107 = false := by kernel_rfl
@[go_sem] theorem Tryd.ty.ki107 : kindOf Tryd.prog 107 = none := by kernel_rfl
@[go_sem] theorem Tryd.ty.if107 : isIface Tryd.prog 107 = some false := by kernel_rfl
@[go_sem] theorem Tryd.ty.sz108 : szOf Tryd.prog 108 = some 1 := by kernel_rfl
@[go_sem] theorem Tryd.ty.by108 : bytesIn Tryd.prog 108 = some 8 := by kernel_rfl
@[go_sem] theorem Tryd.ty.ag108 : aggOf Tryd.prog 108 = some false := by kernel_rfl
@[go_sem] theorem Tryd.ty.zr108 : zeroOf Tryd.prog 108 = some [.val .nilFunc] := by kernel_rfl
@[go_sem] theorem Tryd.ty.el108 : elemOfSlice Tryd.prog 108 = none := by kernel_rfl
@[go_sem] theorem Tryd.ty.ar108 : arrayOf Tryd.prog 108 = none := by kernel_rfl
@[go_sem] theorem Tryd.ty.st108 : isStr Tryd.prog 108 = false := by kernel_rfl
@[go_sem] theorem Tryd.ty.bo108 : isBool Tryd.prog 108 = false := by kernel_rfl
@[go_sem] theorem Tryd.ty.ki108 : kindOf Tryd.prog 108 = none := by kernel_rfl
@[go_sem] theorem Tryd.ty.if108 : isIface Tryd.prog 108 = some false := by kernel_rfl
@[go_sem] theorem Tryd.ty.sz110 : szOf Tryd.prog 110 = some 1 := by kernel_rfl
@[go_sem] theorem Tryd.ty.by110 : bytesIn Tryd.prog 110 = some 8 := by kernel_rfl
@[go_sem] theorem Tryd.ty.ag110 : aggOf Tryd.prog 110 = some false := by kernel_rfl
@[go_sem] theorem Tryd.ty.zr110 : zeroOf Tryd.prog 110 = some [.val .nilFunc] := by kernel_rfl
@[go_sem] theorem Tryd.ty.el110 : elemOfSlice Tryd.prog 110 = none := by kernel_rfl
@[go_sem] theorem Tryd.ty.ar110 : arrayOf Tryd.prog 110 = none := by kernel_rfl
@[go_sem] theorem Tryd.ty.st110 : isStr Tryd.prog 110 = false := by kernel_rfl
@[go_sem] theorem Tryd.ty.bo110 : isBool Tryd.prog 110 = false := by kernel_rfl
@[go_sem] theorem Tryd.ty.ki110 : kindOf Tryd.prog 110 = none := by kernel_rfl
@[go_sem] theorem Tryd.ty.if110 : isIface Tryd.prog 110 = some false := by kernel_rfl
@[go_sem] theorem Tryd.ty.sz113 : szOf Tryd.prog 113 = some 1 := by kernel_rfl
@[go_sem] theorem Tryd.ty.by113 : bytesIn Tryd.prog 113 = some 8 := by kernel_rfl
@[go_sem] theorem Tryd.ty.ag113 : aggOf Tryd.prog 113 = some false := by kernel_rfl
@[go_sem] theorem Tryd.ty.zr113 : zeroOf Tryd.prog 113 = some [.val .nilFunc] := by kernel_rfl
@[go_sem] theorem Tryd.ty.el113 : elemOfSlice Tryd.prog 113 = none := by kernel_rfl
@[go_sem] theorem Tryd.ty.ar113 : arrayOf Tryd.prog 113 = none := by kernel_rfl
@[go_sem] theorem Tryd.ty.st113 : isStr Tryd.prog 113 = false := by kernel_rfl
@[go_sem] theorem Tryd.ty.bo113 : isBool Tryd.prog 113 = false := by kernel_rfl
@[go_sem] theorem Tryd.ty.ki113 : kindOf Tryd.prog 113 = none := by kernel_rfl
@[go_sem] theorem Tryd.ty.if113 : isIface Tryd.prog 113 = some false := by kernel_rfl
@[go_sem] theorem Tryd.ty.sz114 : szOf Tryd.prog 114 = some 1 := by kernel_rfl
@[go_sem] theorem Tryd.ty.by114 : bytesIn Tryd.prog 114 = some 8 := by kernel_rfl
@[go_sem] theorem Tryd.ty.ag114 : aggOf Tryd.prog 114 = some false := by kernel_rfl
@[go_sem] theorem Tryd.ty.zr114 : zeroOf Tryd.prog 114 = some [.val (.pointer none)] := by kernel_rfl
@[go_sem] theorem Tryd.ty.el114 : elemOfSlice Tryd.prog 114 = none := by kernel_rfl
@[go_sem] theorem Tryd.ty.ar114 : arrayOf Tryd.prog 114 = none := by kernel_rfl
@[go_sem] theorem Tryd.ty.st114 : isStr Tryd.prog 114 = false := by kernel_rfl
@[go_sem] theorem Tryd.ty.bo114 : isBool Tryd.prog 114 = false := by kernel_rfl
@[go_sem] theorem Tryd.ty.ki114 : kindOf Tryd.prog 114 = none := by kernel_rfl
@[go_sem] theorem Tryd.ty.if114 : isIface Tryd.prog 114 = some false := by kernel_rfl
@[go_sem] theorem Tryd.ty.un114 : Tryd.prog.underlying 114 = some (.pointer 130) := by kernel_rfl
@[go_sem] theorem Tryd.ty.sz115 : szOf Tryd.prog 115 = some 1 := by kernel_rfl
@[go_sem] theorem Tryd.ty.by115 : bytesIn Tryd.prog 115 = some 8 := by kernel_rfl
@[go_sem] theorem Tryd.ty.ag115 : aggOf Tryd.prog 115 = some false := by kernel_rfl
@[go_sem] theorem Tryd.ty.zr115 : zeroOf Tryd.prog 115 = some [.val .nilFunc] := by kernel_rfl
@[go_sem] theorem Tryd.ty.el115 : elemOfSlice Tryd.prog 115 = none := by kernel_rfl
@[go_sem] theorem Tryd.ty.ar115 : arrayOf Tryd.prog 115 = none := by kernel_rfl
@[go_sem] theorem Tryd.ty.st115 : isStr Tryd.prog 115 = false := by kernel_rfl
@[go_sem] theorem Tryd.ty.bo115 : isBool Tryd.prog 115 = false := by kernel_rfl
@[go_sem] theorem Tryd.ty.ki115 : kindOf Tryd.prog 115 = none := by kernel_rfl
@[go_sem] theorem Tryd.ty.if115 : isIface Tryd.prog 115 = some false := by kernel_rfl
@[go_sem] theorem Tryd.ty.sz116 : szOf Tryd.prog 116 = some 1 := by kernel_rfl
@[go_sem] theorem Tryd.ty.by116 : bytesIn Tryd.prog 116 = some 8 := by kernel_rfl
@[go_sem] theorem Tryd.ty.ag116 : aggOf Tryd.prog 116 = some false := by kernel_rfl
@[go_sem] theorem Tryd.ty.zr116 : zeroOf Tryd.prog 116 = some [.val .nilFunc] := by kernel_rfl
@[go_sem] theorem Tryd.ty.el116 : elemOfSlice Tryd.prog 116 = none := by kernel_rfl
@[go_sem] theorem Tryd.ty.ar116 : arrayOf Tryd.prog 116 = none := by kernel_rfl
@[go_sem] theorem Tryd.ty.st116 : isStr Tryd.prog 116 = false := by kernel_rfl
@[go_sem] theorem Tryd.ty.bo116 : isBool Tryd.prog 116 = false := by kernel_rfl
@[go_sem] theorem Tryd.ty.ki116 : kindOf Tryd.prog 116 = none := by kernel_rfl
@[go_sem] theorem Tryd.ty.if116 : isIface Tryd.prog 116 = some false := by kernel_rfl
@[go_sem] theorem Tryd.ty.sz117 : szOf Tryd.prog 117 = some 24 := by kernel_rfl
@[go_sem] theorem Tryd.ty.by117 : bytesIn Tryd.prog 117 = some 24 := by kernel_rfl
@[go_sem] theorem Tryd.ty.ag117 : aggOf Tryd.prog 117 = some true := by kernel_rfl
@[go_sem] theorem Tryd.ty.el117 : elemOfSlice Tryd.prog 117 = none := by kernel_rfl
@[go_sem] theorem Tryd.ty.ar117 : arrayOf Tryd.prog 117 = some (24, 5) := by kernel_rfl
@[go_sem] theorem Tryd.ty.st117 : isStr Tryd.prog 117 = false := by kernel_rfl
@[go_sem] theorem Tryd.ty.bo117 : isBool Tryd.prog 117 = false := by kernel_rfl
@[go_sem] theorem Tryd.ty.ki117 : kindOf Tryd.prog 117 = none := by kernel_rfl
@[go_sem] theorem Tryd.ty.if117 : isIface Tryd.prog 117 = some false := by kernel_rfl
@[go_sem] theorem Tryd.ty.bk117 : buildOk Tryd.prog 117 = true := by kernel_rfl
@[go_sem] theorem Tryd.ty.un117 : Tryd.prog.underlying 117 = some (.array 24 5) := by kernel_rfl
@[go_sem] theorem Tryd.ty.sz118 : szOf Tryd.prog 118 = some 1 := by kernel_rfl
@[go_sem] theorem Tryd.ty.by118 : bytesIn Tryd.prog 118 = some 8 := by kernel_rfl
@[go_sem] theorem Tryd.ty.ag118 : aggOf Tryd.prog 118 = some false := by kernel_rfl
@[go_sem] theorem Tryd.ty.zr118 : zeroOf Tryd.prog 118 = some [.val (.int .u64 0)] := by kernel_rfl
@[go_sem] theorem Tryd.ty.el118 : elemOfSlice Tryd.prog 118 = none := by kernel_rfl
@[go_sem] theorem Tryd.ty.ar118 : arrayOf Tryd.prog 118 = none := by kernel_rfl
@[go_sem] theorem Tryd.ty.st118 : isStr Tryd.prog 118 = false := by kernel_rfl
@[go_sem] theorem Tryd.ty.bo118 : isBool Tryd.prog 118 = false := by kernel_rfl
@[go_sem] theorem Tryd.ty.ki118 : kindOf Tryd.prog 118 = some .u64 := by kernel_rfl
@[go_sem] theorem Tryd.ty.if118 : isIface Tryd.prog 118 = some false := by kernel_rfl
@[go_sem] theorem Tryd.ty.un118 : Tryd.prog.underlying 118 = some (.int .u64) := by kernel_rfl
@[go_sem] theorem Tryd.ty.sz119 : szOf Tryd.prog 119 = some 1 := by kernel_rfl
@[go_sem] theorem Tryd.ty.by119 : bytesIn Tryd.prog 119 = some 8 := by kernel_rfl
@[go_sem] theorem Tryd.ty.ag119 : aggOf Tryd.prog 119 = some false := by kernel_rfl
@[go_sem] theorem Tryd.ty.zr119 : zeroOf Tryd.prog 119 = some [.val .nilFunc] := by kernel_rfl
@[go_sem] theorem Tryd.ty.el119 : elemOfSlice Tryd.prog 119 = none := by kernel_rfl
@[go_sem] theorem Tryd.ty.ar119 : arrayOf Tryd.prog 119 = none := by kernel_rfl
@[go_sem] theorem Tryd.ty.st119 : isStr Tryd.prog 119 = false := by kernel_rfl
@[go_sem] theorem Tryd.ty.bo119 : isBool Tryd.prog 119 = false := by kernel_rfl
@[go_sem] theorem Tryd.ty.ki119 : kindOf Tryd.prog 119 = none := by kernel_rfl
@[go_sem] theorem Tryd.ty.if119 : isIface Tryd.prog 119 = some false := by kernel_rfl
@[go_sem] theorem Tryd.ty.sz120 : szOf Tryd.prog 120 = some 1 := by kernel_rfl
@[go_sem] theorem Tryd.ty.by120 : bytesIn Tryd.prog 120 = some 8 := by kernel_rfl
@[go_sem] theorem Tryd.ty.ag120 : aggOf Tryd.prog 120 = some false := by kernel_rfl
@[go_sem] theorem Tryd.ty.zr120 : zeroOf Tryd.prog 120 = some [.val .nilFunc] := by kernel_rfl
@[go_sem] theorem Tryd.ty.el120 : elemOfSlice Tryd.prog 120 = none := by kernel_rfl
@[go_sem] theorem Tryd.ty.ar120 : arrayOf Tryd.prog 120 = none := by kernel_rfl
@[go_sem] theorem Tryd.ty.st120 : isStr Tryd.prog 120 = false := by kernel_rfl
@[go_sem] theorem Tryd.ty.bo120 : isBool Tryd.prog 120 = false := by kernel_rfl
@[go_sem] theorem Tryd.ty.ki120 : kindOf Tryd.prog 120 = none := by kernel_rfl
@[go_sem] theorem Tryd.ty.if120 : isIface Tryd.prog 120 = some false := by kernel_rfl
@[go_sem] theorem Tryd.ty.sz122 : szOf Tryd.prog 122 = some 1 := by kernel_rfl
@[go_sem] theorem Tryd.ty.by122 : bytesIn Tryd.prog 122 = some 8 := by kernel_rfl
@[go_sem] theorem Tryd.ty.ag122 : aggOf Tryd.prog 122 = some false := by kernel_rfl
@[go_sem] theorem Tryd.ty.zr122 : zeroOf Tryd.prog 122 = some [.val .nilFunc] := by kernel_rfl
@[go_sem] theorem Tryd.ty.el122 : elemOfSlice Tryd.prog 122 = none := by kernel_rfl
@[go_sem] theorem Tryd.ty.ar122 : arrayOf Tryd.prog 122 = none := by kernel_rfl
@[go_sem] theorem Tryd.ty.st122 : isStr Tryd.prog 122 = false := by kernel_rfl
@[go_sem] theorem Tryd.ty.bo122 : isBool Tryd.prog 122 = false := by kernel_rfl
@[go_sem] theorem Tryd.ty.ki122 : kindOf Tryd.prog 122 = none := by kernel_rfl
@[go_sem] theorem Tryd.ty.if122 : isIface Tryd.prog 122 = some false := by kernel_rfl
@[go_sem] theorem Tryd.ty.sz123 : szOf Tryd.prog 123 = some 1 := by kernel_rfl
@[go_sem] theorem Tryd.ty.by123 : bytesIn Tryd.prog 123 = some 4 := by kernel_rfl
@[go_sem] theorem Tryd.ty.ag123 : aggOf Tryd.prog 123 = some false := by kernel_rfl
@[go_sem] theorem Tryd.ty.zr123 : zeroOf Tryd.prog 123 = some [.val (.int .u32 0)] := by kernel_rfl
@[go_sem] theorem Tryd.ty.el123 : elemOfSlice Tryd.prog 123 = none := by kernel_rfl
@[go_sem] theorem Tryd.ty.ar123 : arrayOf Tryd.prog 123 = none := by kernel_rfl
@[go_sem] theorem Tryd.ty.st123 : isStr Tryd.prog 123 = false := by kernel_rfl
@[go_sem] theorem Tryd.ty.bo123 : isBool Tryd.prog 123 = false := by kernel_rfl
@[go_sem] theorem Tryd.ty.ki123 : kindOf Tryd.prog 123 = some .u32 := by kernel_rfl
@[go_sem] theorem Tryd.ty.if123 : isIface Tryd.prog 123 = some false := by kernel_rfl
@[go_sem] theorem Tryd.ty.un123 : Tryd.prog.underlying 123 = some (.int .u32) := by kernel_rfl
@[go_sem] theorem Tryd.ty.sz125 : szOf Tryd.prog 125 = some 1 := by kernel_rfl
@[go_sem] theorem Tryd.ty.by125 : bytesIn Tryd.prog 125 = some 8 := by kernel_rfl
@[go_sem] theorem Tryd.ty.ag125 : aggOf Tryd.prog 125 = some false := by kernel_rfl
@[go_sem] theorem Tryd.ty.zr125 : zeroOf Tryd.prog 125 = some [.val .nilFunc] := by kernel_rfl
@[go_sem] theorem Tryd.ty.el125 : elemOfSlice Tryd.prog 125 = none := by kernel_rfl
@[go_sem] theorem Tryd.ty.ar125 : arrayOf Tryd.prog 125 = none := by kernel_rfl
@[go_sem] theorem Tryd.ty.st125 : isStr Tryd.prog 125 = false := by kernel_rfl
@[go_sem] theorem Tryd.ty.bo125 : isBool Tryd.prog 125 = false := by kernel_rfl
@[go_sem] theorem Tryd.ty.ki125 : kindOf Tryd.prog 125 = none := by kernel_rfl
@[go_sem] theorem Tryd.ty.if125 : isIface Tryd.prog 125 = some false := by kernel_rfl
@[go_sem] theorem Tryd.ty.sz127 : szOf Tryd.prog 127 = some 1 := by kernel_rfl
@[go_sem] theorem Tryd.ty.by127 : bytesIn Tryd.prog 127 = some 8 := by kernel_rfl
@[go_sem] theorem Tryd.ty.ag127 : aggOf Tryd.prog 127 = some false := by kernel_rfl
@[go_sem] theorem Tryd.ty.zr127 : zeroOf Tryd.prog 127 = some [.val .nilFunc] := by kernel_rfl
@[go_sem] theorem Tryd.ty.el127 : elemOfSlice Tryd.prog 127 = none := by kernel_rfl
@[go_sem] theorem Tryd.ty.ar127 : arrayOf Tryd.prog 127 = none := by kernel_rfl
@[go_sem] theorem Tryd.ty.st127 : isStr Tryd.prog 127 = false := by kernel_rfl
@[go_sem] theorem Tryd.ty.bo127 : isBool Tryd.prog 127 = false := by kernel_rfl
@[go_sem] theorem Tryd.ty.ki127 : kindOf Tryd.prog 127 = none := by kernel_rfl
@[go_sem] theorem Tryd.ty.if127 : isIface Tryd.prog 127 = some false := by kernel_rfl
@[go_sem] theorem Tryd.ty.sz128 : szOf Tryd.prog 128 = some 1 := by kernel_rfl
@[go_sem] theorem Tryd.ty.by128 : bytesIn Tryd.prog 128 = some 8 := by kernel_rfl
@[go_sem] theorem Tryd.ty.ag128 : aggOf Tryd.prog 128 = some false := by kernel_rfl
@[go_sem] theorem Tryd.ty.zr128 : zeroOf Tryd.prog 128 = some [.val .nilFunc] := by kernel_rfl
@[go_sem] theorem Tryd.ty.el128 : elemOfSlice Tryd.prog 128 = none := by kernel_rfl
@[go_sem] theorem Tryd.ty.ar128 : arrayOf Tryd.prog 128 = none := by kernel_rfl
@[go_sem] theorem Tryd.ty.st128 : isStr Tryd.prog 128 = false := by kernel_rfl
@[go_sem] theorem Tryd.ty.bo128 : isBool Tryd.prog 128 = false := by kernel_rfl
@[go_sem] theorem Tryd.ty.ki128 : kindOf Tryd.prog 128 = none := by kernel_rfl
@[go_sem] theorem Tryd.ty.if128 : isIface Tryd.prog 128 = some false := by kernel_rfl
@[go_sem] theorem Tryd.ty.sz129 : szOf Tryd.prog 129 = some 3 := by kernel_rfl
@[go_sem] theorem Tryd.ty.by129 : bytesIn Tryd.prog 129 = some 48 := by kernel_rfl
@[go_sem] theorem Tryd.ty.ag129 : aggOf Tryd.prog 129 = some true := by kernel_rfl
@[go_sem] theorem Tryd.ty.zr129 : zeroOf Tryd.prog 129 = some [.val (.string ByteArray.empty), .val (.string ByteArray.empty), .val .nilIface] := by kernel_rfl
@[go_sem] theorem Tryd.ty.el129 : elemOfSlice Tryd.prog 129 = none := by kernel_rfl
@[go_sem] theorem Tryd.ty.ar129 : arrayOf Tryd.prog 129 = none := by kernel_rfl
@[go_sem] theorem Tryd.ty.st129 : isStr Tryd.prog 129 = false := by kernel_rfl
@[go_sem] theorem Tryd.ty.bo129 : isBool Tryd.prog 129 = false := by kernel_rfl
@[go_sem] theorem Tryd.ty.ki129 : kindOf Tryd.prog 129 = none := by kernel_rfl
@[go_sem] theorem Tryd.ty.if129 : isIface Tryd.prog 129 = some false := by kernel_rfl
@[go_sem] theorem Tryd.ty.fo0_129 : fieldOf Tryd.prog 129 0 = some (9, 0) := by kernel_rfl
@[go_sem] theorem Tryd.ty.fp0_129 : fieldPl Tryd.prog 129 0 = some (0, 1) := by kernel_rfl
@[go_sem] theorem Tryd.ty.fo1_129 : fieldOf Tryd.prog 129 1 = some (9, 1) := by kernel_rfl
@[go_sem] theorem Tryd.ty.fp1_129 : fieldPl Tryd.prog 129 1 = some (1, 1) := by kernel_rfl
@[go_sem] theorem Tryd.ty.fo2_129 : fieldOf Tryd.prog 129 2 = some (87, 2) := by kernel_rfl
@[go_sem] theorem Tryd.ty.fp2_129 : fieldPl Tryd.prog 129 2 = some (2, 1) := by kernel_rfl
@[go_sem] theorem Tryd.ty.bk129 : buildOk Tryd.prog 129 = true := by kernel_rfl
@[go_sem] theorem Tryd.ty.sz130 : szOf Tryd.prog 130 = some 3 := by kernel_rfl
@[go_sem] theorem Tryd.ty.by130 : bytesIn Tryd.prog 130 = some 48 := by kernel_rfl
@[go_sem] theorem Tryd.ty.ag130 : aggOf Tryd.prog 130 = some true := by kernel_rfl
@[go_sem] theorem Tryd.ty.zr130 : zeroOf Tryd.prog 130 = some [.val (.string ByteArray.empty), .val (.string ByteArray.empty), .val .nilIface] := by kernel_rfl
@[go_sem] theorem Tryd.ty.el130 : elemOfSlice Tryd.prog 130 = none := by kernel_rfl
@[go_sem] theorem Tryd.ty.ar130 : arrayOf Tryd.prog 130 = none := by kernel_rfl
@[go_sem] theorem Tryd.ty.st130 : isStr Tryd.prog 130 = false := by kernel_rfl
@[go_sem] theorem Tryd.ty.bo130 : isBool Tryd.prog 130 = false := by kernel_rfl
@[go_sem] theorem Tryd.ty.ki130 : kindOf Tryd.prog 130 = none := by kernel_rfl
@[go_sem] theorem Tryd.ty.if130 : isIface Tryd.prog 130 = some false := by kernel_rfl
@[go_sem] theorem Tryd.ty.fo0_130 : fieldOf Tryd.prog 130 0 = some (9, 0) := by kernel_rfl
@[go_sem] theorem Tryd.ty.fp0_130 : fieldPl Tryd.prog 130 0 = some (0, 1) := by kernel_rfl
@[go_sem] theorem Tryd.ty.fo1_130 : fieldOf Tryd.prog 130 1 = some (9, 1) := by kernel_rfl
@[go_sem] theorem Tryd.ty.fp1_130 : fieldPl Tryd.prog 130 1 = some (1, 1) := by kernel_rfl
@[go_sem] theorem Tryd.ty.fo2_130 : fieldOf Tryd.prog 130 2 = some (87, 2) := by kernel_rfl
@[go_sem] theorem Tryd.ty.fp2_130 : fieldPl Tryd.prog 130 2 = some (2, 1) := by kernel_rfl
@[go_sem] theorem Tryd.ty.bk130 : buildOk Tryd.prog 130 = true := by kernel_rfl
@[go_sem] theorem Tryd.ty.sz131 : szOf Tryd.prog 131 = some 1 := by kernel_rfl
@[go_sem] theorem Tryd.ty.by131 : bytesIn Tryd.prog 131 = some 8 := by kernel_rfl
@[go_sem] theorem Tryd.ty.ag131 : aggOf Tryd.prog 131 = some false := by kernel_rfl
@[go_sem] theorem Tryd.ty.zr131 : zeroOf Tryd.prog 131 = some [.val .nilFunc] := by kernel_rfl
@[go_sem] theorem Tryd.ty.el131 : elemOfSlice Tryd.prog 131 = none := by kernel_rfl
@[go_sem] theorem Tryd.ty.ar131 : arrayOf Tryd.prog 131 = none := by kernel_rfl
@[go_sem] theorem Tryd.ty.st131 : isStr Tryd.prog 131 = false := by kernel_rfl
@[go_sem] theorem Tryd.ty.bo131 : isBool Tryd.prog 131 = false := by kernel_rfl
@[go_sem] theorem Tryd.ty.ki131 : kindOf Tryd.prog 131 = none := by kernel_rfl
@[go_sem] theorem Tryd.ty.if131 : isIface Tryd.prog 131 = some false := by kernel_rfl
@[go_sem] theorem Tryd.ty.sz132 : szOf Tryd.prog 132 = some 1 := by kernel_rfl
@[go_sem] theorem Tryd.ty.by132 : bytesIn Tryd.prog 132 = some 8 := by kernel_rfl
@[go_sem] theorem Tryd.ty.ag132 : aggOf Tryd.prog 132 = some false := by kernel_rfl
@[go_sem] theorem Tryd.ty.zr132 : zeroOf Tryd.prog 132 = some [.val .nilFunc] := by kernel_rfl
@[go_sem] theorem Tryd.ty.el132 : elemOfSlice Tryd.prog 132 = none := by kernel_rfl
@[go_sem] theorem Tryd.ty.ar132 : arrayOf Tryd.prog 132 = none := by kernel_rfl
@[go_sem] theorem Tryd.ty.st132 : isStr Tryd.prog 132 = false := by kernel_rfl
@[go_sem] theorem Tryd.ty.bo132 : isBool Tryd.prog 132 = false := by kernel_rfl
@[go_sem] theorem Tryd.ty.ki132 : kindOf Tryd.prog 132 = none := by kernel_rfl
@[go_sem] theorem Tryd.ty.if132 : isIface Tryd.prog 132 = some false := by kernel_rfl
@[go_sem] theorem Tryd.ty.sz133 : szOf Tryd.prog 133 = some 20 := by kernel_rfl
@[go_sem] theorem Tryd.ty.by133 : bytesIn Tryd.prog 133 = some 160 := by kernel_rfl
@[go_sem] theorem Tryd.ty.ag133 : aggOf Tryd.prog 133 = some true := by kernel_rfl
@[go_sem] theorem Tryd.ty.el133 : elemOfSlice Tryd.prog 133 = none := by kernel_rfl
@[go_sem] theorem Tryd.ty.ar133 : arrayOf Tryd.prog 133 = some (20, 118) := by kernel_rfl
@[go_sem] theorem Tryd.ty.st133 : isStr Tryd.prog 133 = false := by kernel_rfl
@[go_sem] theorem Tryd.ty.bo133 : isBool Tryd.prog 133 = false := by kernel_rfl
@[go_sem] theorem Tryd.ty.ki133 : kindOf Tryd.prog 133 = none := by kernel_rfl
@[go_sem] theorem Tryd.ty.if133 : isIface Tryd.prog 133 = some false := by kernel_rfl
@[go_sem] theorem Tryd.ty.bk133 : buildOk Tryd.prog 133 = true := by kernel_rfl
@[go_sem] theorem Tryd.ty.un133 : Tryd.prog.underlying 133 = some (.array 20 118) := by kernel_rfl
@[go_sem] theorem Tryd.ty.sz134 : szOf Tryd.prog 134 = some 65 := by kernel_rfl
@[go_sem] theorem Tryd.ty.by134 : bytesIn Tryd.prog 134 = some 65 := by kernel_rfl
@[go_sem] theorem Tryd.ty.ag134 : aggOf Tryd.prog 134 = some true := by kernel_rfl
@[go_sem] theorem Tryd.ty.el134 : elemOfSlice Tryd.prog 134 = none := by kernel_rfl
@[go_sem] theorem Tryd.ty.ar134 : arrayOf Tryd.prog 134 = some (65, 5) := by kernel_rfl
@[go_sem] theorem Tryd.ty.st134 : isStr Tryd.prog 134 = false := by kernel_rfl
@[go_sem] theorem Tryd.ty.bo134 : isBool Tryd.prog 134 = false := by kernel_rfl
@[go_sem] theorem Tryd.ty.ki134 : kindOf Tryd.prog 134 = none := by kernel_rfl
@[go_sem] theorem Tryd.ty.if134 : isIface Tryd.prog 134 = some false := by kernel_rfl
@[go_sem] theorem Tryd.ty.bk134 : buildOk Tryd.prog 134 = true := by kernel_rfl
@[go_sem] theorem Tryd.ty.un134 : Tryd.prog.underlying 134 = some (.array 65 5) := by kernel_rfl
@[go_sem] theorem Tryd.ty.sz135 : szOf Tryd.prog 135 = some 1 := by kernel_rfl
@[go_sem] theorem Tryd.ty.by135 : bytesIn Tryd.prog 135 = some 8 := by kernel_rfl
@[go_sem] theorem Tryd.ty.ag135 : aggOf Tryd.prog 135 = some false := by kernel_rfl
@[go_sem] theorem Tryd.ty.zr135 : zeroOf Tryd.prog 135 = some [.val .nilFunc] := by kernel_rfl
@[go_sem] theorem Tryd.ty.el135 : elemOfSlice Tryd.prog 135 = none := by kernel_rfl
@[go_sem] theorem Tryd.ty.ar135 : arrayOf Tryd.prog 135 = none := by kernel_rfl
@[go_sem] theorem Tryd.ty.st135 : isStr Tryd.prog 135 = false := by kernel_rfl
@[go_sem] theorem Tryd.ty.bo135 : isBool Tryd.prog 135 = false := by kernel_rfl
@[go_sem] theorem Tryd.ty.ki135 : kindOf Tryd.prog 135 = none := by kernel_rfl
@[go_sem] theorem Tryd.ty.if135 : isIface Tryd.prog 135 = some false := by kernel_rfl
@[go_sem] theorem Tryd.ty.sz136 : szOf Tryd.prog 136 = some 1 := by kernel_rfl
@[go_sem] theorem Tryd.ty.by136 : bytesIn Tryd.prog 136 = some 8 := by kernel_rfl
@[go_sem] theorem Tryd.ty.ag136 : aggOf Tryd.prog 136 = some false := by kernel_rfl
@[go_sem] theorem Tryd.ty.zr136 : zeroOf Tryd.prog 136 = some [.val .nilFunc] := by kernel_rfl
@[go_sem] theorem Tryd.ty.el136 : elemOfSlice Tryd.prog 136 = none := by kernel_rfl
@[go_sem] theorem Tryd.ty.ar136 : arrayOf Tryd.prog 136 = none := by kernel_rfl
@[go_sem] theorem Tryd.ty.st136 : isStr Tryd.prog 136 = false := by kernel_rfl
@[go_sem] theorem Tryd.ty.bo136 : isBool Tryd.prog 136 = false := by kernel_rfl
@[go_sem] theorem Tryd.ty.ki136 : kindOf Tryd.prog 136 = none := by kernel_rfl
@[go_sem] theorem Tryd.ty.if136 : isIface Tryd.prog 136 = some false := by kernel_rfl
@[go_sem] theorem Tryd.ty.sz137 : szOf Tryd.prog 137 = some 256 := by kernel_rfl
@[go_sem] theorem Tryd.ty.by137 : bytesIn Tryd.prog 137 = some 256 := by kernel_rfl
@[go_sem] theorem Tryd.ty.ag137 : aggOf Tryd.prog 137 = some true := by kernel_rfl
@[go_sem] theorem Tryd.ty.el137 : elemOfSlice Tryd.prog 137 = none := by kernel_rfl
@[go_sem] theorem Tryd.ty.ar137 : arrayOf Tryd.prog 137 = some (256, 5) := by kernel_rfl
@[go_sem] theorem Tryd.ty.st137 : isStr Tryd.prog 137 = false := by kernel_rfl
@[go_sem] theorem Tryd.ty.bo137 : isBool Tryd.prog 137 = false := by kernel_rfl
@[go_sem] theorem Tryd.ty.ki137 : kindOf Tryd.prog 137 = none := by kernel_rfl
@[go_sem] theorem Tryd.ty.if137 : isIface Tryd.prog 137 = some false := by kernel_rfl
@[go_sem] theorem Tryd.ty.bk137 : buildOk Tryd.prog 137 = true := by kernel_rfl
@[go_sem] theorem Tryd.ty.un137 : Tryd.prog.underlying 137 = some (.array 256 5) := by kernel_rfl
@[go_sem] theorem Tryd.ty.sz138 : szOf Tryd.prog 138 = some 2 := by kernel_rfl
@[go_sem] theorem Tryd.ty.by138 : bytesIn Tryd.prog 138 = some 2 := by kernel_rfl
@[go_sem] theorem Tryd.ty.ag138 : aggOf Tryd.prog 138 = some true := by kernel_rfl
@[go_sem] theorem Tryd.ty.zr138 : zeroOf Tryd.prog 138 = some [.val (.int .u8 0), .val (.int .u8 0)] := by kernel_rfl
@[go_sem] theorem Tryd.ty.el138 : elemOfSlice Tryd.prog 138 = none := by kernel_rfl
@[go_sem] theorem Tryd.ty.ar138 : arrayOf Tryd.prog 138 = none := by kernel_rfl
@[go_sem] theorem Tryd.ty.st138 : isStr Tryd.prog 138 = false := by kernel_rfl
@[go_sem] theorem Tryd.ty.bo138 : isBool Tryd.prog 138 = false := by kernel_rfl
@[go_sem] theorem Tryd.ty.ki138 : kindOf Tryd.prog 138 = none := by kernel_rfl
@[go_sem] theorem Tryd.ty.if138 : isIface Tryd.prog 138 = some false := by kernel_rfl
@[go_sem] theorem Tryd.ty.fo0_138 : fieldOf Tryd.prog 138 0 = some (5, 0) := by kernel_rfl
@[go_sem] theorem Tryd.ty.fp0_138 : fieldPl Tryd.prog 138 0 = some (0, 1) := by kernel_rfl
@[go_sem] theorem Tryd.ty.fo1_138 : fieldOf Tryd.prog 138 1 = some (5, 1) := by kernel_rfl
@[go_sem] theorem Tryd.ty.fp1_138 : fieldPl Tryd.prog 138 1 = some (1, 1) := by kernel_rfl
@[go_sem] theorem Tryd.ty.bk138 : buildOk Tryd.prog 138 = true := by kernel_rfl
@[go_sem] theorem Tryd.ty.sz139 : szOf Tryd.prog 139 = some 2 := by kernel_rfl
@[go_sem] theorem Tryd.ty.by139 : bytesIn Tryd.prog 139 = some 2 := by kernel_rfl
@[go_sem] theorem Tryd.ty.ag139 : aggOf Tryd.prog 139 = some true := by kernel_rfl
@[go_sem] theorem Tryd.ty.zr139 : zeroOf Tryd.prog 139 = some [.val (.int .u8 0), .val (.int .u8 0)] := by kernel_rfl
@[go_sem] theorem Tryd.ty.el139 : elemOfSlice Tryd.prog 139 = none := by kernel_rfl
@[go_sem] theorem Tryd.ty.ar139 : arrayOf Tryd.prog 139 = none := by kernel_rfl
@[go_sem] theorem Tryd.ty.st139 : isStr Tryd.prog 139 = false := by kernel_rfl
@[go_sem] theorem Tryd.ty.bo139 : isBool Tryd.prog 139 = false := by kernel_rfl
@[go_sem] theorem Tryd.ty.ki139 : kindOf Tryd.prog 139 = none := by kernel_rfl
@[go_sem] theorem Tryd.ty.if139 : isIface Tryd.prog 139 = some false := by kernel_rfl
@[go_sem] theorem Tryd.ty.fo0_139 : fieldOf Tryd.prog 139 0 = some (5, 0) := by kernel_rfl
@[go_sem] theorem Tryd.ty.fp0_139 : fieldPl Tryd.prog 139 0 = some (0, 1) := by kernel_rfl
@[go_sem] theorem Tryd.ty.fo1_139 : fieldOf Tryd.prog 139 1 = some (5, 1) := by kernel_rfl
@[go_sem] theorem Tryd.ty.fp1_139 : fieldPl Tryd.prog 139 1 = some (1, 1) := by kernel_rfl
@[go_sem] theorem Tryd.ty.bk139 : buildOk Tryd.prog 139 = true := by kernel_rfl
@[go_sem] theorem Tryd.ty.sz140 : szOf Tryd.prog 140 = some 32 := by kernel_rfl
@[go_sem] theorem Tryd.ty.by140 : bytesIn Tryd.prog 140 = some 32 := by kernel_rfl
@[go_sem] theorem Tryd.ty.ag140 : aggOf Tryd.prog 140 = some true := by kernel_rfl
@[go_sem] theorem Tryd.ty.el140 : elemOfSlice Tryd.prog 140 = none := by kernel_rfl
@[go_sem] theorem Tryd.ty.ar140 : arrayOf Tryd.prog 140 = some (16, 139) := by kernel_rfl
@[go_sem] theorem Tryd.ty.st140 : isStr Tryd.prog 140 = false := by kernel_rfl
@[go_sem] theorem Tryd.ty.bo140 : isBool Tryd.prog 140 = false := by kernel_rfl
@[go_sem] theorem Tryd.ty.ki140 : kindOf Tryd.prog 140 = none := by kernel_rfl
@[go_sem] theorem Tryd.ty.if140 : isIface Tryd.prog 140 = some false := by kernel_rfl
@[go_sem] theorem Tryd.ty.bk140 : buildOk Tryd.prog 140 = true := by kernel_rfl
@[go_sem] theorem Tryd.ty.un140 : Tryd.prog.underlying 140 = some (.array 16 139) := by kernel_rfl
@[go_sem] theorem Tryd.ty.sz141 : szOf Tryd.prog 141 = some 1 := by kernel_rfl
@[go_sem] theorem Tryd.ty.by141 : bytesIn Tryd.prog 141 = some 8 := by kernel_rfl
@[go_sem] theorem Tryd.ty.ag141 : aggOf Tryd.prog 141 = some false := by kernel_rfl
@[go_sem] theorem Tryd.ty.zr141 : zeroOf Tryd.prog 141 = some [.val .nilFunc] := by kernel_rfl
@[go_sem] theorem Tryd.ty.el141 : elemOfSlice Tryd.prog 141 = none := by kernel_rfl
@[go_sem] theorem Tryd.ty.ar141 : arrayOf Tryd.prog 141 = none := by kernel_rfl
@[go_sem] theorem Tryd.ty.st141 : isStr Tryd.prog 141 = false := by kernel_rfl
@[go_sem] theorem Tryd.ty.bo141 : isBool Tryd.prog 141 = false := by kernel_rfl
@[go_sem] theorem Tryd.ty.ki141 : kindOf Tryd.prog 141 = none := by kernel_rfl
@[go_sem] theorem Tryd.ty.if141 : isIface Tryd.prog 141 = some false := by kernel_rfl
@[go_sem] theorem Tryd.ty.sz142 : szOf Tryd.prog 142 = some 1 := by kernel_rfl
@[go_sem] theorem Tryd.ty.by142 : bytesIn Tryd.prog 142 = some 8 := by kernel_rfl
@[go_sem] theorem Tryd.ty.ag142 : aggOf Tryd.prog 142 = some false := by kernel_rfl
@[go_sem] theorem Tryd.ty.zr142 : zeroOf Tryd.prog 142 = some [.val (.pointer none)] := by kernel_rfl
@[go_sem] theorem Tryd.ty.el142 : elemOfSlice Tryd.prog 142 = none := by kernel_rfl
@[go_sem] theorem Tryd.ty.ar142 : arrayOf Tryd.prog 142 = none := by kernel_rfl
@[go_sem] theorem Tryd.ty.st142 : isStr Tryd.prog 142 = false := by kernel_rfl
@[go_sem] theorem Tryd.ty.bo142 : isBool Tryd.prog 142 = false := by kernel_rfl
@[go_sem] theorem Tryd.ty.ki142 : kindOf Tryd.prog 142 = none := by kernel_rfl
@[go_sem] theorem Tryd.ty.if142 : isIface Tryd.prog 142 = some false := by kernel_rfl
@[go_sem] theorem Tryd.ty.un142 : Tryd.prog.underlying 142 = some (.pointer 144) := by kernel_rfl
@[go_sem] theorem Tryd.ty.sz143 : szOf Tryd.prog 143 = some 1 := by kernel_rfl
@[go_sem] theorem Tryd.ty.by143 : bytesIn Tryd.prog 143 = some 16 := by kernel_rfl
@[go_sem] theorem Tryd.ty.ag143 : aggOf Tryd.prog 143 = some true := by kernel_rfl
@[go_sem] theorem Tryd.ty.zr143 : zeroOf Tryd.prog 143 = some [.val (.string ByteArray.empty)] := by kernel_rfl
@[go_sem] theorem Tryd.ty.el143 : elemOfSlice Tryd.prog 143 = none := by kernel_rfl
@[go_sem] theorem Tryd.ty.ar143 : arrayOf Tryd.prog 143 = none := by kernel_rfl
@[go_sem] theorem Tryd.ty.st143 : isStr Tryd.prog 143 = false := by kernel_rfl
@[go_sem] theorem Tryd.ty.bo143 : isBool Tryd.prog 143 = false := by kernel_rfl
@[go_sem] theorem Tryd.ty.ki143 : kindOf Tryd.prog 143 = none := by kernel_rfl
@[go_sem] theorem Tryd.ty.if143 : isIface Tryd.prog 143 = some false := by kernel_rfl
@[go_sem] theorem Tryd.ty.fo0_143 : fieldOf Tryd.prog 143 0 = some (9, 0) := by kernel_rfl
@[go_sem] theorem Tryd.ty.fp0_143 : fieldPl Tryd.prog 143 0 = some (0, 1) := by kernel_rfl
@[go_sem] theorem Tryd.ty.bk143 : buildOk Tryd.prog 143 = true := by kernel_rfl
@[go_sem] theorem Tryd.ty.sz144 : szOf Tryd.prog 144 = some 1 := by kernel_rfl
@[go_sem] theorem Tryd.ty.by144 : bytesIn Tryd.prog 144 = some 16 := by kernel_rfl
@[go_sem] theorem Tryd.ty.ag144 : aggOf Tryd.prog 144 = some true := by kernel_rfl
@[go_sem] theorem Tryd.ty.zr144 : zeroOf Tryd.prog 144 = some [.val (.string ByteArray.empty)] := by kernel_rfl
@[go_sem] theorem Tryd.ty.el144 : elemOfSlice Tryd.prog 144 = none := by kernel_rfl
@[go_sem] theorem Tryd.ty.ar144 : arrayOf Tryd.prog 144 = none := by kernel_rfl
@[go_sem] theorem Tryd.ty.st144 : isStr Tryd.prog 144 = false := by kernel_rfl
@[go_sem] theorem Tryd.ty.bo144 : isBool Tryd.prog 144 = false := by kernel_rfl
@[go_sem] theorem Tryd.ty.ki144 : kindOf Tryd.prog 144 = none := by kernel_rfl
@[go_sem] theorem Tryd.ty.if144 : isIface Tryd.prog 144 = some false := by kernel_rfl
@[go_sem] theorem Tryd.ty.fo0_144 : fieldOf Tryd.prog 144 0 = some (9, 0) := by kernel_rfl
@[go_sem] theorem Tryd.ty.fp0_144 : fieldPl Tryd.prog 144 0 = some (0, 1) := by kernel_rfl
@[go_sem] theorem Tryd.ty.bk144 : buildOk Tryd.prog 144 = true := by kernel_rfl
@[go_sem] theorem Tryd.ty.sz145 : szOf Tryd.prog 145 = some 1 := by kernel_rfl
@[go_sem] theorem Tryd.ty.by145 : bytesIn Tryd.prog 145 = some 8 := by kernel_rfl
@[go_sem] theorem Tryd.ty.ag145 : aggOf Tryd.prog 145 = some false := by kernel_rfl
@[go_sem] theorem Tryd.ty.zr145 : zeroOf Tryd.prog 145 = some [.val .nilFunc] := by kernel_rfl
@[go_sem] theorem Tryd.ty.el145 : elemOfSlice Tryd.prog 145 = none := by kernel_rfl
@[go_sem] theorem Tryd.ty.ar145 : arrayOf Tryd.prog 145 = none := by kernel_rfl
@[go_sem] theorem Tryd.ty.st145 : isStr Tryd.prog 145 = false := by kernel_rfl
@[go_sem] theorem Tryd.ty.bo145 : isBool Tryd.prog 145 = false := by kernel_rfl
@[go_sem] theorem Tryd.ty.ki145 : kindOf Tryd.prog 145 = none := by kernel_rfl
@[go_sem] theorem Tryd.ty.if145 : isIface Tryd.prog 145 = some false := by kernel_rfl
@[go_sem] theorem Tryd.ty.sz146 : szOf Tryd.prog 146 = some 32 := by kernel_rfl
@[go_sem] theorem Tryd.ty.by146 : bytesIn Tryd.prog 146 = some 32 := by kernel_rfl
@[go_sem] theorem Tryd.ty.ag146 : aggOf Tryd.prog 146 = some true := by kernel_rfl
@[go_sem] theorem Tryd.ty.el146 : elemOfSlice Tryd.prog 146 = none := by kernel_rfl
@[go_sem] theorem Tryd.ty.ar146 : arrayOf Tryd.prog 146 = some (32, 5) := by kernel_rfl
@[go_sem] theorem Tryd.ty.st146 : isStr Tryd.prog 146 = false := by kernel_rfl
@[go_sem] theorem Tryd.ty.bo146 : isBool Tryd.prog 146 = false := by kernel_rfl
@[go_sem] theorem Tryd.ty.ki146 : kindOf Tryd.prog 146 = none := by kernel_rfl
@[go_sem] theorem Tryd.ty.if146 : isIface Tryd.prog 146 = some false := by kernel_rfl
@[go_sem] theorem Tryd.ty.bk146 : buildOk Tryd.prog 146 = true := by kernel_rfl
@[go_sem] theorem Tryd.ty.un146 : Tryd.prog.underlying 146 = some (.array 32 5) := by kernel_rfl
@[go_sem] theorem Tryd.ty.sz147 : szOf Tryd.prog 147 = some 64 := by kernel_rfl
@[go_sem] theorem Tryd.ty.by147 : bytesIn Tryd.prog 147 = some 64 := by kernel_rfl
@[go_sem] theorem Tryd.ty.ag147 : aggOf Tryd.prog 147 = some true := by kernel_rfl
@[go_sem] theorem Tryd.ty.el147 : elemOfSlice Tryd.prog 147 = none := by kernel_rfl
@[go_sem] theorem Tryd.ty.ar147 : arrayOf Tryd.prog 147 = some (64, 5) := by kernel_rfl
@[go_sem] theorem Tryd.ty.st147 : isStr Tryd.prog 147 = false := by kernel_rfl
@[go_sem] theorem Tryd.ty.bo147 : isBool Tryd.prog 147 = false := by kernel_rfl
@[go_sem] theorem Tryd.ty.ki147 : kindOf Tryd.prog 147 = none := by kernel_rfl
@[go_sem] theorem Tryd.ty.if147 : isIface Tryd.prog 147 = some false := by kernel_rfl
@[go_sem] theorem Tryd.ty.bk147 : buildOk Tryd.prog 147 = true := by kernel_rfl
@[go_sem] theorem Tryd.ty.un147 : Tryd.prog.underlying 147 = some (.array 64 5) := by kernel_rfl
@[go_sem] theorem Tryd.ty.sz148 : szOf Tryd.prog 148 = some 4 := by kernel_rfl
@[go_sem] theorem Tryd.ty.by148 : bytesIn Tryd.prog 148 = some 40 := by kernel_rfl
@[go_sem] theorem Tryd.ty.ag148 : aggOf Tryd.prog 148 = some true := by kernel_rfl
@[go_sem] theorem Tryd.ty.zr148 : zeroOf Tryd.prog 148 = some [.val (.pointer none), .val (.pointer none), .val (.pointer none), .val (.string ByteArray.empty)] := by kernel_rfl
@[go_sem] theorem Tryd.ty.el148 : elemOfSlice Tryd.prog 148 = none := by kernel_rfl
@[go_sem] theorem Tryd.ty.ar148 : arrayOf Tryd.prog 148 = none := by kernel_rfl
@[go_sem] theorem Tryd.ty.st148 : isStr Tryd.prog 148 = false := by kernel_rfl
@[go_sem] theorem Tryd.ty.bo148 : isBool Tryd.prog 148 = false := by kernel_rfl
@[go_sem] theorem Tryd.ty.ki148 : kindOf Tryd.prog 148 = none := by kernel_rfl
@[go_sem] theorem Tryd.ty.if148 : isIface Tryd.prog 148 = some false := by kernel_rfl
@[go_sem] theorem Tryd.ty.fo0_148 : fieldOf Tryd.prog 148 0 = some (17, 0) := by kernel_rfl
@[go_sem] theorem Tryd.ty.fp0_148 : fieldPl Tryd.prog 148 0 = some (0, 1) := by kernel_rfl
@[go_sem] theorem Tryd.ty.fo1_148 : fieldOf Tryd.prog 148 1 = some (17, 1) := by kernel_rfl
@[go_sem] theorem Tryd.ty.fp1_148 : fieldPl Tryd.prog 148 1 = some (1, 1) := by kernel_rfl
@[go_sem] theorem Tryd.ty.fo2_148 : fieldOf Tryd.prog 148 2 = some (17, 2) := by kernel_rfl
@[go_sem] theorem Tryd.ty.fp2_148 : fieldPl Tryd.prog 148 2 = some (2, 1) := by kernel_rfl
@[go_sem] theorem Tryd.ty.fo3_148 : fieldOf Tryd.prog 148 3 = some (9, 3) := by kernel_rfl
@[go_sem] theorem Tryd.ty.fp3_148 : fieldPl Tryd.prog 148 3 = some (3, 1) := by kernel_rfl
@[go_sem] theorem Tryd.ty.bk148 : buildOk Tryd.prog 148 = true := by kernel_rfl
@[go_sem] theorem Tryd.ty.sz150 : szOf Tryd.prog 150 = some 0 := by kernel_rfl
@[go_sem] theorem Tryd.ty.by150 : bytesIn Tryd.prog 150 = some 0 := by kernel_rfl
@[go_sem] theorem Tryd.ty.ag150 : aggOf Tryd.prog 150 = some true := by kernel_rfl
@[go_sem] theorem Tryd.ty.zr150 : zeroOf Tryd.prog 150 = some [] := by kernel_rfl
@[go_sem] theorem Tryd.ty.el150 : elemOfSlice Tryd.prog 150 = none := by kernel_rfl
@[go_sem] theorem Tryd.ty.ar150 : arrayOf Tryd.prog 150 = some (0, 16) := by kernel_rfl
@[go_sem] theorem Tryd.ty.st150 : isStr Tryd.prog 150 = false := by kernel_rfl
@[go_sem] theorem Tryd.ty.bo150 : isBool Tryd.prog 150 = false := by kernel_rfl
@[go_sem] theorem Tryd.ty.ki150 : kindOf Tryd.prog 150 = none := by kernel_rfl
@[go_sem] theorem Tryd.ty.if150 : isIface Tryd.prog 150 = some false := by kernel_rfl
@[go_sem] theorem Tryd.ty.bk150 : buildOk Tryd.prog 150 = true := by kernel_rfl
@[go_sem] theorem Tryd.ty.un150 : Tryd.prog.underlying 150 = some (.array 0 16) := by kernel_rfl
@[go_sem] theorem Tryd.ty.sz151 : szOf Tryd.prog 151 = some 0 := by kernel_rfl
@[go_sem] theorem Tryd.ty.by151 : bytesIn Tryd.prog 151 = some 0 := by kernel_rfl
@[go_sem] theorem Tryd.ty.ag151 : aggOf Tryd.prog 151 = some true := by kernel_rfl
@[go_sem] theorem Tryd.ty.zr151 : zeroOf Tryd.prog 151 = some [] := by kernel_rfl
@[go_sem] theorem Tryd.ty.el151 : elemOfSlice Tryd.prog 151 = none := by kernel_rfl
@[go_sem] theorem Tryd.ty.ar151 : arrayOf Tryd.prog 151 = none := by kernel_rfl
@[go_sem] theorem Tryd.ty.st151 : isStr Tryd.prog 151 = false := by kernel_rfl
@[go_sem] theorem Tryd.ty.bo151 : isBool Tryd.prog 151 = false := by kernel_rfl
@[go_sem] theorem Tryd.ty.ki151 : kindOf Tryd.prog 151 = none := by kernel_rfl
@[go_sem] theorem Tryd.ty.if151 : isIface Tryd.prog 151 = some false := by kernel_rfl
@[go_sem] theorem Tryd.ty.fo0_151 : fieldOf Tryd.prog 151 0 = some (150, 0) := by kernel_rfl
@[go_sem] theorem Tryd.ty.fp0_151 : fieldPl Tryd.prog 151 0 = some (0, 0) := by kernel_rfl
@[go_sem] theorem Tryd.ty.bk151 : buildOk Tryd.prog 151 = true := by kernel_rfl
@[go_sem] theorem Tryd.ty.sz153 : szOf Tryd.prog 153 = some 1 := by kernel_rfl
@[go_sem] theorem Tryd.ty.by153 : bytesIn Tryd.prog 153 = some 8 := by kernel_rfl
@[go_sem] theorem Tryd.ty.ag153 : aggOf Tryd.prog 153 = some false := by kernel_rfl
@[go_sem] theorem Tryd.ty.zr153 : zeroOf Tryd.prog 153 = some [.val .nilFunc] := by kernel_rfl
@[go_sem] theorem Tryd.ty.el153 : elemOfSlice Tryd.prog 153 = none := by kernel_rfl
@[go_sem] theorem Tryd.ty.ar153 : arrayOf Tryd.prog 153 = none := by kernel_rfl
@[go_sem] theorem Tryd.ty.st153 : isStr Tryd.prog 153 = false := by kernel_rfl
@[go_sem] theorem Tryd.ty.bo153 : isBool Tryd.prog 153 = false := by kernel_rfl
@[go_sem] theorem Tryd.ty.ki153 : kindOf Tryd.prog 153 = none := by kernel_rfl
@[go_sem] theorem Tryd.ty.if153 : isIface Tryd.prog 153 = some false := by kernel_rfl
@[go_sem] theorem Tryd.ty.sz156 : szOf Tryd.prog 156 = some 1 := by kernel_rfl
@[go_sem] theorem Tryd.ty.by156 : bytesIn Tryd.prog 156 = some 8 := by kernel_rfl
@[go_sem] theorem Tryd.ty.ag156 : aggOf Tryd.prog 156 = some false := by kernel_rfl
@[go_sem] theorem Tryd.ty.zr156 : zeroOf Tryd.prog 156 = some [.val .nilFunc] := by kernel_rfl
@[go_sem] theorem Tryd.ty.el156 : elemOfSlice Tryd.prog 156 = none := by kernel_rfl
@[go_sem] theorem Tryd.ty.ar156 : arrayOf Tryd.prog 156 = none := by kernel_rfl
@[go_sem] theorem Tryd.ty.st156 : isStr Tryd.prog 156 = false := by kernel_rfl
@[go_sem] theorem Tryd.ty.bo156 : isBool Tryd.prog 156 = false := by kernel_rfl
@[go_sem] theorem Tryd.ty.ki156 : kindOf Tryd.prog 156 = none := by kernel_rfl
@[go_sem] theorem Tryd.ty.if156 : isIface Tryd.prog 156 = some false := by kernel_rfl
end Go.Sh

/-
  Numbers as text: contracts.
-/
namespace Go.Sh
set_option linter.unusedSimpArgs false
set_option linter.unusedVariables false
open Go Go.Proofs

theorem decDigits_le (u : Nat) : (Lib.decDigits u).length ≤ u / 2 + 1 := by
  induction u using Nat.strongRecOn with
  | _ u ih =>
    by_cases h : u < 10
    · rw [Lib.decDigits, dif_pos h]; simp
    · rw [Lib.decDigits, dif_neg h]
      have := ih (u / 10) (by omega)
      simp; omega
def digz (u : Nat) : List UInt8 := if u = 0 then [] else Lib.decDigits u
theorem digz_step {u : Nat} (h : u ≠ 0) : digz u = digz (u / 10) ++ [UInt8.ofNat (48 + u % 10)] := by
  rw [digz, if_neg h]
  by_cases h1 : u < 10
  · rw [Lib.decDigits, dif_pos h1, digz, if_pos (by omega), Nat.mod_eq_of_lt h1]; rfl
  · rw [Lib.decDigits, dif_neg h1, digz, if_neg (by omega)]
theorem digz_le (u : Nat) : (digz u).length ≤ u / 2 + 1 := by
  rw [digz]; split
  · simp
  · exact decDigits_le u
theorem itoa_le {n : Int} (n1 : -9223372036854775808 ≤ n) (n2 : n ≤ 9223372036854775807) : (Lib.itoa n).length ≤ 4611686018427387906 := by
  rw [Lib.itoa]; split
  · have := decDigits_le n.natAbs
    simp; omega
  · have := decDigits_le n.toNat
    omega
theorem itoa_eq (n : Int) (h : n ≠ 0) : Lib.itoa n = if n < 0 then 45 :: digz n.natAbs else digz n.natAbs := by
  rw [Lib.itoa]
  split
  · rw [digz, if_neg (by omega)]
  · rw [digz, if_neg (by omega)]; congr 1; omega
theorem abs_quo (m : Int) : (m.tdiv 10).natAbs = m.natAbs / 10 := by
  rcases Int.le_total 0 m with h | h
  · obtain ⟨k, rfl⟩ := Int.eq_ofNat_of_zero_le h
    have e : (k : Int).tdiv 10 = ((k / 10 : Nat) : Int) := (Int.ofNat_tdiv k 10).symm
    rw [e]; simp only [Int.natAbs_natCast]
  · obtain ⟨k, hk⟩ := Int.eq_ofNat_of_zero_le (a := -m) (by omega)
    obtain rfl : m = -(k : Int) := by omega
    have e : (k : Int).tdiv 10 = ((k / 10 : Nat) : Int) := (Int.ofNat_tdiv k 10).symm
    rw [Int.neg_tdiv, e]; omega
theorem quo_sign (m : Int) : (0 ≤ m → 0 ≤ m.tdiv 10) ∧ (m ≤ 0 → m.tdiv 10 ≤ 0) := by
  constructor
  · intro h; exact Int.tdiv_nonneg h (by omega)
  · intro h
    obtain ⟨k, hk⟩ := Int.eq_ofNat_of_zero_le (a := -m) (by omega)
    obtain rfl : m = -(k : Int) := by omega
    rw [Int.neg_tdiv]
    have : (0 : Int) ≤ (k : Int).tdiv 10 := Int.tdiv_nonneg (by omega) (by omega)
    omega
theorem abs_rem (m : Int) : (if m.tmod 10 < 0 then -(m.tmod 10) else m.tmod 10) = ((m.natAbs % 10 : Nat) : Int) := by
  rcases Int.le_total 0 m with h | h
  · obtain ⟨k, rfl⟩ := Int.eq_ofNat_of_zero_le h
    have e : (k : Int).tmod 10 = ((k % 10 : Nat) : Int) := (Int.ofNat_tmod k 10).symm
    rw [e, if_neg (by omega)]; simp
  · obtain ⟨k, hk⟩ := Int.eq_ofNat_of_zero_le (a := -m) (by omega)
    obtain rfl : m = -(k : Int) := by omega
    have e : (k : Int).tmod 10 = ((k % 10 : Nat) : Int) := (Int.ofNat_tmod k 10).symm
    rw [Int.neg_tmod, e]
    split <;> omega

theorem Tryd.itoaS_ok (x : Nat) (hx : x < 100) : PCall Tryd.prog 86 [.val (.int .i64 x)] (str (Lib.itoa x)) := by
  refine ⟨⟨_, Tryd.func86, rfl, rfl⟩, fun w vs hl _ => ?_⟩
  simp only [LRel, VRel] at hl
  obtain ⟨v, rest, rfl, rfl, rfl⟩ := hl
  refine (Tryd.strconv_Itoa_small x hx w).mono ?_
  rintro e w' ⟨rfl, rfl⟩
  refine ⟨_, rfl, RowKit.Below.refl _ _, ?_⟩
  simp only [VRel, Lib.itoa]
  rw [if_neg (by omega), Int.toNat_natCast]; rfl
theorem Tryd.implFIs_ok (x : Nat) (hx : x < 100) : PCall Tryd.prog 58 [.val (.int .i64 x)] (str (Lib.itoa x)) := by
  have h := Tryd.itoaS_ok x hx
  refine FCall.pcall (R := fun r _ => r = str (Lib.itoa x)) ?_ 0 (by rintro r H rfl; exact view_str)
  refine FCall.of_body Tryd.func58 rfl (by kernel_rfl) (by simp [Tryd.ntmps58]) ?_
  refine SW_of_vc Tryd.mixed _ _ _ (by kernel_rfl) ?_
  simp (disch := omega) only [Tryd.ntmps58, Tryd.results58, go_sem]
  refine h.callV 0 (viewL_cons_of (view_int) viewL_nil_of) ?_
  simp (disch := omega) only [Tryd.ntmps58, Tryd.results58, go_sem]
  exact Fin.val rfl
set_option maxHeartbeats 4000000 in
theorem Tryd.specFI_ok (n : Int) (n1 : -9223372036854775808 ≤ n) (n2 : n ≤ 9223372036854775807) : PCall Tryd.prog 51 [.val (.int .i64 n)] (str (Lib.itoa n)) := by
  refine FCall.pcall (R := fun r _ => r = str (Lib.itoa n)) ?_ 0 (by rintro r H rfl; exact view_str)
  refine FCall.of_body Tryd.func51 rfl (by kernel_rfl) (by simp [Tryd.ntmps51]) ?_
  refine SW_of_vc Tryd.mixed _ _ _ (by kernel_rfl) ?_
  by_cases h0 : n = 0
  · subst h0
    simp (disch := omega) only [Tryd.ntmps51, Tryd.results51, go_sem]
    exact Fin.val (by rw [Lib.itoa, if_neg (by omega)]; rw [Lib.decDigits, dif_pos (by decide)]; rfl)
  have hlen := digz_le n.natAbs
  simp (disch := omega) only [Tryd.ntmps51, Tryd.results51, go_sem, beq_iff_eq]
  refine LoopW.loop (fun p : Int × List UInt8 × Nat => ⟨ofL [(0, .val (.int .i64 p.1)), (3, str p.2.1), (4, .val (.bool (decide (n < 0))))], hp [] p.2.2⟩)
    (fun p => digz p.1.natAbs ++ p.2.1 = digz n.natAbs ∧ p.1.natAbs ≤ n.natAbs ∧ (0 ≤ n → 0 ≤ p.1) ∧ (n ≤ 0 → p.1 ≤ 0)) (fun p => p.1.natAbs) (n, [], 0) ⟨by simp, Nat.le_refl _, id, id⟩ (Wk.of (by simp only [go_sem, ↓List.forall_mem_cons, List.not_mem_nil, false_implies, implies_true, and_true, true_and, and_self, ri_eq, Int.natCast_add, Int.cast_ofNat_Int]; try simp) rfl) ?_
  rintro ⟨m, l, nb⟩ ⟨hd, hm, hs1, hs2⟩
  simp only at hd hm hs1 hs2
  refine SW_of_vc Tryd.mixed _ _ _ (by kernel_rfl) ?_
  by_cases hm0 : m = 0
  · subst hm0
    have hl : l = digz n.natAbs := by simpa [digz] using hd
    have hll : l.length ≤ n.natAbs / 2 + 1 := by rw [hl]; exact hlen
    by_cases hneg : n < 0
    · simp (disch := omega) only [Tryd.ntmps51, Tryd.results51, go_sem]
      exact Fin.val (by rw [itoa_eq n h0, if_pos hneg, hl])
    · simp (disch := omega) only [Tryd.ntmps51, Tryd.results51, go_sem]
      exact Fin.val (by rw [itoa_eq n h0, if_neg hneg, hl])
  · have hll : l.length ≤ n.natAbs / 2 + 1 := by
      have := congrArg List.length hd
      rw [List.length_append] at this; omega
    have hd2 := digz_step (u := m.natAbs) (by omega)
    have hq1 := abs_quo m
    have hq2 := quo_sign m
    have hr := abs_rem m
    have hdig : ∀ x : Int, x = ((m.natAbs % 10 : Nat) : Int) → UInt8.ofNat (IntKind.u8.wrap (48 + x)).toNat = UInt8.ofNat (48 + m.natAbs % 10) := fun x hx => by
      subst hx
      rw [wrap8_id (by omega) (by omega)]
      congr 1
    have hd3 : digz (m.tdiv 10).natAbs ++ UInt8.ofNat (48 + m.natAbs % 10) :: l = digz n.natAbs := by rw [hq1, ← hd, hd2]; simp
    by_cases hneg : m.tmod 10 < 0
    · rw [if_pos hneg] at hr
      have hdg := hdig (0 - m.tmod 10) (by omega)
      simp (disch := omega) only [Tryd.ntmps51, Tryd.results51, go_sem, hdg]
      exact ⟨(m.tdiv 10, UInt8.ofNat (48 + m.natAbs % 10) :: l, nb + 1), ⟨hd3, by simp only; omega, fun h => hq2.1 (hs1 h), fun h => hq2.2 (hs2 h)⟩, by simp only; omega, Wk.ofH (by simp only [go_sem, ↓List.forall_mem_cons, List.not_mem_nil, false_implies, implies_true, and_true, true_and, and_self, ri_eq, Int.natCast_add, Int.cast_ofNat_Int]; try simp) (by simp) (Nat.le_refl _)⟩
    · rw [if_neg hneg] at hr
      have hdg := hdig (m.tmod 10) hr
      simp (disch := omega) only [Tryd.ntmps51, Tryd.results51, go_sem, hdg]
      exact ⟨(m.tdiv 10, UInt8.ofNat (48 + m.natAbs % 10) :: l, nb + 1), ⟨hd3, by simp only; omega, fun h => hq2.1 (hs1 h), fun h => hq2.2 (hs2 h)⟩, by simp only; omega, Wk.ofH (by simp only [go_sem, ↓List.forall_mem_cons, List.not_mem_nil, false_implies, implies_true, and_true, true_and, and_self, ri_eq, Int.natCast_add, Int.cast_ofNat_Int]; try simp) (by simp) (Nat.le_refl _)⟩
end Go.Sh

/-
  Numbers of any size as text: with the table of the powers of ten.
-/
namespace Go.Sh
set_option linter.unusedSimpArgs false
set_option linter.unusedVariables false
open Go Go.Proofs

theorem below_drew (w : World) (k : Nat) (os : Array Obj) : RowKit.Below w.heap.size w (Go.Sort.grow (w.drewN k) os) :=
  ⟨rfl, rfl, rfl, by show w.heap.size ≤ (w.heap ++ os).size; rw [Array.size_append]; omega, fun i hi => by
    show (w.heap ++ os)[i]? = w.heap[i]?
    rw [Array.getElem?_append_left hi]⟩
theorem Tryd.powG : Tryd.prog.globalNamed "internal/strconv.uint64pow10" = some 3 := by kernel_rfl
theorem Tryd.pow_tab {O : Nat → Prop} {w : World} (h : TabOk O w) : Lib.TabIs Tryd.prog w "internal/strconv.uint64pow10" .u64 Lib.pow10Tab := by
  obtain ⟨⟨c, e, fr, h1, h2⟩, hc⟩ := h (3, (List.range 20).map fun i v => v = Value.int .u64 ((10 ^ i : Nat) : Int)) (by simp [TABS])
  have hv : w.var? Tryd.prog "internal/strconv.uint64pow10" = some c := by
    unfold World.var?
    rw [Tryd.powG]
    simp only [Option.bind_some, h1]
  unfold Lib.TabIs
  rw [hv]
  congr 1
  simp only [List.length_map, List.length_range] at h2
  apply Array.ext_getElem?
  intro i
  by_cases hi : i < 20
  · obtain ⟨v, g1, g2, _⟩ := hc i (fun v => v = Value.int .u64 ((10 ^ i : Nat) : Int)) (by simp [hi])
    have g3 := World.var?_cell Tryd.powG hv i
    rw [g1, g2] at g3
    rw [← g3]
    simp [Lib.pow10Tab, hi]
  · rw [Array.getElem?_eq_none (by omega), Array.getElem?_eq_none (by simp [Lib.pow10Tab]; omega)]
theorem Tryd.itoa_ok (n : Int) (n1 : -9223372036854775808 ≤ n) (n2 : n ≤ 9223372036854775807) : PCall Tryd.prog 86 [.val (.int .i64 n)] (str (Lib.itoa n)) := by
  refine ⟨⟨_, Tryd.func86, rfl, rfl⟩, fun w vs hl ht => ?_⟩
  simp only [LRel, VRel] at hl
  obtain ⟨v, rest, rfl, rfl, rfl⟩ := hl
  refine (Tryd.strconv_Itoa n n1 n2 w (Tryd.pow_tab ht)).mono ?_
  rintro e w' ⟨rfl, k, os, rfl⟩
  refine ⟨_, rfl, below_drew w k os, ?_⟩
  simp only [VRel]; rfl
theorem Tryd.implFI_ok (n : Int) (n1 : -9223372036854775808 ≤ n) (n2 : n ≤ 9223372036854775807) : PCall Tryd.prog 58 [.val (.int .i64 n)] (str (Lib.itoa n)) := by
  have h := Tryd.itoa_ok n n1 n2
  refine FCall.pcall (R := fun r _ => r = str (Lib.itoa n)) ?_ 0 (by rintro r H rfl; exact view_str)
  refine FCall.of_body Tryd.func58 rfl (by kernel_rfl) (by simp [Tryd.ntmps58]) ?_
  refine SW_of_vc Tryd.mixed _ _ _ (by kernel_rfl) ?_
  simp (disch := omega) only [Tryd.ntmps58, Tryd.results58, go_sem]
  refine h.callV 0 (viewL_cons_of (view_int) viewL_nil_of) ?_
  simp (disch := omega) only [Tryd.ntmps58, Tryd.results58, go_sem]
  exact Fin.val rfl
end Go.Sh

/-
  Lists of strings; strings.Join; numbers joined: contracts.
-/
namespace Go.Sh
set_option linter.unusedSimpArgs false
set_option linter.unusedVariables false
open Go Go.Proofs

theorem strs_length (L : List (List UInt8)) : (strs L).length = L.length := by simp [strs]
theorem strs_get {L : List (List UInt8)} {k : Nat} (h : k < L.length) : (strs L)[k]? = some (str (L.getD k [])) := by simp [strs, h]
theorem strs_set (L : List (List UInt8)) (k : Nat) (x : List UInt8) : (strs L).set k (.val (.string (sb x))) = strs (L.set k x) := by simp [strs, List.map_set]
theorem strs_append (A B : List (List UInt8)) : strs A ++ strs B = strs (A ++ B) := by simp [strs]
theorem strs_snoc (A : List (List UInt8)) (x : List UInt8) : strs A ++ [.val (.string (sb x))] = strs (A ++ [x]) := by simp [strs]
theorem strs_replicate (n : Nat) (x : List UInt8) : List.replicate n (SV.val (.string (sb x))) = strs (List.replicate n x) := by simp [strs]
theorem strs_one (x : List UInt8) : [SV.val (.string (sb x))] = strs [x] := rfl
theorem strs_nil : strs [] = [] := rfl
theorem strs_take (L : List (List UInt8)) (n : Nat) : (strs L).take n = strs (L.take n) := by simp [strs]
theorem noRowL_strs : ∀ L : List (List UInt8), noRowL (strs L) = true
  | [] => rfl
  | x :: L => by
    have := noRowL_strs L
    simp only [strs, List.map_cons, noRowL, noRow, Bool.true_and] at this ⊢
    exact this
theorem viewL_strs {H : Heap} {f : Nat} : ∀ L : List (List UInt8), viewL H f (strs L) = some (strs L)
  | [] => viewL_nil_of
  | x :: L => viewL_cons_of view_str (viewL_strs L)
theorem view_ownS {H : Heap} {b n f cap : Nat} {ex e2 : Bool} {L : List (List UInt8)} (hb : H.map b = some ⟨strs L, e2⟩) (hn : n = L.length) : view H (f + 1) (.own b 0 n cap 1 ex) = some (rst L) := by
  subst hn
  simp only [Sh.view, hb, Nat.mul_one, List.drop_zero]
  rw [if_pos (by simp [strs])]
  have : (strs L).take L.length = strs L := by rw [← strs_length L, List.take_length]
  rw [this, viewL_strs, rst]
theorem view_nilS {H : Heap} {f : Nat} : view H f (.val (.slice none 0 0)) = some (rst []) := by simp only [view, viewV, rst, strs, List.map_nil, List.length_nil]
attribute [go_sem] sb_empty

def fillS (L : List (List UInt8)) (k : Nat) : List (List UInt8) := L.take k ++ List.replicate (L.length - k) []
theorem fillS_zero (L : List (List UInt8)) : fillS L 0 = List.replicate L.length [] := by simp [fillS]
theorem fillS_length (L : List (List UInt8)) (k : Nat) (h : k ≤ L.length) : (fillS L k).length = L.length := by simp [fillS]; omega
theorem fillS_set (L : List (List UInt8)) (k : Nat) (h : k < L.length) : (fillS L k).set k (L.getD k []) = fillS L (k + 1) := by
  apply List.ext_getElem?
  intro i
  simp [fillS, List.getElem?_set, List.getElem?_append, List.getElem?_take, List.getElem?_replicate]
  grind
theorem fillS_all (L : List (List UInt8)) : fillS L L.length = L := by simp [fillS]

theorem Tryd.strJoin_ok (xs : List (List UInt8)) (sep : List UInt8) (hn : xs.length ≤ 140737488355328) (hlen : (Lib.join xs sep).length ≤ 140737488355328) : PCall Tryd.prog 54 [rst xs, str sep] (str (Lib.join xs sep)) := by
  refine ⟨⟨_, Tryd.func54, rfl, rfl⟩, fun w vs hl _ => ?_⟩
  simp only [LRel, rst, VRel] at hl
  obtain ⟨v, rest, rfl, ⟨a, cap, rfl, h2, h3, h4⟩, v2, rest2, rfl, rfl, rfl⟩ := hl
  have emp : xs.length = 0 → Calls Tryd.prog 54 #[.slice a 0 cap, .string (sb sep)] w (fun e w' => ∃ v, e = .returned v ∧ RowKit.Below w.heap.size w w' ∧ VRel (fun k => k < w.heap.size) w' noj (str (Lib.join xs sep)) v) := fun h0 => by
    obtain rfl : xs = [] := List.length_eq_zero_iff.1 h0
    refine (Tryd.strings_Join_none a cap (sb sep) w).mono ?_
    rintro e w' ⟨rfl, rfl⟩
    refine ⟨_, rfl, RowKit.Below.refl _ _, ?_⟩
    simp only [VRel]; rfl
  by_cases h0 : xs.length = 0
  · rw [h0]; exact emp h0
  rcases h4 with ⟨_, h5, _⟩ | ⟨b, rfl, h5⟩
  · omega
  have hcell : ∀ (j : Nat) x, (xs.map sb)[j]? = some x → w.cell? ⟨b.block, b.off + j, none⟩ = some (.string x) := fun j x hj => by
    simp only [List.getElem?_map, Option.map_eq_some_iff] at hj
    obtain ⟨y, hy, rfl⟩ := hj
    obtain ⟨v, _, _, g1, g2⟩ := CRel.get (i := j) (s := str y) h5 (by simp [strs, hy])
    simp only [VRel] at g2
    rw [g1, g2]
  have hs : b.spot = none := by
    obtain ⟨v, g, _⟩ := CRel.get (i := 0) (s := str (xs.getD 0 [])) h5 (strs_get (by omega))
    exact g
  obtain ⟨bk, o, sp⟩ := b
  simp only at hs hcell
  subst hs
  have hbk : bk < w.heap.size := by
    have g := hcell 0 (sb (xs.getD 0 [])) (by
      have : 0 < xs.length := by omega
      simp [this])
    exact w.block_lt_of_cell? _ g
  have e1 : (xs.map sb).map (·.data.toList) = xs := by
    rw [List.map_map]
    conv => rhs; rw [← List.map_id xs]
    exact List.map_congr_left fun x _ => sb_data x
  have := Tryd.strings_Join bk o cap (xs.map sb) (sb sep) w hcell hbk (by simpa using hn) (by simpa using h2) (by rw [e1, sb_data]; exact hlen)
  rw [e1, sb_data, List.length_map] at this
  refine this.mono ?_
  rintro e w' ⟨rfl, h⟩
  refine ⟨_, rfl, h, ?_⟩
  simp only [VRel]; rfl

set_option maxHeartbeats 4000000 in
theorem Tryd.joinInts_ok (L : List Int) (sep : List UInt8) (hL : L.length ≤ 1048576) (hF : ∀ i, i < L.length → PCall Tryd.prog 58 [.val (.int .i64 (L.getD i 0))] (str (Lib.itoa (L.getD i 0))))
    (hlen : (Lib.join (L.map Lib.itoa) sep).length ≤ 140737488355328) : PCall Tryd.prog 53 [ri L, str sep] (str (Lib.join (L.map Lib.itoa) sep)) := by
  have hJ := Tryd.strJoin_ok (L.map Lib.itoa) sep (by simp; omega) hlen
  refine FCall.pcall (R := fun r _ => r = str (Lib.join (L.map Lib.itoa) sep)) ?_ 0 (by rintro r H rfl; exact view_str)
  refine FCall.of_body Tryd.func53 rfl (by kernel_rfl) (by simp [Tryd.ntmps53]) ?_
  refine SW_of_vc Tryd.mixed _ _ _ (by kernel_rfl) ?_
  simp (disch := omega) only [Tryd.ntmps53, Tryd.results53, go_sem]
  have hml : (L.map Lib.itoa).length = L.length := by simp
  refine LoopW.loop (fun k : Nat => ⟨ofL [(1, str sep), (5, .own 0 0 L.length L.length 1 true), (11, ri L), (12, .val (.int .i64 L.length)), (13, .val (.int .i64 k))], hp [(0, ⟨strs (fillS (L.map Lib.itoa) k), true⟩)] 1⟩) (fun k => k ≤ L.length) (fun k => L.length - k) 0 (by omega)
    (Wk.of (by simp only [go_sem, ↓List.forall_mem_cons, List.not_mem_nil, false_implies, implies_true, and_true, true_and, and_self, ri_eq, Int.natCast_add, Int.cast_ofNat_Int]; try simp) (by simp only [fillS_zero, hml, ← strs_replicate])) ?_
  intro k hk
  have hf := fillS_length (L.map Lib.itoa) k (by omega)
  refine SW_of_vc Tryd.mixed _ _ _ (by kernel_rfl) ?_
  by_cases hlt : k < L.length
  · have hg : (L.map Lib.itoa).getD k [] = Lib.itoa (L.getD k 0) := by simp [hlt]
    have hst := fillS_set (L.map Lib.itoa) k (by omega)
    rw [hg] at hst
    have g1 := ints_get hlt
    simp (disch := omega) only [Tryd.ntmps53, Tryd.results53, go_sem, g1]
    refine (hF k hlt).callV 0 (viewL_cons_of (view_int) viewL_nil_of) ?_
    simp (disch := omega) only [Tryd.ntmps53, Tryd.results53, go_sem, hf, hml, strs_length, strs_set, hst]
    exact ⟨k + 1, by omega, by omega, Wk.of (by simp only [go_sem, ↓List.forall_mem_cons, List.not_mem_nil, false_implies, implies_true, and_true, true_and, and_self, ri_eq, Int.natCast_add, Int.cast_ofNat_Int]; try simp) rfl⟩
  · obtain rfl : k = L.length := by omega
    have hall : fillS (L.map Lib.itoa) L.length = L.map Lib.itoa := by rw [← hml]; exact fillS_all _
    rw [hall]
    simp (disch := omega) only [Tryd.ntmps53, Tryd.results53, go_sem]
    refine hJ.callV 2 (viewL_cons_of (view_ownS (e2 := true) (L := L.map Lib.itoa) (by first | rfl | (simp (disch := omega) only [hx_map, hp_map, xmap_blk, hmap_cons, xmap_skipI, xmap_nil, if_pos, if_neg, ↓reduceIte]; try rfl)) (by simp)) (viewL_cons_of view_str viewL_nil_of)) ?_
    simp (disch := omega) only [Tryd.ntmps53, Tryd.results53, go_sem]
    exact Fin.val rfl
end Go.Sh

/-
  Contracts: lists of numbers copied and compared; ranges; partitions.
-/
namespace Go.Sh
set_option linter.unusedSimpArgs false
set_option linter.unusedVariables false
open Go Go.Proofs

def inR (x a b : Int) : Bool := decide (a ≤ x) && decide (x ≤ b)

theorem inR_tt {x a b : Int} (h1 : a ≤ x) (h2 : x ≤ b) : inR x a b = true := by simp [inR, h1, h2]
theorem inR_f1 {x a b : Int} (h1 : ¬ a ≤ x) : inR x a b = false := by simp [inR, h1]
theorem inR_f2 {x a b : Int} (h1 : ¬ x ≤ b) : inR x a b = false := by simp [inR, h1]

theorem Tryd.l1In_ok (x a b : Int) : PCall Tryd.prog 62 [.val (.int .i64 x), .val (.int .i64 a), .val (.int .i64 b)] (.val (.bool (inR x a b))) := by
  refine FCall.pcall (R := fun r _ => r = .val (.bool (inR x a b))) ?_ 0 (by rintro r H rfl; simp [view, viewV])
  refine FCall.of_body Tryd.func62 rfl (by kernel_rfl) (by simp [Tryd.ntmps62]) ?_
  refine SW_of_vc Tryd.mixed _ _ _ (by kernel_rfl) ?_
  by_cases h1 : a ≤ x
  · by_cases h2 : x ≤ b
    · simp (disch := omega) only [Tryd.ntmps62, Tryd.results62, go_sem]
      exact Fin.val (by rw [inR_tt h1 h2])
    · simp (disch := omega) only [Tryd.ntmps62, Tryd.results62, go_sem]
      exact Fin.val (by rw [inR_f2 h2])
  · simp (disch := omega) only [Tryd.ntmps62, Tryd.results62, go_sem]
    exact Fin.val (by rw [inR_f1 h1])

theorem Tryd.within_ok (x a b : Int) : PCall Tryd.prog 77 [.val (.int .i64 x), .val (.int .i64 a), .val (.int .i64 b)] (.val (.bool (inR x a b))) := by
  refine FCall.pcall (R := fun r _ => r = .val (.bool (inR x a b))) ?_ 0 (by rintro r H rfl; simp [view, viewV])
  refine FCall.of_body Tryd.func77 rfl (by kernel_rfl) (by simp [Tryd.ntmps77]) ?_
  refine SW_of_vc Tryd.mixed _ _ _ (by kernel_rfl) ?_
  by_cases h1 : a ≤ x
  · by_cases h2 : x ≤ b
    · simp (disch := omega) only [Tryd.ntmps77, Tryd.results77, go_sem]
      exact Fin.val (by rw [inR_tt h1 h2])
    · simp (disch := omega) only [Tryd.ntmps77, Tryd.results77, go_sem]
      exact Fin.val (by rw [inR_f2 h2])
  · simp (disch := omega) only [Tryd.ntmps77, Tryd.results77, go_sem]
    exact Fin.val (by rw [inR_f1 h1])

def fillTo (L : List Int) (k : Nat) : List Int := L.take k ++ List.replicate (L.length - k) 0
theorem fillTo_zero (L : List Int) : fillTo L 0 = List.replicate L.length 0 := by simp [fillTo]
theorem fillTo_length (L : List Int) (k : Nat) (h : k ≤ L.length) : (fillTo L k).length = L.length := by simp [fillTo]; omega
theorem fillTo_set (L : List Int) (k : Nat) (h : k < L.length) : (fillTo L k).set k (L.getD k 0) = fillTo L (k + 1) := by
  apply List.ext_getElem?
  intro i
  simp [fillTo, List.getElem?_set, List.getElem?_append, List.getElem?_take, List.getElem?_replicate]
  grind
theorem fillTo_all (L : List Int) : fillTo L L.length = L := by simp [fillTo]

set_option maxHeartbeats 1000000 in
theorem Tryd.toIntS_f (L : List Int) (hL : L.length ≤ 1048576) : FCall Tryd.prog 11 [ri L] (IntRes L) := by
  refine FCall.of_body Tryd.func11 rfl (by kernel_rfl) (by simp [Tryd.ntmps11]) ?_
  refine SW_of_vc Tryd.mixed _ _ _ (by kernel_rfl) ?_
  simp (disch := omega) only [Tryd.ntmps11, Tryd.results11, go_sem]
  refine LoopW.loop (fun k : Nat => ⟨ofL [(0, ri L), (3, .own 0 0 L.length L.length 1 true), (4, .val (.int .i64 k))], hp [(0, ⟨ints (fillTo L k), true⟩)] 1⟩) (fun k => k ≤ L.length) (fun k => L.length - k) 0 (by omega)
    (Wk.of (by simp only [go_sem, ↓List.forall_mem_cons, List.not_mem_nil, false_implies, implies_true, and_true, true_and, and_self, ri_eq, Int.natCast_add, Int.cast_ofNat_Int]; try simp) (by simp only [fillTo_zero])) ?_
  intro k hk
  have hf := fillTo_length L k hk
  refine SW_of_vc Tryd.mixed _ _ _ (by kernel_rfl) ?_
  by_cases hlt : k < L.length
  · simp (disch := omega) only [Tryd.ntmps11, Tryd.results11, go_sem, hf, fillTo_set]
    exact ⟨k + 1, by omega, by omega, Wk.of (by simp only [go_sem, ↓List.forall_mem_cons, List.not_mem_nil, false_implies, implies_true, and_true, true_and, and_self, ri_eq, Int.natCast_add, Int.cast_ofNat_Int]; try simp) rfl⟩
  · simp (disch := omega) only [Tryd.ntmps11, Tryd.results11, go_sem, hf, fillTo_set]
    obtain rfl : k = L.length := by omega
    rw [fillTo_all]
    exact IntRes.fin (blk := ⟨ints L, true⟩) (by simp [hp, hmap]) (noRowL_ints _) (by rw [List.drop_zero, ← ints_length L, List.take_length]) (by simp [ints])

theorem Tryd.toIntS_ok (L : List Int) (hL : L.length ≤ 1048576) : PCall Tryd.prog 11 [ri L] (ri L) :=
  (Tryd.toIntS_f L hL).pcall 2 (fun _ _ h => h.view)

theorem eq_take_succ {A B : List Int} {k : Nat} (hA : k < A.length) (hB : k < B.length) (h : A.take k = B.take k) (e : A.getD k 0 = B.getD k 0) : A.take (k + 1) = B.take (k + 1) := by
  rw [List.take_succ_eq_append_getElem hA, List.take_succ_eq_append_getElem hB, h]
  simp [hA, hB] at e
  rw [e]

set_option maxHeartbeats 1000000 in
theorem Tryd.eqIntS_ok (A B : List Int) (hA : A.length ≤ 1099511627776) (hB : B.length ≤ 1099511627776) : PCall Tryd.prog 13 [ri A, ri B] (.val (.bool (A == B))) := by
  refine FCall.pcall (R := fun r _ => r = .val (.bool (A == B))) ?_ 0 (by rintro r H rfl; simp [view, viewV])
  refine FCall.of_body Tryd.func13 rfl (by kernel_rfl) (by simp [Tryd.ntmps13]) ?_
  refine SW_of_vc Tryd.mixed _ _ _ (by kernel_rfl) ?_
  by_cases hl : A.length = B.length
  · simp (disch := omega) only [Tryd.ntmps13, Tryd.results13, go_sem]
    refine LoopW.loop (fun k : Nat => ⟨ofL [(0, ri A), (1, ri B), (5, .val (.int .i64 k))], hp [] 0⟩) (fun k => k ≤ A.length ∧ A.take k = B.take k) (fun k => A.length - k) 0 ⟨by omega, by simp⟩ (Wk.of (by simp only [go_sem, ↓List.forall_mem_cons, List.not_mem_nil, false_implies, implies_true, and_true, true_and, and_self, ri_eq, Int.natCast_add, Int.cast_ofNat_Int]; try simp) rfl) ?_
    rintro k ⟨hk, hkk⟩
    refine SW_of_vc Tryd.mixed _ _ _ (by kernel_rfl) ?_
    by_cases hlt : k < A.length
    · by_cases he : A.getD k 0 = B.getD k 0
      · simp (disch := omega) only [Tryd.ntmps13, Tryd.results13, go_sem]
        exact ⟨k + 1, ⟨by omega, eq_take_succ hlt (by omega) hkk he⟩, by omega, Wk.of (by simp only [go_sem, ↓List.forall_mem_cons, List.not_mem_nil, false_implies, implies_true, and_true, true_and, and_self, ri_eq, Int.natCast_add, Int.cast_ofNat_Int]; try simp) rfl⟩
      · simp (disch := omega) only [Tryd.ntmps13, Tryd.results13, go_sem]
        refine Fin.val ?_
        have : A ≠ B := fun e => he (by rw [e])
        simp [this]
    · simp (disch := omega) only [Tryd.ntmps13, Tryd.results13, go_sem]
      refine Fin.val ?_
      have h1 : A.take k = A := List.take_of_length_le (by omega)
      have h2 : B.take k = B := List.take_of_length_le (by omega)
      rw [h1, h2] at hkk
      simp [hkk]
  · simp (disch := omega) only [Tryd.ntmps13, Tryd.results13, go_sem]
    refine Fin.val ?_
    have : A ≠ B := fun e => hl (by rw [e])
    simp [this]
end Go.Sh

/-
  Contracts: is a list of numbers a partition? Of the reference and of the program.
-/
namespace Go.Sh
set_option linter.unusedSimpArgs false
set_option linter.unusedVariables false
open Go Go.Proofs

theorem callP {P : Program} {f : FuncId} {args : List SV} {H : Heap} {T : SV} {K : SV → Heap → Prop} (h : CallS P f args H (fun r H' => r = T ∧ H' = H)) (k : K T H) : @CallX P f args H ⟨K⟩ :=
  h.mono (fun r H' ⟨e1, e2⟩ => by rw [e1, e2]; exact k)
theorem callD {P : Program} {f : FuncId} {args : List SV} {H : Heap} {T : SV} {K : SV → Heap → Prop} (h : CallS P f args H (fun r H' => r = T ∧ H' = H)) (k : K T H) : @CallD P f args H ⟨K⟩ :=
  ⟨T, h, k⟩

theorem PCall.call {P : Program} {f : FuncId} {args : List SV} {H : Heap} {T : SV} {K : SV → Heap → Prop} (h : PCall P f args T) (hv : viewL H 0 args = some args) (k : K T H) : @CallX P f args H ⟨K⟩ := callP (h.callS 0 hv) k
theorem PCall.callD {P : Program} {f : FuncId} {args : List SV} {H : Heap} {T : SV} {K : SV → Heap → Prop} (h : PCall P f args T) (hv : viewL H 0 args = some args) (k : K T H) : @CallD P f args H ⟨K⟩ := Sh.callD (h.callS 0 hv) k

def okP : Int → List Int → Bool
  | _, [] => true
  | nx, x :: l => inR x 0 nx && okP (max nx (x + 1)) l
def isPart (L : List Int) : Bool := okP 0 L && inR L.length 1 8

theorem drop_cons {L : List Int} {k : Nat} (h : k < L.length) : L.drop k = L.getD k 0 :: L.drop (k + 1) := by
  rw [List.drop_eq_getElem_cons h]; simp [h]
theorem okP_step {L : List Int} {k : Nat} {nx : Int} (h : k < L.length) : okP nx (L.drop k) = (inR (L.getD k 0) 0 nx && okP (max nx (L.getD k 0 + 1)) (L.drop (k + 1))) := by
  rw [drop_cons h, okP]
theorem inR_of {x a b : Int} (h : inR x a b = true) : a ≤ x ∧ x ≤ b := by simpa [inR] using h

set_option maxHeartbeats 1000000 in
theorem Tryd.specIsPartition_ok (L : List Int) (hL : L.length ≤ 1048576) : PCall Tryd.prog 44 [ri L] (.val (.bool (isPart L))) := by
  refine FCall.pcall (R := fun r _ => r = .val (.bool (isPart L))) ?_ 0 (by rintro r H rfl; simp [view, viewV])
  refine FCall.of_body Tryd.func44 rfl (by kernel_rfl) (by simp [Tryd.ntmps44]) ?_
  refine SW_of_vc Tryd.mixed _ _ _ (by kernel_rfl) ?_
  simp (disch := omega) only [Tryd.ntmps44, Tryd.results44, go_sem]
  refine LoopW.loop (fun p : Nat × Int => ⟨ofL [(0, ri L), (3, .val (.int .i64 (p.2 - 1))), (4, .val (.int .i64 p.1))], hp [] 0⟩) (fun p => p.1 ≤ L.length ∧ 0 ≤ p.2 ∧ p.2 ≤ p.1 ∧ okP 0 L = okP p.2 (L.drop p.1)) (fun p => L.length - p.1) (0, 0) ⟨by simp, by simp, by simp, by simp⟩ (Wk.of (by simp only [go_sem, ↓List.forall_mem_cons, List.not_mem_nil, false_implies, implies_true, and_true, true_and, and_self, ri_eq, Int.natCast_add, Int.cast_ofNat_Int]; try simp) rfl) ?_
  rintro ⟨k, nx⟩ ⟨hk, h0, h1, h2⟩
  simp only at hk h0 h1 h2
  refine SW_of_vc Tryd.mixed _ _ _ (by kernel_rfl) ?_
  by_cases hlt : k < L.length
  · cases hin : inR (L.getD k 0) 0 nx with
    | true =>
      obtain ⟨i1, i2⟩ := inR_of hin
      simp (disch := omega) only [Tryd.ntmps44, Tryd.results44, go_sem, Int.sub_add_cancel]
      refine (Tryd.l1In_ok _ _ _).call (by simp [viewL, view, viewV]) ?_
      by_cases hm : nx - 1 < L.getD k 0
      · simp (disch := omega) only [Tryd.ntmps44, Tryd.results44, go_sem, Int.sub_add_cancel, hin]
        refine ⟨(k + 1, L.getD k 0 + 1), ⟨by show k + 1 ≤ _; omega, by show 0 ≤ L.getD k 0 + 1; omega, by show L.getD k 0 + 1 ≤ ((k + 1 : Nat) : Int); omega, ?_⟩, by show L.length - (k + 1) < L.length - k; omega, Wk.of (by simp only [go_sem, ↓List.forall_mem_cons, List.not_mem_nil, false_implies, implies_true, and_true, true_and, and_self, ri_eq, Int.natCast_add, Int.cast_ofNat_Int]; try simp) rfl⟩
        rw [h2, okP_step hlt, hin, Int.max_eq_right (by omega)]; rfl
      · simp (disch := omega) only [Tryd.ntmps44, Tryd.results44, go_sem, Int.sub_add_cancel, hin]
        refine ⟨(k + 1, nx), ⟨by show k + 1 ≤ _; omega, h0, by show nx ≤ ((k + 1 : Nat) : Int); omega, ?_⟩, by show L.length - (k + 1) < L.length - k; omega, Wk.of (by simp only [go_sem, ↓List.forall_mem_cons, List.not_mem_nil, false_implies, implies_true, and_true, true_and, and_self, ri_eq, Int.natCast_add, Int.cast_ofNat_Int]; try simp) rfl⟩
        rw [h2, okP_step hlt, hin, Int.max_eq_left (by omega)]; rfl
    | false =>
      simp (disch := omega) only [Tryd.ntmps44, Tryd.results44, go_sem, Int.sub_add_cancel]
      refine (Tryd.l1In_ok _ _ _).call (by simp [viewL, view, viewV]) ?_
      simp (disch := omega) only [Tryd.ntmps44, Tryd.results44, go_sem, Int.sub_add_cancel, hin]
      refine Fin.val ?_
      rw [isPart, h2, okP_step hlt, hin]; rfl
  · simp (disch := omega) only [Tryd.ntmps44, Tryd.results44, go_sem, Int.sub_add_cancel]
    refine (Tryd.l1In_ok _ _ _).call (by simp [viewL, view, viewV]) ?_
    simp (disch := omega) only [Tryd.ntmps44, Tryd.results44, go_sem]
    refine Fin.val ?_
    rw [isPart, h2, List.drop_eq_nil_of_le (by omega)]; simp [okP]

set_option maxHeartbeats 1000000 in
theorem Tryd.implIsPartition_ok (L : List Int) (hL : L.length ≤ 1048576) : PCall Tryd.prog 41 [ri L] (.val (.bool (isPart L))) := by
  refine FCall.pcall (R := fun r _ => r = .val (.bool (isPart L))) ?_ 0 (by rintro r H rfl; simp [view, viewV])
  refine FCall.of_body Tryd.func41 rfl (by kernel_rfl) (by simp [Tryd.ntmps41]) ?_
  refine SW_of_vc Tryd.mixed _ _ _ (by kernel_rfl) ?_
  simp (disch := omega) only [Tryd.ntmps41, Tryd.results41, go_sem]
  refine LoopW.loop (fun p : Nat × Int => ⟨ofL [(0, ri L), (3, .val (.int .i64 p.2)), (6, ri L), (7, .val (.int .i64 L.length)), (8, .val (.int .i64 p.1))], hp [] 0⟩) (fun p => p.1 ≤ L.length ∧ 0 ≤ p.2 ∧ p.2 ≤ p.1 ∧ okP 0 L = okP p.2 (L.drop p.1)) (fun p => L.length - p.1) (0, 0) ⟨by simp, by simp, by simp, by simp⟩ (Wk.of (by simp only [go_sem, ↓List.forall_mem_cons, List.not_mem_nil, false_implies, implies_true, and_true, true_and, and_self, ri_eq, Int.natCast_add, Int.cast_ofNat_Int]; try simp) rfl) ?_
  rintro ⟨k, nx⟩ ⟨hk, h0, h1, h2⟩
  simp only at hk h0 h1 h2
  refine SW_of_vc Tryd.mixed _ _ _ (by kernel_rfl) ?_
  by_cases hlt : k < L.length
  · cases hin : inR (L.getD k 0) 0 nx with
    | true =>
      obtain ⟨i1, i2⟩ := inR_of hin
      simp (disch := omega) only [Tryd.ntmps41, Tryd.results41, go_sem]
      refine (Tryd.within_ok _ _ _).call (by simp [viewL, view, viewV]) ?_
      by_cases hm : nx < L.getD k 0 + 1
      · simp (disch := omega) only [Tryd.ntmps41, Tryd.results41, go_sem, hin]
        refine ⟨(k + 1, L.getD k 0 + 1), ⟨by show k + 1 ≤ _; omega, by show 0 ≤ L.getD k 0 + 1; omega, by show L.getD k 0 + 1 ≤ ((k + 1 : Nat) : Int); omega, ?_⟩, by show L.length - (k + 1) < L.length - k; omega, Wk.of (by simp only [go_sem, ↓List.forall_mem_cons, List.not_mem_nil, false_implies, implies_true, and_true, true_and, and_self, ri_eq, Int.natCast_add, Int.cast_ofNat_Int]; try simp) rfl⟩
        rw [h2, okP_step hlt, hin, Int.max_eq_right (by omega)]; rfl
      · simp (disch := omega) only [Tryd.ntmps41, Tryd.results41, go_sem, hin]
        refine ⟨(k + 1, nx), ⟨by show k + 1 ≤ _; omega, h0, by show nx ≤ ((k + 1 : Nat) : Int); omega, ?_⟩, by show L.length - (k + 1) < L.length - k; omega, Wk.of (by simp only [go_sem, ↓List.forall_mem_cons, List.not_mem_nil, false_implies, implies_true, and_true, true_and, and_self, ri_eq, Int.natCast_add, Int.cast_ofNat_Int]; try simp) rfl⟩
        rw [h2, okP_step hlt, hin, Int.max_eq_left (by omega)]; rfl
    | false =>
      simp (disch := omega) only [Tryd.ntmps41, Tryd.results41, go_sem]
      refine (Tryd.within_ok _ _ _).call (by simp [viewL, view, viewV]) ?_
      simp (disch := omega) only [Tryd.ntmps41, Tryd.results41, go_sem, hin]
      refine Fin.val ?_
      rw [isPart, h2, okP_step hlt, hin]; rfl
  · simp (disch := omega) only [Tryd.ntmps41, Tryd.results41, go_sem]
    refine (Tryd.within_ok _ _ _).call (by simp [viewL, view, viewV]) ?_
    simp (disch := omega) only [Tryd.ntmps41, Tryd.results41, go_sem]
    refine Fin.val ?_
    rw [isPart, h2, List.drop_eq_nil_of_le (by omega)]; simp [okP]

end Go.Sh

/-
  Contracts: orders of the items.
-/
namespace Go.Sh
set_option linter.unusedSimpArgs false
set_option linter.unusedVariables false
open Go Go.Proofs

theorem Tryd.isItem_ok (x n : Int) (h1 : -9223372036854775807 ≤ n) (h2 : n ≤ 9223372036854775807) : PCall Tryd.prog 65 [.val (.int .i64 x), .val (.int .i64 n)] (.val (.bool (inR x 0 (n - 1)))) := by
  refine FCall.pcall (R := fun r _ => r = .val (.bool (inR x 0 (n - 1)))) ?_ 0 (by rintro r H rfl; simp [view, viewV])
  refine FCall.of_body Tryd.func65 rfl (by kernel_rfl) (by simp [Tryd.ntmps65]) ?_
  refine SW_of_vc Tryd.mixed _ _ _ (by kernel_rfl) ?_
  simp (disch := omega) only [Tryd.ntmps65, Tryd.results65, go_sem]
  refine (Tryd.within_ok _ _ _).call (by simp [viewL, view, viewV]) ?_
  simp (disch := omega) only [Tryd.ntmps65, Tryd.results65, go_sem]
  exact Fin.val rfl

def idx (x : Int) (L : List Int) : Int := if x ∈ L then (L.idxOf x : Int) else -1
theorem idx_none {x : Int} {L : List Int} (h : ∀ i, i < L.length → L.getD i 0 ≠ x) : idx x L = -1 := by
  rw [idx, if_neg]
  intro hm
  obtain ⟨i, hi, e⟩ := List.getElem_of_mem hm
  exact h i hi (by simp [hi, e])
theorem idx_some {x : Int} {L : List Int} {k : Nat} (hk : k < L.length) (h : ∀ i, i < k → L.getD i 0 ≠ x) (e : L.getD k 0 = x) : idx x L = k := by
  have hm : x ∈ L := by rw [← e]; simp [hk]
  rw [idx, if_pos hm]
  congr 1
  have h1 : L.idxOf x < L.length := List.idxOf_lt_length_of_mem hm
  have h2 : L[L.idxOf x] = x := List.getElem_idxOf h1
  rcases Nat.lt_trichotomy (L.idxOf x) k with hl | hl | hl
  · exact absurd (by simp [h1]) (h _ hl)
  · exact hl
  · exfalso
    have := List.not_of_lt_findIdx (p := (· == x)) (xs := L) (i := k) (by simpa [List.idxOf] using hl)
    simp [hk] at e
    simp [e] at this
theorem idx_ge (x : Int) (L : List Int) : (0 ≤ idx x L) ↔ x ∈ L := by
  rw [idx]; split <;> simp_all

set_option maxHeartbeats 1000000 in
theorem Tryd.slicesIndex_ok (L : List Int) (x : Int) (hL : L.length ≤ 1099511627776) : PCall Tryd.prog 81 [ri L, .val (.int .i64 x)] (.val (.int .i64 (idx x L))) := by
  refine FCall.pcall (R := fun r _ => r = .val (.int .i64 (idx x L))) ?_ 0 (by rintro r H rfl; simp [view, viewV])
  refine FCall.of_body Tryd.func81 rfl (by kernel_rfl) (by simp [Tryd.ntmps81]) ?_
  refine SW_of_vc Tryd.mixed _ _ _ (by kernel_rfl) ?_
  simp (disch := omega) only [Tryd.ntmps81, Tryd.results81, go_sem]
  refine LoopW.loop (fun k : Nat => ⟨ofL [(0, ri L), (1, .val (.int .i64 x)), (7, .val (.int .i64 L.length)), (8, .val (.int .i64 k))], hp [] 0⟩) (fun k => k ≤ L.length ∧ ∀ i, i < k → L.getD i 0 ≠ x) (fun k => L.length - k) 0 ⟨by omega, by simp⟩ (Wk.of (by simp only [go_sem, ↓List.forall_mem_cons, List.not_mem_nil, false_implies, implies_true, and_true, true_and, and_self, ri_eq, Int.natCast_add, Int.cast_ofNat_Int]; try simp) rfl) ?_
  rintro k ⟨hk, hkk⟩
  refine SW_of_vc Tryd.mixed _ _ _ (by kernel_rfl) ?_
  by_cases hlt : k < L.length
  · by_cases he : x = L.getD k 0
    · simp (disch := omega) only [Tryd.ntmps81, Tryd.results81, go_sem]
      exact Fin.val (by rw [idx_some hlt hkk he.symm])
    · simp (disch := omega) only [Tryd.ntmps81, Tryd.results81, go_sem]
      refine ⟨k + 1, ⟨by omega, fun i hi => ?_⟩, by omega, Wk.of (by simp only [go_sem, ↓List.forall_mem_cons, List.not_mem_nil, false_implies, implies_true, and_true, true_and, and_self, ri_eq, Int.natCast_add, Int.cast_ofNat_Int]; try simp) rfl⟩
      rcases Nat.lt_succ_iff_lt_or_eq.mp hi with h | rfl
      · exact hkk i h
      · exact fun e => he e.symm
  · simp (disch := omega) only [Tryd.ntmps81, Tryd.results81, go_sem]
    exact Fin.val (by rw [idx_none (fun i hi => hkk i (by omega))])

def okO (n : Int) : List Int → List Int → Bool
  | _, [] => true
  | s, x :: l => inR x 0 (n - 1) && (!s.contains x && okO n (s ++ [x]) l)
def isOrd (n : Int) (L : List Int) : Bool := inR n 1 8 && (decide ((L.length : Int) = n) && okO n [] L)
theorem okO_step {n : Int} {L : List Int} {k : Nat} (h : k < L.length) : okO n (L.take k) (L.drop k) = (inR (L.getD k 0) 0 (n - 1) && (!(L.take k).contains (L.getD k 0) && okO n (L.take (k + 1)) (L.drop (k + 1)))) := by
  rw [drop_cons h, okO, List.take_succ_eq_append_getElem h]; simp [h]

end Go.Sh

/-
  Contracts: lists marked in place, and read back.
-/
namespace Go.Sh
set_option linter.unusedSimpArgs false
set_option linter.unusedVariables false
open Go Go.Proofs

/-- k, k+1, .. in the first i places. -/
def markTo (L : List Int) (k : Int) (i : Nat) : List Int := (List.range i).map (fun x : Nat => k + (x : Int)) ++ L.drop i
theorem markTo_zero (L : List Int) (k : Int) : markTo L k 0 = L := by simp [markTo]
theorem markTo_length {L : List Int} {k : Int} {i : Nat} (h : i ≤ L.length) : (markTo L k i).length = L.length := by simp [markTo]; omega
theorem markTo_set {L : List Int} {k : Int} {i : Nat} (h : i < L.length) : (markTo L k i).set i (k + (i : Int)) = markTo L k (i + 1) := by
  apply List.ext_getElem?
  intro x
  simp only [markTo, List.getElem?_set, List.getElem?_append, List.length_map, List.length_range, List.getElem?_map, List.getElem?_drop, List.length_append, List.length_drop]
  by_cases h1 : i = x
  · subst h1
    have : i < i + (L.length - i) := by omega
    simp [this]
  · by_cases h2 : x < i
    · have h3 : x < i + 1 := by omega
      simp [h1, h2, h3]
    · have h3 : ¬ x < i + 1 := by omega
      simp [h1, h2, h3]
      congr 1
      omega
def marks (n : Nat) (k : Int) : List Int := (List.range n).map fun x : Nat => k + (x : Int)
theorem markTo_all (L : List Int) (k : Int) : markTo L k L.length = marks L.length k := by simp [markTo, marks]
theorem marks_length (n : Nat) (k : Int) : (marks n k).length = n := by simp [marks]

set_option maxHeartbeats 1000000 in
theorem Tryd.markIntS_ok (L : List Int) (k : Int) (H : Heap) (b n cap : Nat) (ex e2 : Bool) (hb : H.map b = some ⟨ints L, e2⟩) (hn : n = L.length) (hL : L.length ≤ 1099511627776) (hk : 0 ≤ k) (hk2 : k ≤ 1099511627776) :
    CallS Tryd.prog 26 [.own b 0 n cap 1 ex, .val (.int .i64 k)] H (fun r H' => r = .val (.int .i64 (k + n)) ∧ H' = H.set b (some ⟨ints (marks n k), e2⟩)) := by
  subst hn
  refine CallS.of_body Tryd.func26 rfl (by kernel_rfl) (by simp [Tryd.ntmps26]) ?_
  refine SW_of_vc Tryd.mixed _ _ _ (by kernel_rfl) ?_
  simp (disch := omega) only [Tryd.ntmps26, Tryd.results26, go_sem]
  refine LoopW.loop (fun i : Nat => ⟨ofL [(0, .own b 0 L.length cap 1 ex), (1, .val (.int .i64 (k + i))), (5, .val (.int .i64 i))], H.set b (some ⟨ints (markTo L k i), e2⟩)⟩) (fun i => i ≤ L.length) (fun i => L.length - i) 0 (by omega) (Wk.of (by simp only [go_sem, ↓List.forall_mem_cons, List.not_mem_nil, false_implies, implies_true, and_true, true_and, and_self, ri_eq, Int.natCast_add, Int.cast_ofNat_Int, Int.natCast_zero, Int.add_zero]; try simp) (by rw [markTo_zero, Heap.set_self hb])) ?_
  intro i hi
  have hml := markTo_length (k := k) hi
  refine SW_of_vc Tryd.mixed _ _ _ (by kernel_rfl) ?_
  by_cases hlt : i < L.length
  · simp (disch := omega) only [Tryd.ntmps26, Tryd.results26, go_sem, Heap.set_at, hml, Heap.set_set, markTo_set]
    refine ⟨i + 1, by omega, by omega, Wk.of (by simp only [go_sem, ↓List.forall_mem_cons, List.not_mem_nil, false_implies, implies_true, and_true, true_and, and_self, ri_eq, Int.natCast_add, Int.cast_ofNat_Int, Int.add_assoc]; try simp) rfl⟩
  · obtain rfl : i = L.length := by omega
    simp (disch := omega) only [Tryd.ntmps26, Tryd.results26, go_sem, Heap.set_at, hml, Heap.set_set, markTo_set, markTo_all]

def held (L : List Int) (k : Int) : Int := if L = marks L.length k then k + L.length else -1
set_option maxHeartbeats 1000000 in
theorem Tryd.heldIntS_ok (L : List Int) (k : Int) (hL : L.length ≤ 1099511627776) (hk : 0 ≤ k) (hk2 : k ≤ 1099511627776) : PCall Tryd.prog 27 [ri L, .val (.int .i64 k)] (.val (.int .i64 (held L k))) := by
  refine FCall.pcall (R := fun r _ => r = .val (.int .i64 (held L k))) ?_ 0 (by rintro r H rfl; simp [view, viewV])
  refine FCall.of_body Tryd.func27 rfl (by kernel_rfl) (by simp [Tryd.ntmps27]) ?_
  refine SW_of_vc Tryd.mixed _ _ _ (by kernel_rfl) ?_
  simp (disch := omega) only [Tryd.ntmps27, Tryd.results27, go_sem]
  refine LoopW.loop (fun i : Nat => ⟨ofL [(0, ri L), (1, .val (.int .i64 (k + i))), (5, .val (.int .i64 i))], hp [] 0⟩) (fun i => i ≤ L.length ∧ ∀ x, x < i → L.getD x 0 = k + (x : Int)) (fun i => L.length - i) 0 ⟨by omega, by simp⟩ (Wk.of (by simp only [go_sem, ↓List.forall_mem_cons, List.not_mem_nil, false_implies, implies_true, and_true, true_and, and_self, ri_eq, Int.natCast_add, Int.cast_ofNat_Int, Int.natCast_zero, Int.add_zero]; try simp) rfl) ?_
  rintro i ⟨hi, hh⟩
  refine SW_of_vc Tryd.mixed _ _ _ (by kernel_rfl) ?_
  by_cases hlt : i < L.length
  · by_cases he : L.getD i 0 = k + i
    · simp (disch := omega) only [Tryd.ntmps27, Tryd.results27, go_sem, he]
      refine ⟨i + 1, ⟨by omega, fun x hx => ?_⟩, by omega, Wk.of (by simp only [go_sem, ↓List.forall_mem_cons, List.not_mem_nil, false_implies, implies_true, and_true, true_and, and_self, ri_eq, Int.natCast_add, Int.cast_ofNat_Int, Int.add_assoc]; try simp) rfl⟩
      rcases Nat.lt_succ_iff_lt_or_eq.mp hx with h | rfl
      · exact hh x h
      · exact he
    · simp (disch := omega) only [Tryd.ntmps27, Tryd.results27, go_sem]
      refine Fin.val ?_
      have : L ≠ marks L.length k := by
        intro e
        apply he
        rw [e]
        simp [marks, hlt]
      rw [held, if_neg this]
  · obtain rfl : i = L.length := by omega
    simp (disch := omega) only [Tryd.ntmps27, Tryd.results27, go_sem]
    refine Fin.val ?_
    have : L = marks L.length k := by
      apply List.ext_getElem
      · simp [marks]
      · intro x h1 h2
        have := hh x h1
        simp [h1] at this
        simp [marks, this]
    rw [held, if_pos this]
theorem held_marks (n : Nat) (k : Int) : held (marks n k) k = k + n := by rw [held, marks_length, if_pos rfl]
theorem Tryd.markIntS_nil (k : Int) (H : Heap) (hk : 0 ≤ k) (hk2 : k ≤ 1099511627776) : CallS Tryd.prog 26 [.val (.slice none 0 0), .val (.int .i64 k)] H (fun r H' => r = .val (.int .i64 k) ∧ H' = H) := by
  refine CallS.of_body Tryd.func26 rfl (by kernel_rfl) (by simp [Tryd.ntmps26]) ?_
  refine SW_of_vc Tryd.mixed _ _ _ (by kernel_rfl) ?_
  simp (disch := omega) only [Tryd.ntmps26, Tryd.results26, go_sem]
  refine LoopW.loop (fun _ : Unit => ⟨ofL [(0, .val (.slice none 0 0)), (1, .val (.int .i64 k)), (5, .val (.int .i64 0))], H⟩) (fun _ => True) (fun _ => 0) () trivial (Wk.of (by simp only [go_sem, ↓List.forall_mem_cons, List.not_mem_nil, false_implies, implies_true, and_true, true_and, and_self, ri_eq, Int.natCast_add, Int.cast_ofNat_Int]; try simp) rfl) ?_
  rintro _ _
  refine SW_of_vc Tryd.mixed _ _ _ (by kernel_rfl) ?_
  simp (disch := omega) only [Tryd.ntmps26, Tryd.results26, go_sem]
theorem Tryd.toIntS_one (L : List Int) (hL : L.length ≤ 1048576) : FCall Tryd.prog 11 [ri L] (OneRes L.length 1 (ints L)) := ((Tryd.toIntS_f L hL).mono fun _ _ h => h.flat).one
end Go.Sh

/-
  Contracts: labels by first occurrence. Of the program.
-/
namespace Go.Sh
set_option linter.unusedSimpArgs false
set_option linter.unusedVariables false
open Go Go.Proofs

def cstep (s : List Int × List Int) (x : Int) : List Int × List Int :=
  if x ∈ s.1 then (s.1, s.2 ++ [idx x s.1]) else (s.1 ++ [x], s.2 ++ [(s.1.length : Int)])
def cst (L : List Int) : List Int × List Int := L.foldl cstep ([], [])
def canon (L : List Int) : List Int := (cst L).2
theorem cst_zero : cst [] = ([], []) := rfl
theorem cst_succ {L : List Int} {k : Nat} (h : k < L.length) : cst (L.take (k + 1)) = cstep (cst (L.take k)) (L.getD k 0) := by
  rw [List.take_succ_eq_append_getElem h]
  simp only [cst, List.foldl_append, List.foldl_cons, List.foldl_nil]
  congr 1
  simp [h]
theorem cst_len : ∀ (L : List Int) (s : List Int × List Int), (L.foldl cstep s).2.length = s.2.length + L.length ∧ (L.foldl cstep s).1.length ≤ s.1.length + L.length
  | [], s => by simp
  | x :: L, s => by
    have ih := cst_len L (cstep s x)
    have h2 : (cstep s x).2.length = s.2.length + 1 := by unfold cstep; split <;> simp
    have h1 : (cstep s x).1.length ≤ s.1.length + 1 := by unfold cstep; split <;> simp
    simp only [List.foldl_cons, List.length_cons]
    omega
theorem cst_len2 (L : List Int) : (cst L).2.length = L.length := by have := (cst_len L ([], [])).1; simpa [cst] using this
theorem cst_len1 (L : List Int) : (cst L).1.length ≤ L.length := by have := (cst_len L ([], [])).2; simpa [cst] using this
theorem canon_length (L : List Int) : (canon L).length = L.length := cst_len2 L
theorem idx_lt {x : Int} {L : List Int} : idx x L < L.length ∨ L = [] := by
  unfold idx
  split
  · rename_i h
    have := List.idxOf_lt_length_of_mem h
    left; omega
  · cases L with
    | nil => right; rfl
    | cons a l => left; simp; omega
theorem idx_neg {x : Int} {L : List Int} (h : ¬ x ∈ L) : idx x L = -1 := by rw [idx, if_neg h]
theorem idx_nonneg {x : Int} {L : List Int} (h : x ∈ L) : 0 ≤ idx x L := (idx_ge x L).mpr h

def canF (L : List Int) : Nat × Nat × Nat × Nat → St
  | (0, _, _, nb) => ⟨ofL [(0, ri L), (3, .val (.slice none 0 0)), (4, .val (.slice none 0 0)), (8, ri L), (9, .val (.int .i64 L.length)), (10, .val (.int .i64 0))], hp [] nb⟩
  | (k + 1, b1, b2, nb) => ⟨ofL [(0, ri L), (3, .own b1 0 (cst (L.take (k + 1))).1.length (cst (L.take (k + 1))).1.length 1 false), (4, .own b2 0 (cst (L.take (k + 1))).2.length (cst (L.take (k + 1))).2.length 1 false), (8, ri L), (9, .val (.int .i64 L.length)), (10, .val (.int .i64 ((k + 1 : Nat) : Int)))],
      hp [(b1, ⟨ints (cst (L.take (k + 1))).1, false⟩), (b2, ⟨ints (cst (L.take (k + 1))).2, false⟩)] nb⟩

set_option maxHeartbeats 2000000 in
theorem Tryd.implCanon_f (L : List Int) (hL : L.length ≤ 1048576) (h0 : L ≠ []) : FCall Tryd.prog 43 [ri L] (FlatRes L.length 1 (ints (canon L))) := by
  have hp0 : 0 < L.length := by cases L with | nil => exact absurd rfl h0 | cons a l => simp
  refine FCall.of_body Tryd.func43 rfl (by kernel_rfl) (by simp [Tryd.ntmps43]) ?_
  refine SW_of_vc Tryd.mixed _ _ _ (by kernel_rfl) ?_
  simp (disch := omega) only [Tryd.ntmps43, Tryd.results43, go_sem]
  refine LoopW.loop (canF L) (fun p => p.1 ≤ L.length ∧ (0 < p.1 → p.2.1 < p.2.2.2 ∧ p.2.2.1 < p.2.2.2 ∧ p.2.1 ≠ p.2.2.1)) (fun p => L.length - p.1) (0, 0, 0, 0) ⟨by simp, by simp⟩ (Wk.of (by simp only [go_sem, ↓List.forall_mem_cons, List.not_mem_nil, false_implies, implies_true, and_true, true_and, and_self, ri_eq, Int.natCast_add, Int.cast_ofNat_Int]; try simp) rfl) ?_
  rintro ⟨k, b1, b2, nb⟩ ⟨hk, hb⟩
  simp only at hk hb
  refine SW_of_vc Tryd.mixed _ _ _ (by kernel_rfl) ?_
  cases k with
  | zero =>
    rw [canF]
    simp (disch := omega) only [Tryd.ntmps43, Tryd.results43, go_sem]
    refine (Tryd.slicesIndex_ok [] (L.getD 0 0) (by simp)).callV 0 (by simp [viewL, view, viewV, ri, ints]) ?_
    rw [idx_neg (by simp)]
    simp (disch := omega) only [Tryd.ntmps43, Tryd.results43, go_sem]
    refine ⟨(1, nb + 1, nb + 3, nb + 4), ⟨hp0, fun _ => ⟨by simp, by simp, by simp⟩⟩, by simp; omega, ?_⟩
    have e1 := cst_succ (L := L) (k := 0) hp0
    rw [List.take_zero, cst_zero] at e1
    simp only [cstep, List.not_mem_nil, if_false, List.nil_append, List.length_nil] at e1
    refine Wk.ofH (by simp only [go_sem, ↓List.forall_mem_cons, List.not_mem_nil, false_implies, implies_true, and_true, true_and, and_self, ri_eq, Int.natCast_add, Int.cast_ofNat_Int, e1]; try simp) (by simp (disch := omega) only [go_sem, ↓List.forall_mem_cons, List.not_mem_nil, false_implies, implies_true, and_true, true_and, and_self, ri_eq, Int.natCast_add, Int.cast_ofNat_Int, if_pos, if_neg, Nat.reduceAdd, List.nil_append, e1, ints_one]; try simp) (by simp [hp])
  | succ k =>
    obtain ⟨hb1, hb2, hb3⟩ := hb (by omega)
    rw [canF]
    have l1 := cst_len1 (L.take (k + 1))
    have l2 := cst_len2 (L.take (k + 1))
    have l3 : (L.take (k + 1)).length = k + 1 := by simp; omega
    have e1 := fun h => cst_succ (L := L) (k := k + 1) h
    generalize he : cst (L.take (k + 1)) = st at *
    obtain ⟨seen, out⟩ := st
    simp only at l1 l2 e1 ⊢
    by_cases hlt : k + 1 < L.length
    · have e1 := e1 hlt
      simp (disch := omega) only [Tryd.ntmps43, Tryd.results43, go_sem]
      refine (Tryd.slicesIndex_ok seen (L.getD (k + 1) 0) (by omega)).callV 1 (by simp only [viewL, view_own (H := hp _ _) (show (hp [(b1, ⟨ints seen, false⟩), (b2, ⟨ints out, false⟩)] nb).map b1 = some ⟨ints seen, false⟩ by simp [hp, hmap]) rfl, view, viewV]) ?_
      by_cases hm : L.getD (k + 1) 0 ∈ seen
      · have hi := idx_nonneg hm
        simp (disch := omega) only [Tryd.ntmps43, Tryd.results43, go_sem]
        simp only [cstep, if_pos hm] at e1
        refine ⟨(k + 1 + 1, b1, nb + 1, nb + 1 + 1), ⟨hlt, fun _ => ⟨by show b1 < nb + 1 + 1; omega, by show nb + 1 < nb + 1 + 1; omega, by show b1 ≠ nb + 1; omega⟩⟩, by show L.length - (k + 1 + 1) < L.length - (k + 1); omega, ?_⟩
        exact Wk.ofH (by simp only [go_sem, ↓List.forall_mem_cons, List.not_mem_nil, false_implies, implies_true, and_true, true_and, and_self, ri_eq, Int.natCast_add, Int.cast_ofNat_Int, e1, List.length_append, List.length_cons, List.length_nil, Nat.zero_add]; try simp) (by simp (disch := omega) only [go_sem, ↓List.forall_mem_cons, List.not_mem_nil, false_implies, implies_true, and_true, true_and, and_self, ri_eq, Int.natCast_add, Int.cast_ofNat_Int, if_pos, if_neg, Nat.reduceAdd, List.nil_append, e1]; try simp) (by simp [hp])
      · rw [idx_neg hm]
        simp (disch := omega) only [Tryd.ntmps43, Tryd.results43, go_sem]
        simp only [cstep, if_neg hm] at e1
        refine ⟨(k + 1 + 1, nb + 1, nb + 1 + 1 + 1, nb + 1 + 1 + 1 + 1), ⟨hlt, fun _ => ⟨by show nb + 1 < nb + 1 + 1 + 1 + 1; omega, by show nb + 1 + 1 + 1 < nb + 1 + 1 + 1 + 1; omega, by show nb + 1 ≠ nb + 1 + 1 + 1; omega⟩⟩, by show L.length - (k + 1 + 1) < L.length - (k + 1); omega, ?_⟩
        exact Wk.ofH (by simp only [go_sem, ↓List.forall_mem_cons, List.not_mem_nil, false_implies, implies_true, and_true, true_and, and_self, ri_eq, Int.natCast_add, Int.cast_ofNat_Int, e1, List.length_append, List.length_cons, List.length_nil, Nat.zero_add]; try simp) (by simp (disch := omega) only [go_sem, ↓List.forall_mem_cons, List.not_mem_nil, false_implies, implies_true, and_true, true_and, and_self, ri_eq, Int.natCast_add, Int.cast_ofNat_Int, if_pos, if_neg, Nat.reduceAdd, List.nil_append, e1]; try simp) (by simp [hp])
    · simp (disch := omega) only [Tryd.ntmps43, Tryd.results43, go_sem]
      have e2 : canon L = out := by
        have : L.take (k + 1) = L := List.take_of_length_le (by omega)
        rw [canon, ← this, he]
      have e3 : out.length = L.length := by rw [l2, l3]; omega
      rw [e2, e3]
      exact fin_ints e3.symm (by rw [hp_map, hmap_cons, if_neg (by omega), hmap_cons, if_pos rfl])

theorem Tryd.implCanon_nil : FCall Tryd.prog 43 [ri []] (fun r _ => r = .val (.slice none 0 0)) := by
  refine FCall.of_body Tryd.func43 rfl (by kernel_rfl) (by simp [Tryd.ntmps43]) ?_
  refine SW_of_vc Tryd.mixed _ _ _ (by kernel_rfl) ?_
  simp (disch := omega) only [Tryd.ntmps43, Tryd.results43, go_sem]
  refine LoopW.loop (fun _ : Unit => ⟨ofL [(0, ri []), (4, .val (.slice none 0 0)), (8, ri []), (9, .val (.int .i64 0)), (10, .val (.int .i64 0))], hp [] 0⟩) (fun _ => True) (fun _ => 0) () trivial (Wk.of (by simp only [go_sem, ↓List.forall_mem_cons, List.not_mem_nil, false_implies, implies_true, and_true, true_and, and_self, ri_eq, Int.natCast_add, Int.cast_ofNat_Int]; try simp) rfl) ?_
  rintro _ _
  refine SW_of_vc Tryd.mixed _ _ _ (by kernel_rfl) ?_
  simp (disch := omega) only [Tryd.ntmps43, Tryd.results43, go_sem]
  exact Fin.val rfl
theorem flat_view {L : List Int} {n : Nat} {r : SV} {H : Heap} (h : FlatRes n 1 (ints L) r H) : view H 2 r = some (ri L) := by
  obtain ⟨b, off, cap, ex, blk, rfl, h1, h2, h3, h4⟩ := h
  have hn : L.length = n := by
    have := congrArg List.length h2
    simp [ints] at this
    omega
  rw [Nat.mul_one] at h2 h3
  simp only [view, h1, Nat.mul_one, h3, if_true, h2, viewL_ints, ri, hn]
theorem Tryd.implCanon_ok (L : List Int) (hL : L.length ≤ 1048576) : PCall Tryd.prog 43 [ri L] (ri (canon L)) := by
  by_cases h : L = []
  · subst h
    exact Tryd.implCanon_nil.pcall 0 (by rintro r H rfl; exact view_nil)
  · exact (Tryd.implCanon_f L hL h).pcall 2 (fun _ _ h => flat_view h)
end Go.Sh

/-
  Contracts: labels by first occurrence. Of the reference.
-/
namespace Go.Sh
set_option linter.unusedSimpArgs false
set_option linter.unusedVariables false
open Go Go.Proofs

theorem cstep_nodup {s : List Int × List Int} {x : Int} (h : s.1.Nodup) : (cstep s x).1.Nodup := by
  unfold cstep
  split
  · exact h
  · rename_i hx
    show (s.1 ++ [x]).Nodup
    rw [List.nodup_append]
    refine ⟨h, by simp, ?_⟩
    intro a ha b hb
    simp at hb
    subst hb
    exact fun e => hx (e ▸ ha)
theorem cst_nodup : ∀ (L : List Int) (s : List Int × List Int), s.1.Nodup → (L.foldl cstep s).1.Nodup
  | [], s, h => h
  | x :: L, s, h => cst_nodup L (cstep s x) (cstep_nodup h)
theorem idx_eq {x : Int} {L : List Int} {k : Nat} (hk : k < L.length) (hd : L.Nodup) (e : L.getD k 0 = x) : idx x (L.take (k + 1)) = k := by
  refine idx_some (by simp; omega) (fun i hi => ?_) ?_
  · intro h
    have hi' : i < L.length := by omega
    have h1 : L[i] = L[k] := by
      have h2 : (L.take (k + 1)).getD i 0 = L[i] := by simp [hi', show i < k + 1 by omega]
      have h3 : L.getD k 0 = L[k] := by simp [hk]
      rw [← h2, h, ← h3, e]
    exact List.pairwise_iff_getElem.1 hd i k hi' hk hi h1
  · rw [← e]; simp [hk]
theorem idx_ne {x : Int} {L : List Int} {k : Nat} (hk : k < L.length) (e : L.getD k 0 ≠ x) : idx x (L.take (k + 1)) = idx x (L.take k) := by
  have h3 : L.getD k 0 = L[k] := by simp [hk]
  rw [h3] at e
  rw [List.take_succ_eq_append_getElem hk]
  unfold idx
  by_cases h : x ∈ L.take k
  · rw [if_pos h, if_pos (List.mem_append.2 (.inl h)), List.idxOf_append, if_pos h]
  · rw [if_neg h, if_neg]
    simp only [List.mem_append, List.mem_singleton, not_or]
    exact ⟨h, fun h => e h.symm⟩
theorem idx_nil (x : Int) : idx x [] = -1 := by simp [idx]

set_option maxHeartbeats 2000000 in
theorem Tryd.specCanon_f (L : List Int) (hL : L.length ≤ 1048576) : FCall Tryd.prog 45 [ri L] (FlatRes L.length 1 (ints (canon L))) := by
  refine FCall.of_body Tryd.func45 rfl (by kernel_rfl) (by simp [Tryd.ntmps45]) ?_
  refine SW_of_vc Tryd.mixed _ _ _ (by kernel_rfl) ?_
  simp (disch := omega) only [Tryd.ntmps45, Tryd.results45, go_sem]
  refine LoopW.loop (fun p : Nat × Nat × Nat × Nat => ⟨ofL [(0, ri L), (3, .own p.2.1 0 (cst (L.take p.1)).2.length (cst (L.take p.1)).2.length 1 false), (4, .own p.2.2.1 0 (cst (L.take p.1)).1.length (cst (L.take p.1)).1.length 1 false), (5, .val (.int .i64 p.1))],
      hp [(p.2.1, ⟨ints (cst (L.take p.1)).2, false⟩), (p.2.2.1, ⟨ints (cst (L.take p.1)).1, false⟩)] p.2.2.2⟩)
    (fun p => p.1 ≤ L.length ∧ p.2.1 < p.2.2.2 ∧ p.2.2.1 < p.2.2.2 ∧ p.2.1 ≠ p.2.2.1) (fun p => L.length - p.1) (0, 0, 1, 2) ⟨by simp, by simp, by simp, by simp⟩
    (Wk.ofH (by simp only [go_sem, ↓List.forall_mem_cons, List.not_mem_nil, false_implies, implies_true, and_true, true_and, and_self, ri_eq, Int.natCast_add, Int.cast_ofNat_Int, List.take_zero, cst_zero, List.length_nil]; try simp) (by simp (disch := omega) only [go_sem, ↓List.forall_mem_cons, List.not_mem_nil, false_implies, implies_true, and_true, true_and, and_self, ri_eq, Int.natCast_add, Int.cast_ofNat_Int, if_pos, if_neg, Nat.reduceAdd, List.nil_append, List.take_zero, cst_zero, ints_nil]; try simp) (by simp [hp])) ?_
  rintro ⟨k, b1, b2, nb⟩ ⟨hk, hb1, hb2, hb3⟩
  simp only at hk hb1 hb2 hb3
  have l1 := cst_len1 (L.take k)
  have l2 := cst_len2 (L.take k)
  have l3 : (L.take k).length = k := by simp; omega
  have e1 := fun h => cst_succ (L := L) (k := k) h
  have hd : (cst (L.take k)).1.Nodup := cst_nodup _ _ (by simp)
  generalize he : cst (L.take k) = st at *
  obtain ⟨seen, out⟩ := st
  simp only at l1 l2 e1 hd ⊢
  refine SW_of_vc Tryd.mixed _ _ _ (by kernel_rfl) ?_
  by_cases hlt : k < L.length
  · have e1 := e1 hlt
    simp (disch := omega) only [Tryd.ntmps45, Tryd.results45, go_sem]
    refine LoopW.loop (fun i : Nat => ⟨ofL [(0, ri L), (3, .own b1 0 out.length out.length 1 false), (4, .own b2 0 seen.length seen.length 1 false), (5, .val (.int .i64 k)), (6, .val (.int .i64 (idx (L.getD k 0) (seen.take i)))), (7, .val (.int .i64 i))],
        hp [(b1, ⟨ints out, false⟩), (b2, ⟨ints seen, false⟩)] nb⟩) (fun i => i ≤ seen.length) (fun i => seen.length - i) 0 (by omega) (Wk.of (by simp only [go_sem, ↓List.forall_mem_cons, List.not_mem_nil, false_implies, implies_true, and_true, true_and, and_self, ri_eq, Int.natCast_add, Int.cast_ofNat_Int, List.take_zero, idx_nil]; try simp) rfl) ?_
    intro i hi
    refine SW_of_vc Tryd.mixed _ _ _ (by kernel_rfl) ?_
    by_cases hil : i < seen.length
    · by_cases hx : seen.getD i 0 = L.getD k 0
      · have ei := idx_eq hil hd hx
        simp (disch := omega) only [Tryd.ntmps45, Tryd.results45, go_sem]
        exact ⟨i + 1, by omega, by omega, Wk.of (by simp only [go_sem, ↓List.forall_mem_cons, List.not_mem_nil, false_implies, implies_true, and_true, true_and, and_self, ri_eq, Int.natCast_add, Int.cast_ofNat_Int, ei]; try simp) rfl⟩
      · have ei := idx_ne hil hx
        simp (disch := omega) only [Tryd.ntmps45, Tryd.results45, go_sem]
        exact ⟨i + 1, by omega, by omega, Wk.of (by simp only [go_sem, ↓List.forall_mem_cons, List.not_mem_nil, false_implies, implies_true, and_true, true_and, and_self, ri_eq, Int.natCast_add, Int.cast_ofNat_Int, ei]; try simp) rfl⟩
    · obtain rfl : i = seen.length := by omega
      rw [List.take_length]
      by_cases hm : L.getD k 0 ∈ seen
      · have hi := idx_nonneg hm
        simp (disch := omega) only [Tryd.ntmps45, Tryd.results45, go_sem]
        simp only [cstep, if_pos hm] at e1
        refine ⟨(k + 1, nb + 1, b2, nb + 1 + 1), ⟨hlt, by show nb + 1 < nb + 1 + 1; omega, by show b2 < nb + 1 + 1; omega, by show nb + 1 ≠ b2; omega⟩, by show L.length - (k + 1) < L.length - k; omega, ?_⟩
        exact Wk.ofH (by simp only [go_sem, ↓List.forall_mem_cons, List.not_mem_nil, false_implies, implies_true, and_true, true_and, and_self, ri_eq, Int.natCast_add, Int.cast_ofNat_Int, e1, List.length_append, List.length_cons, List.length_nil, Nat.zero_add]; try simp) (by simp (disch := omega) only [go_sem, ↓List.forall_mem_cons, List.not_mem_nil, false_implies, implies_true, and_true, true_and, and_self, ri_eq, Int.natCast_add, Int.cast_ofNat_Int, if_pos, if_neg, Nat.reduceAdd, List.nil_append, e1]; try simp) (by simp [hp])
      · rw [idx_neg hm]
        simp (disch := omega) only [Tryd.ntmps45, Tryd.results45, go_sem]
        simp only [cstep, if_neg hm] at e1
        refine ⟨(k + 1, nb + 1 + 1 + 1, nb + 1, nb + 1 + 1 + 1 + 1), ⟨hlt, by show nb + 1 + 1 + 1 < nb + 1 + 1 + 1 + 1; omega, by show nb + 1 < nb + 1 + 1 + 1 + 1; omega, by show nb + 1 + 1 + 1 ≠ nb + 1; omega⟩, by show L.length - (k + 1) < L.length - k; omega, ?_⟩
        exact Wk.ofH (by simp only [go_sem, ↓List.forall_mem_cons, List.not_mem_nil, false_implies, implies_true, and_true, true_and, and_self, ri_eq, Int.natCast_add, Int.cast_ofNat_Int, e1, List.length_append, List.length_cons, List.length_nil, Nat.zero_add]; try simp) (by simp (disch := omega) only [go_sem, ↓List.forall_mem_cons, List.not_mem_nil, false_implies, implies_true, and_true, true_and, and_self, ri_eq, Int.natCast_add, Int.cast_ofNat_Int, if_pos, if_neg, Nat.reduceAdd, List.nil_append, e1]; try simp) (by simp [hp])
  · simp (disch := omega) only [Tryd.ntmps45, Tryd.results45, go_sem]
    have e2 : canon L = out := by
      have : L.take k = L := List.take_of_length_le (by omega)
      rw [canon, ← this, he]
    have e3 : out.length = L.length := by rw [l2, l3]; omega
    rw [e2, e3]
    exact fin_ints e3.symm (by rw [hp_map, hmap_cons, if_pos rfl])
theorem Tryd.specCanon_ok (L : List Int) (hL : L.length ≤ 1048576) : PCall Tryd.prog 45 [ri L] (ri (canon L)) :=
  (Tryd.specCanon_f L hL).pcall 2 (fun _ _ h => flat_view h)
end Go.Sh
