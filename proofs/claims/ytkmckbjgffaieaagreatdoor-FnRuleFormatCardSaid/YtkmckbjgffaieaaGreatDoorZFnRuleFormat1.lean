/-
  Texts put together: Ty, C1, C2, C3, D1, Lift, G1, D2, H1, ShQ, HM1, PW1, G2. What each proves stands at its own head, with its conditions.
-/
import Derived.Test.YtkmckbjgffaieaaGreatDoorZa3
import Derived.Test.YtkmckbjgffaieaaGreatDoorChecked
import Derived.KernelRfl
import Derived.Test.YtkmckbjgffaieaaGreatDoorRows
import Derived.WalkKit
import Derived.ProofKit
import Derived.OpenShut
import Derived.ShutString
import Derived.ChangeOld
import Derived.Below
import Derived.Deep.Slices

/-
  What the shadow asks of this program's types, each a closed fact.
-/
namespace Go.Sh
set_option linter.unusedSimpArgs false
set_option linter.unusedVariables false
open Go Go.Proofs
attribute [go_sem_proc] Nat.reduceLT Nat.reduceLeDiff Nat.reduceEqDiff Nat.reduceAdd Nat.reduceSub Nat.reduceMul reduceIte reduceCtorEq Int.reduceToNat Int.reduceLE Int.reduceLT Int.reduceNeg Int.reduceSub Int.reduceAdd Int.reduceMul
attribute [go_sem_proc ↓] reduceIte
theorem Tryz.mixed : Tryz.prog.follows .mixedOrders = true := by kernel_rfl
@[go_sem] theorem Tryz.ty.sz1 : szOf Tryz.prog 1 = some 1 := by kernel_rfl
@[go_sem] theorem Tryz.ty.by1 : bytesIn Tryz.prog 1 = some 8 := by kernel_rfl
@[go_sem] theorem Tryz.ty.ag1 : aggOf Tryz.prog 1 = some false := by kernel_rfl
@[go_sem] theorem Tryz.ty.zr1 : zeroOf Tryz.prog 1 = some [.val .nilFunc] := by kernel_rfl
@[go_sem] theorem Tryz.ty.el1 : elemOfSlice Tryz.prog 1 = none := by kernel_rfl
@[go_sem] theorem Tryz.ty.ar1 : arrayOf Tryz.prog 1 = none := by kernel_rfl
@[go_sem] theorem Tryz.ty.st1 : isStr Tryz.prog 1 = false := by kernel_rfl
@[go_sem] theorem Tryz.ty.bo1 : isBool Tryz.prog 1 = false := by kernel_rfl
@[go_sem] theorem Tryz.ty.ki1 : kindOf Tryz.prog 1 = none := by kernel_rfl
@[go_sem] theorem Tryz.ty.if1 : isIface Tryz.prog 1 = some false := by kernel_rfl
@[go_sem] theorem Tryz.ty.sz2 : szOf Tryz.prog 2 = some 1 := by kernel_rfl
@[go_sem] theorem Tryz.ty.by2 : bytesIn Tryz.prog 2 = some 8 := by kernel_rfl
@[go_sem] theorem Tryz.ty.ag2 : aggOf Tryz.prog 2 = some false := by kernel_rfl
@[go_sem] theorem Tryz.ty.zr2 : zeroOf Tryz.prog 2 = some [.val (.int .i64 0)] := by kernel_rfl
@[go_sem] theorem Tryz.ty.el2 : elemOfSlice Tryz.prog 2 = none := by kernel_rfl
@[go_sem] theorem Tryz.ty.ar2 : arrayOf Tryz.prog 2 = none := by kernel_rfl
@[go_sem] theorem Tryz.ty.st2 : isStr Tryz.prog 2 = false := by kernel_rfl
@[go_sem] theorem Tryz.ty.bo2 : isBool Tryz.prog 2 = false := by kernel_rfl
@[go_sem] theorem Tryz.ty.ki2 : kindOf Tryz.prog 2 = some .i64 := by kernel_rfl
@[go_sem] theorem Tryz.ty.if2 : isIface Tryz.prog 2 = some false := by kernel_rfl
@[go_sem] theorem Tryz.ty.un2 : Tryz.prog.underlying 2 = some (.int .i64) := by kernel_rfl
@[go_sem] theorem Tryz.ty.sz3 : szOf Tryz.prog 3 = some 1 := by kernel_rfl
@[go_sem] theorem Tryz.ty.by3 : bytesIn Tryz.prog 3 = some 8 := by kernel_rfl
@[go_sem] theorem Tryz.ty.ag3 : aggOf Tryz.prog 3 = some false := by kernel_rfl
@[go_sem] theorem Tryz.ty.zr3 : zeroOf Tryz.prog 3 = some [.val (.int .i64 0)] := by kernel_rfl
@[go_sem] theorem Tryz.ty.el3 : elemOfSlice Tryz.prog 3 = none := by kernel_rfl
@[go_sem] theorem Tryz.ty.ar3 : arrayOf Tryz.prog 3 = none := by kernel_rfl
@[go_sem] theorem Tryz.ty.st3 : isStr Tryz.prog 3 = false := by kernel_rfl
@[go_sem] theorem Tryz.ty.bo3 : isBool Tryz.prog 3 = false := by kernel_rfl
@[go_sem] theorem Tryz.ty.ki3 : kindOf Tryz.prog 3 = some .i64 := by kernel_rfl
@[go_sem] theorem Tryz.ty.if3 : isIface Tryz.prog 3 = some false := by kernel_rfl
@[go_sem] theorem Tryz.ty.un3 : Tryz.prog.underlying 3 = some (.int .i64) := by kernel_rfl
@[go_sem] theorem Tryz.ty.sz4 : szOf Tryz.prog 4 = some 1 := by kernel_rfl
@[go_sem] theorem Tryz.ty.by4 : bytesIn Tryz.prog 4 = some 1 := by kernel_rfl
@[go_sem] theorem Tryz.ty.ag4 : aggOf Tryz.prog 4 = some false := by kernel_rfl
@[go_sem] theorem Tryz.ty.zr4 : zeroOf Tryz.prog 4 = some [.val (.bool false)] := by kernel_rfl
@[go_sem] theorem Tryz.ty.el4 : elemOfSlice Tryz.prog 4 = none := by kernel_rfl
@[go_sem] theorem Tryz.ty.ar4 : arrayOf Tryz.prog 4 = none := by kernel_rfl
@[go_sem] theorem Tryz.ty.st4 : isStr Tryz.prog 4 = false := by kernel_rfl
@[go_sem] theorem Tryz.ty.bo4 : isBool Tryz.prog 4 = true := by kernel_rfl
@[go_sem] theorem Tryz.ty.ki4 : kindOf Tryz.prog 4 = none := by kernel_rfl
@[go_sem] theorem Tryz.ty.if4 : isIface Tryz.prog 4 = some false := by kernel_rfl
@[go_sem] theorem Tryz.ty.un4 : Tryz.prog.underlying 4 = some (.bool) := by kernel_rfl
@[go_sem] theorem Tryz.ty.sz5 : szOf Tryz.prog 5 = some 1 := by kernel_rfl
@[go_sem] theorem Tryz.ty.by5 : bytesIn Tryz.prog 5 = some 1 := by kernel_rfl
@[go_sem] theorem Tryz.ty.ag5 : aggOf Tryz.prog 5 = some false := by kernel_rfl
@[go_sem] theorem Tryz.ty.zr5 : zeroOf Tryz.prog 5 = some [.val (.int .u8 0)] := by kernel_rfl
@[go_sem] theorem Tryz.ty.el5 : elemOfSlice Tryz.prog 5 = none := by kernel_rfl
@[go_sem] theorem Tryz.ty.ar5 : arrayOf Tryz.prog 5 = none := by kernel_rfl
@[go_sem] theorem Tryz.ty.st5 : isStr Tryz.prog 5 = false := by kernel_rfl
@[go_sem] theorem Tryz.ty.bo5 : isBool Tryz.prog 5 = false := by kernel_rfl
@[go_sem] theorem Tryz.ty.ki5 : kindOf Tryz.prog 5 = some .u8 := by kernel_rfl
@[go_sem] theorem Tryz.ty.if5 : isIface Tryz.prog 5 = some false := by kernel_rfl
@[go_sem] theorem Tryz.ty.un5 : Tryz.prog.underlying 5 = some (.int .u8) := by kernel_rfl
@[go_sem] theorem Tryz.ty.sz7 : szOf Tryz.prog 7 = some 4 := by kernel_rfl
@[go_sem] theorem Tryz.ty.by7 : bytesIn Tryz.prog 7 = some 24 := by kernel_rfl
@[go_sem] theorem Tryz.ty.ag7 : aggOf Tryz.prog 7 = some true := by kernel_rfl
@[go_sem] theorem Tryz.ty.zr7 : zeroOf Tryz.prog 7 = some [.val (.int .i64 0), .val (.int .i64 0), .val (.bool false), .val (.int .u8 0)] := by kernel_rfl
@[go_sem] theorem Tryz.ty.el7 : elemOfSlice Tryz.prog 7 = none := by kernel_rfl
@[go_sem] theorem Tryz.ty.ar7 : arrayOf Tryz.prog 7 = none := by kernel_rfl
@[go_sem] theorem Tryz.ty.st7 : isStr Tryz.prog 7 = false := by kernel_rfl
@[go_sem] theorem Tryz.ty.bo7 : isBool Tryz.prog 7 = false := by kernel_rfl
@[go_sem] theorem Tryz.ty.ki7 : kindOf Tryz.prog 7 = none := by kernel_rfl
@[go_sem] theorem Tryz.ty.if7 : isIface Tryz.prog 7 = some false := by kernel_rfl
@[go_sem] theorem Tryz.ty.fo0_7 : fieldOf Tryz.prog 7 0 = some (2, 0) := by kernel_rfl
@[go_sem] theorem Tryz.ty.fp0_7 : fieldPl Tryz.prog 7 0 = some (0, 1) := by kernel_rfl
@[go_sem] theorem Tryz.ty.fo1_7 : fieldOf Tryz.prog 7 1 = some (3, 1) := by kernel_rfl
@[go_sem] theorem Tryz.ty.fp1_7 : fieldPl Tryz.prog 7 1 = some (1, 1) := by kernel_rfl
@[go_sem] theorem Tryz.ty.fo2_7 : fieldOf Tryz.prog 7 2 = some (4, 2) := by kernel_rfl
@[go_sem] theorem Tryz.ty.fp2_7 : fieldPl Tryz.prog 7 2 = some (2, 1) := by kernel_rfl
@[go_sem] theorem Tryz.ty.fo3_7 : fieldOf Tryz.prog 7 3 = some (6, 3) := by kernel_rfl
@[go_sem] theorem Tryz.ty.fp3_7 : fieldPl Tryz.prog 7 3 = some (3, 1) := by kernel_rfl
@[go_sem] theorem Tryz.ty.bk7 : buildOk Tryz.prog 7 = true := by kernel_rfl
@[go_sem] theorem Tryz.ty.sz9 : szOf Tryz.prog 9 = some 1 := by kernel_rfl
@[go_sem] theorem Tryz.ty.by9 : bytesIn Tryz.prog 9 = some 16 := by kernel_rfl
@[go_sem] theorem Tryz.ty.ag9 : aggOf Tryz.prog 9 = some false := by kernel_rfl
@[go_sem] theorem Tryz.ty.zr9 : zeroOf Tryz.prog 9 = some [.val (.string ByteArray.empty)] := by kernel_rfl
@[go_sem] theorem Tryz.ty.el9 : elemOfSlice Tryz.prog 9 = none := by kernel_rfl
@[go_sem] theorem Tryz.ty.ar9 : arrayOf Tryz.prog 9 = none := by kernel_rfl
@[go_sem] theorem Tryz.ty.st9 : isStr Tryz.prog 9 = true := by kernel_rfl
@[go_sem] theorem Tryz.ty.bo9 : isBool Tryz.prog 9 = false := by kernel_rfl
@[go_sem] theorem Tryz.ty.ki9 : kindOf Tryz.prog 9 = none := by kernel_rfl
@[go_sem] theorem Tryz.ty.if9 : isIface Tryz.prog 9 = some false := by kernel_rfl
@[go_sem] theorem Tryz.ty.un9 : Tryz.prog.underlying 9 = some (.string) := by kernel_rfl
@[go_sem] theorem Tryz.ty.sz12 : szOf Tryz.prog 12 = some 1 := by kernel_rfl
@[go_sem] theorem Tryz.ty.by12 : bytesIn Tryz.prog 12 = some 8 := by kernel_rfl
@[go_sem] theorem Tryz.ty.ag12 : aggOf Tryz.prog 12 = some false := by kernel_rfl
@[go_sem] theorem Tryz.ty.zr12 : zeroOf Tryz.prog 12 = some [.val (.int .u64 0)] := by kernel_rfl
@[go_sem] theorem Tryz.ty.el12 : elemOfSlice Tryz.prog 12 = none := by kernel_rfl
@[go_sem] theorem Tryz.ty.ar12 : arrayOf Tryz.prog 12 = none := by kernel_rfl
@[go_sem] theorem Tryz.ty.st12 : isStr Tryz.prog 12 = false := by kernel_rfl
@[go_sem] theorem Tryz.ty.bo12 : isBool Tryz.prog 12 = false := by kernel_rfl
@[go_sem] theorem Tryz.ty.ki12 : kindOf Tryz.prog 12 = some .u64 := by kernel_rfl
@[go_sem] theorem Tryz.ty.if12 : isIface Tryz.prog 12 = some false := by kernel_rfl
@[go_sem] theorem Tryz.ty.un12 : Tryz.prog.underlying 12 = some (.int .u64) := by kernel_rfl
@[go_sem] theorem Tryz.ty.sz13 : szOf Tryz.prog 13 = some 2 := by kernel_rfl
@[go_sem] theorem Tryz.ty.by13 : bytesIn Tryz.prog 13 = some 24 := by kernel_rfl
@[go_sem] theorem Tryz.ty.ag13 : aggOf Tryz.prog 13 = some true := by kernel_rfl
@[go_sem] theorem Tryz.ty.zr13 : zeroOf Tryz.prog 13 = some [.val (.string ByteArray.empty), .val (.int .u64 0)] := by kernel_rfl
@[go_sem] theorem Tryz.ty.el13 : elemOfSlice Tryz.prog 13 = none := by kernel_rfl
@[go_sem] theorem Tryz.ty.ar13 : arrayOf Tryz.prog 13 = none := by kernel_rfl
@[go_sem] theorem Tryz.ty.st13 : isStr Tryz.prog 13 = false := by kernel_rfl
@[go_sem] theorem Tryz.ty.bo13 : isBool Tryz.prog 13 = false := by kernel_rfl
@[go_sem] theorem Tryz.ty.ki13 : kindOf Tryz.prog 13 = none := by kernel_rfl
@[go_sem] theorem Tryz.ty.if13 : isIface Tryz.prog 13 = some false := by kernel_rfl
@[go_sem] theorem Tryz.ty.fo0_13 : fieldOf Tryz.prog 13 0 = some (9, 0) := by kernel_rfl
@[go_sem] theorem Tryz.ty.fp0_13 : fieldPl Tryz.prog 13 0 = some (0, 1) := by kernel_rfl
@[go_sem] theorem Tryz.ty.fo1_13 : fieldOf Tryz.prog 13 1 = some (12, 1) := by kernel_rfl
@[go_sem] theorem Tryz.ty.fp1_13 : fieldPl Tryz.prog 13 1 = some (1, 1) := by kernel_rfl
@[go_sem] theorem Tryz.ty.bk13 : buildOk Tryz.prog 13 = true := by kernel_rfl
@[go_sem] theorem Tryz.ty.sz15 : szOf Tryz.prog 15 = some 1 := by kernel_rfl
@[go_sem] theorem Tryz.ty.by15 : bytesIn Tryz.prog 15 = some 8 := by kernel_rfl
@[go_sem] theorem Tryz.ty.ag15 : aggOf Tryz.prog 15 = some false := by kernel_rfl
@[go_sem] theorem Tryz.ty.zr15 : zeroOf Tryz.prog 15 = some [.val (.pointer none)] := by kernel_rfl
@[go_sem] theorem Tryz.ty.el15 : elemOfSlice Tryz.prog 15 = none := by kernel_rfl
@[go_sem] theorem Tryz.ty.ar15 : arrayOf Tryz.prog 15 = none := by kernel_rfl
@[go_sem] theorem Tryz.ty.st15 : isStr Tryz.prog 15 = false := by kernel_rfl
@[go_sem] theorem Tryz.ty.bo15 : isBool Tryz.prog 15 = false := by kernel_rfl
@[go_sem] theorem Tryz.ty.ki15 : kindOf Tryz.prog 15 = none := by kernel_rfl
@[go_sem] theorem Tryz.ty.if15 : isIface Tryz.prog 15 = some false := by kernel_rfl
@[go_sem] theorem Tryz.ty.un15 : Tryz.prog.underlying 15 = some (.pointer 156) := by kernel_rfl
@[go_sem] theorem Tryz.ty.sz16 : szOf Tryz.prog 16 = some 1 := by kernel_rfl
@[go_sem] theorem Tryz.ty.by16 : bytesIn Tryz.prog 16 = some 8 := by kernel_rfl
@[go_sem] theorem Tryz.ty.ag16 : aggOf Tryz.prog 16 = some false := by kernel_rfl
@[go_sem] theorem Tryz.ty.zr16 : zeroOf Tryz.prog 16 = some [.val (.pointer none)] := by kernel_rfl
@[go_sem] theorem Tryz.ty.el16 : elemOfSlice Tryz.prog 16 = none := by kernel_rfl
@[go_sem] theorem Tryz.ty.ar16 : arrayOf Tryz.prog 16 = none := by kernel_rfl
@[go_sem] theorem Tryz.ty.st16 : isStr Tryz.prog 16 = false := by kernel_rfl
@[go_sem] theorem Tryz.ty.bo16 : isBool Tryz.prog 16 = false := by kernel_rfl
@[go_sem] theorem Tryz.ty.ki16 : kindOf Tryz.prog 16 = none := by kernel_rfl
@[go_sem] theorem Tryz.ty.if16 : isIface Tryz.prog 16 = some false := by kernel_rfl
@[go_sem] theorem Tryz.ty.un16 : Tryz.prog.underlying 16 = some (.pointer 159) := by kernel_rfl
@[go_sem] theorem Tryz.ty.sz17 : szOf Tryz.prog 17 = some 1 := by kernel_rfl
@[go_sem] theorem Tryz.ty.by17 : bytesIn Tryz.prog 17 = some 8 := by kernel_rfl
@[go_sem] theorem Tryz.ty.ag17 : aggOf Tryz.prog 17 = some false := by kernel_rfl
@[go_sem] theorem Tryz.ty.zr17 : zeroOf Tryz.prog 17 = some [.val (.pointer none)] := by kernel_rfl
@[go_sem] theorem Tryz.ty.el17 : elemOfSlice Tryz.prog 17 = none := by kernel_rfl
@[go_sem] theorem Tryz.ty.ar17 : arrayOf Tryz.prog 17 = none := by kernel_rfl
@[go_sem] theorem Tryz.ty.st17 : isStr Tryz.prog 17 = false := by kernel_rfl
@[go_sem] theorem Tryz.ty.bo17 : isBool Tryz.prog 17 = false := by kernel_rfl
@[go_sem] theorem Tryz.ty.ki17 : kindOf Tryz.prog 17 = none := by kernel_rfl
@[go_sem] theorem Tryz.ty.if17 : isIface Tryz.prog 17 = some false := by kernel_rfl
@[go_sem] theorem Tryz.ty.un17 : Tryz.prog.underlying 17 = some (.pointer 167) := by kernel_rfl
@[go_sem] theorem Tryz.ty.sz18 : szOf Tryz.prog 18 = some 1 := by kernel_rfl
@[go_sem] theorem Tryz.ty.by18 : bytesIn Tryz.prog 18 = some 8 := by kernel_rfl
@[go_sem] theorem Tryz.ty.ag18 : aggOf Tryz.prog 18 = some true := by kernel_rfl
@[go_sem] theorem Tryz.ty.zr18 : zeroOf Tryz.prog 18 = some [.val (.pointer none)] := by kernel_rfl
@[go_sem] theorem Tryz.ty.el18 : elemOfSlice Tryz.prog 18 = none := by kernel_rfl
@[go_sem] theorem Tryz.ty.ar18 : arrayOf Tryz.prog 18 = none := by kernel_rfl
@[go_sem] theorem Tryz.ty.st18 : isStr Tryz.prog 18 = false := by kernel_rfl
@[go_sem] theorem Tryz.ty.bo18 : isBool Tryz.prog 18 = false := by kernel_rfl
@[go_sem] theorem Tryz.ty.ki18 : kindOf Tryz.prog 18 = none := by kernel_rfl
@[go_sem] theorem Tryz.ty.if18 : isIface Tryz.prog 18 = some false := by kernel_rfl
@[go_sem] theorem Tryz.ty.fo0_18 : fieldOf Tryz.prog 18 0 = some (17, 0) := by kernel_rfl
@[go_sem] theorem Tryz.ty.fp0_18 : fieldPl Tryz.prog 18 0 = some (0, 1) := by kernel_rfl
@[go_sem] theorem Tryz.ty.bk18 : buildOk Tryz.prog 18 = true := by kernel_rfl
@[go_sem] theorem Tryz.ty.sz21 : szOf Tryz.prog 21 = some 1 := by kernel_rfl
@[go_sem] theorem Tryz.ty.by21 : bytesIn Tryz.prog 21 = some 4 := by kernel_rfl
@[go_sem] theorem Tryz.ty.ag21 : aggOf Tryz.prog 21 = some false := by kernel_rfl
@[go_sem] theorem Tryz.ty.zr21 : zeroOf Tryz.prog 21 = some [.val (.int .i32 0)] := by kernel_rfl
@[go_sem] theorem Tryz.ty.el21 : elemOfSlice Tryz.prog 21 = none := by kernel_rfl
@[go_sem] theorem Tryz.ty.ar21 : arrayOf Tryz.prog 21 = none := by kernel_rfl
@[go_sem] theorem Tryz.ty.st21 : isStr Tryz.prog 21 = false := by kernel_rfl
@[go_sem] theorem Tryz.ty.bo21 : isBool Tryz.prog 21 = false := by kernel_rfl
@[go_sem] theorem Tryz.ty.ki21 : kindOf Tryz.prog 21 = some .i32 := by kernel_rfl
@[go_sem] theorem Tryz.ty.if21 : isIface Tryz.prog 21 = some false := by kernel_rfl
@[go_sem] theorem Tryz.ty.un21 : Tryz.prog.underlying 21 = some (.int .i32) := by kernel_rfl
@[go_sem] theorem Tryz.ty.sz22 : szOf Tryz.prog 22 = some 1 := by kernel_rfl
@[go_sem] theorem Tryz.ty.by22 : bytesIn Tryz.prog 22 = some 24 := by kernel_rfl
@[go_sem] theorem Tryz.ty.ag22 : aggOf Tryz.prog 22 = some false := by kernel_rfl
@[go_sem] theorem Tryz.ty.zr22 : zeroOf Tryz.prog 22 = some [.val (.slice none 0 0)] := by kernel_rfl
@[go_sem] theorem Tryz.ty.el22 : elemOfSlice Tryz.prog 22 = some 5 := by kernel_rfl
@[go_sem] theorem Tryz.ty.ar22 : arrayOf Tryz.prog 22 = none := by kernel_rfl
@[go_sem] theorem Tryz.ty.st22 : isStr Tryz.prog 22 = false := by kernel_rfl
@[go_sem] theorem Tryz.ty.bo22 : isBool Tryz.prog 22 = false := by kernel_rfl
@[go_sem] theorem Tryz.ty.ki22 : kindOf Tryz.prog 22 = none := by kernel_rfl
@[go_sem] theorem Tryz.ty.if22 : isIface Tryz.prog 22 = some false := by kernel_rfl
@[go_sem] theorem Tryz.ty.un22 : Tryz.prog.underlying 22 = some (.slice 5) := by kernel_rfl
@[go_sem] theorem Tryz.ty.sz23 : szOf Tryz.prog 23 = some 1 := by kernel_rfl
@[go_sem] theorem Tryz.ty.by23 : bytesIn Tryz.prog 23 = some 8 := by kernel_rfl
@[go_sem] theorem Tryz.ty.ag23 : aggOf Tryz.prog 23 = some false := by kernel_rfl
@[go_sem] theorem Tryz.ty.zr23 : zeroOf Tryz.prog 23 = some [.val .nilFunc] := by kernel_rfl
@[go_sem] theorem Tryz.ty.el23 : elemOfSlice Tryz.prog 23 = none := by kernel_rfl
@[go_sem] theorem Tryz.ty.ar23 : arrayOf Tryz.prog 23 = none := by kernel_rfl
@[go_sem] theorem Tryz.ty.st23 : isStr Tryz.prog 23 = false := by kernel_rfl
@[go_sem] theorem Tryz.ty.bo23 : isBool Tryz.prog 23 = false := by kernel_rfl
@[go_sem] theorem Tryz.ty.ki23 : kindOf Tryz.prog 23 = none := by kernel_rfl
@[go_sem] theorem Tryz.ty.if23 : isIface Tryz.prog 23 = some false := by kernel_rfl
@[go_sem] theorem Tryz.ty.sz24 : szOf Tryz.prog 24 = some 1 := by kernel_rfl
@[go_sem] theorem Tryz.ty.by24 : bytesIn Tryz.prog 24 = some 24 := by kernel_rfl
@[go_sem] theorem Tryz.ty.ag24 : aggOf Tryz.prog 24 = some false := by kernel_rfl
@[go_sem] theorem Tryz.ty.zr24 : zeroOf Tryz.prog 24 = some [.val (.slice none 0 0)] := by kernel_rfl
@[go_sem] theorem Tryz.ty.el24 : elemOfSlice Tryz.prog 24 = some 56 := by kernel_rfl
@[go_sem] theorem Tryz.ty.ar24 : arrayOf Tryz.prog 24 = none := by kernel_rfl
@[go_sem] theorem Tryz.ty.st24 : isStr Tryz.prog 24 = false := by kernel_rfl
@[go_sem] theorem Tryz.ty.bo24 : isBool Tryz.prog 24 = false := by kernel_rfl
@[go_sem] theorem Tryz.ty.ki24 : kindOf Tryz.prog 24 = none := by kernel_rfl
@[go_sem] theorem Tryz.ty.if24 : isIface Tryz.prog 24 = some false := by kernel_rfl
@[go_sem] theorem Tryz.ty.un24 : Tryz.prog.underlying 24 = some (.slice 56) := by kernel_rfl
@[go_sem] theorem Tryz.ty.sz25 : szOf Tryz.prog 25 = some 1 := by kernel_rfl
@[go_sem] theorem Tryz.ty.by25 : bytesIn Tryz.prog 25 = some 24 := by kernel_rfl
@[go_sem] theorem Tryz.ty.ag25 : aggOf Tryz.prog 25 = some true := by kernel_rfl
@[go_sem] theorem Tryz.ty.zr25 : zeroOf Tryz.prog 25 = some [.val (.slice none 0 0)] := by kernel_rfl
@[go_sem] theorem Tryz.ty.el25 : elemOfSlice Tryz.prog 25 = none := by kernel_rfl
@[go_sem] theorem Tryz.ty.ar25 : arrayOf Tryz.prog 25 = none := by kernel_rfl
@[go_sem] theorem Tryz.ty.st25 : isStr Tryz.prog 25 = false := by kernel_rfl
@[go_sem] theorem Tryz.ty.bo25 : isBool Tryz.prog 25 = false := by kernel_rfl
@[go_sem] theorem Tryz.ty.ki25 : kindOf Tryz.prog 25 = none := by kernel_rfl
@[go_sem] theorem Tryz.ty.if25 : isIface Tryz.prog 25 = some false := by kernel_rfl
@[go_sem] theorem Tryz.ty.fo0_25 : fieldOf Tryz.prog 25 0 = some (24, 0) := by kernel_rfl
@[go_sem] theorem Tryz.ty.fp0_25 : fieldPl Tryz.prog 25 0 = some (0, 1) := by kernel_rfl
@[go_sem] theorem Tryz.ty.bk25 : buildOk Tryz.prog 25 = true := by kernel_rfl
@[go_sem] theorem Tryz.ty.sz26 : szOf Tryz.prog 26 = some 1 := by kernel_rfl
@[go_sem] theorem Tryz.ty.by26 : bytesIn Tryz.prog 26 = some 24 := by kernel_rfl
@[go_sem] theorem Tryz.ty.ag26 : aggOf Tryz.prog 26 = some true := by kernel_rfl
@[go_sem] theorem Tryz.ty.zr26 : zeroOf Tryz.prog 26 = some [.val (.slice none 0 0)] := by kernel_rfl
@[go_sem] theorem Tryz.ty.el26 : elemOfSlice Tryz.prog 26 = none := by kernel_rfl
@[go_sem] theorem Tryz.ty.ar26 : arrayOf Tryz.prog 26 = none := by kernel_rfl
@[go_sem] theorem Tryz.ty.st26 : isStr Tryz.prog 26 = false := by kernel_rfl
@[go_sem] theorem Tryz.ty.bo26 : isBool Tryz.prog 26 = false := by kernel_rfl
@[go_sem] theorem Tryz.ty.ki26 : kindOf Tryz.prog 26 = none := by kernel_rfl
@[go_sem] theorem Tryz.ty.if26 : isIface Tryz.prog 26 = some false := by kernel_rfl
@[go_sem] theorem Tryz.ty.fo0_26 : fieldOf Tryz.prog 26 0 = some (24, 0) := by kernel_rfl
@[go_sem] theorem Tryz.ty.fp0_26 : fieldPl Tryz.prog 26 0 = some (0, 1) := by kernel_rfl
@[go_sem] theorem Tryz.ty.bk26 : buildOk Tryz.prog 26 = true := by kernel_rfl
@[go_sem] theorem Tryz.ty.sz27 : szOf Tryz.prog 27 = some 1 := by kernel_rfl
@[go_sem] theorem Tryz.ty.by27 : bytesIn Tryz.prog 27 = some 24 := by kernel_rfl
@[go_sem] theorem Tryz.ty.ag27 : aggOf Tryz.prog 27 = some false := by kernel_rfl
@[go_sem] theorem Tryz.ty.zr27 : zeroOf Tryz.prog 27 = some [.val (.slice none 0 0)] := by kernel_rfl
@[go_sem] theorem Tryz.ty.el27 : elemOfSlice Tryz.prog 27 = some 3 := by kernel_rfl
@[go_sem] theorem Tryz.ty.ar27 : arrayOf Tryz.prog 27 = none := by kernel_rfl
@[go_sem] theorem Tryz.ty.st27 : isStr Tryz.prog 27 = false := by kernel_rfl
@[go_sem] theorem Tryz.ty.bo27 : isBool Tryz.prog 27 = false := by kernel_rfl
@[go_sem] theorem Tryz.ty.ki27 : kindOf Tryz.prog 27 = none := by kernel_rfl
@[go_sem] theorem Tryz.ty.if27 : isIface Tryz.prog 27 = some false := by kernel_rfl
@[go_sem] theorem Tryz.ty.un27 : Tryz.prog.underlying 27 = some (.slice 3) := by kernel_rfl
@[go_sem] theorem Tryz.ty.sz28 : szOf Tryz.prog 28 = some 2 := by kernel_rfl
@[go_sem] theorem Tryz.ty.by28 : bytesIn Tryz.prog 28 = some 32 := by kernel_rfl
@[go_sem] theorem Tryz.ty.ag28 : aggOf Tryz.prog 28 = some true := by kernel_rfl
@[go_sem] theorem Tryz.ty.zr28 : zeroOf Tryz.prog 28 = some [.val (.slice none 0 0), .val (.int .i64 0)] := by kernel_rfl
@[go_sem] theorem Tryz.ty.el28 : elemOfSlice Tryz.prog 28 = none := by kernel_rfl
@[go_sem] theorem Tryz.ty.ar28 : arrayOf Tryz.prog 28 = none := by kernel_rfl
@[go_sem] theorem Tryz.ty.st28 : isStr Tryz.prog 28 = false := by kernel_rfl
@[go_sem] theorem Tryz.ty.bo28 : isBool Tryz.prog 28 = false := by kernel_rfl
@[go_sem] theorem Tryz.ty.ki28 : kindOf Tryz.prog 28 = none := by kernel_rfl
@[go_sem] theorem Tryz.ty.if28 : isIface Tryz.prog 28 = some false := by kernel_rfl
@[go_sem] theorem Tryz.ty.fo0_28 : fieldOf Tryz.prog 28 0 = some (27, 0) := by kernel_rfl
@[go_sem] theorem Tryz.ty.fp0_28 : fieldPl Tryz.prog 28 0 = some (0, 1) := by kernel_rfl
@[go_sem] theorem Tryz.ty.fo1_28 : fieldOf Tryz.prog 28 1 = some (3, 1) := by kernel_rfl
@[go_sem] theorem Tryz.ty.fp1_28 : fieldPl Tryz.prog 28 1 = some (1, 1) := by kernel_rfl
@[go_sem] theorem Tryz.ty.bk28 : buildOk Tryz.prog 28 = true := by kernel_rfl
@[go_sem] theorem Tryz.ty.sz29 : szOf Tryz.prog 29 = some 2 := by kernel_rfl
@[go_sem] theorem Tryz.ty.by29 : bytesIn Tryz.prog 29 = some 32 := by kernel_rfl
@[go_sem] theorem Tryz.ty.ag29 : aggOf Tryz.prog 29 = some true := by kernel_rfl
@[go_sem] theorem Tryz.ty.zr29 : zeroOf Tryz.prog 29 = some [.val (.slice none 0 0), .val (.int .i64 0)] := by kernel_rfl
@[go_sem] theorem Tryz.ty.el29 : elemOfSlice Tryz.prog 29 = none := by kernel_rfl
@[go_sem] theorem Tryz.ty.ar29 : arrayOf Tryz.prog 29 = none := by kernel_rfl
@[go_sem] theorem Tryz.ty.st29 : isStr Tryz.prog 29 = false := by kernel_rfl
@[go_sem] theorem Tryz.ty.bo29 : isBool Tryz.prog 29 = false := by kernel_rfl
@[go_sem] theorem Tryz.ty.ki29 : kindOf Tryz.prog 29 = none := by kernel_rfl
@[go_sem] theorem Tryz.ty.if29 : isIface Tryz.prog 29 = some false := by kernel_rfl
@[go_sem] theorem Tryz.ty.fo0_29 : fieldOf Tryz.prog 29 0 = some (27, 0) := by kernel_rfl
@[go_sem] theorem Tryz.ty.fp0_29 : fieldPl Tryz.prog 29 0 = some (0, 1) := by kernel_rfl
@[go_sem] theorem Tryz.ty.fo1_29 : fieldOf Tryz.prog 29 1 = some (3, 1) := by kernel_rfl
@[go_sem] theorem Tryz.ty.fp1_29 : fieldPl Tryz.prog 29 1 = some (1, 1) := by kernel_rfl
@[go_sem] theorem Tryz.ty.bk29 : buildOk Tryz.prog 29 = true := by kernel_rfl
@[go_sem] theorem Tryz.ty.sz31 : szOf Tryz.prog 31 = some 1 := by kernel_rfl
@[go_sem] theorem Tryz.ty.by31 : bytesIn Tryz.prog 31 = some 8 := by kernel_rfl
@[go_sem] theorem Tryz.ty.ag31 : aggOf Tryz.prog 31 = some false := by kernel_rfl
@[go_sem] theorem Tryz.ty.zr31 : zeroOf Tryz.prog 31 = some [.val .nilFunc] := by kernel_rfl
@[go_sem] theorem Tryz.ty.el31 : elemOfSlice Tryz.prog 31 = none := by kernel_rfl
@[go_sem] theorem Tryz.ty.ar31 : arrayOf Tryz.prog 31 = none := by kernel_rfl
@[go_sem] theorem Tryz.ty.st31 : isStr Tryz.prog 31 = false := by kernel_rfl
@[go_sem] theorem Tryz.ty.bo31 : isBool Tryz.prog 31 = false := by kernel_rfl
@[go_sem] theorem Tryz.ty.ki31 : kindOf Tryz.prog 31 = none := by kernel_rfl
@[go_sem] theorem Tryz.ty.if31 : isIface Tryz.prog 31 = some false := by kernel_rfl
@[go_sem] theorem Tryz.ty.sz32 : szOf Tryz.prog 32 = some 1 := by kernel_rfl
@[go_sem] theorem Tryz.ty.by32 : bytesIn Tryz.prog 32 = some 8 := by kernel_rfl
@[go_sem] theorem Tryz.ty.ag32 : aggOf Tryz.prog 32 = some false := by kernel_rfl
@[go_sem] theorem Tryz.ty.zr32 : zeroOf Tryz.prog 32 = some [.val .nilFunc] := by kernel_rfl
@[go_sem] theorem Tryz.ty.el32 : elemOfSlice Tryz.prog 32 = none := by kernel_rfl
@[go_sem] theorem Tryz.ty.ar32 : arrayOf Tryz.prog 32 = none := by kernel_rfl
@[go_sem] theorem Tryz.ty.st32 : isStr Tryz.prog 32 = false := by kernel_rfl
@[go_sem] theorem Tryz.ty.bo32 : isBool Tryz.prog 32 = false := by kernel_rfl
@[go_sem] theorem Tryz.ty.ki32 : kindOf Tryz.prog 32 = none := by kernel_rfl
@[go_sem] theorem Tryz.ty.if32 : isIface Tryz.prog 32 = some false := by kernel_rfl
@[go_sem] theorem Tryz.ty.sz33 : szOf Tryz.prog 33 = some 1 := by kernel_rfl
@[go_sem] theorem Tryz.ty.by33 : bytesIn Tryz.prog 33 = some 8 := by kernel_rfl
@[go_sem] theorem Tryz.ty.ag33 : aggOf Tryz.prog 33 = some false := by kernel_rfl
@[go_sem] theorem Tryz.ty.zr33 : zeroOf Tryz.prog 33 = some [.val .nilFunc] := by kernel_rfl
@[go_sem] theorem Tryz.ty.el33 : elemOfSlice Tryz.prog 33 = none := by kernel_rfl
@[go_sem] theorem Tryz.ty.ar33 : arrayOf Tryz.prog 33 = none := by kernel_rfl
@[go_sem] theorem Tryz.ty.st33 : isStr Tryz.prog 33 = false := by kernel_rfl
@[go_sem] theorem Tryz.ty.bo33 : isBool Tryz.prog 33 = false := by kernel_rfl
@[go_sem] theorem Tryz.ty.ki33 : kindOf Tryz.prog 33 = none := by kernel_rfl
@[go_sem] theorem Tryz.ty.if33 : isIface Tryz.prog 33 = some false := by kernel_rfl
@[go_sem] theorem Tryz.ty.sz34 : szOf Tryz.prog 34 = some 1 := by kernel_rfl
@[go_sem] theorem Tryz.ty.by34 : bytesIn Tryz.prog 34 = some 8 := by kernel_rfl
@[go_sem] theorem Tryz.ty.ag34 : aggOf Tryz.prog 34 = some false := by kernel_rfl
@[go_sem] theorem Tryz.ty.zr34 : zeroOf Tryz.prog 34 = some [.val .nilFunc] := by kernel_rfl
@[go_sem] theorem Tryz.ty.el34 : elemOfSlice Tryz.prog 34 = none := by kernel_rfl
@[go_sem] theorem Tryz.ty.ar34 : arrayOf Tryz.prog 34 = none := by kernel_rfl
@[go_sem] theorem Tryz.ty.st34 : isStr Tryz.prog 34 = false := by kernel_rfl
@[go_sem] theorem Tryz.ty.bo34 : isBool Tryz.prog 34 = false := by kernel_rfl
@[go_sem] theorem Tryz.ty.ki34 : kindOf Tryz.prog 34 = none := by kernel_rfl
@[go_sem] theorem Tryz.ty.if34 : isIface Tryz.prog 34 = some false := by kernel_rfl
@[go_sem] theorem Tryz.ty.sz35 : szOf Tryz.prog 35 = some 1 := by kernel_rfl
@[go_sem] theorem Tryz.ty.by35 : bytesIn Tryz.prog 35 = some 8 := by kernel_rfl
@[go_sem] theorem Tryz.ty.ag35 : aggOf Tryz.prog 35 = some false := by kernel_rfl
@[go_sem] theorem Tryz.ty.zr35 : zeroOf Tryz.prog 35 = some [.val .nilFunc] := by kernel_rfl
@[go_sem] theorem Tryz.ty.el35 : elemOfSlice Tryz.prog 35 = none := by kernel_rfl
@[go_sem] theorem Tryz.ty.ar35 : arrayOf Tryz.prog 35 = none := by kernel_rfl
@[go_sem] theorem Tryz.ty.st35 : isStr Tryz.prog 35 = false := by kernel_rfl
@[go_sem] theorem Tryz.ty.bo35 : isBool Tryz.prog 35 = false := by kernel_rfl
@[go_sem] theorem Tryz.ty.ki35 : kindOf Tryz.prog 35 = none := by kernel_rfl
@[go_sem] theorem Tryz.ty.if35 : isIface Tryz.prog 35 = some false := by kernel_rfl
@[go_sem] theorem Tryz.ty.sz36 : szOf Tryz.prog 36 = some 1 := by kernel_rfl
@[go_sem] theorem Tryz.ty.by36 : bytesIn Tryz.prog 36 = some 8 := by kernel_rfl
@[go_sem] theorem Tryz.ty.ag36 : aggOf Tryz.prog 36 = some false := by kernel_rfl
@[go_sem] theorem Tryz.ty.zr36 : zeroOf Tryz.prog 36 = some [.val .nilFunc] := by kernel_rfl
@[go_sem] theorem Tryz.ty.el36 : elemOfSlice Tryz.prog 36 = none := by kernel_rfl
@[go_sem] theorem Tryz.ty.ar36 : arrayOf Tryz.prog 36 = none := by kernel_rfl
@[go_sem] theorem Tryz.ty.st36 : isStr Tryz.prog 36 = false := by kernel_rfl
@[go_sem] theorem Tryz.ty.bo36 : isBool Tryz.prog 36 = false := by kernel_rfl
@[go_sem] theorem Tryz.ty.ki36 : kindOf Tryz.prog 36 = none := by kernel_rfl
@[go_sem] theorem Tryz.ty.if36 : isIface Tryz.prog 36 = some false := by kernel_rfl
@[go_sem] theorem Tryz.ty.sz37 : szOf Tryz.prog 37 = some 1 := by kernel_rfl
@[go_sem] theorem Tryz.ty.by37 : bytesIn Tryz.prog 37 = some 8 := by kernel_rfl
@[go_sem] theorem Tryz.ty.ag37 : aggOf Tryz.prog 37 = some false := by kernel_rfl
@[go_sem] theorem Tryz.ty.zr37 : zeroOf Tryz.prog 37 = some [.val .nilFunc] := by kernel_rfl
@[go_sem] theorem Tryz.ty.el37 : elemOfSlice Tryz.prog 37 = none := by kernel_rfl
@[go_sem] theorem Tryz.ty.ar37 : arrayOf Tryz.prog 37 = none := by kernel_rfl
@[go_sem] theorem Tryz.ty.st37 : isStr Tryz.prog 37 = false := by kernel_rfl
@[go_sem] theorem Tryz.ty.bo37 : isBool Tryz.prog 37 = false := by kernel_rfl
@[go_sem] theorem Tryz.ty.ki37 : kindOf Tryz.prog 37 = none := by kernel_rfl
@[go_sem] theorem Tryz.ty.if37 : isIface Tryz.prog 37 = some false := by kernel_rfl
@[go_sem] theorem Tryz.ty.sz38 : szOf Tryz.prog 38 = some 1 := by kernel_rfl
@[go_sem] theorem Tryz.ty.by38 : bytesIn Tryz.prog 38 = some 8 := by kernel_rfl
@[go_sem] theorem Tryz.ty.ag38 : aggOf Tryz.prog 38 = some false := by kernel_rfl
@[go_sem] theorem Tryz.ty.zr38 : zeroOf Tryz.prog 38 = some [.val .nilFunc] := by kernel_rfl
@[go_sem] theorem Tryz.ty.el38 : elemOfSlice Tryz.prog 38 = none := by kernel_rfl
@[go_sem] theorem Tryz.ty.ar38 : arrayOf Tryz.prog 38 = none := by kernel_rfl
@[go_sem] theorem Tryz.ty.st38 : isStr Tryz.prog 38 = false := by kernel_rfl
@[go_sem] theorem Tryz.ty.bo38 : isBool Tryz.prog 38 = false := by kernel_rfl
@[go_sem] theorem Tryz.ty.ki38 : kindOf Tryz.prog 38 = none := by kernel_rfl
@[go_sem] theorem Tryz.ty.if38 : isIface Tryz.prog 38 = some false := by kernel_rfl
@[go_sem] theorem Tryz.ty.sz40 : szOf Tryz.prog 40 = some 1 := by kernel_rfl
@[go_sem] theorem Tryz.ty.by40 : bytesIn Tryz.prog 40 = some 8 := by kernel_rfl
@[go_sem] theorem Tryz.ty.ag40 : aggOf Tryz.prog 40 = some false := by kernel_rfl
@[go_sem] theorem Tryz.ty.zr40 : zeroOf Tryz.prog 40 = some [.val .nilFunc] := by kernel_rfl
@[go_sem] theorem Tryz.ty.el40 : elemOfSlice Tryz.prog 40 = none := by kernel_rfl
@[go_sem] theorem Tryz.ty.ar40 : arrayOf Tryz.prog 40 = none := by kernel_rfl
@[go_sem] theorem Tryz.ty.st40 : isStr Tryz.prog 40 = false := by kernel_rfl
@[go_sem] theorem Tryz.ty.bo40 : isBool Tryz.prog 40 = false := by kernel_rfl
@[go_sem] theorem Tryz.ty.ki40 : kindOf Tryz.prog 40 = none := by kernel_rfl
@[go_sem] theorem Tryz.ty.if40 : isIface Tryz.prog 40 = some false := by kernel_rfl
@[go_sem] theorem Tryz.ty.sz41 : szOf Tryz.prog 41 = some 1 := by kernel_rfl
@[go_sem] theorem Tryz.ty.by41 : bytesIn Tryz.prog 41 = some 8 := by kernel_rfl
@[go_sem] theorem Tryz.ty.ag41 : aggOf Tryz.prog 41 = some false := by kernel_rfl
@[go_sem] theorem Tryz.ty.zr41 : zeroOf Tryz.prog 41 = some [.val .nilFunc] := by kernel_rfl
@[go_sem] theorem Tryz.ty.el41 : elemOfSlice Tryz.prog 41 = none := by kernel_rfl
@[go_sem] theorem Tryz.ty.ar41 : arrayOf Tryz.prog 41 = none := by kernel_rfl
@[go_sem] theorem Tryz.ty.st41 : isStr Tryz.prog 41 = false := by kernel_rfl
@[go_sem] theorem Tryz.ty.bo41 : isBool Tryz.prog 41 = false := by kernel_rfl
@[go_sem] theorem Tryz.ty.ki41 : kindOf Tryz.prog 41 = none := by kernel_rfl
@[go_sem] theorem Tryz.ty.if41 : isIface Tryz.prog 41 = some false := by kernel_rfl
@[go_sem] theorem Tryz.ty.sz43 : szOf Tryz.prog 43 = some 1 := by kernel_rfl
@[go_sem] theorem Tryz.ty.by43 : bytesIn Tryz.prog 43 = some 8 := by kernel_rfl
@[go_sem] theorem Tryz.ty.ag43 : aggOf Tryz.prog 43 = some false := by kernel_rfl
@[go_sem] theorem Tryz.ty.zr43 : zeroOf Tryz.prog 43 = some [.val .nilFunc] := by kernel_rfl
@[go_sem] theorem Tryz.ty.el43 : elemOfSlice Tryz.prog 43 = none := by kernel_rfl
@[go_sem] theorem Tryz.ty.ar43 : arrayOf Tryz.prog 43 = none := by kernel_rfl
@[go_sem] theorem Tryz.ty.st43 : isStr Tryz.prog 43 = false := by kernel_rfl
@[go_sem] theorem Tryz.ty.bo43 : isBool Tryz.prog 43 = false := by kernel_rfl
@[go_sem] theorem Tryz.ty.ki43 : kindOf Tryz.prog 43 = none := by kernel_rfl
@[go_sem] theorem Tryz.ty.if43 : isIface Tryz.prog 43 = some false := by kernel_rfl
@[go_sem] theorem Tryz.ty.sz44 : szOf Tryz.prog 44 = some 1 := by kernel_rfl
@[go_sem] theorem Tryz.ty.by44 : bytesIn Tryz.prog 44 = some 8 := by kernel_rfl
@[go_sem] theorem Tryz.ty.ag44 : aggOf Tryz.prog 44 = some false := by kernel_rfl
@[go_sem] theorem Tryz.ty.zr44 : zeroOf Tryz.prog 44 = some [.val .nilFunc] := by kernel_rfl
@[go_sem] theorem Tryz.ty.el44 : elemOfSlice Tryz.prog 44 = none := by kernel_rfl
@[go_sem] theorem Tryz.ty.ar44 : arrayOf Tryz.prog 44 = none := by kernel_rfl
@[go_sem] theorem Tryz.ty.st44 : isStr Tryz.prog 44 = false := by kernel_rfl
@[go_sem] theorem Tryz.ty.bo44 : isBool Tryz.prog 44 = false := by kernel_rfl
@[go_sem] theorem Tryz.ty.ki44 : kindOf Tryz.prog 44 = none := by kernel_rfl
@[go_sem] theorem Tryz.ty.if44 : isIface Tryz.prog 44 = some false := by kernel_rfl
@[go_sem] theorem Tryz.ty.sz46 : szOf Tryz.prog 46 = some 1 := by kernel_rfl
@[go_sem] theorem Tryz.ty.by46 : bytesIn Tryz.prog 46 = some 8 := by kernel_rfl
@[go_sem] theorem Tryz.ty.ag46 : aggOf Tryz.prog 46 = some false := by kernel_rfl
@[go_sem] theorem Tryz.ty.zr46 : zeroOf Tryz.prog 46 = some [.val .nilFunc] := by kernel_rfl
@[go_sem] theorem Tryz.ty.el46 : elemOfSlice Tryz.prog 46 = none := by kernel_rfl
@[go_sem] theorem Tryz.ty.ar46 : arrayOf Tryz.prog 46 = none := by kernel_rfl
@[go_sem] theorem Tryz.ty.st46 : isStr Tryz.prog 46 = false := by kernel_rfl
@[go_sem] theorem Tryz.ty.bo46 : isBool Tryz.prog 46 = false := by kernel_rfl
@[go_sem] theorem Tryz.ty.ki46 : kindOf Tryz.prog 46 = none := by kernel_rfl
@[go_sem] theorem Tryz.ty.if46 : isIface Tryz.prog 46 = some false := by kernel_rfl
@[go_sem] theorem Tryz.ty.sz47 : szOf Tryz.prog 47 = some 1 := by kernel_rfl
@[go_sem] theorem Tryz.ty.by47 : bytesIn Tryz.prog 47 = some 8 := by kernel_rfl
@[go_sem] theorem Tryz.ty.ag47 : aggOf Tryz.prog 47 = some false := by kernel_rfl
@[go_sem] theorem Tryz.ty.zr47 : zeroOf Tryz.prog 47 = some [.val .nilFunc] := by kernel_rfl
@[go_sem] theorem Tryz.ty.el47 : elemOfSlice Tryz.prog 47 = none := by kernel_rfl
@[go_sem] theorem Tryz.ty.ar47 : arrayOf Tryz.prog 47 = none := by kernel_rfl
@[go_sem] theorem Tryz.ty.st47 : isStr Tryz.prog 47 = false := by kernel_rfl
@[go_sem] theorem Tryz.ty.bo47 : isBool Tryz.prog 47 = false := by kernel_rfl
@[go_sem] theorem Tryz.ty.ki47 : kindOf Tryz.prog 47 = none := by kernel_rfl
@[go_sem] theorem Tryz.ty.if47 : isIface Tryz.prog 47 = some false := by kernel_rfl
@[go_sem] theorem Tryz.ty.sz48 : szOf Tryz.prog 48 = some 1 := by kernel_rfl
@[go_sem] theorem Tryz.ty.by48 : bytesIn Tryz.prog 48 = some 8 := by kernel_rfl
@[go_sem] theorem Tryz.ty.ag48 : aggOf Tryz.prog 48 = some false := by kernel_rfl
@[go_sem] theorem Tryz.ty.zr48 : zeroOf Tryz.prog 48 = some [.val (.pointer none)] := by kernel_rfl
@[go_sem] theorem Tryz.ty.el48 : elemOfSlice Tryz.prog 48 = none := by kernel_rfl
@[go_sem] theorem Tryz.ty.ar48 : arrayOf Tryz.prog 48 = none := by kernel_rfl
@[go_sem] theorem Tryz.ty.st48 : isStr Tryz.prog 48 = false := by kernel_rfl
@[go_sem] theorem Tryz.ty.bo48 : isBool Tryz.prog 48 = false := by kernel_rfl
@[go_sem] theorem Tryz.ty.ki48 : kindOf Tryz.prog 48 = none := by kernel_rfl
@[go_sem] theorem Tryz.ty.if48 : isIface Tryz.prog 48 = some false := by kernel_rfl
@[go_sem] theorem Tryz.ty.un48 : Tryz.prog.underlying 48 = some (.pointer 75) := by kernel_rfl
@[go_sem] theorem Tryz.ty.sz49 : szOf Tryz.prog 49 = some 1 := by kernel_rfl
@[go_sem] theorem Tryz.ty.by49 : bytesIn Tryz.prog 49 = some 8 := by kernel_rfl
@[go_sem] theorem Tryz.ty.ag49 : aggOf Tryz.prog 49 = some false := by kernel_rfl
@[go_sem] theorem Tryz.ty.zr49 : zeroOf Tryz.prog 49 = some [.val .nilFunc] := by kernel_rfl
@[go_sem] theorem Tryz.ty.el49 : elemOfSlice Tryz.prog 49 = none := by kernel_rfl
@[go_sem] theorem Tryz.ty.ar49 : arrayOf Tryz.prog 49 = none := by kernel_rfl
@[go_sem] theorem Tryz.ty.st49 : isStr Tryz.prog 49 = false := by kernel_rfl
@[go_sem] theorem Tryz.ty.bo49 : isBool Tryz.prog 49 = false := by kernel_rfl
@[go_sem] theorem Tryz.ty.ki49 : kindOf Tryz.prog 49 = none := by kernel_rfl
@[go_sem] theorem Tryz.ty.if49 : isIface Tryz.prog 49 = some false := by kernel_rfl
@[go_sem] theorem Tryz.ty.sz50 : szOf Tryz.prog 50 = some 1 := by kernel_rfl
@[go_sem] theorem Tryz.ty.by50 : bytesIn Tryz.prog 50 = some 8 := by kernel_rfl
@[go_sem] theorem Tryz.ty.ag50 : aggOf Tryz.prog 50 = some false := by kernel_rfl
@[go_sem] theorem Tryz.ty.zr50 : zeroOf Tryz.prog 50 = some [.val .nilFunc] := by kernel_rfl
@[go_sem] theorem Tryz.ty.el50 : elemOfSlice Tryz.prog 50 = none := by kernel_rfl
@[go_sem] theorem Tryz.ty.ar50 : arrayOf Tryz.prog 50 = none := by kernel_rfl
@[go_sem] theorem Tryz.ty.st50 : isStr Tryz.prog 50 = false := by kernel_rfl
@[go_sem] theorem Tryz.ty.bo50 : isBool Tryz.prog 50 = false := by kernel_rfl
@[go_sem] theorem Tryz.ty.ki50 : kindOf Tryz.prog 50 = none := by kernel_rfl
@[go_sem] theorem Tryz.ty.if50 : isIface Tryz.prog 50 = some false := by kernel_rfl
@[go_sem] theorem Tryz.ty.sz51 : szOf Tryz.prog 51 = some 1 := by kernel_rfl
@[go_sem] theorem Tryz.ty.by51 : bytesIn Tryz.prog 51 = some 8 := by kernel_rfl
@[go_sem] theorem Tryz.ty.ag51 : aggOf Tryz.prog 51 = some false := by kernel_rfl
@[go_sem] theorem Tryz.ty.zr51 : zeroOf Tryz.prog 51 = some [.val .nilFunc] := by kernel_rfl
@[go_sem] theorem Tryz.ty.el51 : elemOfSlice Tryz.prog 51 = none := by kernel_rfl
@[go_sem] theorem Tryz.ty.ar51 : arrayOf Tryz.prog 51 = none := by kernel_rfl
@[go_sem] theorem Tryz.ty.st51 : isStr Tryz.prog 51 = false := by kernel_rfl
@[go_sem] theorem Tryz.ty.bo51 : isBool Tryz.prog 51 = false := by kernel_rfl
@[go_sem] theorem Tryz.ty.ki51 : kindOf Tryz.prog 51 = none := by kernel_rfl
@[go_sem] theorem Tryz.ty.if51 : isIface Tryz.prog 51 = some false := by kernel_rfl
@[go_sem] theorem Tryz.ty.sz52 : szOf Tryz.prog 52 = some 1 := by kernel_rfl
@[go_sem] theorem Tryz.ty.by52 : bytesIn Tryz.prog 52 = some 8 := by kernel_rfl
@[go_sem] theorem Tryz.ty.ag52 : aggOf Tryz.prog 52 = some false := by kernel_rfl
@[go_sem] theorem Tryz.ty.zr52 : zeroOf Tryz.prog 52 = some [.val .nilFunc] := by kernel_rfl
@[go_sem] theorem Tryz.ty.el52 : elemOfSlice Tryz.prog 52 = none := by kernel_rfl
@[go_sem] theorem Tryz.ty.ar52 : arrayOf Tryz.prog 52 = none := by kernel_rfl
@[go_sem] theorem Tryz.ty.st52 : isStr Tryz.prog 52 = false := by kernel_rfl
@[go_sem] theorem Tryz.ty.bo52 : isBool Tryz.prog 52 = false := by kernel_rfl
@[go_sem] theorem Tryz.ty.ki52 : kindOf Tryz.prog 52 = none := by kernel_rfl
@[go_sem] theorem Tryz.ty.if52 : isIface Tryz.prog 52 = some false := by kernel_rfl
@[go_sem] theorem Tryz.ty.sz53 : szOf Tryz.prog 53 = some 1 := by kernel_rfl
@[go_sem] theorem Tryz.ty.by53 : bytesIn Tryz.prog 53 = some 8 := by kernel_rfl
@[go_sem] theorem Tryz.ty.ag53 : aggOf Tryz.prog 53 = some false := by kernel_rfl
@[go_sem] theorem Tryz.ty.zr53 : zeroOf Tryz.prog 53 = some [.val .nilFunc] := by kernel_rfl
@[go_sem] theorem Tryz.ty.el53 : elemOfSlice Tryz.prog 53 = none := by kernel_rfl
@[go_sem] theorem Tryz.ty.ar53 : arrayOf Tryz.prog 53 = none := by kernel_rfl
@[go_sem] theorem Tryz.ty.st53 : isStr Tryz.prog 53 = false := by kernel_rfl
@[go_sem] theorem Tryz.ty.bo53 : isBool Tryz.prog 53 = false := by kernel_rfl
@[go_sem] theorem Tryz.ty.ki53 : kindOf Tryz.prog 53 = none := by kernel_rfl
@[go_sem] theorem Tryz.ty.if53 : isIface Tryz.prog 53 = some false := by kernel_rfl
@[go_sem] theorem Tryz.ty.sz54 : szOf Tryz.prog 54 = some 1 := by kernel_rfl
@[go_sem] theorem Tryz.ty.by54 : bytesIn Tryz.prog 54 = some 24 := by kernel_rfl
@[go_sem] theorem Tryz.ty.ag54 : aggOf Tryz.prog 54 = some false := by kernel_rfl
@[go_sem] theorem Tryz.ty.zr54 : zeroOf Tryz.prog 54 = some [.val (.slice none 0 0)] := by kernel_rfl
@[go_sem] theorem Tryz.ty.el54 : elemOfSlice Tryz.prog 54 = some 59 := by kernel_rfl
@[go_sem] theorem Tryz.ty.ar54 : arrayOf Tryz.prog 54 = none := by kernel_rfl
@[go_sem] theorem Tryz.ty.st54 : isStr Tryz.prog 54 = false := by kernel_rfl
@[go_sem] theorem Tryz.ty.bo54 : isBool Tryz.prog 54 = false := by kernel_rfl
@[go_sem] theorem Tryz.ty.ki54 : kindOf Tryz.prog 54 = none := by kernel_rfl
@[go_sem] theorem Tryz.ty.if54 : isIface Tryz.prog 54 = some false := by kernel_rfl
@[go_sem] theorem Tryz.ty.un54 : Tryz.prog.underlying 54 = some (.slice 59) := by kernel_rfl
@[go_sem] theorem Tryz.ty.sz55 : szOf Tryz.prog 55 = some 1 := by kernel_rfl
@[go_sem] theorem Tryz.ty.by55 : bytesIn Tryz.prog 55 = some 24 := by kernel_rfl
@[go_sem] theorem Tryz.ty.ag55 : aggOf Tryz.prog 55 = some true := by kernel_rfl
@[go_sem] theorem Tryz.ty.zr55 : zeroOf Tryz.prog 55 = some [.val (.slice none 0 0)] := by kernel_rfl
@[go_sem] theorem Tryz.ty.el55 : elemOfSlice Tryz.prog 55 = none := by kernel_rfl
@[go_sem] theorem Tryz.ty.ar55 : arrayOf Tryz.prog 55 = none := by kernel_rfl
@[go_sem] theorem Tryz.ty.st55 : isStr Tryz.prog 55 = false := by kernel_rfl
@[go_sem] theorem Tryz.ty.bo55 : isBool Tryz.prog 55 = false := by kernel_rfl
@[go_sem] theorem Tryz.ty.ki55 : kindOf Tryz.prog 55 = none := by kernel_rfl
@[go_sem] theorem Tryz.ty.if55 : isIface Tryz.prog 55 = some false := by kernel_rfl
@[go_sem] theorem Tryz.ty.fo0_55 : fieldOf Tryz.prog 55 0 = some (54, 0) := by kernel_rfl
@[go_sem] theorem Tryz.ty.fp0_55 : fieldPl Tryz.prog 55 0 = some (0, 1) := by kernel_rfl
@[go_sem] theorem Tryz.ty.bk55 : buildOk Tryz.prog 55 = true := by kernel_rfl
@[go_sem] theorem Tryz.ty.sz56 : szOf Tryz.prog 56 = some 1 := by kernel_rfl
@[go_sem] theorem Tryz.ty.by56 : bytesIn Tryz.prog 56 = some 24 := by kernel_rfl
@[go_sem] theorem Tryz.ty.ag56 : aggOf Tryz.prog 56 = some true := by kernel_rfl
@[go_sem] theorem Tryz.ty.zr56 : zeroOf Tryz.prog 56 = some [.val (.slice none 0 0)] := by kernel_rfl
@[go_sem] theorem Tryz.ty.el56 : elemOfSlice Tryz.prog 56 = none := by kernel_rfl
@[go_sem] theorem Tryz.ty.ar56 : arrayOf Tryz.prog 56 = none := by kernel_rfl
@[go_sem] theorem Tryz.ty.st56 : isStr Tryz.prog 56 = false := by kernel_rfl
@[go_sem] theorem Tryz.ty.bo56 : isBool Tryz.prog 56 = false := by kernel_rfl
@[go_sem] theorem Tryz.ty.ki56 : kindOf Tryz.prog 56 = none := by kernel_rfl
@[go_sem] theorem Tryz.ty.if56 : isIface Tryz.prog 56 = some false := by kernel_rfl
@[go_sem] theorem Tryz.ty.fo0_56 : fieldOf Tryz.prog 56 0 = some (54, 0) := by kernel_rfl
@[go_sem] theorem Tryz.ty.fp0_56 : fieldPl Tryz.prog 56 0 = some (0, 1) := by kernel_rfl
@[go_sem] theorem Tryz.ty.bk56 : buildOk Tryz.prog 56 = true := by kernel_rfl
@[go_sem] theorem Tryz.ty.sz57 : szOf Tryz.prog 57 = some 1 := by kernel_rfl
@[go_sem] theorem Tryz.ty.by57 : bytesIn Tryz.prog 57 = some 8 := by kernel_rfl
@[go_sem] theorem Tryz.ty.ag57 : aggOf Tryz.prog 57 = some false := by kernel_rfl
@[go_sem] theorem Tryz.ty.zr57 : zeroOf Tryz.prog 57 = some [.val .nilFunc] := by kernel_rfl
@[go_sem] theorem Tryz.ty.el57 : elemOfSlice Tryz.prog 57 = none := by kernel_rfl
@[go_sem] theorem Tryz.ty.ar57 : arrayOf Tryz.prog 57 = none := by kernel_rfl
@[go_sem] theorem Tryz.ty.st57 : isStr Tryz.prog 57 = false := by kernel_rfl
@[go_sem] theorem Tryz.ty.bo57 : isBool Tryz.prog 57 = false := by kernel_rfl
@[go_sem] theorem Tryz.ty.ki57 : kindOf Tryz.prog 57 = none := by kernel_rfl
@[go_sem] theorem Tryz.ty.if57 : isIface Tryz.prog 57 = some false := by kernel_rfl
@[go_sem] theorem Tryz.ty.sz58 : szOf Tryz.prog 58 = some 3 := by kernel_rfl
@[go_sem] theorem Tryz.ty.by58 : bytesIn Tryz.prog 58 = some 24 := by kernel_rfl
@[go_sem] theorem Tryz.ty.ag58 : aggOf Tryz.prog 58 = some true := by kernel_rfl
@[go_sem] theorem Tryz.ty.zr58 : zeroOf Tryz.prog 58 = some [.val (.int .i64 0), .val (.int .i64 0), .val (.bool false)] := by kernel_rfl
@[go_sem] theorem Tryz.ty.el58 : elemOfSlice Tryz.prog 58 = none := by kernel_rfl
@[go_sem] theorem Tryz.ty.ar58 : arrayOf Tryz.prog 58 = none := by kernel_rfl
@[go_sem] theorem Tryz.ty.st58 : isStr Tryz.prog 58 = false := by kernel_rfl
@[go_sem] theorem Tryz.ty.bo58 : isBool Tryz.prog 58 = false := by kernel_rfl
@[go_sem] theorem Tryz.ty.ki58 : kindOf Tryz.prog 58 = none := by kernel_rfl
@[go_sem] theorem Tryz.ty.if58 : isIface Tryz.prog 58 = some false := by kernel_rfl
@[go_sem] theorem Tryz.ty.fo0_58 : fieldOf Tryz.prog 58 0 = some (3, 0) := by kernel_rfl
@[go_sem] theorem Tryz.ty.fp0_58 : fieldPl Tryz.prog 58 0 = some (0, 1) := by kernel_rfl
@[go_sem] theorem Tryz.ty.fo1_58 : fieldOf Tryz.prog 58 1 = some (3, 1) := by kernel_rfl
@[go_sem] theorem Tryz.ty.fp1_58 : fieldPl Tryz.prog 58 1 = some (1, 1) := by kernel_rfl
@[go_sem] theorem Tryz.ty.fo2_58 : fieldOf Tryz.prog 58 2 = some (4, 2) := by kernel_rfl
@[go_sem] theorem Tryz.ty.fp2_58 : fieldPl Tryz.prog 58 2 = some (2, 1) := by kernel_rfl
@[go_sem] theorem Tryz.ty.bk58 : buildOk Tryz.prog 58 = true := by kernel_rfl
@[go_sem] theorem Tryz.ty.sz59 : szOf Tryz.prog 59 = some 3 := by kernel_rfl
@[go_sem] theorem Tryz.ty.by59 : bytesIn Tryz.prog 59 = some 24 := by kernel_rfl
@[go_sem] theorem Tryz.ty.ag59 : aggOf Tryz.prog 59 = some true := by kernel_rfl
@[go_sem] theorem Tryz.ty.zr59 : zeroOf Tryz.prog 59 = some [.val (.int .i64 0), .val (.int .i64 0), .val (.bool false)] := by kernel_rfl
@[go_sem] theorem Tryz.ty.el59 : elemOfSlice Tryz.prog 59 = none := by kernel_rfl
@[go_sem] theorem Tryz.ty.ar59 : arrayOf Tryz.prog 59 = none := by kernel_rfl
@[go_sem] theorem Tryz.ty.st59 : isStr Tryz.prog 59 = false := by kernel_rfl
@[go_sem] theorem Tryz.ty.bo59 : isBool Tryz.prog 59 = false := by kernel_rfl
@[go_sem] theorem Tryz.ty.ki59 : kindOf Tryz.prog 59 = none := by kernel_rfl
@[go_sem] theorem Tryz.ty.if59 : isIface Tryz.prog 59 = some false := by kernel_rfl
@[go_sem] theorem Tryz.ty.fo0_59 : fieldOf Tryz.prog 59 0 = some (3, 0) := by kernel_rfl
@[go_sem] theorem Tryz.ty.fp0_59 : fieldPl Tryz.prog 59 0 = some (0, 1) := by kernel_rfl
@[go_sem] theorem Tryz.ty.fo1_59 : fieldOf Tryz.prog 59 1 = some (3, 1) := by kernel_rfl
@[go_sem] theorem Tryz.ty.fp1_59 : fieldPl Tryz.prog 59 1 = some (1, 1) := by kernel_rfl
@[go_sem] theorem Tryz.ty.fo2_59 : fieldOf Tryz.prog 59 2 = some (4, 2) := by kernel_rfl
@[go_sem] theorem Tryz.ty.fp2_59 : fieldPl Tryz.prog 59 2 = some (2, 1) := by kernel_rfl
@[go_sem] theorem Tryz.ty.bk59 : buildOk Tryz.prog 59 = true := by kernel_rfl
@[go_sem] theorem Tryz.ty.sz60 : szOf Tryz.prog 60 = some 1 := by kernel_rfl
@[go_sem] theorem Tryz.ty.by60 : bytesIn Tryz.prog 60 = some 8 := by kernel_rfl
@[go_sem] theorem Tryz.ty.ag60 : aggOf Tryz.prog 60 = some false := by kernel_rfl
@[go_sem] theorem Tryz.ty.zr60 : zeroOf Tryz.prog 60 = some [.val .nilFunc] := by kernel_rfl
@[go_sem] theorem Tryz.ty.el60 : elemOfSlice Tryz.prog 60 = none := by kernel_rfl
@[go_sem] theorem Tryz.ty.ar60 : arrayOf Tryz.prog 60 = none := by kernel_rfl
@[go_sem] theorem Tryz.ty.st60 : isStr Tryz.prog 60 = false := by kernel_rfl
@[go_sem] theorem Tryz.ty.bo60 : isBool Tryz.prog 60 = false := by kernel_rfl
@[go_sem] theorem Tryz.ty.ki60 : kindOf Tryz.prog 60 = none := by kernel_rfl
@[go_sem] theorem Tryz.ty.if60 : isIface Tryz.prog 60 = some false := by kernel_rfl
@[go_sem] theorem Tryz.ty.sz61 : szOf Tryz.prog 61 = some 1 := by kernel_rfl
@[go_sem] theorem Tryz.ty.by61 : bytesIn Tryz.prog 61 = some 24 := by kernel_rfl
@[go_sem] theorem Tryz.ty.ag61 : aggOf Tryz.prog 61 = some false := by kernel_rfl
@[go_sem] theorem Tryz.ty.zr61 : zeroOf Tryz.prog 61 = some [.val (.slice none 0 0)] := by kernel_rfl
@[go_sem] theorem Tryz.ty.el61 : elemOfSlice Tryz.prog 61 = some 9 := by kernel_rfl
@[go_sem] theorem Tryz.ty.ar61 : arrayOf Tryz.prog 61 = none := by kernel_rfl
@[go_sem] theorem Tryz.ty.st61 : isStr Tryz.prog 61 = false := by kernel_rfl
@[go_sem] theorem Tryz.ty.bo61 : isBool Tryz.prog 61 = false := by kernel_rfl
@[go_sem] theorem Tryz.ty.ki61 : kindOf Tryz.prog 61 = none := by kernel_rfl
@[go_sem] theorem Tryz.ty.if61 : isIface Tryz.prog 61 = some false := by kernel_rfl
@[go_sem] theorem Tryz.ty.un61 : Tryz.prog.underlying 61 = some (.slice 9) := by kernel_rfl
@[go_sem] theorem Tryz.ty.sz62 : szOf Tryz.prog 62 = some 1 := by kernel_rfl
@[go_sem] theorem Tryz.ty.by62 : bytesIn Tryz.prog 62 = some 8 := by kernel_rfl
@[go_sem] theorem Tryz.ty.ag62 : aggOf Tryz.prog 62 = some false := by kernel_rfl
@[go_sem] theorem Tryz.ty.zr62 : zeroOf Tryz.prog 62 = some [.val .nilFunc] := by kernel_rfl
@[go_sem] theorem Tryz.ty.el62 : elemOfSlice Tryz.prog 62 = none := by kernel_rfl
@[go_sem] theorem Tryz.ty.ar62 : arrayOf Tryz.prog 62 = none := by kernel_rfl
@[go_sem] theorem Tryz.ty.st62 : isStr Tryz.prog 62 = false := by kernel_rfl
@[go_sem] theorem Tryz.ty.bo62 : isBool Tryz.prog 62 = false := by kernel_rfl
@[go_sem] theorem Tryz.ty.ki62 : kindOf Tryz.prog 62 = none := by kernel_rfl
@[go_sem] theorem Tryz.ty.if62 : isIface Tryz.prog 62 = some false := by kernel_rfl
@[go_sem] theorem Tryz.ty.sz63 : szOf Tryz.prog 63 = some 1 := by kernel_rfl
@[go_sem] theorem Tryz.ty.by63 : bytesIn Tryz.prog 63 = some 8 := by kernel_rfl
@[go_sem] theorem Tryz.ty.ag63 : aggOf Tryz.prog 63 = some false := by kernel_rfl
@[go_sem] theorem Tryz.ty.zr63 : zeroOf Tryz.prog 63 = some [.val .nilFunc] := by kernel_rfl
@[go_sem] theorem Tryz.ty.el63 : elemOfSlice Tryz.prog 63 = none := by kernel_rfl
@[go_sem] theorem Tryz.ty.ar63 : arrayOf Tryz.prog 63 = none := by kernel_rfl
@[go_sem] theorem Tryz.ty.st63 : isStr Tryz.prog 63 = false := by kernel_rfl
@[go_sem] theorem Tryz.ty.bo63 : isBool Tryz.prog 63 = false := by kernel_rfl
@[go_sem] theorem Tryz.ty.ki63 : kindOf Tryz.prog 63 = none := by kernel_rfl
@[go_sem] theorem Tryz.ty.if63 : isIface Tryz.prog 63 = some false := by kernel_rfl
@[go_sem] theorem Tryz.ty.sz64 : szOf Tryz.prog 64 = some 1 := by kernel_rfl
@[go_sem] theorem Tryz.ty.by64 : bytesIn Tryz.prog 64 = some 8 := by kernel_rfl
@[go_sem] theorem Tryz.ty.ag64 : aggOf Tryz.prog 64 = some false := by kernel_rfl
@[go_sem] theorem Tryz.ty.zr64 : zeroOf Tryz.prog 64 = some [.val .nilFunc] := by kernel_rfl
@[go_sem] theorem Tryz.ty.el64 : elemOfSlice Tryz.prog 64 = none := by kernel_rfl
@[go_sem] theorem Tryz.ty.ar64 : arrayOf Tryz.prog 64 = none := by kernel_rfl
@[go_sem] theorem Tryz.ty.st64 : isStr Tryz.prog 64 = false := by kernel_rfl
@[go_sem] theorem Tryz.ty.bo64 : isBool Tryz.prog 64 = false := by kernel_rfl
@[go_sem] theorem Tryz.ty.ki64 : kindOf Tryz.prog 64 = none := by kernel_rfl
@[go_sem] theorem Tryz.ty.if64 : isIface Tryz.prog 64 = some false := by kernel_rfl
@[go_sem] theorem Tryz.ty.sz66 : szOf Tryz.prog 66 = some 1 := by kernel_rfl
@[go_sem] theorem Tryz.ty.by66 : bytesIn Tryz.prog 66 = some 8 := by kernel_rfl
@[go_sem] theorem Tryz.ty.ag66 : aggOf Tryz.prog 66 = some false := by kernel_rfl
@[go_sem] theorem Tryz.ty.zr66 : zeroOf Tryz.prog 66 = some [.val .nilFunc] := by kernel_rfl
@[go_sem] theorem Tryz.ty.el66 : elemOfSlice Tryz.prog 66 = none := by kernel_rfl
@[go_sem] theorem Tryz.ty.ar66 : arrayOf Tryz.prog 66 = none := by kernel_rfl
@[go_sem] theorem Tryz.ty.st66 : isStr Tryz.prog 66 = false := by kernel_rfl
@[go_sem] theorem Tryz.ty.bo66 : isBool Tryz.prog 66 = false := by kernel_rfl
@[go_sem] theorem Tryz.ty.ki66 : kindOf Tryz.prog 66 = none := by kernel_rfl
@[go_sem] theorem Tryz.ty.if66 : isIface Tryz.prog 66 = some false := by kernel_rfl
@[go_sem] theorem Tryz.ty.sz67 : szOf Tryz.prog 67 = some 1 := by kernel_rfl
@[go_sem] theorem Tryz.ty.by67 : bytesIn Tryz.prog 67 = some 8 := by kernel_rfl
@[go_sem] theorem Tryz.ty.ag67 : aggOf Tryz.prog 67 = some false := by kernel_rfl
@[go_sem] theorem Tryz.ty.zr67 : zeroOf Tryz.prog 67 = some [.val .nilFunc] := by kernel_rfl
@[go_sem] theorem Tryz.ty.el67 : elemOfSlice Tryz.prog 67 = none := by kernel_rfl
@[go_sem] theorem Tryz.ty.ar67 : arrayOf Tryz.prog 67 = none := by kernel_rfl
@[go_sem] theorem Tryz.ty.st67 : isStr Tryz.prog 67 = false := by kernel_rfl
@[go_sem] theorem Tryz.ty.bo67 : isBool Tryz.prog 67 = false := by kernel_rfl
@[go_sem] theorem Tryz.ty.ki67 : kindOf Tryz.prog 67 = none := by kernel_rfl
@[go_sem] theorem Tryz.ty.if67 : isIface Tryz.prog 67 = some false := by kernel_rfl
@[go_sem] theorem Tryz.ty.sz68 : szOf Tryz.prog 68 = some 1 := by kernel_rfl
@[go_sem] theorem Tryz.ty.by68 : bytesIn Tryz.prog 68 = some 8 := by kernel_rfl
@[go_sem] theorem Tryz.ty.ag68 : aggOf Tryz.prog 68 = some false := by kernel_rfl
@[go_sem] theorem Tryz.ty.zr68 : zeroOf Tryz.prog 68 = some [.val .nilFunc] := by kernel_rfl
@[go_sem] theorem Tryz.ty.el68 : elemOfSlice Tryz.prog 68 = none := by kernel_rfl
@[go_sem] theorem Tryz.ty.ar68 : arrayOf Tryz.prog 68 = none := by kernel_rfl
@[go_sem] theorem Tryz.ty.st68 : isStr Tryz.prog 68 = false := by kernel_rfl
@[go_sem] theorem Tryz.ty.bo68 : isBool Tryz.prog 68 = false := by kernel_rfl
@[go_sem] theorem Tryz.ty.ki68 : kindOf Tryz.prog 68 = none := by kernel_rfl
@[go_sem] theorem Tryz.ty.if68 : isIface Tryz.prog 68 = some false := by kernel_rfl
@[go_sem] theorem Tryz.ty.sz70 : szOf Tryz.prog 70 = some 1 := by kernel_rfl
@[go_sem] theorem Tryz.ty.by70 : bytesIn Tryz.prog 70 = some 8 := by kernel_rfl
@[go_sem] theorem Tryz.ty.ag70 : aggOf Tryz.prog 70 = some false := by kernel_rfl
@[go_sem] theorem Tryz.ty.zr70 : zeroOf Tryz.prog 70 = some [.val .nilFunc] := by kernel_rfl
@[go_sem] theorem Tryz.ty.el70 : elemOfSlice Tryz.prog 70 = none := by kernel_rfl
@[go_sem] theorem Tryz.ty.ar70 : arrayOf Tryz.prog 70 = none := by kernel_rfl
@[go_sem] theorem Tryz.ty.st70 : isStr Tryz.prog 70 = false := by kernel_rfl
@[go_sem] theorem Tryz.ty.bo70 : isBool Tryz.prog 70 = false := by kernel_rfl
@[go_sem] theorem Tryz.ty.ki70 : kindOf Tryz.prog 70 = none := by kernel_rfl
@[go_sem] theorem Tryz.ty.if70 : isIface Tryz.prog 70 = some false := by kernel_rfl
@[go_sem] theorem Tryz.ty.sz72 : szOf Tryz.prog 72 = some 1 := by kernel_rfl
@[go_sem] theorem Tryz.ty.by72 : bytesIn Tryz.prog 72 = some 8 := by kernel_rfl
@[go_sem] theorem Tryz.ty.ag72 : aggOf Tryz.prog 72 = some false := by kernel_rfl
@[go_sem] theorem Tryz.ty.zr72 : zeroOf Tryz.prog 72 = some [.val .nilFunc] := by kernel_rfl
@[go_sem] theorem Tryz.ty.el72 : elemOfSlice Tryz.prog 72 = none := by kernel_rfl
@[go_sem] theorem Tryz.ty.ar72 : arrayOf Tryz.prog 72 = none := by kernel_rfl
@[go_sem] theorem Tryz.ty.st72 : isStr Tryz.prog 72 = false := by kernel_rfl
@[go_sem] theorem Tryz.ty.bo72 : isBool Tryz.prog 72 = false := by kernel_rfl
@[go_sem] theorem Tryz.ty.ki72 : kindOf Tryz.prog 72 = none := by kernel_rfl
@[go_sem] theorem Tryz.ty.if72 : isIface Tryz.prog 72 = some false := by kernel_rfl
@[go_sem] theorem Tryz.ty.sz73 : szOf Tryz.prog 73 = some 6 := by kernel_rfl
@[go_sem] theorem Tryz.ty.by73 : bytesIn Tryz.prog 73 = some 96 := by kernel_rfl
@[go_sem] theorem Tryz.ty.ag73 : aggOf Tryz.prog 73 = some true := by kernel_rfl
@[go_sem] theorem Tryz.ty.zr73 : zeroOf Tryz.prog 73 = some [.val (.string ByteArray.empty), .val (.string ByteArray.empty), .val (.string ByteArray.empty), .val (.string ByteArray.empty), .val (.string ByteArray.empty), .val (.string ByteArray.empty)] := by kernel_rfl
@[go_sem] theorem Tryz.ty.el73 : elemOfSlice Tryz.prog 73 = none := by kernel_rfl
@[go_sem] theorem Tryz.ty.ar73 : arrayOf Tryz.prog 73 = some (6, 9) := by kernel_rfl
@[go_sem] theorem Tryz.ty.st73 : isStr Tryz.prog 73 = false := by kernel_rfl
@[go_sem] theorem Tryz.ty.bo73 : isBool Tryz.prog 73 = false := by kernel_rfl
@[go_sem] theorem Tryz.ty.ki73 : kindOf Tryz.prog 73 = none := by kernel_rfl
@[go_sem] theorem Tryz.ty.if73 : isIface Tryz.prog 73 = some false := by kernel_rfl
@[go_sem] theorem Tryz.ty.bk73 : buildOk Tryz.prog 73 = true := by kernel_rfl
@[go_sem] theorem Tryz.ty.fp0_73 : fieldPl Tryz.prog 73 0 = some (0, 1) := by kernel_rfl
@[go_sem] theorem Tryz.ty.fp1_73 : fieldPl Tryz.prog 73 1 = some (1, 1) := by kernel_rfl
@[go_sem] theorem Tryz.ty.fp2_73 : fieldPl Tryz.prog 73 2 = some (2, 1) := by kernel_rfl
@[go_sem] theorem Tryz.ty.fp3_73 : fieldPl Tryz.prog 73 3 = some (3, 1) := by kernel_rfl
@[go_sem] theorem Tryz.ty.fp4_73 : fieldPl Tryz.prog 73 4 = some (4, 1) := by kernel_rfl
@[go_sem] theorem Tryz.ty.fp5_73 : fieldPl Tryz.prog 73 5 = some (5, 1) := by kernel_rfl
@[go_sem] theorem Tryz.ty.un73 : Tryz.prog.underlying 73 = some (.array 6 9) := by kernel_rfl
@[go_sem] theorem Tryz.ty.sz74 : szOf Tryz.prog 74 = some 3 := by kernel_rfl
@[go_sem] theorem Tryz.ty.by74 : bytesIn Tryz.prog 74 = some 40 := by kernel_rfl
@[go_sem] theorem Tryz.ty.ag74 : aggOf Tryz.prog 74 = some true := by kernel_rfl
@[go_sem] theorem Tryz.ty.zr74 : zeroOf Tryz.prog 74 = some [.val (.slice none 0 0), .val (.int .i64 0), .val (.int .i64 0)] := by kernel_rfl
@[go_sem] theorem Tryz.ty.el74 : elemOfSlice Tryz.prog 74 = none := by kernel_rfl
@[go_sem] theorem Tryz.ty.ar74 : arrayOf Tryz.prog 74 = none := by kernel_rfl
@[go_sem] theorem Tryz.ty.st74 : isStr Tryz.prog 74 = false := by kernel_rfl
@[go_sem] theorem Tryz.ty.bo74 : isBool Tryz.prog 74 = false := by kernel_rfl
@[go_sem] theorem Tryz.ty.ki74 : kindOf Tryz.prog 74 = none := by kernel_rfl
@[go_sem] theorem Tryz.ty.if74 : isIface Tryz.prog 74 = some false := by kernel_rfl
@[go_sem] theorem Tryz.ty.fo0_74 : fieldOf Tryz.prog 74 0 = some (22, 0) := by kernel_rfl
@[go_sem] theorem Tryz.ty.fp0_74 : fieldPl Tryz.prog 74 0 = some (0, 1) := by kernel_rfl
@[go_sem] theorem Tryz.ty.fo1_74 : fieldOf Tryz.prog 74 1 = some (3, 1) := by kernel_rfl
@[go_sem] theorem Tryz.ty.fp1_74 : fieldPl Tryz.prog 74 1 = some (1, 1) := by kernel_rfl
@[go_sem] theorem Tryz.ty.fo2_74 : fieldOf Tryz.prog 74 2 = some (3, 2) := by kernel_rfl
@[go_sem] theorem Tryz.ty.fp2_74 : fieldPl Tryz.prog 74 2 = some (2, 1) := by kernel_rfl
@[go_sem] theorem Tryz.ty.bk74 : buildOk Tryz.prog 74 = true := by kernel_rfl
@[go_sem] theorem Tryz.ty.sz75 : szOf Tryz.prog 75 = some 3 := by kernel_rfl
@[go_sem] theorem Tryz.ty.by75 : bytesIn Tryz.prog 75 = some 40 := by kernel_rfl
@[go_sem] theorem Tryz.ty.ag75 : aggOf Tryz.prog 75 = some true := by kernel_rfl
@[go_sem] theorem Tryz.ty.zr75 : zeroOf Tryz.prog 75 = some [.val (.slice none 0 0), .val (.int .i64 0), .val (.int .i64 0)] := by kernel_rfl
@[go_sem] theorem Tryz.ty.el75 : elemOfSlice Tryz.prog 75 = none := by kernel_rfl
@[go_sem] theorem Tryz.ty.ar75 : arrayOf Tryz.prog 75 = none := by kernel_rfl
@[go_sem] theorem Tryz.ty.st75 : isStr Tryz.prog 75 = false := by kernel_rfl
@[go_sem] theorem Tryz.ty.bo75 : isBool Tryz.prog 75 = false := by kernel_rfl
@[go_sem] theorem Tryz.ty.ki75 : kindOf Tryz.prog 75 = none := by kernel_rfl
@[go_sem] theorem Tryz.ty.if75 : isIface Tryz.prog 75 = some false := by kernel_rfl
@[go_sem] theorem Tryz.ty.fo0_75 : fieldOf Tryz.prog 75 0 = some (22, 0) := by kernel_rfl
@[go_sem] theorem Tryz.ty.fp0_75 : fieldPl Tryz.prog 75 0 = some (0, 1) := by kernel_rfl
@[go_sem] theorem Tryz.ty.fo1_75 : fieldOf Tryz.prog 75 1 = some (3, 1) := by kernel_rfl
@[go_sem] theorem Tryz.ty.fp1_75 : fieldPl Tryz.prog 75 1 = some (1, 1) := by kernel_rfl
@[go_sem] theorem Tryz.ty.fo2_75 : fieldOf Tryz.prog 75 2 = some (3, 2) := by kernel_rfl
@[go_sem] theorem Tryz.ty.fp2_75 : fieldPl Tryz.prog 75 2 = some (2, 1) := by kernel_rfl
@[go_sem] theorem Tryz.ty.bk75 : buildOk Tryz.prog 75 = true := by kernel_rfl
@[go_sem] theorem Tryz.ty.sz76 : szOf Tryz.prog 76 = some 1 := by kernel_rfl
@[go_sem] theorem Tryz.ty.by76 : bytesIn Tryz.prog 76 = some 8 := by kernel_rfl
@[go_sem] theorem Tryz.ty.ag76 : aggOf Tryz.prog 76 = some false := by kernel_rfl
@[go_sem] theorem Tryz.ty.zr76 : zeroOf Tryz.prog 76 = some [.val .nilFunc] := by kernel_rfl
@[go_sem] theorem Tryz.ty.el76 : elemOfSlice Tryz.prog 76 = none := by kernel_rfl
@[go_sem] theorem Tryz.ty.ar76 : arrayOf Tryz.prog 76 = none := by kernel_rfl
@[go_sem] theorem Tryz.ty.st76 : isStr Tryz.prog 76 = false := by kernel_rfl
@[go_sem] theorem Tryz.ty.bo76 : isBool Tryz.prog 76 = false := by kernel_rfl
@[go_sem] theorem Tryz.ty.ki76 : kindOf Tryz.prog 76 = none := by kernel_rfl
@[go_sem] theorem Tryz.ty.if76 : isIface Tryz.prog 76 = some false := by kernel_rfl
@[go_sem] theorem Tryz.ty.sz77 : szOf Tryz.prog 77 = some 1 := by kernel_rfl
@[go_sem] theorem Tryz.ty.by77 : bytesIn Tryz.prog 77 = some 8 := by kernel_rfl
@[go_sem] theorem Tryz.ty.ag77 : aggOf Tryz.prog 77 = some false := by kernel_rfl
@[go_sem] theorem Tryz.ty.zr77 : zeroOf Tryz.prog 77 = some [.val .nilFunc] := by kernel_rfl
@[go_sem] theorem Tryz.ty.el77 : elemOfSlice Tryz.prog 77 = none := by kernel_rfl
@[go_sem] theorem Tryz.ty.ar77 : arrayOf Tryz.prog 77 = none := by kernel_rfl
@[go_sem] theorem Tryz.ty.st77 : isStr Tryz.prog 77 = false := by kernel_rfl
@[go_sem] theorem Tryz.ty.bo77 : isBool Tryz.prog 77 = false := by kernel_rfl
@[go_sem] theorem Tryz.ty.ki77 : kindOf Tryz.prog 77 = none := by kernel_rfl
@[go_sem] theorem Tryz.ty.if77 : isIface Tryz.prog 77 = some false := by kernel_rfl
@[go_sem] theorem Tryz.ty.sz78 : szOf Tryz.prog 78 = some 1 := by kernel_rfl
@[go_sem] theorem Tryz.ty.by78 : bytesIn Tryz.prog 78 = some 8 := by kernel_rfl
@[go_sem] theorem Tryz.ty.ag78 : aggOf Tryz.prog 78 = some false := by kernel_rfl
@[go_sem] theorem Tryz.ty.zr78 : zeroOf Tryz.prog 78 = some [.val .nilFunc] := by kernel_rfl
@[go_sem] theorem Tryz.ty.el78 : elemOfSlice Tryz.prog 78 = none := by kernel_rfl
@[go_sem] theorem Tryz.ty.ar78 : arrayOf Tryz.prog 78 = none := by kernel_rfl
@[go_sem] theorem Tryz.ty.st78 : isStr Tryz.prog 78 = false := by kernel_rfl
@[go_sem] theorem Tryz.ty.bo78 : isBool Tryz.prog 78 = false := by kernel_rfl
@[go_sem] theorem Tryz.ty.ki78 : kindOf Tryz.prog 78 = none := by kernel_rfl
@[go_sem] theorem Tryz.ty.if78 : isIface Tryz.prog 78 = some false := by kernel_rfl
@[go_sem] theorem Tryz.ty.sz79 : szOf Tryz.prog 79 = some 1 := by kernel_rfl
@[go_sem] theorem Tryz.ty.by79 : bytesIn Tryz.prog 79 = some 8 := by kernel_rfl
@[go_sem] theorem Tryz.ty.ag79 : aggOf Tryz.prog 79 = some false := by kernel_rfl
@[go_sem] theorem Tryz.ty.zr79 : zeroOf Tryz.prog 79 = some [.val .nilFunc] := by kernel_rfl
@[go_sem] theorem Tryz.ty.el79 : elemOfSlice Tryz.prog 79 = none := by kernel_rfl
@[go_sem] theorem Tryz.ty.ar79 : arrayOf Tryz.prog 79 = none := by kernel_rfl
@[go_sem] theorem Tryz.ty.st79 : isStr Tryz.prog 79 = false := by kernel_rfl
@[go_sem] theorem Tryz.ty.bo79 : isBool Tryz.prog 79 = false := by kernel_rfl
@[go_sem] theorem Tryz.ty.ki79 : kindOf Tryz.prog 79 = none := by kernel_rfl
@[go_sem] theorem Tryz.ty.if79 : isIface Tryz.prog 79 = some false := by kernel_rfl
@[go_sem] theorem Tryz.ty.sz80 : szOf Tryz.prog 80 = some 1 := by kernel_rfl
@[go_sem] theorem Tryz.ty.by80 : bytesIn Tryz.prog 80 = some 8 := by kernel_rfl
@[go_sem] theorem Tryz.ty.ag80 : aggOf Tryz.prog 80 = some false := by kernel_rfl
@[go_sem] theorem Tryz.ty.zr80 : zeroOf Tryz.prog 80 = some [.val .nilFunc] := by kernel_rfl
@[go_sem] theorem Tryz.ty.el80 : elemOfSlice Tryz.prog 80 = none := by kernel_rfl
@[go_sem] theorem Tryz.ty.ar80 : arrayOf Tryz.prog 80 = none := by kernel_rfl
@[go_sem] theorem Tryz.ty.st80 : isStr Tryz.prog 80 = false := by kernel_rfl
@[go_sem] theorem Tryz.ty.bo80 : isBool Tryz.prog 80 = false := by kernel_rfl
@[go_sem] theorem Tryz.ty.ki80 : kindOf Tryz.prog 80 = none := by kernel_rfl
@[go_sem] theorem Tryz.ty.if80 : isIface Tryz.prog 80 = some false := by kernel_rfl
@[go_sem] theorem Tryz.ty.sz81 : szOf Tryz.prog 81 = some 1 := by kernel_rfl
@[go_sem] theorem Tryz.ty.by81 : bytesIn Tryz.prog 81 = some 8 := by kernel_rfl
@[go_sem] theorem Tryz.ty.ag81 : aggOf Tryz.prog 81 = some false := by kernel_rfl
@[go_sem] theorem Tryz.ty.zr81 : zeroOf Tryz.prog 81 = some [.val (.pointer none)] := by kernel_rfl
@[go_sem] theorem Tryz.ty.el81 : elemOfSlice Tryz.prog 81 = none := by kernel_rfl
@[go_sem] theorem Tryz.ty.ar81 : arrayOf Tryz.prog 81 = none := by kernel_rfl
@[go_sem] theorem Tryz.ty.st81 : isStr Tryz.prog 81 = false := by kernel_rfl
@[go_sem] theorem Tryz.ty.bo81 : isBool Tryz.prog 81 = false := by kernel_rfl
@[go_sem] theorem Tryz.ty.ki81 : kindOf Tryz.prog 81 = none := by kernel_rfl
@[go_sem] theorem Tryz.ty.if81 : isIface Tryz.prog 81 = some false := by kernel_rfl
@[go_sem] theorem Tryz.ty.un81 : Tryz.prog.underlying 81 = some (.pointer 83) := by kernel_rfl
@[go_sem] theorem Tryz.ty.sz82 : szOf Tryz.prog 82 = some 2 := by kernel_rfl
@[go_sem] theorem Tryz.ty.by82 : bytesIn Tryz.prog 82 = some 32 := by kernel_rfl
@[go_sem] theorem Tryz.ty.ag82 : aggOf Tryz.prog 82 = some true := by kernel_rfl
@[go_sem] theorem Tryz.ty.zr82 : zeroOf Tryz.prog 82 = some [.val (.pointer none), .val (.slice none 0 0)] := by kernel_rfl
@[go_sem] theorem Tryz.ty.el82 : elemOfSlice Tryz.prog 82 = none := by kernel_rfl
@[go_sem] theorem Tryz.ty.ar82 : arrayOf Tryz.prog 82 = none := by kernel_rfl
@[go_sem] theorem Tryz.ty.st82 : isStr Tryz.prog 82 = false := by kernel_rfl
@[go_sem] theorem Tryz.ty.bo82 : isBool Tryz.prog 82 = false := by kernel_rfl
@[go_sem] theorem Tryz.ty.ki82 : kindOf Tryz.prog 82 = none := by kernel_rfl
@[go_sem] theorem Tryz.ty.if82 : isIface Tryz.prog 82 = some false := by kernel_rfl
@[go_sem] theorem Tryz.ty.fo0_82 : fieldOf Tryz.prog 82 0 = some (81, 0) := by kernel_rfl
@[go_sem] theorem Tryz.ty.fp0_82 : fieldPl Tryz.prog 82 0 = some (0, 1) := by kernel_rfl
@[go_sem] theorem Tryz.ty.fo1_82 : fieldOf Tryz.prog 82 1 = some (22, 1) := by kernel_rfl
@[go_sem] theorem Tryz.ty.fp1_82 : fieldPl Tryz.prog 82 1 = some (1, 1) := by kernel_rfl
@[go_sem] theorem Tryz.ty.bk82 : buildOk Tryz.prog 82 = true := by kernel_rfl
@[go_sem] theorem Tryz.ty.sz83 : szOf Tryz.prog 83 = some 2 := by kernel_rfl
@[go_sem] theorem Tryz.ty.by83 : bytesIn Tryz.prog 83 = some 32 := by kernel_rfl
@[go_sem] theorem Tryz.ty.ag83 : aggOf Tryz.prog 83 = some true := by kernel_rfl
@[go_sem] theorem Tryz.ty.zr83 : zeroOf Tryz.prog 83 = some [.val (.pointer none), .val (.slice none 0 0)] := by kernel_rfl
@[go_sem] theorem Tryz.ty.el83 : elemOfSlice Tryz.prog 83 = none := by kernel_rfl
@[go_sem] theorem Tryz.ty.ar83 : arrayOf Tryz.prog 83 = none := by kernel_rfl
@[go_sem] theorem Tryz.ty.st83 : isStr Tryz.prog 83 = false := by kernel_rfl
@[go_sem] theorem Tryz.ty.bo83 : isBool Tryz.prog 83 = false := by kernel_rfl
@[go_sem] theorem Tryz.ty.ki83 : kindOf Tryz.prog 83 = none := by kernel_rfl
@[go_sem] theorem Tryz.ty.if83 : isIface Tryz.prog 83 = some false := by kernel_rfl
@[go_sem] theorem Tryz.ty.fo0_83 : fieldOf Tryz.prog 83 0 = some (81, 0) := by kernel_rfl
@[go_sem] theorem Tryz.ty.fp0_83 : fieldPl Tryz.prog 83 0 = some (0, 1) := by kernel_rfl
@[go_sem] theorem Tryz.ty.fo1_83 : fieldOf Tryz.prog 83 1 = some (22, 1) := by kernel_rfl
@[go_sem] theorem Tryz.ty.fp1_83 : fieldPl Tryz.prog 83 1 = some (1, 1) := by kernel_rfl
@[go_sem] theorem Tryz.ty.bk83 : buildOk Tryz.prog 83 = true := by kernel_rfl
@[go_sem] theorem Tryz.ty.sz84 : szOf Tryz.prog 84 = some 1 := by kernel_rfl
@[go_sem] theorem Tryz.ty.by84 : bytesIn Tryz.prog 84 = some 8 := by kernel_rfl
@[go_sem] theorem Tryz.ty.ag84 : aggOf Tryz.prog 84 = some false := by kernel_rfl
@[go_sem] theorem Tryz.ty.zr84 : zeroOf Tryz.prog 84 = some [.val .nilFunc] := by kernel_rfl
@[go_sem] theorem Tryz.ty.el84 : elemOfSlice Tryz.prog 84 = none := by kernel_rfl
@[go_sem] theorem Tryz.ty.ar84 : arrayOf Tryz.prog 84 = none := by kernel_rfl
@[go_sem] theorem Tryz.ty.st84 : isStr Tryz.prog 84 = false := by kernel_rfl
@[go_sem] theorem Tryz.ty.bo84 : isBool Tryz.prog 84 = false := by kernel_rfl
@[go_sem] theorem Tryz.ty.ki84 : kindOf Tryz.prog 84 = none := by kernel_rfl
@[go_sem] theorem Tryz.ty.if84 : isIface Tryz.prog 84 = some false := by kernel_rfl
@[go_sem] theorem Tryz.ty.if86 : isIface Tryz.prog 86 = some true := by kernel_rfl
@[go_sem] theorem Tryz.ty.sz88 : szOf Tryz.prog 88 = some 1 := by kernel_rfl
@[go_sem] theorem Tryz.ty.by88 : bytesIn Tryz.prog 88 = some 8 := by kernel_rfl
@[go_sem] theorem Tryz.ty.ag88 : aggOf Tryz.prog 88 = some false := by kernel_rfl
@[go_sem] theorem Tryz.ty.zr88 : zeroOf Tryz.prog 88 = some [.val .nilFunc] := by kernel_rfl
@[go_sem] theorem Tryz.ty.el88 : elemOfSlice Tryz.prog 88 = none := by kernel_rfl
@[go_sem] theorem Tryz.ty.ar88 : arrayOf Tryz.prog 88 = none := by kernel_rfl
@[go_sem] theorem Tryz.ty.st88 : isStr Tryz.prog 88 = false := by kernel_rfl
@[go_sem] theorem Tryz.ty.bo88 : isBool Tryz.prog 88 = false := by kernel_rfl
@[go_sem] theorem Tryz.ty.ki88 : kindOf Tryz.prog 88 = none := by kernel_rfl
@[go_sem] theorem Tryz.ty.if88 : isIface Tryz.prog 88 = some false := by kernel_rfl
@[go_sem] theorem Tryz.ty.sz89 : szOf Tryz.prog 89 = some 1 := by kernel_rfl
@[go_sem] theorem Tryz.ty.by89 : bytesIn Tryz.prog 89 = some 8 := by kernel_rfl
@[go_sem] theorem Tryz.ty.ag89 : aggOf Tryz.prog 89 = some false := by kernel_rfl
@[go_sem] theorem Tryz.ty.zr89 : zeroOf Tryz.prog 89 = some [.val .nilFunc] := by kernel_rfl
@[go_sem] theorem Tryz.ty.el89 : elemOfSlice Tryz.prog 89 = none := by kernel_rfl
@[go_sem] theorem Tryz.ty.ar89 : arrayOf Tryz.prog 89 = none := by kernel_rfl
@[go_sem] theorem Tryz.ty.st89 : isStr Tryz.prog 89 = false := by kernel_rfl
@[go_sem] theorem Tryz.ty.bo89 : isBool Tryz.prog 89 = false := by kernel_rfl
@[go_sem] theorem Tryz.ty.ki89 : kindOf Tryz.prog 89 = none := by kernel_rfl
@[go_sem] theorem Tryz.ty.if89 : isIface Tryz.prog 89 = some false := by kernel_rfl
@[go_sem] theorem Tryz.ty.sz90 : szOf Tryz.prog 90 = some 1 := by kernel_rfl
@[go_sem] theorem Tryz.ty.by90 : bytesIn Tryz.prog 90 = some 8 := by kernel_rfl
@[go_sem] theorem Tryz.ty.ag90 : aggOf Tryz.prog 90 = some false := by kernel_rfl
@[go_sem] theorem Tryz.ty.zr90 : zeroOf Tryz.prog 90 = some [.val .nilFunc] := by kernel_rfl
@[go_sem] theorem Tryz.ty.el90 : elemOfSlice Tryz.prog 90 = none := by kernel_rfl
@[go_sem] theorem Tryz.ty.ar90 : arrayOf Tryz.prog 90 = none := by kernel_rfl
@[go_sem] theorem Tryz.ty.st90 : isStr Tryz.prog 90 = false := by kernel_rfl
@[go_sem] theorem Tryz.ty.bo90 : isBool Tryz.prog 90 = false := by kernel_rfl
@[go_sem] theorem Tryz.ty.ki90 : kindOf Tryz.prog 90 = none := by kernel_rfl
@[go_sem] theorem Tryz.ty.if90 : isIface Tryz.prog 90 = some false := by kernel_rfl
@[go_sem] theorem Tryz.ty.sz91 : szOf Tryz.prog 91 = some 1 := by kernel_rfl
@[go_sem] theorem Tryz.ty.by91 : bytesIn Tryz.prog 91 = some 8 := by kernel_rfl
@[go_sem] theorem Tryz.ty.ag91 : aggOf Tryz.prog 91 = some false := by kernel_rfl
@[go_sem] theorem Tryz.ty.zr91 : zeroOf Tryz.prog 91 = some [.val .nilFunc] := by kernel_rfl
@[go_sem] theorem Tryz.ty.el91 : elemOfSlice Tryz.prog 91 = none := by kernel_rfl
@[go_sem] theorem Tryz.ty.ar91 : arrayOf Tryz.prog 91 = none := by kernel_rfl
@[go_sem] theorem Tryz.ty.st91 : isStr Tryz.prog 91 = false := by kernel_rfl
@[go_sem] theorem Tryz.ty.bo91 : isBool Tryz.prog 91 = false := by kernel_rfl
@[go_sem] theorem Tryz.ty.ki91 : kindOf Tryz.prog 91 = none := by kernel_rfl
@[go_sem] theorem Tryz.ty.if91 : isIface Tryz.prog 91 = some false := by kernel_rfl
@[go_sem] theorem Tryz.ty.sz92 : szOf Tryz.prog 92 = some 1 := by kernel_rfl
@[go_sem] theorem Tryz.ty.by92 : bytesIn Tryz.prog 92 = some 8 := by kernel_rfl
@[go_sem] theorem Tryz.ty.ag92 : aggOf Tryz.prog 92 = some false := by kernel_rfl
@[go_sem] theorem Tryz.ty.zr92 : zeroOf Tryz.prog 92 = some [.val .nilFunc] := by kernel_rfl
@[go_sem] theorem Tryz.ty.el92 : elemOfSlice Tryz.prog 92 = none := by kernel_rfl
@[go_sem] theorem Tryz.ty.ar92 : arrayOf Tryz.prog 92 = none := by kernel_rfl
@[go_sem] theorem Tryz.ty.st92 : isStr Tryz.prog 92 = false := by kernel_rfl
@[go_sem] theorem Tryz.ty.bo92 : isBool Tryz.prog 92 = false := by kernel_rfl
@[go_sem] theorem Tryz.ty.ki92 : kindOf Tryz.prog 92 = none := by kernel_rfl
@[go_sem] theorem Tryz.ty.if92 : isIface Tryz.prog 92 = some false := by kernel_rfl
@[go_sem] theorem Tryz.ty.sz93 : szOf Tryz.prog 93 = some 1 := by kernel_rfl
@[go_sem] theorem Tryz.ty.by93 : bytesIn Tryz.prog 93 = some 8 := by kernel_rfl
@[go_sem] theorem Tryz.ty.ag93 : aggOf Tryz.prog 93 = some false := by kernel_rfl
@[go_sem] theorem Tryz.ty.zr93 : zeroOf Tryz.prog 93 = some [.val .nilFunc] := by kernel_rfl
@[go_sem] theorem Tryz.ty.el93 : elemOfSlice Tryz.prog 93 = none := by kernel_rfl
@[go_sem] theorem Tryz.ty.ar93 : arrayOf Tryz.prog 93 = none := by kernel_rfl
@[go_sem] theorem Tryz.ty.st93 : isStr Tryz.prog 93 = false := by kernel_rfl
@[go_sem] theorem Tryz.ty.bo93 : isBool Tryz.prog 93 = false := by kernel_rfl
@[go_sem] theorem Tryz.ty.ki93 : kindOf Tryz.prog 93 = none := by kernel_rfl
@[go_sem] theorem Tryz.ty.if93 : isIface Tryz.prog 93 = some false := by kernel_rfl
@[go_sem] theorem Tryz.ty.sz94 : szOf Tryz.prog 94 = some 1 := by kernel_rfl
@[go_sem] theorem Tryz.ty.by94 : bytesIn Tryz.prog 94 = some 8 := by kernel_rfl
@[go_sem] theorem Tryz.ty.ag94 : aggOf Tryz.prog 94 = some false := by kernel_rfl
@[go_sem] theorem Tryz.ty.zr94 : zeroOf Tryz.prog 94 = some [.val .nilFunc] := by kernel_rfl
@[go_sem] theorem Tryz.ty.el94 : elemOfSlice Tryz.prog 94 = none := by kernel_rfl
@[go_sem] theorem Tryz.ty.ar94 : arrayOf Tryz.prog 94 = none := by kernel_rfl
@[go_sem] theorem Tryz.ty.st94 : isStr Tryz.prog 94 = false := by kernel_rfl
@[go_sem] theorem Tryz.ty.bo94 : isBool Tryz.prog 94 = false := by kernel_rfl
@[go_sem] theorem Tryz.ty.ki94 : kindOf Tryz.prog 94 = none := by kernel_rfl
@[go_sem] theorem Tryz.ty.if94 : isIface Tryz.prog 94 = some false := by kernel_rfl
@[go_sem] theorem Tryz.ty.sz95 : szOf Tryz.prog 95 = some 1 := by kernel_rfl
@[go_sem] theorem Tryz.ty.by95 : bytesIn Tryz.prog 95 = some 8 := by kernel_rfl
@[go_sem] theorem Tryz.ty.ag95 : aggOf Tryz.prog 95 = some false := by kernel_rfl
@[go_sem] theorem Tryz.ty.zr95 : zeroOf Tryz.prog 95 = some [.val .nilFunc] := by kernel_rfl
@[go_sem] theorem Tryz.ty.el95 : elemOfSlice Tryz.prog 95 = none := by kernel_rfl
@[go_sem] theorem Tryz.ty.ar95 : arrayOf Tryz.prog 95 = none := by kernel_rfl
@[go_sem] theorem Tryz.ty.st95 : isStr Tryz.prog 95 = false := by kernel_rfl
@[go_sem] theorem Tryz.ty.bo95 : isBool Tryz.prog 95 = false := by kernel_rfl
@[go_sem] theorem Tryz.ty.ki95 : kindOf Tryz.prog 95 = none := by kernel_rfl
@[go_sem] theorem Tryz.ty.if95 : isIface Tryz.prog 95 = some false := by kernel_rfl
@[go_sem] theorem Tryz.ty.sz96 : szOf Tryz.prog 96 = some 1 := by kernel_rfl
@[go_sem] theorem Tryz.ty.by96 : bytesIn Tryz.prog 96 = some 8 := by kernel_rfl
@[go_sem] theorem Tryz.ty.ag96 : aggOf Tryz.prog 96 = some false := by kernel_rfl
@[go_sem] theorem Tryz.ty.zr96 : zeroOf Tryz.prog 96 = some [.val .nilFunc] := by kernel_rfl
@[go_sem] theorem Tryz.ty.el96 : elemOfSlice Tryz.prog 96 = none := by kernel_rfl
@[go_sem] theorem Tryz.ty.ar96 : arrayOf Tryz.prog 96 = none := by kernel_rfl
@[go_sem] theorem Tryz.ty.st96 : isStr Tryz.prog 96 = false := by kernel_rfl
@[go_sem] theorem Tryz.ty.bo96 : isBool Tryz.prog 96 = false := by kernel_rfl
@[go_sem] theorem Tryz.ty.ki96 : kindOf Tryz.prog 96 = none := by kernel_rfl
@[go_sem] theorem Tryz.ty.if96 : isIface Tryz.prog 96 = some false := by kernel_rfl
@[go_sem] theorem Tryz.ty.sz97 : szOf Tryz.prog 97 = some 1 := by kernel_rfl
@[go_sem] theorem Tryz.ty.by97 : bytesIn Tryz.prog 97 = some 8 := by kernel_rfl
@[go_sem] theorem Tryz.ty.ag97 : aggOf Tryz.prog 97 = some false := by kernel_rfl
@[go_sem] theorem Tryz.ty.zr97 : zeroOf Tryz.prog 97 = some [.val .nilFunc] := by kernel_rfl
@[go_sem] theorem Tryz.ty.el97 : elemOfSlice Tryz.prog 97 = none := by kernel_rfl
@[go_sem] theorem Tryz.ty.ar97 : arrayOf Tryz.prog 97 = none := by kernel_rfl
@[go_sem] theorem Tryz.ty.st97 : isStr Tryz.prog 97 = false := by kernel_rfl
@[go_sem] theorem Tryz.ty.bo97 : isBool Tryz.prog 97 = false := by kernel_rfl
@[go_sem] theorem Tryz.ty.ki97 : kindOf Tryz.prog 97 = none := by kernel_rfl
@[go_sem] theorem Tryz.ty.if97 : isIface Tryz.prog 97 = some false := by kernel_rfl
@[go_sem] theorem Tryz.ty.sz98 : szOf Tryz.prog 98 = some 1 := by kernel_rfl
@[go_sem] theorem Tryz.ty.by98 : bytesIn Tryz.prog 98 = some 8 := by kernel_rfl
@[go_sem] theorem Tryz.ty.ag98 : aggOf Tryz.prog 98 = some false := by kernel_rfl
@[go_sem] theorem Tryz.ty.zr98 : zeroOf Tryz.prog 98 = some [.val (.pointer none)] := by kernel_rfl
@[go_sem] theorem Tryz.ty.el98 : elemOfSlice Tryz.prog 98 = none := by kernel_rfl
@[go_sem] theorem Tryz.ty.ar98 : arrayOf Tryz.prog 98 = none := by kernel_rfl
@[go_sem] theorem Tryz.ty.st98 : isStr Tryz.prog 98 = false := by kernel_rfl
@[go_sem] theorem Tryz.ty.bo98 : isBool Tryz.prog 98 = false := by kernel_rfl
@[go_sem] theorem Tryz.ty.ki98 : kindOf Tryz.prog 98 = none := by kernel_rfl
@[go_sem] theorem Tryz.ty.if98 : isIface Tryz.prog 98 = some false := by kernel_rfl
@[go_sem] theorem Tryz.ty.un98 : Tryz.prog.underlying 98 = some (.pointer 5) := by kernel_rfl
@[go_sem] theorem Tryz.ty.sz99 : szOf Tryz.prog 99 = some 1 := by kernel_rfl
@[go_sem] theorem Tryz.ty.by99 : bytesIn Tryz.prog 99 = some 8 := by kernel_rfl
@[go_sem] theorem Tryz.ty.ag99 : aggOf Tryz.prog 99 = some false := by kernel_rfl
@[go_sem] theorem Tryz.ty.zr99 : zeroOf Tryz.prog 99 = some [.val .nilFunc] := by kernel_rfl
@[go_sem] theorem Tryz.ty.el99 : elemOfSlice Tryz.prog 99 = none := by kernel_rfl
@[go_sem] theorem Tryz.ty.ar99 : arrayOf Tryz.prog 99 = none := by kernel_rfl
@[go_sem] theorem Tryz.ty.st99 : isStr Tryz.prog 99 = false := by kernel_rfl
@[go_sem] theorem Tryz.ty.bo99 : isBool Tryz.prog 99 = false := by kernel_rfl
@[go_sem] theorem Tryz.ty.ki99 : kindOf Tryz.prog 99 = none := by kernel_rfl
@[go_sem] theorem Tryz.ty.if99 : isIface Tryz.prog 99 = some false := by kernel_rfl
@[go_sem] theorem Tryz.ty.sz100 : szOf Tryz.prog 100 = some 1 := by kernel_rfl
@[go_sem] theorem Tryz.ty.by100 : bytesIn Tryz.prog 100 = some 8 := by kernel_rfl
@[go_sem] theorem Tryz.ty.ag100 : aggOf Tryz.prog 100 = some false := by kernel_rfl
@[go_sem] theorem Tryz.ty.zr100 : zeroOf Tryz.prog 100 = some [.val .nilFunc] := by kernel_rfl
@[go_sem] theorem Tryz.ty.el100 : elemOfSlice Tryz.prog 100 = none := by kernel_rfl
@[go_sem] theorem Tryz.ty.ar100 : arrayOf Tryz.prog 100 = none := by kernel_rfl
@[go_sem] theorem Tryz.ty.st100 : isStr Tryz.prog 100 = false := by kernel_rfl
@[go_sem] theorem Tryz.ty.bo100 : isBool Tryz.prog 100 = false := by kernel_rfl
@[go_sem] theorem Tryz.ty.ki100 : kindOf Tryz.prog 100 = none := by kernel_rfl
@[go_sem] theorem Tryz.ty.if100 : isIface Tryz.prog 100 = some false := by kernel_rfl
@[go_sem] theorem Tryz.ty.sz101 : szOf Tryz.prog 101 = some 1 := by kernel_rfl
@[go_sem] theorem Tryz.ty.by101 : bytesIn Tryz.prog 101 = some 8 := by kernel_rfl
@[go_sem] theorem Tryz.ty.ag101 : aggOf Tryz.prog 101 = some false := by kernel_rfl
@[go_sem] theorem Tryz.ty.zr101 : zeroOf Tryz.prog 101 = some [.val .nilFunc] := by kernel_rfl
@[go_sem] theorem Tryz.ty.el101 : elemOfSlice Tryz.prog 101 = none := by kernel_rfl
@[go_sem] theorem Tryz.ty.ar101 : arrayOf Tryz.prog 101 = none := by kernel_rfl
@[go_sem] theorem Tryz.ty.st101 : isStr Tryz.prog 101 = false := by kernel_rfl
@[go_sem] theorem Tryz.ty.bo101 : isBool Tryz.prog 101 = false := by kernel_rfl
@[go_sem] theorem Tryz.ty.ki101 : kindOf Tryz.prog 101 = none := by kernel_rfl
@[go_sem] theorem Tryz.ty.if101 : isIface Tryz.prog 101 = some false := by kernel_rfl
@[go_sem] theorem Tryz.ty.sz102 : szOf Tryz.prog 102 = some 1 := by kernel_rfl
@[go_sem] theorem Tryz.ty.by102 : bytesIn Tryz.prog 102 = some 8 := by kernel_rfl
@[go_sem] theorem Tryz.ty.ag102 : aggOf Tryz.prog 102 = some false := by kernel_rfl
@[go_sem] theorem Tryz.ty.zr102 : zeroOf Tryz.prog 102 = some [.val .nilFunc] := by kernel_rfl
@[go_sem] theorem Tryz.ty.el102 : elemOfSlice Tryz.prog 102 = none := by kernel_rfl
@[go_sem] theorem Tryz.ty.ar102 : arrayOf Tryz.prog 102 = none := by kernel_rfl
@[go_sem] theorem Tryz.ty.st102 : isStr Tryz.prog 102 = false := by kernel_rfl
@[go_sem] theorem Tryz.ty.bo102 : isBool Tryz.prog 102 = false := by kernel_rfl
@[go_sem] theorem Tryz.ty.ki102 : kindOf Tryz.prog 102 = none := by kernel_rfl
@[go_sem] theorem Tryz.ty.if102 : isIface Tryz.prog 102 = some false := by kernel_rfl
@[go_sem] theorem Tryz.ty.sz103 : szOf Tryz.prog 103 = some 1 := by kernel_rfl
@[go_sem] theorem Tryz.ty.by103 : bytesIn Tryz.prog 103 = some 8 := by kernel_rfl
@[go_sem] theorem Tryz.ty.ag103 : aggOf Tryz.prog 103 = some false := by kernel_rfl
@[go_sem] theorem Tryz.ty.zr103 : zeroOf Tryz.prog 103 = some [.val (.int .u64 0)] := by kernel_rfl
@[go_sem] theorem Tryz.ty.el103 : elemOfSlice Tryz.prog 103 = none := by kernel_rfl
@[go_sem] theorem Tryz.ty.ar103 : arrayOf Tryz.prog 103 = none := by kernel_rfl
@[go_sem] theorem Tryz.ty.st103 : isStr Tryz.prog 103 = false := by kernel_rfl
@[go_sem] theorem Tryz.ty.bo103 : isBool Tryz.prog 103 = false := by kernel_rfl
@[go_sem] theorem Tryz.ty.ki103 : kindOf Tryz.prog 103 = some .u64 := by kernel_rfl
@[go_sem] theorem Tryz.ty.if103 : isIface Tryz.prog 103 = some false := by kernel_rfl
@[go_sem] theorem Tryz.ty.un103 : Tryz.prog.underlying 103 = some (.int .u64) := by kernel_rfl
@[go_sem] theorem Tryz.ty.sz104 : szOf Tryz.prog 104 = some 1 := by kernel_rfl
@[go_sem] theorem Tryz.ty.by104 : bytesIn Tryz.prog 104 = some 8 := by kernel_rfl
@[go_sem] theorem Tryz.ty.ag104 : aggOf Tryz.prog 104 = some false := by kernel_rfl
@[go_sem] theorem Tryz.ty.zr104 : zeroOf Tryz.prog 104 = some [.val .nilFunc] := by kernel_rfl
@[go_sem] theorem Tryz.ty.el104 : elemOfSlice Tryz.prog 104 = none := by kernel_rfl
@[go_sem] theorem Tryz.ty.ar104 : arrayOf Tryz.prog 104 = none := by kernel_rfl
@[go_sem] theorem Tryz.ty.st104 : isStr Tryz.prog 104 = false := by kernel_rfl
@[go_sem] theorem Tryz.ty.bo104 : isBool Tryz.prog 104 = false := by kernel_rfl
@[go_sem] theorem Tryz.ty.ki104 : kindOf Tryz.prog 104 = none := by kernel_rfl
@[go_sem] theorem Tryz.ty.if104 : isIface Tryz.prog 104 = some false := by kernel_rfl
@[go_sem] theorem Tryz.ty.sz105 : szOf Tryz.prog 105 = some 1 := by kernel_rfl
@[go_sem] theorem Tryz.ty.by105 : bytesIn Tryz.prog 105 = some 8 := by kernel_rfl
@[go_sem] theorem Tryz.ty.ag105 : aggOf Tryz.prog 105 = some false := by kernel_rfl
@[go_sem] theorem Tryz.ty.zr105 : zeroOf Tryz.prog 105 = some [.val .nilFunc] := by kernel_rfl
@[go_sem] theorem Tryz.ty.el105 : elemOfSlice Tryz.prog 105 = none := by kernel_rfl
@[go_sem] theorem Tryz.ty.ar105 : arrayOf Tryz.prog 105 = none := by kernel_rfl
@[go_sem] theorem Tryz.ty.st105 : isStr Tryz.prog 105 = false := by kernel_rfl
@[go_sem] theorem Tryz.ty.bo105 : isBool Tryz.prog 105 = false := by kernel_rfl
@[go_sem] theorem Tryz.ty.ki105 : kindOf Tryz.prog 105 = none := by kernel_rfl
@[go_sem] theorem Tryz.ty.if105 : isIface Tryz.prog 105 = some false := by kernel_rfl
@[go_sem] theorem Tryz.ty.sz107 : szOf Tryz.prog 107 = some 1 := by kernel_rfl
@[go_sem] theorem Tryz.ty.by107 : bytesIn Tryz.prog 107 = some 8 := by kernel_rfl
@[go_sem] theorem Tryz.ty.ag107 : aggOf Tryz.prog 107 = some false := by kernel_rfl
@[go_sem] theorem Tryz.ty.zr107 : zeroOf Tryz.prog 107 = some [.val .nilFunc] := by kernel_rfl
@[go_sem] theorem Tryz.ty.el107 : elemOfSlice Tryz.prog 107 = none := by kernel_rfl
@[go_sem] theorem Tryz.ty.ar107 : arrayOf Tryz.prog 107 = none := by kernel_rfl
@[go_sem] theorem Tryz.ty.st107 : isStr Tryz.prog 107 = false := by kernel_rfl
@[go_sem] theorem Tryz.ty.bo107 : isBool Tryz.prog 107 = false := by kernel_rfl
@[go_sem] theorem Tryz.ty.ki107 : kindOf Tryz.prog 107 = none := by kernel_rfl
@[go_sem] theorem Tryz.ty.if107 : isIface Tryz.prog 107 = some false := by kernel_rfl
@[go_sem] theorem Tryz.ty.sz108 : szOf Tryz.prog 108 = some 1 := by kernel_rfl
@[go_sem] theorem Tryz.ty.by108 : bytesIn Tryz.prog 108 = some 8 := by kernel_rfl
@[go_sem] theorem Tryz.ty.ag108 : aggOf Tryz.prog 108 = some false := by kernel_rfl
@[go_sem] theorem Tryz.ty.zr108 : zeroOf Tryz.prog 108 = some [.val .nilFunc] := by kernel_rfl
@[go_sem] theorem Tryz.ty.el108 : elemOfSlice Tryz.prog 108 = none := by kernel_rfl
@[go_sem] theorem Tryz.ty.ar108 : arrayOf Tryz.prog 108 = none := by kernel_rfl
@[go_sem] theorem Tryz.ty.st108 : isStr Tryz.prog 108 = false := by kernel_rfl
@[go_sem] theorem Tryz.ty.bo108 : isBool Tryz.prog 108 = false := by kernel_rfl
@[go_sem] theorem Tryz.ty.ki108 : kindOf Tryz.prog 108 = none := by kernel_rfl
@[go_sem] theorem Tryz.ty.if108 : isIface Tryz.prog 108 = some false := by kernel_rfl
@[go_sem] theorem Tryz.ty.sz109 : szOf Tryz.prog 109 = some 1 := by kernel_rfl
@[go_sem] theorem Tryz.ty.by109 : bytesIn Tryz.prog 109 = some 8 := by kernel_rfl
@[go_sem] theorem Tryz.ty.ag109 : aggOf Tryz.prog 109 = some false := by kernel_rfl
@[go_sem] theorem Tryz.ty.zr109 : zeroOf Tryz.prog 109 = some [.val .nilFunc] := by kernel_rfl
@[go_sem] theorem Tryz.ty.el109 : elemOfSlice Tryz.prog 109 = none := by kernel_rfl
@[go_sem] theorem Tryz.ty.ar109 : arrayOf Tryz.prog 109 = none := by kernel_rfl
@[go_sem] theorem Tryz.ty.st109 : isStr Tryz.prog 109 = false := by kernel_rfl
@[go_sem] theorem Tryz.ty.bo109 : isBool Tryz.prog 109 = false := by kernel_rfl
@[go_sem] theorem Tryz.ty.ki109 : kindOf Tryz.prog 109 = none := by kernel_rfl
@[go_sem] theorem Tryz.ty.if109 : isIface Tryz.prog 109 = some false := by kernel_rfl
@[go_sem] theorem Tryz.ty.sz111 : szOf Tryz.prog 111 = some 1 := by kernel_rfl
@[go_sem] theorem Tryz.ty.by111 : bytesIn Tryz.prog 111 = some 8 := by kernel_rfl
@[go_sem] theorem Tryz.ty.ag111 : aggOf Tryz.prog 111 = some false := by kernel_rfl
@[go_sem] theorem Tryz.ty.zr111 : zeroOf Tryz.prog 111 = some [.val .nilFunc] := by kernel_rfl
@[go_sem] theorem Tryz.ty.el111 : elemOfSlice Tryz.prog 111 = none := by kernel_rfl
@[go_sem] theorem Tryz.ty.ar111 : arrayOf Tryz.prog 111 = none := by kernel_rfl
@[go_sem] theorem Tryz.ty.st111 : isStr Tryz.prog 111 = false := by kernel_rfl
@[go_sem] theorem Tryz.ty.bo111 : isBool Tryz.prog 111 = false := by kernel_rfl
@[go_sem] theorem Tryz.ty.ki111 : kindOf Tryz.prog 111 = none := by kernel_rfl
@[go_sem] theorem Tryz.ty.if111 : isIface Tryz.prog 111 = some false := by kernel_rfl
@[go_sem] theorem Tryz.ty.sz112 : szOf Tryz.prog 112 = some 1 := by kernel_rfl
@[go_sem] theorem Tryz.ty.by112 : bytesIn Tryz.prog 112 = some 8 := by kernel_rfl
@[go_sem] theorem Tryz.ty.ag112 : aggOf Tryz.prog 112 = some false := by kernel_rfl
@[go_sem] theorem Tryz.ty.zr112 : zeroOf Tryz.prog 112 = some [.val .nilFunc] := by kernel_rfl
@[go_sem] theorem Tryz.ty.el112 : elemOfSlice Tryz.prog 112 = none := by kernel_rfl
@[go_sem] theorem Tryz.ty.ar112 : arrayOf Tryz.prog 112 = none := by kernel_rfl
@[go_sem] theorem Tryz.ty.st112 : isStr Tryz.prog 112 = false := by kernel_rfl
@[go_sem] theorem Tryz.ty.bo112 : isBool Tryz.prog 112 = false := by kernel_rfl
@[go_sem] theorem Tryz.ty.ki112 : kindOf Tryz.prog 112 = none := by kernel_rfl
@[go_sem] theorem Tryz.ty.if112 : isIface Tryz.prog 112 = some false := by kernel_rfl
@[go_sem] theorem Tryz.ty.sz113 : szOf Tryz.prog 113 = some 1 := by kernel_rfl
@[go_sem] theorem Tryz.ty.by113 : bytesIn Tryz.prog 113 = some 8 := by kernel_rfl
@[go_sem] theorem Tryz.ty.ag113 : aggOf Tryz.prog 113 = some false := by kernel_rfl
@[go_sem] theorem Tryz.ty.zr113 : zeroOf Tryz.prog 113 = some [.val .nilFunc] := by kernel_rfl
@[go_sem] theorem Tryz.ty.el113 : elemOfSlice Tryz.prog 113 = none := by kernel_rfl
@[go_sem] theorem Tryz.ty.ar113 : arrayOf Tryz.prog 113 = none := by kernel_rfl
@[go_sem] theorem Tryz.ty.st113 : isStr Tryz.prog 113 = false := by kernel_rfl
@[go_sem] theorem Tryz.ty.bo113 : isBool Tryz.prog 113 = false := by kernel_rfl
@[go_sem] theorem Tryz.ty.ki113 : kindOf Tryz.prog 113 = none := by kernel_rfl
@[go_sem] theorem Tryz.ty.if113 : isIface Tryz.prog 113 = some false := by kernel_rfl
@[go_sem] theorem Tryz.ty.sz114 : szOf Tryz.prog 114 = some 1 := by kernel_rfl
@[go_sem] theorem Tryz.ty.by114 : bytesIn Tryz.prog 114 = some 8 := by kernel_rfl
@[go_sem] theorem Tryz.ty.ag114 : aggOf Tryz.prog 114 = some false := by kernel_rfl
@[go_sem] theorem Tryz.ty.zr114 : zeroOf Tryz.prog 114 = some [.val .nilFunc] := by kernel_rfl
@[go_sem] theorem Tryz.ty.el114 : elemOfSlice Tryz.prog 114 = none := by kernel_rfl
@[go_sem] theorem Tryz.ty.ar114 : arrayOf Tryz.prog 114 = none := by kernel_rfl
@[go_sem] theorem Tryz.ty.st114 : isStr Tryz.prog 114 = false := by kernel_rfl
@[go_sem] theorem Tryz.ty.bo114 : isBool Tryz.prog 114 = false := by kernel_rfl
@[go_sem] theorem Tryz.ty.ki114 : kindOf Tryz.prog 114 = none := by kernel_rfl
@[go_sem] theorem Tryz.ty.if114 : isIface Tryz.prog 114 = some false := by kernel_rfl
@[go_sem] theorem Tryz.ty.sz117 : szOf Tryz.prog 117 = some 1 := by kernel_rfl
@[go_sem] theorem Tryz.ty.by117 : bytesIn Tryz.prog 117 = some 8 := by kernel_rfl
@[go_sem] theorem Tryz.ty.ag117 : aggOf Tryz.prog 117 = some false := by kernel_rfl
@[go_sem] theorem Tryz.ty.zr117 : zeroOf Tryz.prog 117 = some [.val .nilFunc] := by kernel_rfl
@[go_sem] theorem Tryz.ty.el117 : elemOfSlice Tryz.prog 117 = none := by kernel_rfl
@[go_sem] theorem Tryz.ty.ar117 : arrayOf Tryz.prog 117 = none := by kernel_rfl
@[go_sem] theorem Tryz.ty.st117 : isStr Tryz.prog 117 = false := by kernel_rfl
@[go_sem] theorem Tryz.ty.bo117 : isBool Tryz.prog 117 = false := by kernel_rfl
@[go_sem] theorem Tryz.ty.ki117 : kindOf Tryz.prog 117 = none := by kernel_rfl
@[go_sem] theorem Tryz.ty.if117 : isIface Tryz.prog 117 = some false := by kernel_rfl
@[go_sem] theorem Tryz.ty.sz118 : szOf Tryz.prog 118 = some 1 := by kernel_rfl
@[go_sem] theorem Tryz.ty.by118 : bytesIn Tryz.prog 118 = some 8 := by kernel_rfl
@[go_sem] theorem Tryz.ty.ag118 : aggOf Tryz.prog 118 = some false := by kernel_rfl
@[go_sem] theorem Tryz.ty.zr118 : zeroOf Tryz.prog 118 = some [.val (.pointer none)] := by kernel_rfl
@[go_sem] theorem Tryz.ty.el118 : elemOfSlice Tryz.prog 118 = none := by kernel_rfl
@[go_sem] theorem Tryz.ty.ar118 : arrayOf Tryz.prog 118 = none := by kernel_rfl
@[go_sem] theorem Tryz.ty.st118 : isStr Tryz.prog 118 = false := by kernel_rfl
@[go_sem] theorem Tryz.ty.bo118 : isBool Tryz.prog 118 = false := by kernel_rfl
@[go_sem] theorem Tryz.ty.ki118 : kindOf Tryz.prog 118 = none := by kernel_rfl
@[go_sem] theorem Tryz.ty.if118 : isIface Tryz.prog 118 = some false := by kernel_rfl
@[go_sem] theorem Tryz.ty.un118 : Tryz.prog.underlying 118 = some (.pointer 137) := by kernel_rfl
@[go_sem] theorem Tryz.ty.sz119 : szOf Tryz.prog 119 = some 1 := by kernel_rfl
@[go_sem] theorem Tryz.ty.by119 : bytesIn Tryz.prog 119 = some 8 := by kernel_rfl
@[go_sem] theorem Tryz.ty.ag119 : aggOf Tryz.prog 119 = some false := by kernel_rfl
@[go_sem] theorem Tryz.ty.zr119 : zeroOf Tryz.prog 119 = some [.val .nilFunc] := by kernel_rfl
@[go_sem] theorem Tryz.ty.el119 : elemOfSlice Tryz.prog 119 = none := by kernel_rfl
@[go_sem] theorem Tryz.ty.ar119 : arrayOf Tryz.prog 119 = none := by kernel_rfl
@[go_sem] theorem Tryz.ty.st119 : isStr Tryz.prog 119 = false := by kernel_rfl
@[go_sem] theorem Tryz.ty.bo119 : isBool Tryz.prog 119 = false := by kernel_rfl
@[go_sem] theorem Tryz.ty.ki119 : kindOf Tryz.prog 119 = none := by kernel_rfl
@[go_sem] theorem Tryz.ty.if119 : isIface Tryz.prog 119 = some false := by kernel_rfl
@[go_sem] theorem Tryz.ty.sz120 : szOf Tryz.prog 120 = some 1 := by kernel_rfl
@[go_sem] theorem Tryz.ty.by120 : bytesIn Tryz.prog 120 = some 8 := by kernel_rfl
@[go_sem] theorem Tryz.ty.ag120 : aggOf Tryz.prog 120 = some false := by kernel_rfl
@[go_sem] theorem Tryz.ty.zr120 : zeroOf Tryz.prog 120 = some [.val .nilFunc] := by kernel_rfl
@[go_sem] theorem Tryz.ty.el120 : elemOfSlice Tryz.prog 120 = none := by kernel_rfl
@[go_sem] theorem Tryz.ty.ar120 : arrayOf Tryz.prog 120 = none := by kernel_rfl
@[go_sem] theorem Tryz.ty.st120 : isStr Tryz.prog 120 = false := by kernel_rfl
@[go_sem] theorem Tryz.ty.bo120 : isBool Tryz.prog 120 = false := by kernel_rfl
@[go_sem] theorem Tryz.ty.ki120 : kindOf Tryz.prog 120 = none := by kernel_rfl
@[go_sem] theorem Tryz.ty.if120 : isIface Tryz.prog 120 = some false := by kernel_rfl
@[go_sem] theorem Tryz.ty.sz121 : szOf Tryz.prog 121 = some 1 := by kernel_rfl
@[go_sem] theorem Tryz.ty.by121 : bytesIn Tryz.prog 121 = some 8 := by kernel_rfl
@[go_sem] theorem Tryz.ty.ag121 : aggOf Tryz.prog 121 = some false := by kernel_rfl
@[go_sem] theorem Tryz.ty.zr121 : zeroOf Tryz.prog 121 = some [.val .nilFunc] := by kernel_rfl
@[go_sem] theorem Tryz.ty.el121 : elemOfSlice Tryz.prog 121 = none := by kernel_rfl
@[go_sem] theorem Tryz.ty.ar121 : arrayOf Tryz.prog 121 = none := by kernel_rfl
@[go_sem] theorem Tryz.ty.st121 : isStr Tryz.prog 121 = false := by kernel_rfl
@[go_sem] theorem Tryz.ty.bo121 : isBool Tryz.prog 121 = false := by kernel_rfl
@[go_sem] theorem Tryz.ty.ki121 : kindOf Tryz.prog 121 = none := by kernel_rfl
@[go_sem] theorem Tryz.ty.if121 : isIface Tryz.prog 121 = some false := by kernel_rfl
@[go_sem] theorem Tryz.ty.sz122 : szOf Tryz.prog 122 = some 1 := by kernel_rfl
@[go_sem] theorem Tryz.ty.by122 : bytesIn Tryz.prog 122 = some 8 := by kernel_rfl
@[go_sem] theorem Tryz.ty.ag122 : aggOf Tryz.prog 122 = some false := by kernel_rfl
@[go_sem] theorem Tryz.ty.zr122 : zeroOf Tryz.prog 122 = some [.val .nilFunc] := by kernel_rfl
@[go_sem] theorem Tryz.ty.el122 : elemOfSlice Tryz.prog 122 = none := by kernel_rfl
@[go_sem] theorem Tryz.ty.ar122 : arrayOf Tryz.prog 122 = none := by kernel_rfl
@[go_sem] theorem Tryz.ty.st122 : isStr Tryz.prog 122 = false := by kernel_rfl
@[go_sem] theorem Tryz.ty.bo122 : isBool Tryz.prog 122 = false := by kernel_rfl
@[go_sem] theorem Tryz.ty.ki122 : kindOf Tryz.prog 122 = none := by kernel_rfl
@[go_sem] theorem Tryz.ty.if122 : isIface Tryz.prog 122 = some false := by kernel_rfl
@[go_sem] theorem Tryz.ty.sz123 : szOf Tryz.prog 123 = some 1 := by kernel_rfl
@[go_sem] theorem Tryz.ty.by123 : bytesIn Tryz.prog 123 = some 8 := by kernel_rfl
@[go_sem] theorem Tryz.ty.ag123 : aggOf Tryz.prog 123 = some false := by kernel_rfl
@[go_sem] theorem Tryz.ty.zr123 : zeroOf Tryz.prog 123 = some [.val .nilFunc] := by kernel_rfl
@[go_sem] theorem Tryz.ty.el123 : elemOfSlice Tryz.prog 123 = none := by kernel_rfl
@[go_sem] theorem Tryz.ty.ar123 : arrayOf Tryz.prog 123 = none := by kernel_rfl
@[go_sem] theorem Tryz.ty.st123 : isStr Tryz.prog 123 = false := by kernel_rfl
@[go_sem] theorem Tryz.ty.bo123 : isBool Tryz.prog 123 = false := by kernel_rfl
@[go_sem] theorem Tryz.ty.ki123 : kindOf Tryz.prog 123 = none := by kernel_rfl
@[go_sem] theorem Tryz.ty.if123 : isIface Tryz.prog 123 = some false := by kernel_rfl
@[go_sem] theorem Tryz.ty.sz124 : szOf Tryz.prog 124 = some 24 := by kernel_rfl
@[go_sem] theorem Tryz.ty.by124 : bytesIn Tryz.prog 124 = some 24 := by kernel_rfl
@[go_sem] theorem Tryz.ty.ag124 : aggOf Tryz.prog 124 = some true := by kernel_rfl
@[go_sem] theorem Tryz.ty.el124 : elemOfSlice Tryz.prog 124 = none := by kernel_rfl
@[go_sem] theorem Tryz.ty.ar124 : arrayOf Tryz.prog 124 = some (24, 5) := by kernel_rfl
@[go_sem] theorem Tryz.ty.st124 : isStr Tryz.prog 124 = false := by kernel_rfl
@[go_sem] theorem Tryz.ty.bo124 : isBool Tryz.prog 124 = false := by kernel_rfl
@[go_sem] theorem Tryz.ty.ki124 : kindOf Tryz.prog 124 = none := by kernel_rfl
@[go_sem] theorem Tryz.ty.if124 : isIface Tryz.prog 124 = some false := by kernel_rfl
@[go_sem] theorem Tryz.ty.bk124 : buildOk Tryz.prog 124 = true := by kernel_rfl
@[go_sem] theorem Tryz.ty.un124 : Tryz.prog.underlying 124 = some (.array 24 5) := by kernel_rfl
@[go_sem] theorem Tryz.ty.sz125 : szOf Tryz.prog 125 = some 1 := by kernel_rfl
@[go_sem] theorem Tryz.ty.by125 : bytesIn Tryz.prog 125 = some 8 := by kernel_rfl
@[go_sem] theorem Tryz.ty.ag125 : aggOf Tryz.prog 125 = some false := by kernel_rfl
@[go_sem] theorem Tryz.ty.zr125 : zeroOf Tryz.prog 125 = some [.val (.int .u64 0)] := by kernel_rfl
@[go_sem] theorem Tryz.ty.el125 : elemOfSlice Tryz.prog 125 = none := by kernel_rfl
@[go_sem] theorem Tryz.ty.ar125 : arrayOf Tryz.prog 125 = none := by kernel_rfl
@[go_sem] theorem Tryz.ty.st125 : isStr Tryz.prog 125 = false := by kernel_rfl
@[go_sem] theorem Tryz.ty.bo125 : isBool Tryz.prog 125 = false := by kernel_rfl
@[go_sem] theorem Tryz.ty.ki125 : kindOf Tryz.prog 125 = some .u64 := by kernel_rfl
@[go_sem] theorem Tryz.ty.if125 : isIface Tryz.prog 125 = some false := by kernel_rfl
@[go_sem] theorem Tryz.ty.un125 : Tryz.prog.underlying 125 = some (.int .u64) := by kernel_rfl
@[go_sem] theorem Tryz.ty.sz126 : szOf Tryz.prog 126 = some 1 := by kernel_rfl
@[go_sem] theorem Tryz.ty.by126 : bytesIn Tryz.prog 126 = some 8 := by kernel_rfl
@[go_sem] theorem Tryz.ty.ag126 : aggOf Tryz.prog 126 = some false := by kernel_rfl
@[go_sem] theorem Tryz.ty.zr126 : zeroOf Tryz.prog 126 = some [.val .nilFunc] := by kernel_rfl
@[go_sem] theorem Tryz.ty.el126 : elemOfSlice Tryz.prog 126 = none := by kernel_rfl
@[go_sem] theorem Tryz.ty.ar126 : arrayOf Tryz.prog 126 = none := by kernel_rfl
@[go_sem] theorem Tryz.ty.st126 : isStr Tryz.prog 126 = false := by kernel_rfl
@[go_sem] theorem Tryz.ty.bo126 : isBool Tryz.prog 126 = false := by kernel_rfl
@[go_sem] theorem Tryz.ty.ki126 : kindOf Tryz.prog 126 = none := by kernel_rfl
@[go_sem] theorem Tryz.ty.if126 : isIface Tryz.prog 126 = some false := by kernel_rfl
@[go_sem] theorem Tryz.ty.sz127 : szOf Tryz.prog 127 = some 1 := by kernel_rfl
@[go_sem] theorem Tryz.ty.by127 : bytesIn Tryz.prog 127 = some 8 := by kernel_rfl
@[go_sem] theorem Tryz.ty.ag127 : aggOf Tryz.prog 127 = some false := by kernel_rfl
@[go_sem] theorem Tryz.ty.zr127 : zeroOf Tryz.prog 127 = some [.val .nilFunc] := by kernel_rfl
@[go_sem] theorem Tryz.ty.el127 : elemOfSlice Tryz.prog 127 = none := by kernel_rfl
@[go_sem] theorem Tryz.ty.ar127 : arrayOf Tryz.prog 127 = none := by kernel_rfl
@[go_sem] theorem Tryz.ty.st127 : isStr Tryz.prog 127 = false := by kernel_rfl
@[go_sem] theorem Tryz.ty.bo127 : isBool Tryz.prog 127 = false := by kernel_rfl
@[go_sem] theorem Tryz.ty.ki127 : kindOf Tryz.prog 127 = none := by kernel_rfl
@[go_sem] theorem Tryz.ty.if127 : isIface Tryz.prog 127 = some false := by kernel_rfl
@[go_sem] theorem Tryz.ty.sz129 : szOf Tryz.prog 129 = some 1 := by kernel_rfl
@[go_sem] theorem Tryz.ty.by129 : bytesIn Tryz.prog 129 = some 8 := by kernel_rfl
@[go_sem] theorem Tryz.ty.ag129 : aggOf Tryz.prog 129 = some false := by kernel_rfl
@[go_sem] theorem Tryz.ty.zr129 : zeroOf Tryz.prog 129 = some [.val .nilFunc] := by kernel_rfl
@[go_sem] theorem Tryz.ty.el129 : elemOfSlice Tryz.prog 129 = none := by kernel_rfl
@[go_sem] theorem Tryz.ty.ar129 : arrayOf Tryz.prog 129 = none := by kernel_rfl
@[go_sem] theorem Tryz.ty.st129 : isStr Tryz.prog 129 = false := by kernel_rfl
@[go_sem] theorem Tryz.ty.bo129 : isBool Tryz.prog 129 = false := by kernel_rfl
@[go_sem] theorem Tryz.ty.ki129 : kindOf Tryz.prog 129 = none := by kernel_rfl
@[go_sem] theorem Tryz.ty.if129 : isIface Tryz.prog 129 = some false := by kernel_rfl
@[go_sem] theorem Tryz.ty.sz130 : szOf Tryz.prog 130 = some 1 := by kernel_rfl
@[go_sem] theorem Tryz.ty.by130 : bytesIn Tryz.prog 130 = some 4 := by kernel_rfl
@[go_sem] theorem Tryz.ty.ag130 : aggOf Tryz.prog 130 = some false := by kernel_rfl
@[go_sem] theorem Tryz.ty.zr130 : zeroOf Tryz.prog 130 = some [.val (.int .u32 0)] := by kernel_rfl
@[go_sem] theorem Tryz.ty.el130 : elemOfSlice Tryz.prog 130 = none := by kernel_rfl
@[go_sem] theorem Tryz.ty.ar130 : arrayOf Tryz.prog 130 = none := by kernel_rfl
@[go_sem] theorem Tryz.ty.st130 : isStr Tryz.prog 130 = false := by kernel_rfl
@[go_sem] theorem Tryz.ty.bo130 : isBool Tryz.prog 130 = false := by kernel_rfl
@[go_sem] theorem Tryz.ty.ki130 : kindOf Tryz.prog 130 = some .u32 := by kernel_rfl
@[go_sem] theorem Tryz.ty.if130 : isIface Tryz.prog 130 = some false := by kernel_rfl
@[go_sem] theorem Tryz.ty.un130 : Tryz.prog.underlying 130 = some (.int .u32) := by kernel_rfl
@[go_sem] theorem Tryz.ty.sz132 : szOf Tryz.prog 132 = some 1 := by kernel_rfl
@[go_sem] theorem Tryz.ty.by132 : bytesIn Tryz.prog 132 = some 8 := by kernel_rfl
@[go_sem] theorem Tryz.ty.ag132 : aggOf Tryz.prog 132 = some false := by kernel_rfl
@[go_sem] theorem Tryz.ty.zr132 : zeroOf Tryz.prog 132 = some [.val .nilFunc] := by kernel_rfl
@[go_sem] theorem Tryz.ty.el132 : elemOfSlice Tryz.prog 132 = none := by kernel_rfl
@[go_sem] theorem Tryz.ty.ar132 : arrayOf Tryz.prog 132 = none := by kernel_rfl
@[go_sem] theorem Tryz.ty.st132 : isStr Tryz.prog 132 = false := by kernel_rfl
@[go_sem] theorem Tryz.ty.bo132 : isBool Tryz.prog 132 = false := by kernel_rfl
@[go_sem] theorem Tryz.ty.ki132 : kindOf Tryz.prog 132 = none := by kernel_rfl
@[go_sem] theorem Tryz.ty.if132 : isIface Tryz.prog 132 = some false := by kernel_rfl
@[go_sem] theorem Tryz.ty.sz134 : szOf Tryz.prog 134 = some 1 := by kernel_rfl
@[go_sem] theorem Tryz.ty.by134 : bytesIn Tryz.prog 134 = some 8 := by kernel_rfl
@[go_sem] theorem Tryz.ty.ag134 : aggOf Tryz.prog 134 = some false := by kernel_rfl
@[go_sem] theorem Tryz.ty.zr134 : zeroOf Tryz.prog 134 = some [.val .nilFunc] := by kernel_rfl
@[go_sem] theorem Tryz.ty.el134 : elemOfSlice Tryz.prog 134 = none := by kernel_rfl
@[go_sem] theorem Tryz.ty.ar134 : arrayOf Tryz.prog 134 = none := by kernel_rfl
@[go_sem] theorem Tryz.ty.st134 : isStr Tryz.prog 134 = false := by kernel_rfl
@[go_sem] theorem Tryz.ty.bo134 : isBool Tryz.prog 134 = false := by kernel_rfl
@[go_sem] theorem Tryz.ty.ki134 : kindOf Tryz.prog 134 = none := by kernel_rfl
@[go_sem] theorem Tryz.ty.if134 : isIface Tryz.prog 134 = some false := by kernel_rfl
@[go_sem] theorem Tryz.ty.sz135 : szOf Tryz.prog 135 = some 1 := by kernel_rfl
@[go_sem] theorem Tryz.ty.by135 : bytesIn Tryz.prog 135 = some 8 := by kernel_rfl
@[go_sem] theorem Tryz.ty.ag135 : aggOf Tryz.prog 135 = some false := by kernel_rfl
@[go_sem] theorem Tryz.ty.zr135 : zeroOf Tryz.prog 135 = some [.val .nilFunc] := by kernel_rfl
@[go_sem] theorem Tryz.ty.el135 : elemOfSlice Tryz.prog 135 = none := by kernel_rfl
@[go_sem] theorem Tryz.ty.ar135 : arrayOf Tryz.prog 135 = none := by kernel_rfl
@[go_sem] theorem Tryz.ty.st135 : isStr Tryz.prog 135 = false := by kernel_rfl
@[go_sem] theorem Tryz.ty.bo135 : isBool Tryz.prog 135 = false := by kernel_rfl
@[go_sem] theorem Tryz.ty.ki135 : kindOf Tryz.prog 135 = none := by kernel_rfl
@[go_sem] theorem Tryz.ty.if135 : isIface Tryz.prog 135 = some false := by kernel_rfl
@[go_sem] theorem Tryz.ty.sz136 : szOf Tryz.prog 136 = some 3 := by kernel_rfl
@[go_sem] theorem Tryz.ty.by136 : bytesIn Tryz.prog 136 = some 48 := by kernel_rfl
@[go_sem] theorem Tryz.ty.ag136 : aggOf Tryz.prog 136 = some true := by kernel_rfl
@[go_sem] theorem Tryz.ty.zr136 : zeroOf Tryz.prog 136 = some [.val (.string ByteArray.empty), .val (.string ByteArray.empty), .val .nilIface] := by kernel_rfl
@[go_sem] theorem Tryz.ty.el136 : elemOfSlice Tryz.prog 136 = none := by kernel_rfl
@[go_sem] theorem Tryz.ty.ar136 : arrayOf Tryz.prog 136 = none := by kernel_rfl
@[go_sem] theorem Tryz.ty.st136 : isStr Tryz.prog 136 = false := by kernel_rfl
@[go_sem] theorem Tryz.ty.bo136 : isBool Tryz.prog 136 = false := by kernel_rfl
@[go_sem] theorem Tryz.ty.ki136 : kindOf Tryz.prog 136 = none := by kernel_rfl
@[go_sem] theorem Tryz.ty.if136 : isIface Tryz.prog 136 = some false := by kernel_rfl
@[go_sem] theorem Tryz.ty.fo0_136 : fieldOf Tryz.prog 136 0 = some (9, 0) := by kernel_rfl
@[go_sem] theorem Tryz.ty.fp0_136 : fieldPl Tryz.prog 136 0 = some (0, 1) := by kernel_rfl
@[go_sem] theorem Tryz.ty.fo1_136 : fieldOf Tryz.prog 136 1 = some (9, 1) := by kernel_rfl
@[go_sem] theorem Tryz.ty.fp1_136 : fieldPl Tryz.prog 136 1 = some (1, 1) := by kernel_rfl
@[go_sem] theorem Tryz.ty.fo2_136 : fieldOf Tryz.prog 136 2 = some (86, 2) := by kernel_rfl
@[go_sem] theorem Tryz.ty.fp2_136 : fieldPl Tryz.prog 136 2 = some (2, 1) := by kernel_rfl
@[go_sem] theorem Tryz.ty.bk136 : buildOk Tryz.prog 136 = true := by kernel_rfl
@[go_sem] theorem Tryz.ty.sz137 : szOf Tryz.prog 137 = some 3 := by kernel_rfl
@[go_sem] theorem Tryz.ty.by137 : bytesIn Tryz.prog 137 = some 48 := by kernel_rfl
@[go_sem] theorem Tryz.ty.ag137 : aggOf Tryz.prog 137 = some true := by kernel_rfl
@[go_sem] theorem Tryz.ty.zr137 : zeroOf Tryz.prog 137 = some [.val (.string ByteArray.empty), .val (.string ByteArray.empty), .val .nilIface] := by kernel_rfl
@[go_sem] theorem Tryz.ty.el137 : elemOfSlice Tryz.prog 137 = none := by kernel_rfl
@[go_sem] theorem Tryz.ty.ar137 : arrayOf Tryz.prog 137 = none := by kernel_rfl
@[go_sem] theorem Tryz.ty.st137 : isStr Tryz.prog 137 = false := by kernel_rfl
@[go_sem] theorem Tryz.ty.bo137 : isBool Tryz.prog 137 = false := by kernel_rfl
@[go_sem] theorem Tryz.ty.ki137 : kindOf Tryz.prog 137 = none := by kernel_rfl
@[go_sem] theorem Tryz.ty.if137 : isIface Tryz.prog 137 = some false := by kernel_rfl
@[go_sem] theorem Tryz.ty.fo0_137 : fieldOf Tryz.prog 137 0 = some (9, 0) := by kernel_rfl
@[go_sem] theorem Tryz.ty.fp0_137 : fieldPl Tryz.prog 137 0 = some (0, 1) := by kernel_rfl
@[go_sem] theorem Tryz.ty.fo1_137 : fieldOf Tryz.prog 137 1 = some (9, 1) := by kernel_rfl
@[go_sem] theorem Tryz.ty.fp1_137 : fieldPl Tryz.prog 137 1 = some (1, 1) := by kernel_rfl
@[go_sem] theorem Tryz.ty.fo2_137 : fieldOf Tryz.prog 137 2 = some (86, 2) := by kernel_rfl
@[go_sem] theorem Tryz.ty.fp2_137 : fieldPl Tryz.prog 137 2 = some (2, 1) := by kernel_rfl
@[go_sem] theorem Tryz.ty.bk137 : buildOk Tryz.prog 137 = true := by kernel_rfl
@[go_sem] theorem Tryz.ty.sz138 : szOf Tryz.prog 138 = some 1 := by kernel_rfl
@[go_sem] theorem Tryz.ty.by138 : bytesIn Tryz.prog 138 = some 8 := by kernel_rfl
@[go_sem] theorem Tryz.ty.ag138 : aggOf Tryz.prog 138 = some false := by kernel_rfl
@[go_sem] theorem Tryz.ty.zr138 : zeroOf Tryz.prog 138 = some [.val .nilFunc] := by kernel_rfl
@[go_sem] theorem Tryz.ty.el138 : elemOfSlice Tryz.prog 138 = none := by kernel_rfl
@[go_sem] theorem Tryz.ty.ar138 : arrayOf Tryz.prog 138 = none := by kernel_rfl
@[go_sem] theorem Tryz.ty.st138 : isStr Tryz.prog 138 = false := by kernel_rfl
@[go_sem] theorem Tryz.ty.bo138 : isBool Tryz.prog 138 = false := by kernel_rfl
@[go_sem] theorem Tryz.ty.ki138 : kindOf Tryz.prog 138 = none := by kernel_rfl
@[go_sem] theorem Tryz.ty.if138 : isIface Tryz.prog 138 = some false := by kernel_rfl
@[go_sem] theorem Tryz.ty.sz139 : szOf Tryz.prog 139 = some 256 := by kernel_rfl
@[go_sem] theorem Tryz.ty.by139 : bytesIn Tryz.prog 139 = some 256 := by kernel_rfl
@[go_sem] theorem Tryz.ty.ag139 : aggOf Tryz.prog 139 = some true := by kernel_rfl
@[go_sem] theorem Tryz.ty.el139 : elemOfSlice Tryz.prog 139 = none := by kernel_rfl
@[go_sem] theorem Tryz.ty.ar139 : arrayOf Tryz.prog 139 = some (256, 5) := by kernel_rfl
@[go_sem] theorem Tryz.ty.st139 : isStr Tryz.prog 139 = false := by kernel_rfl
@[go_sem] theorem Tryz.ty.bo139 : isBool Tryz.prog 139 = false := by kernel_rfl
@[go_sem] theorem Tryz.ty.ki139 : kindOf Tryz.prog 139 = none := by kernel_rfl
@[go_sem] theorem Tryz.ty.if139 : isIface Tryz.prog 139 = some false := by kernel_rfl
@[go_sem] theorem Tryz.ty.bk139 : buildOk Tryz.prog 139 = true := by kernel_rfl
@[go_sem] theorem Tryz.ty.un139 : Tryz.prog.underlying 139 = some (.array 256 5) := by kernel_rfl
@[go_sem] theorem Tryz.ty.sz140 : szOf Tryz.prog 140 = some 2 := by kernel_rfl
@[go_sem] theorem Tryz.ty.by140 : bytesIn Tryz.prog 140 = some 2 := by kernel_rfl
@[go_sem] theorem Tryz.ty.ag140 : aggOf Tryz.prog 140 = some true := by kernel_rfl
@[go_sem] theorem Tryz.ty.zr140 : zeroOf Tryz.prog 140 = some [.val (.int .u8 0), .val (.int .u8 0)] := by kernel_rfl
@[go_sem] theorem Tryz.ty.el140 : elemOfSlice Tryz.prog 140 = none := by kernel_rfl
@[go_sem] theorem Tryz.ty.ar140 : arrayOf Tryz.prog 140 = none := by kernel_rfl
@[go_sem] theorem Tryz.ty.st140 : isStr Tryz.prog 140 = false := by kernel_rfl
@[go_sem] theorem Tryz.ty.bo140 : isBool Tryz.prog 140 = false := by kernel_rfl
@[go_sem] theorem Tryz.ty.ki140 : kindOf Tryz.prog 140 = none := by kernel_rfl
@[go_sem] theorem Tryz.ty.if140 : isIface Tryz.prog 140 = some false := by kernel_rfl
@[go_sem] theorem Tryz.ty.fo0_140 : fieldOf Tryz.prog 140 0 = some (5, 0) := by kernel_rfl
@[go_sem] theorem Tryz.ty.fp0_140 : fieldPl Tryz.prog 140 0 = some (0, 1) := by kernel_rfl
@[go_sem] theorem Tryz.ty.fo1_140 : fieldOf Tryz.prog 140 1 = some (5, 1) := by kernel_rfl
@[go_sem] theorem Tryz.ty.fp1_140 : fieldPl Tryz.prog 140 1 = some (1, 1) := by kernel_rfl
@[go_sem] theorem Tryz.ty.bk140 : buildOk Tryz.prog 140 = true := by kernel_rfl
@[go_sem] theorem Tryz.ty.sz141 : szOf Tryz.prog 141 = some 2 := by kernel_rfl
@[go_sem] theorem Tryz.ty.by141 : bytesIn Tryz.prog 141 = some 2 := by kernel_rfl
@[go_sem] theorem Tryz.ty.ag141 : aggOf Tryz.prog 141 = some true := by kernel_rfl
@[go_sem] theorem Tryz.ty.zr141 : zeroOf Tryz.prog 141 = some [.val (.int .u8 0), .val (.int .u8 0)] := by kernel_rfl
@[go_sem] theorem Tryz.ty.el141 : elemOfSlice Tryz.prog 141 = none := by kernel_rfl
@[go_sem] theorem Tryz.ty.ar141 : arrayOf Tryz.prog 141 = none := by kernel_rfl
@[go_sem] theorem Tryz.ty.st141 : isStr Tryz.prog 141 = false := by kernel_rfl
@[go_sem] theorem Tryz.ty.bo141 : isBool Tryz.prog 141 = false := by kernel_rfl
@[go_sem] theorem Tryz.ty.ki141 : kindOf Tryz.prog 141 = none := by kernel_rfl
@[go_sem] theorem Tryz.ty.if141 : isIface Tryz.prog 141 = some false := by kernel_rfl
@[go_sem] theorem Tryz.ty.fo0_141 : fieldOf Tryz.prog 141 0 = some (5, 0) := by kernel_rfl
@[go_sem] theorem Tryz.ty.fp0_141 : fieldPl Tryz.prog 141 0 = some (0, 1) := by kernel_rfl
@[go_sem] theorem Tryz.ty.fo1_141 : fieldOf Tryz.prog 141 1 = some (5, 1) := by kernel_rfl
@[go_sem] theorem Tryz.ty.fp1_141 : fieldPl Tryz.prog 141 1 = some (1, 1) := by kernel_rfl
@[go_sem] theorem Tryz.ty.bk141 : buildOk Tryz.prog 141 = true := by kernel_rfl
@[go_sem] theorem Tryz.ty.sz142 : szOf Tryz.prog 142 = some 32 := by kernel_rfl
@[go_sem] theorem Tryz.ty.by142 : bytesIn Tryz.prog 142 = some 32 := by kernel_rfl
@[go_sem] theorem Tryz.ty.ag142 : aggOf Tryz.prog 142 = some true := by kernel_rfl
@[go_sem] theorem Tryz.ty.el142 : elemOfSlice Tryz.prog 142 = none := by kernel_rfl
@[go_sem] theorem Tryz.ty.ar142 : arrayOf Tryz.prog 142 = some (16, 141) := by kernel_rfl
@[go_sem] theorem Tryz.ty.st142 : isStr Tryz.prog 142 = false := by kernel_rfl
@[go_sem] theorem Tryz.ty.bo142 : isBool Tryz.prog 142 = false := by kernel_rfl
@[go_sem] theorem Tryz.ty.ki142 : kindOf Tryz.prog 142 = none := by kernel_rfl
@[go_sem] theorem Tryz.ty.if142 : isIface Tryz.prog 142 = some false := by kernel_rfl
@[go_sem] theorem Tryz.ty.bk142 : buildOk Tryz.prog 142 = true := by kernel_rfl
@[go_sem] theorem Tryz.ty.un142 : Tryz.prog.underlying 142 = some (.array 16 141) := by kernel_rfl
@[go_sem] theorem Tryz.ty.sz143 : szOf Tryz.prog 143 = some 1 := by kernel_rfl
@[go_sem] theorem Tryz.ty.by143 : bytesIn Tryz.prog 143 = some 8 := by kernel_rfl
@[go_sem] theorem Tryz.ty.ag143 : aggOf Tryz.prog 143 = some false := by kernel_rfl
@[go_sem] theorem Tryz.ty.zr143 : zeroOf Tryz.prog 143 = some [.val .nilFunc] := by kernel_rfl
@[go_sem] theorem Tryz.ty.el143 : elemOfSlice Tryz.prog 143 = none := by kernel_rfl
@[go_sem] theorem Tryz.ty.ar143 : arrayOf Tryz.prog 143 = none := by kernel_rfl
@[go_sem] theorem Tryz.ty.st143 : isStr Tryz.prog 143 = false := by kernel_rfl
@[go_sem] theorem Tryz.ty.bo143 : isBool Tryz.prog 143 = false := by kernel_rfl
@[go_sem] theorem Tryz.ty.ki143 : kindOf Tryz.prog 143 = none := by kernel_rfl
@[go_sem] theorem Tryz.ty.if143 : isIface Tryz.prog 143 = some false := by kernel_rfl
@[go_sem] theorem Tryz.ty.sz144 : szOf Tryz.prog 144 = some 20 := by kernel_rfl
@[go_sem] theorem Tryz.ty.by144 : bytesIn Tryz.prog 144 = some 160 := by kernel_rfl
@[go_sem] theorem Tryz.ty.ag144 : aggOf Tryz.prog 144 = some true := by kernel_rfl
@[go_sem] theorem Tryz.ty.el144 : elemOfSlice Tryz.prog 144 = none := by kernel_rfl
@[go_sem] theorem Tryz.ty.ar144 : arrayOf Tryz.prog 144 = some (20, 125) := by kernel_rfl
@[go_sem] theorem Tryz.ty.st144 : isStr Tryz.prog 144 = false := by kernel_rfl
@[go_sem] theorem Tryz.ty.bo144 : isBool Tryz.prog 144 = false := by kernel_rfl
@[go_sem] theorem Tryz.ty.ki144 : kindOf Tryz.prog 144 = none := by kernel_rfl
@[go_sem] theorem Tryz.ty.if144 : isIface Tryz.prog 144 = some false := by kernel_rfl
@[go_sem] theorem Tryz.ty.bk144 : buildOk Tryz.prog 144 = true := by kernel_rfl
@[go_sem] theorem Tryz.ty.un144 : Tryz.prog.underlying 144 = some (.array 20 125) := by kernel_rfl
@[go_sem] theorem Tryz.ty.sz145 : szOf Tryz.prog 145 = some 65 := by kernel_rfl
@[go_sem] theorem Tryz.ty.by145 : bytesIn Tryz.prog 145 = some 65 := by kernel_rfl
@[go_sem] theorem Tryz.ty.ag145 : aggOf Tryz.prog 145 = some true := by kernel_rfl
@[go_sem] theorem Tryz.ty.el145 : elemOfSlice Tryz.prog 145 = none := by kernel_rfl
@[go_sem] theorem Tryz.ty.ar145 : arrayOf Tryz.prog 145 = some (65, 5) := by kernel_rfl
@[go_sem] theorem Tryz.ty.st145 : isStr Tryz.prog 145 = false := by kernel_rfl
@[go_sem] theorem Tryz.ty.bo145 : isBool Tryz.prog 145 = false := by kernel_rfl
@[go_sem] theorem Tryz.ty.ki145 : kindOf Tryz.prog 145 = none := by kernel_rfl
@[go_sem] theorem Tryz.ty.if145 : isIface Tryz.prog 145 = some false := by kernel_rfl
@[go_sem] theorem Tryz.ty.bk145 : buildOk Tryz.prog 145 = true := by kernel_rfl
@[go_sem] theorem Tryz.ty.un145 : Tryz.prog.underlying 145 = some (.array 65 5) := by kernel_rfl
@[go_sem] theorem Tryz.ty.sz146 : szOf Tryz.prog 146 = some 1 := by kernel_rfl
@[go_sem] theorem Tryz.ty.by146 : bytesIn Tryz.prog 146 = some 8 := by kernel_rfl
@[go_sem] theorem Tryz.ty.ag146 : aggOf Tryz.prog 146 = some false := by kernel_rfl
@[go_sem] theorem Tryz.ty.zr146 : zeroOf Tryz.prog 146 = some [.val .nilFunc] := by kernel_rfl
@[go_sem] theorem Tryz.ty.el146 : elemOfSlice Tryz.prog 146 = none := by kernel_rfl
@[go_sem] theorem Tryz.ty.ar146 : arrayOf Tryz.prog 146 = none := by kernel_rfl
@[go_sem] theorem Tryz.ty.st146 : isStr Tryz.prog 146 = false := by kernel_rfl
@[go_sem] theorem Tryz.ty.bo146 : isBool Tryz.prog 146 = false := by kernel_rfl
@[go_sem] theorem Tryz.ty.ki146 : kindOf Tryz.prog 146 = none := by kernel_rfl
@[go_sem] theorem Tryz.ty.if146 : isIface Tryz.prog 146 = some false := by kernel_rfl
@[go_sem] theorem Tryz.ty.sz147 : szOf Tryz.prog 147 = some 1 := by kernel_rfl
@[go_sem] theorem Tryz.ty.by147 : bytesIn Tryz.prog 147 = some 8 := by kernel_rfl
@[go_sem] theorem Tryz.ty.ag147 : aggOf Tryz.prog 147 = some false := by kernel_rfl
@[go_sem] theorem Tryz.ty.zr147 : zeroOf Tryz.prog 147 = some [.val .nilFunc] := by kernel_rfl
@[go_sem] theorem Tryz.ty.el147 : elemOfSlice Tryz.prog 147 = none := by kernel_rfl
@[go_sem] theorem Tryz.ty.ar147 : arrayOf Tryz.prog 147 = none := by kernel_rfl
@[go_sem] theorem Tryz.ty.st147 : isStr Tryz.prog 147 = false := by kernel_rfl
@[go_sem] theorem Tryz.ty.bo147 : isBool Tryz.prog 147 = false := by kernel_rfl
@[go_sem] theorem Tryz.ty.ki147 : kindOf Tryz.prog 147 = none := by kernel_rfl
@[go_sem] theorem Tryz.ty.if147 : isIface Tryz.prog 147 = some false := by kernel_rfl
@[go_sem] theorem Tryz.ty.sz148 : szOf Tryz.prog 148 = some 1 := by kernel_rfl
@[go_sem] theorem Tryz.ty.by148 : bytesIn Tryz.prog 148 = some 8 := by kernel_rfl
@[go_sem] theorem Tryz.ty.ag148 : aggOf Tryz.prog 148 = some false := by kernel_rfl
@[go_sem] theorem Tryz.ty.zr148 : zeroOf Tryz.prog 148 = some [.val .nilFunc] := by kernel_rfl
@[go_sem] theorem Tryz.ty.el148 : elemOfSlice Tryz.prog 148 = none := by kernel_rfl
@[go_sem] theorem Tryz.ty.ar148 : arrayOf Tryz.prog 148 = none := by kernel_rfl
@[go_sem] theorem Tryz.ty.st148 : isStr Tryz.prog 148 = false := by kernel_rfl
@[go_sem] theorem Tryz.ty.bo148 : isBool Tryz.prog 148 = false := by kernel_rfl
@[go_sem] theorem Tryz.ty.ki148 : kindOf Tryz.prog 148 = none := by kernel_rfl
@[go_sem] theorem Tryz.ty.if148 : isIface Tryz.prog 148 = some false := by kernel_rfl
@[go_sem] theorem Tryz.ty.sz149 : szOf Tryz.prog 149 = some 1 := by kernel_rfl
@[go_sem] theorem Tryz.ty.by149 : bytesIn Tryz.prog 149 = some 8 := by kernel_rfl
@[go_sem] theorem Tryz.ty.ag149 : aggOf Tryz.prog 149 = some false := by kernel_rfl
@[go_sem] theorem Tryz.ty.zr149 : zeroOf Tryz.prog 149 = some [.val (.pointer none)] := by kernel_rfl
@[go_sem] theorem Tryz.ty.el149 : elemOfSlice Tryz.prog 149 = none := by kernel_rfl
@[go_sem] theorem Tryz.ty.ar149 : arrayOf Tryz.prog 149 = none := by kernel_rfl
@[go_sem] theorem Tryz.ty.st149 : isStr Tryz.prog 149 = false := by kernel_rfl
@[go_sem] theorem Tryz.ty.bo149 : isBool Tryz.prog 149 = false := by kernel_rfl
@[go_sem] theorem Tryz.ty.ki149 : kindOf Tryz.prog 149 = none := by kernel_rfl
@[go_sem] theorem Tryz.ty.if149 : isIface Tryz.prog 149 = some false := by kernel_rfl
@[go_sem] theorem Tryz.ty.un149 : Tryz.prog.underlying 149 = some (.pointer 151) := by kernel_rfl
@[go_sem] theorem Tryz.ty.sz150 : szOf Tryz.prog 150 = some 1 := by kernel_rfl
@[go_sem] theorem Tryz.ty.by150 : bytesIn Tryz.prog 150 = some 16 := by kernel_rfl
@[go_sem] theorem Tryz.ty.ag150 : aggOf Tryz.prog 150 = some true := by kernel_rfl
@[go_sem] theorem Tryz.ty.zr150 : zeroOf Tryz.prog 150 = some [.val (.string ByteArray.empty)] := by kernel_rfl
@[go_sem] theorem Tryz.ty.el150 : elemOfSlice Tryz.prog 150 = none := by kernel_rfl
@[go_sem] theorem Tryz.ty.ar150 : arrayOf Tryz.prog 150 = none := by kernel_rfl
@[go_sem] theorem Tryz.ty.st150 : isStr Tryz.prog 150 = false := by kernel_rfl
@[go_sem] theorem Tryz.ty.bo150 : isBool Tryz.prog 150 = false := by kernel_rfl
@[go_sem] theorem Tryz.ty.ki150 : kindOf Tryz.prog 150 = none := by kernel_rfl
@[go_sem] theorem Tryz.ty.if150 : isIface Tryz.prog 150 = some false := by kernel_rfl
@[go_sem] theorem Tryz.ty.fo0_150 : fieldOf Tryz.prog 150 0 = some (9, 0) := by kernel_rfl
@[go_sem] theorem Tryz.ty.fp0_150 : fieldPl Tryz.prog 150 0 = some (0, 1) := by kernel_rfl
@[go_sem] theorem Tryz.ty.bk150 : buildOk Tryz.prog 150 = true := by kernel_rfl
@[go_sem] theorem Tryz.ty.sz151 : szOf Tryz.prog 151 = some 1 := by kernel_rfl
@[go_sem] theorem Tryz.ty.by151 : bytesIn Tryz.prog 151 = some 16 := by kernel_rfl
@[go_sem] theorem Tryz.ty.ag151 : aggOf Tryz.prog 151 = some true := by kernel_rfl
@[go_sem] theorem Tryz.ty.zr151 : zeroOf Tryz.prog 151 = some [.val (.string ByteArray.empty)] := by kernel_rfl
@[go_sem] theorem Tryz.ty.el151 : elemOfSlice Tryz.prog 151 = none := by kernel_rfl
@[go_sem] theorem Tryz.ty.ar151 : arrayOf Tryz.prog 151 = none := by kernel_rfl
@[go_sem] theorem Tryz.ty.st151 : isStr Tryz.prog 151 = false := by kernel_rfl
@[go_sem] theorem Tryz.ty.bo151 : isBool Tryz.prog 151 = false := by kernel_rfl
@[go_sem] theorem Tryz.ty.ki151 : kindOf Tryz.prog 151 = none := by kernel_rfl
@[go_sem] theorem Tryz.ty.if151 : isIface Tryz.prog 151 = some false := by kernel_rfl
@[go_sem] theorem Tryz.ty.fo0_151 : fieldOf Tryz.prog 151 0 = some (9, 0) := by kernel_rfl
@[go_sem] theorem Tryz.ty.fp0_151 : fieldPl Tryz.prog 151 0 = some (0, 1) := by kernel_rfl
@[go_sem] theorem Tryz.ty.bk151 : buildOk Tryz.prog 151 = true := by kernel_rfl
@[go_sem] theorem Tryz.ty.sz152 : szOf Tryz.prog 152 = some 1 := by kernel_rfl
@[go_sem] theorem Tryz.ty.by152 : bytesIn Tryz.prog 152 = some 8 := by kernel_rfl
@[go_sem] theorem Tryz.ty.ag152 : aggOf Tryz.prog 152 = some false := by kernel_rfl
@[go_sem] theorem Tryz.ty.zr152 : zeroOf Tryz.prog 152 = some [.val .nilFunc] := by kernel_rfl
@[go_sem] theorem Tryz.ty.el152 : elemOfSlice Tryz.prog 152 = none := by kernel_rfl
@[go_sem] theorem Tryz.ty.ar152 : arrayOf Tryz.prog 152 = none := by kernel_rfl
@[go_sem] theorem Tryz.ty.st152 : isStr Tryz.prog 152 = false := by kernel_rfl
@[go_sem] theorem Tryz.ty.bo152 : isBool Tryz.prog 152 = false := by kernel_rfl
@[go_sem] theorem Tryz.ty.ki152 : kindOf Tryz.prog 152 = none := by kernel_rfl
@[go_sem] theorem Tryz.ty.if152 : isIface Tryz.prog 152 = some false := by kernel_rfl
@[go_sem] theorem Tryz.ty.sz153 : szOf Tryz.prog 153 = some 32 := by kernel_rfl
@[go_sem] theorem Tryz.ty.by153 : bytesIn Tryz.prog 153 = some 32 := by kernel_rfl
@[go_sem] theorem Tryz.ty.ag153 : aggOf Tryz.prog 153 = some true := by kernel_rfl
@[go_sem] theorem Tryz.ty.el153 : elemOfSlice Tryz.prog 153 = none := by kernel_rfl
@[go_sem] theorem Tryz.ty.ar153 : arrayOf Tryz.prog 153 = some (32, 5) := by kernel_rfl
@[go_sem] theorem Tryz.ty.st153 : isStr Tryz.prog 153 = false := by kernel_rfl
@[go_sem] theorem Tryz.ty.bo153 : isBool Tryz.prog 153 = false := by kernel_rfl
@[go_sem] theorem Tryz.ty.ki153 : kindOf Tryz.prog 153 = none := by kernel_rfl
@[go_sem] theorem Tryz.ty.if153 : isIface Tryz.prog 153 = some false := by kernel_rfl
@[go_sem] theorem Tryz.ty.bk153 : buildOk Tryz.prog 153 = true := by kernel_rfl
@[go_sem] theorem Tryz.ty.un153 : Tryz.prog.underlying 153 = some (.array 32 5) := by kernel_rfl
@[go_sem] theorem Tryz.ty.sz154 : szOf Tryz.prog 154 = some 64 := by kernel_rfl
@[go_sem] theorem Tryz.ty.by154 : bytesIn Tryz.prog 154 = some 64 := by kernel_rfl
@[go_sem] theorem Tryz.ty.ag154 : aggOf Tryz.prog 154 = some true := by kernel_rfl
@[go_sem] theorem Tryz.ty.el154 : elemOfSlice Tryz.prog 154 = none := by kernel_rfl
@[go_sem] theorem Tryz.ty.ar154 : arrayOf Tryz.prog 154 = some (64, 5) := by kernel_rfl
@[go_sem] theorem Tryz.ty.st154 : isStr Tryz.prog 154 = false := by kernel_rfl
@[go_sem] theorem Tryz.ty.bo154 : isBool Tryz.prog 154 = false := by kernel_rfl
@[go_sem] theorem Tryz.ty.ki154 : kindOf Tryz.prog 154 = none := by kernel_rfl
@[go_sem] theorem Tryz.ty.if154 : isIface Tryz.prog 154 = some false := by kernel_rfl
@[go_sem] theorem Tryz.ty.bk154 : buildOk Tryz.prog 154 = true := by kernel_rfl
@[go_sem] theorem Tryz.ty.un154 : Tryz.prog.underlying 154 = some (.array 64 5) := by kernel_rfl
@[go_sem] theorem Tryz.ty.sz155 : szOf Tryz.prog 155 = some 4 := by kernel_rfl
@[go_sem] theorem Tryz.ty.by155 : bytesIn Tryz.prog 155 = some 40 := by kernel_rfl
@[go_sem] theorem Tryz.ty.ag155 : aggOf Tryz.prog 155 = some true := by kernel_rfl
@[go_sem] theorem Tryz.ty.zr155 : zeroOf Tryz.prog 155 = some [.val (.pointer none), .val (.pointer none), .val (.pointer none), .val (.string ByteArray.empty)] := by kernel_rfl
@[go_sem] theorem Tryz.ty.el155 : elemOfSlice Tryz.prog 155 = none := by kernel_rfl
@[go_sem] theorem Tryz.ty.ar155 : arrayOf Tryz.prog 155 = none := by kernel_rfl
@[go_sem] theorem Tryz.ty.st155 : isStr Tryz.prog 155 = false := by kernel_rfl
@[go_sem] theorem Tryz.ty.bo155 : isBool Tryz.prog 155 = false := by kernel_rfl
@[go_sem] theorem Tryz.ty.ki155 : kindOf Tryz.prog 155 = none := by kernel_rfl
@[go_sem] theorem Tryz.ty.if155 : isIface Tryz.prog 155 = some false := by kernel_rfl
@[go_sem] theorem Tryz.ty.fo0_155 : fieldOf Tryz.prog 155 0 = some (17, 0) := by kernel_rfl
@[go_sem] theorem Tryz.ty.fp0_155 : fieldPl Tryz.prog 155 0 = some (0, 1) := by kernel_rfl
@[go_sem] theorem Tryz.ty.fo1_155 : fieldOf Tryz.prog 155 1 = some (17, 1) := by kernel_rfl
@[go_sem] theorem Tryz.ty.fp1_155 : fieldPl Tryz.prog 155 1 = some (1, 1) := by kernel_rfl
@[go_sem] theorem Tryz.ty.fo2_155 : fieldOf Tryz.prog 155 2 = some (17, 2) := by kernel_rfl
@[go_sem] theorem Tryz.ty.fp2_155 : fieldPl Tryz.prog 155 2 = some (2, 1) := by kernel_rfl
@[go_sem] theorem Tryz.ty.fo3_155 : fieldOf Tryz.prog 155 3 = some (9, 3) := by kernel_rfl
@[go_sem] theorem Tryz.ty.fp3_155 : fieldPl Tryz.prog 155 3 = some (3, 1) := by kernel_rfl
@[go_sem] theorem Tryz.ty.bk155 : buildOk Tryz.prog 155 = true := by kernel_rfl
@[go_sem] theorem Tryz.ty.sz157 : szOf Tryz.prog 157 = some 0 := by kernel_rfl
@[go_sem] theorem Tryz.ty.by157 : bytesIn Tryz.prog 157 = some 0 := by kernel_rfl
@[go_sem] theorem Tryz.ty.ag157 : aggOf Tryz.prog 157 = some true := by kernel_rfl
@[go_sem] theorem Tryz.ty.zr157 : zeroOf Tryz.prog 157 = some [] := by kernel_rfl
@[go_sem] theorem Tryz.ty.el157 : elemOfSlice Tryz.prog 157 = none := by kernel_rfl
@[go_sem] theorem Tryz.ty.ar157 : arrayOf Tryz.prog 157 = some (0, 16) := by kernel_rfl
@[go_sem] theorem Tryz.ty.st157 : isStr Tryz.prog 157 = false := by kernel_rfl
@[go_sem] theorem Tryz.ty.bo157 : isBool Tryz.prog 157 = false := by kernel_rfl
@[go_sem] theorem Tryz.ty.ki157 : kindOf Tryz.prog 157 = none := by kernel_rfl
@[go_sem] theorem Tryz.ty.if157 : isIface Tryz.prog 157 = some false := by kernel_rfl
@[go_sem] theorem Tryz.ty.bk157 : buildOk Tryz.prog 157 = true := by kernel_rfl
@[go_sem] theorem Tryz.ty.un157 : Tryz.prog.underlying 157 = some (.array 0 16) := by kernel_rfl
@[go_sem] theorem Tryz.ty.sz158 : szOf Tryz.prog 158 = some 0 := by kernel_rfl
@[go_sem] theorem Tryz.ty.by158 : bytesIn Tryz.prog 158 = some 0 := by kernel_rfl
@[go_sem] theorem Tryz.ty.ag158 : aggOf Tryz.prog 158 = some true := by kernel_rfl
@[go_sem] theorem Tryz.ty.zr158 : zeroOf Tryz.prog 158 = some [] := by kernel_rfl
@[go_sem] theorem Tryz.ty.el158 : elemOfSlice Tryz.prog 158 = none := by kernel_rfl
@[go_sem] theorem Tryz.ty.ar158 : arrayOf Tryz.prog 158 = none := by kernel_rfl
@[go_sem] theorem Tryz.ty.st158 : isStr Tryz.prog 158 = false := by kernel_rfl
@[go_sem] theorem Tryz.ty.bo158 : isBool Tryz.prog 158 = false := by kernel_rfl
@[go_sem] theorem Tryz.ty.ki158 : kindOf Tryz.prog 158 = none := by kernel_rfl
@[go_sem] theorem Tryz.ty.if158 : isIface Tryz.prog 158 = some false := by kernel_rfl
@[go_sem] theorem Tryz.ty.fo0_158 : fieldOf Tryz.prog 158 0 = some (157, 0) := by kernel_rfl
@[go_sem] theorem Tryz.ty.fp0_158 : fieldPl Tryz.prog 158 0 = some (0, 0) := by kernel_rfl
@[go_sem] theorem Tryz.ty.bk158 : buildOk Tryz.prog 158 = true := by kernel_rfl
@[go_sem] theorem Tryz.ty.sz160 : szOf Tryz.prog 160 = some 1 := by kernel_rfl
@[go_sem] theorem Tryz.ty.by160 : bytesIn Tryz.prog 160 = some 8 := by kernel_rfl
@[go_sem] theorem Tryz.ty.ag160 : aggOf Tryz.prog 160 = some false := by kernel_rfl
@[go_sem] theorem Tryz.ty.zr160 : zeroOf Tryz.prog 160 = some [.val .nilFunc] := by kernel_rfl
@[go_sem] theorem Tryz.ty.el160 : elemOfSlice Tryz.prog 160 = none := by kernel_rfl
@[go_sem] theorem Tryz.ty.ar160 : arrayOf Tryz.prog 160 = none := by kernel_rfl
@[go_sem] theorem Tryz.ty.st160 : isStr Tryz.prog 160 = false := by kernel_rfl
@[go_sem] theorem Tryz.ty.bo160 : isBool Tryz.prog 160 = false := by kernel_rfl
@[go_sem] theorem Tryz.ty.ki160 : kindOf Tryz.prog 160 = none := by kernel_rfl
@[go_sem] theorem Tryz.ty.if160 : isIface Tryz.prog 160 = some false := by kernel_rfl
@[go_sem] theorem Tryz.ty.sz163 : szOf Tryz.prog 163 = some 1 := by kernel_rfl
@[go_sem] theorem Tryz.ty.by163 : bytesIn Tryz.prog 163 = some 8 := by kernel_rfl
@[go_sem] theorem Tryz.ty.ag163 : aggOf Tryz.prog 163 = some false := by kernel_rfl
@[go_sem] theorem Tryz.ty.zr163 : zeroOf Tryz.prog 163 = some [.val .nilFunc] := by kernel_rfl
@[go_sem] theorem Tryz.ty.el163 : elemOfSlice Tryz.prog 163 = none := by kernel_rfl
@[go_sem] theorem Tryz.ty.ar163 : arrayOf Tryz.prog 163 = none := by kernel_rfl
@[go_sem] theorem Tryz.ty.st163 : isStr Tryz.prog 163 = false := by kernel_rfl
@[go_sem] theorem Tryz.ty.bo163 : isBool Tryz.prog 163 = false := by kernel_rfl
@[go_sem] theorem Tryz.ty.ki163 : kindOf Tryz.prog 163 = none := by kernel_rfl
@[go_sem] theorem Tryz.ty.if163 : isIface Tryz.prog 163 = some false := by kernel_rfl
end Go.Sh

/-
  Contracts: lists of numbers copied and compared; ranges; partitions.
-/
namespace Go.Sh
set_option linter.unusedSimpArgs false
set_option linter.unusedVariables false
open Go Go.Proofs

def inR (x a b : Int) : Bool := decide (a ≤ x) && decide (x ≤ b)

theorem inR_tt {x a b : Int} (h1 : a ≤ x) (h2 : x ≤ b) : inR x a b = true := by simp [inR, h1, h2]
theorem inR_f1 {x a b : Int} (h1 : ¬ a ≤ x) : inR x a b = false := by simp [inR, h1]
theorem inR_f2 {x a b : Int} (h1 : ¬ x ≤ b) : inR x a b = false := by simp [inR, h1]

theorem Tryz.l1In_ok (x a b : Int) : PCall Tryz.prog 31 [.val (.int .i64 x), .val (.int .i64 a), .val (.int .i64 b)] (.val (.bool (inR x a b))) := by
  refine FCall.pcall (R := fun r _ => r = .val (.bool (inR x a b))) ?_ 0 (by rintro r H rfl; simp [view, viewV])
  refine FCall.of_body Tryz.func31 rfl (by kernel_rfl) (by simp [Tryz.ntmps31]) ?_
  refine SW_of_vc Tryz.mixed _ _ _ (by kernel_rfl) ?_
  by_cases h1 : a ≤ x
  · by_cases h2 : x ≤ b
    · simp (disch := omega) only [Tryz.ntmps31, Tryz.results31, go_sem]
      exact Fin.val (by rw [inR_tt h1 h2])
    · simp (disch := omega) only [Tryz.ntmps31, Tryz.results31, go_sem]
      exact Fin.val (by rw [inR_f2 h2])
  · simp (disch := omega) only [Tryz.ntmps31, Tryz.results31, go_sem]
    exact Fin.val (by rw [inR_f1 h1])

theorem Tryz.within_ok (x a b : Int) : PCall Tryz.prog 46 [.val (.int .i64 x), .val (.int .i64 a), .val (.int .i64 b)] (.val (.bool (inR x a b))) := by
  refine FCall.pcall (R := fun r _ => r = .val (.bool (inR x a b))) ?_ 0 (by rintro r H rfl; simp [view, viewV])
  refine FCall.of_body Tryz.func46 rfl (by kernel_rfl) (by simp [Tryz.ntmps46]) ?_
  refine SW_of_vc Tryz.mixed _ _ _ (by kernel_rfl) ?_
  by_cases h1 : a ≤ x
  · by_cases h2 : x ≤ b
    · simp (disch := omega) only [Tryz.ntmps46, Tryz.results46, go_sem]
      exact Fin.val (by rw [inR_tt h1 h2])
    · simp (disch := omega) only [Tryz.ntmps46, Tryz.results46, go_sem]
      exact Fin.val (by rw [inR_f2 h2])
  · simp (disch := omega) only [Tryz.ntmps46, Tryz.results46, go_sem]
    exact Fin.val (by rw [inR_f1 h1])

def fillTo (L : List Int) (k : Nat) : List Int := L.take k ++ List.replicate (L.length - k) 0
theorem fillTo_zero (L : List Int) : fillTo L 0 = List.replicate L.length 0 := by simp [fillTo]
theorem fillTo_length (L : List Int) (k : Nat) (h : k ≤ L.length) : (fillTo L k).length = L.length := by simp [fillTo]; omega
theorem fillTo_set (L : List Int) (k : Nat) (h : k < L.length) : (fillTo L k).set k (L.getD k 0) = fillTo L (k + 1) := by
  apply List.ext_getElem?
  intro i
  simp [fillTo, List.getElem?_set, List.getElem?_append, List.getElem?_take, List.getElem?_replicate]
  grind
theorem fillTo_all (L : List Int) : fillTo L L.length = L := by simp [fillTo]

theorem eq_take_succ {A B : List Int} {k : Nat} (hA : k < A.length) (hB : k < B.length) (h : A.take k = B.take k) (e : A.getD k 0 = B.getD k 0) : A.take (k + 1) = B.take (k + 1) := by
  rw [List.take_succ_eq_append_getElem hA, List.take_succ_eq_append_getElem hB, h]
  simp [hA, hB] at e
  rw [e]

end Go.Sh

/-
  Contracts: is a list of numbers a partition? Of the reference and of the program.
-/
namespace Go.Sh
set_option linter.unusedSimpArgs false
set_option linter.unusedVariables false
open Go Go.Proofs

theorem callP {P : Program} {f : FuncId} {args : List SV} {H : Heap} {T : SV} {K : SV → Heap → Prop} (h : CallS P f args H (fun r H' => r = T ∧ H' = H)) (k : K T H) : @CallX P f args H ⟨K⟩ :=
  h.mono (fun r H' ⟨e1, e2⟩ => by rw [e1, e2]; exact k)
theorem callD {P : Program} {f : FuncId} {args : List SV} {H : Heap} {T : SV} {K : SV → Heap → Prop} (h : CallS P f args H (fun r H' => r = T ∧ H' = H)) (k : K T H) : @CallD P f args H ⟨K⟩ :=
  ⟨T, h, k⟩

theorem PCall.call {P : Program} {f : FuncId} {args : List SV} {H : Heap} {T : SV} {K : SV → Heap → Prop} (h : PCall P f args T) (hv : viewL H 0 args = some args) (k : K T H) : @CallX P f args H ⟨K⟩ := callP (h.callS 0 hv) k
theorem PCall.callD {P : Program} {f : FuncId} {args : List SV} {H : Heap} {T : SV} {K : SV → Heap → Prop} (h : PCall P f args T) (hv : viewL H 0 args = some args) (k : K T H) : @CallD P f args H ⟨K⟩ := Sh.callD (h.callS 0 hv) k

def okP : Int → List Int → Bool
  | _, [] => true
  | nx, x :: l => inR x 0 nx && okP (max nx (x + 1)) l
def isPart (L : List Int) : Bool := okP 0 L && inR L.length 1 8

theorem drop_cons {L : List Int} {k : Nat} (h : k < L.length) : L.drop k = L.getD k 0 :: L.drop (k + 1) := by
  rw [List.drop_eq_getElem_cons h]; simp [h]
theorem okP_step {L : List Int} {k : Nat} {nx : Int} (h : k < L.length) : okP nx (L.drop k) = (inR (L.getD k 0) 0 nx && okP (max nx (L.getD k 0 + 1)) (L.drop (k + 1))) := by
  rw [drop_cons h, okP]
theorem inR_of {x a b : Int} (h : inR x a b = true) : a ≤ x ∧ x ≤ b := by simpa [inR] using h

end Go.Sh

/-
  Contracts: orders of the items.
-/
namespace Go.Sh
set_option linter.unusedSimpArgs false
set_option linter.unusedVariables false
open Go Go.Proofs

def idx (x : Int) (L : List Int) : Int := if x ∈ L then (L.idxOf x : Int) else -1
theorem idx_none {x : Int} {L : List Int} (h : ∀ i, i < L.length → L.getD i 0 ≠ x) : idx x L = -1 := by
  rw [idx, if_neg]
  intro hm
  obtain ⟨i, hi, e⟩ := List.getElem_of_mem hm
  exact h i hi (by simp [hi, e])
theorem idx_some {x : Int} {L : List Int} {k : Nat} (hk : k < L.length) (h : ∀ i, i < k → L.getD i 0 ≠ x) (e : L.getD k 0 = x) : idx x L = k := by
  have hm : x ∈ L := by rw [← e]; simp [hk]
  rw [idx, if_pos hm]
  congr 1
  have h1 : L.idxOf x < L.length := List.idxOf_lt_length_of_mem hm
  have h2 : L[L.idxOf x] = x := List.getElem_idxOf h1
  rcases Nat.lt_trichotomy (L.idxOf x) k with hl | hl | hl
  · exact absurd (by simp [h1]) (h _ hl)
  · exact hl
  · exfalso
    have := List.not_of_lt_findIdx (p := (· == x)) (xs := L) (i := k) (by simpa [List.idxOf] using hl)
    simp [hk] at e
    simp [e] at this
theorem idx_ge (x : Int) (L : List Int) : (0 ≤ idx x L) ↔ x ∈ L := by
  rw [idx]; split <;> simp_all

def okO (n : Int) : List Int → List Int → Bool
  | _, [] => true
  | s, x :: l => inR x 0 (n - 1) && (!s.contains x && okO n (s ++ [x]) l)
def isOrd (n : Int) (L : List Int) : Bool := inR n 1 8 && (decide ((L.length : Int) = n) && okO n [] L)
theorem okO_step {n : Int} {L : List Int} {k : Nat} (h : k < L.length) : okO n (L.take k) (L.drop k) = (inR (L.getD k 0) 0 (n - 1) && (!(L.take k).contains (L.getD k 0) && okO n (L.take (k + 1)) (L.drop (k + 1)))) := by
  rw [drop_cons h, okO, List.take_succ_eq_append_getElem h]; simp [h]

end Go.Sh

/-
  Contracts: lists marked in place, and read back.
-/
namespace Go.Sh
set_option linter.unusedSimpArgs false
set_option linter.unusedVariables false
open Go Go.Proofs

/-- k, k+1, .. in the first i places. -/
def markTo (L : List Int) (k : Int) (i : Nat) : List Int := (List.range i).map (fun x : Nat => k + (x : Int)) ++ L.drop i
theorem markTo_zero (L : List Int) (k : Int) : markTo L k 0 = L := by simp [markTo]
theorem markTo_length {L : List Int} {k : Int} {i : Nat} (h : i ≤ L.length) : (markTo L k i).length = L.length := by simp [markTo]; omega
theorem markTo_set {L : List Int} {k : Int} {i : Nat} (h : i < L.length) : (markTo L k i).set i (k + (i : Int)) = markTo L k (i + 1) := by
  apply List.ext_getElem?
  intro x
  simp only [markTo, List.getElem?_set, List.getElem?_append, List.length_map, List.length_range, List.getElem?_map, List.getElem?_drop, List.length_append, List.length_drop]
  by_cases h1 : i = x
  · subst h1
    have : i < i + (L.length - i) := by omega
    simp [this]
  · by_cases h2 : x < i
    · have h3 : x < i + 1 := by omega
      simp [h1, h2, h3]
    · have h3 : ¬ x < i + 1 := by omega
      simp [h1, h2, h3]
      congr 1
      omega
def marks (n : Nat) (k : Int) : List Int := (List.range n).map fun x : Nat => k + (x : Int)
theorem markTo_all (L : List Int) (k : Int) : markTo L k L.length = marks L.length k := by simp [markTo, marks]
theorem marks_length (n : Nat) (k : Int) : (marks n k).length = n := by simp [marks]

def held (L : List Int) (k : Int) : Int := if L = marks L.length k then k + L.length else -1
theorem held_marks (n : Nat) (k : Int) : held (marks n k) k = k + n := by rw [held, marks_length, if_pos rfl]
end Go.Sh

/-
  From the values that came in to the shadow's: slices of numbers.
-/
namespace Go.Sh
set_option linter.unusedSimpArgs false
set_option linter.unusedVariables false
open Go Go.RowKit

/-- A slice of numbers that came in, as the machine's memory has it. -/
def IsRow (k : IntKind) (w : World) (a : Option Addr) (len cap : Nat) (zs : List Int) : Prop :=
  (a = none ∧ len = 0 ∧ cap = 0 ∧ zs = []) ∨
  ∃ x, a = some x ∧ len ≤ cap ∧ cap ≤ maxLen ∧ zs.length = cap ∧ (∀ i, i < zs.length → w.cell? (x.add i) = some (.int k (zs.getD i 0))) ∧ ∀ n ∈ zs, (Lit.int k n).wf = true

theorem crel_ints {O : Nat → Prop} {w : World} : ∀ (L : List Int) (x : Addr), (L ≠ [] → ¬ O x.block) → (∀ i, i < L.length → w.cell? (x.add i) = some (.int .i64 (L.getD i 0))) → CRel O w (ints L) x
  | [], x, _, _ => by simp only [ints, List.map_nil, CRel]
  | n :: L, x, hO, h => by
    have h0 := h 0 (by simp)
    rw [Addr.add_zero'] at h0
    have hs : x.spot = none := World.cell?_spot h0
    have e : ints (n :: L) = .val (.int .i64 n) :: ints L := rfl
    rw [e]
    simp only [CRel]
    refine ⟨hs, hO (by simp), ⟨_, h0, by simp [VRel]⟩, crel_ints L ⟨x.block, x.off + 1, none⟩ (fun _ => hO (by simp)) (fun i hi => ?_)⟩
    have := h (i + 1) (by simpa using hi)
    have e2 : (⟨x.block, x.off + 1, none⟩ : Addr).add i = x.add (i + 1) := by
      rw [Addr.add_lit, Addr.add_succ']
      simp [Nat.add_assoc, Nat.add_comm 1 i]
    rw [e2, this]
    simp

theorem isRow_rel {w : World} {a : Option Addr} {len cap : Nat} {zs : List Int} (h : IsRow .i64 w a len cap zs) : VRel (fun _ => False) w noj (ri (zs.take len)) (.slice a len cap) := by
  rcases h with ⟨rfl, rfl, rfl, rfl⟩ | ⟨x, rfl, h1, h2, h3, h4, h5⟩
  · simp only [ri, VRel]
    exact ⟨none, 0, rfl, Nat.le_refl _, by simp, .inl (by simp [ints])⟩
  · have hl : (zs.take len).length = len := by simp; omega
    simp only [ri, VRel]
    refine ⟨some x, cap, by rw [hl], by omega, by simp, .inr ⟨x, rfl, crel_ints _ x (fun _ h => h) (fun i hi => ?_)⟩⟩
    have hi' : i < len := by rw [hl] at hi; exact hi
    rw [h4 i (by omega)]
    congr 2
    simp [List.getD, hi']

def i64R (n : Int) : Prop := -9223372036854775808 ≤ n ∧ n ≤ 9223372036854775807
theorem wf_i64 {n : Int} (h : (Lit.int .i64 n).wf = true) : i64R n := by
  simp [Lit.wf, IntKind.min, IntKind.max, IntKind.signed, IntKind.bits] at h
  unfold i64R
  omega

section
variable {Hh : Type} {enc : TypeId × Value → Hh} {P : Program} {w : World} {held : Bool}
open Go.ChangeShapes Go.WideShapes

theorem cell_ints {t e : TypeId} {fuel : Nat} {v : Value} {x : DataW Hh × List MemPlace} (ht : P.underlying t = some (.slice e)) (he : P.underlying e = some (.int .i64)) (hc : P.cellsOf e = 1)
    (h : DataW.trod enc P w 0 (fun _ => true) held fuel t [v] = some x) : ∃ L : List Int, VRel (fun _ => False) w noj (ri L) v ∧ (∀ n ∈ L, i64R n) ∧ L.length ≤ maxLen := by
  rcases open_ints ht he hc h with ⟨hcs, _⟩ | ⟨a, l, c, zs, hcs, _, hl, hm, hz, _, hcell, hwz⟩
  · simp at hcs
    subst hcs
    exact ⟨[], isRow_rel (zs := []) (.inl ⟨rfl, rfl, rfl, rfl⟩), by simp, by simp⟩
  · simp at hcs
    subst hcs
    exact ⟨zs.take l, isRow_rel (.inr ⟨_, rfl, hl, hm, by simpa using hz, hcell, hwz⟩), fun n hn => wf_i64 (hwz n (List.mem_of_mem_take hn)), by simp; omega⟩

/-- Numbers by rows, to read. -/
def rows (M : List (List Int)) : List SV := M.map ri
def rr (M : List (List Int)) : SV := .row M.length false (rows M)

theorem addr_at {x : Addr} (hs : x.spot = none) (i : Nat) : x.add i = ⟨x.block, x.off + i, none⟩ := by
  obtain ⟨b, o, s⟩ := x
  simp at hs; subst hs
  unfold Addr.add
  by_cases h : i = 0 <;> simp [h]

theorem crel_fn {ss : List SV} {x : Addr} (h : ∀ i s, ss[i]? = some s → ∃ v, w.cell? (x.add i) = some v ∧ VRel (fun _ => False) w noj s v) : CRel (fun _ => False) w ss x := by
  cases ss with
  | nil => simp only [CRel]
  | cons s ss =>
    obtain ⟨v, h0, _⟩ := h 0 s (by simp)
    rw [Addr.add_zero'] at h0
    have hs : x.spot = none := World.cell?_spot h0
    obtain ⟨b, o, sp⟩ := x
    simp at hs; subst hs
    exact CRel.mk (fun _ h => h) (fun i s' hi => by
      obtain ⟨v', g1, g2⟩ := h i s' hi
      rw [addr_at rfl] at g1
      exact ⟨v', g1, g2⟩)

theorem cell_rows {t e q : TypeId} {fuel : Nat} {v : Value} {x : DataW Hh × List MemPlace} (ht : P.underlying t = some (.slice e)) (he : P.underlying e = some (.slice q)) (hq : P.underlying q = some (.int .i64)) (ce : P.cellsOf e = 1) (cq : P.cellsOf q = 1)
    (h : DataW.trod enc P w 0 (fun _ => true) held fuel t [v] = some x) : ∃ M : List (List Int), VRel (fun _ => False) w noj (rr M) v ∧ (∀ L ∈ M, (∀ n ∈ L, i64R n) ∧ L.length ≤ maxLen) ∧ M.length ≤ maxLen := by
  rcases Deep.open_slice1 ht ce h with ⟨hcs, _⟩ | ⟨a, len, cap, m, n, V, D, Pl, hcs, hb, hl, hm, hmm, _, hx⟩
  · simp at hcs
    subst hcs
    refine ⟨[], ?_, by simp, by simp⟩
    simp only [rr, VRel]
    exact ⟨none, 0, rfl, Nat.le_refl _, by simp, .inl (by simp [rows])⟩
  · simp at hcs
    subst hcs
    simp only [if_true] at hmm
    subst hmm
    obtain ⟨L, hL⟩ := Deep.choose_lt (α := List Int) (p := fun i L => VRel (fun _ => False) w noj (ri L) (V i) ∧ (∀ n ∈ L, i64R n) ∧ L.length ≤ maxLen) (fun i hi => cell_ints he hq cq (hx i hi).2)
    refine ⟨(List.range len).map L, ?_, ?_, by simp; omega⟩
    · simp only [rr, VRel]
      refine ⟨some a, m, by simp, by simpa using hl, by simp, .inr ⟨a, rfl, crel_fn (fun i s hi => ?_)⟩⟩
      simp only [rows, List.map_map, List.getElem?_map, Option.map_eq_some_iff] at hi
      obtain ⟨k, hk, rfl⟩ := hi
      have hi : i < len := by
        have := (List.getElem?_eq_some_iff.1 hk).1
        simpa using this
      obtain rfl : i = k := by simpa [hi] using hk
      exact ⟨V i, (hx i (by omega)).1, (hL i (by omega)).1⟩
    · intro l hl'
      simp only [List.mem_map, List.mem_range] at hl'
      obtain ⟨i, hi, rfl⟩ := hl'
      exact (hL i (by omega)).2

/-- A constraint: two items; are they together? -/
abbrev Con := Int × Int × Bool
def con3 (c : Con) : List SV := [.val (.int .i64 c.1), .val (.int .i64 c.2.1), .val (.bool c.2.2)]
def cons (C : List Con) : List SV := C.flatMap con3
def rc (C : List Con) : SV := .row C.length false (cons C)
theorem cons_get : ∀ (C : List Con) (i : Nat) (s : SV), (cons C)[i]? = some s → ∃ c, C[i / 3]? = some c ∧ (con3 c)[i % 3]? = some s
  | [], i, s, h => by simp [cons] at h
  | c :: C, i, s, h => by
    have e : cons (c :: C) = con3 c ++ cons C := rfl
    rw [e, List.getElem?_append] at h
    have e3 : (con3 c).length = 3 := rfl
    rw [e3] at h
    split at h
    · rename_i hlt
      refine ⟨c, ?_, ?_⟩
      · rw [Nat.div_eq_of_lt hlt]; rfl
      · rw [Nat.mod_eq_of_lt hlt]; exact h
    · rename_i hge
      obtain ⟨d, h1, h2⟩ := cons_get C (i - 3) s h
      refine ⟨d, ?_, ?_⟩
      · have : i / 3 = (i - 3) / 3 + 1 := by omega
        rw [this]; simpa using h1
      · have : i % 3 = (i - 3) % 3 := by omega
        rw [this]; exact h2

theorem cell_cons {t e : TypeId} {f0 f1 f2 : Field} {fuel : Nat} {v : Value} {x : DataW Hh × List MemPlace} (ht : P.underlying t = some (.slice e)) (he : P.underlying e = some (.struct #[f0, f1, f2])) (ce : P.cellsOf e = 3)
    (o0 : f0.offset = 0) (o1 : f1.offset = 1) (o2 : f2.offset = 2) (u0 : P.underlying f0.type = some (.int .i64)) (u1 : P.underlying f1.type = some (.int .i64)) (u2 : P.underlying f2.type = some .bool) (c0 : P.cellsOf f0.type = 1) (c1 : P.cellsOf f1.type = 1) (c2 : P.cellsOf f2.type = 1)
    (h : DataW.trod enc P w 0 (fun _ => true) held fuel t [v] = some x) : ∃ C : List Con, VRel (fun _ => False) w noj (rc C) v ∧ (∀ c ∈ C, i64R c.1 ∧ i64R c.2.1) ∧ C.length ≤ maxLen := by
  rcases Deep.open_slice ht h with ⟨hcs, _⟩ | ⟨a, len, cap, m, n, D, Pl, hcs, hb, hl, hm, hmm, _, hx⟩
  · simp at hcs
    subst hcs
    refine ⟨[], ?_, by simp, by simp⟩
    simp only [rc, VRel]
    exact ⟨none, 0, rfl, Nat.le_refl _, by simp, .inl (by simp [cons])⟩
  · simp at hcs
    subst hcs
    simp only [if_true] at hmm
    subst hmm
    rw [ce] at hx
    obtain ⟨C, hC⟩ := Deep.choose_lt (α := Con) (p := fun i c => (∀ k s, (con3 c)[k]? = some s → ∃ u, w.cell? (a.add (i * 3 + k)) = some u ∧ VRel (fun _ => False) w noj s u) ∧ i64R c.1 ∧ i64R c.2.1) (fun i hi => by
      obtain ⟨cs, h1, h2⟩ := hx i hi
      obtain ⟨_, hlen, hcell⟩ := World.cells?_some h1
      obtain ⟨xs, k, hk, hxy, _, hxl, hf⟩ := DataW.trod_struct he h2
      match xs, hxl, cs, hlen with
      | [y0, y1, y2], _, [v0, v1, v2], _ =>
        have g0 := hf 0 f0 rfl
        have g1 := hf 1 f1 rfl
        have g2 := hf 2 f2 rfl
        simp [o0, o1, o2, c0, c1, c2] at g0 g1 g2
        obtain ⟨n0, q0, _, w0⟩ := DataW.trod_int u0 g0
        obtain ⟨n1, q1, _, w1⟩ := DataW.trod_int u1 g1
        obtain ⟨b2, q2, _⟩ := DataW.trod_bool u2 g2
        simp at q0 q1 q2
        subst q0 q1 q2
        have e0 := hcell 0 (by omega)
        have e1 := hcell 1 (by omega)
        have e2 := hcell 2 (by omega)
        rw [Deep.add_add] at e0 e1 e2
        refine ⟨(n0, n1, b2), ?_, wf_i64 w0, wf_i64 w1⟩
        intro k s hs
        match k, hs with
        | 0, hs => simp [con3] at hs; subst hs; exact ⟨_, by simpa using e0, by simp only [VRel]⟩
        | 1, hs => simp [con3] at hs; subst hs; exact ⟨_, by simpa using e1, by simp only [VRel]⟩
        | 2, hs => simp [con3] at hs; subst hs; exact ⟨_, by simpa using e2, by simp only [VRel]⟩
        | k + 3, hs => simp [con3] at hs)
    refine ⟨(List.range len).map C, ?_, ?_, by simp; omega⟩
    · simp only [rc, VRel]
      refine ⟨some a, m, by simp, by simpa using hl, by simp, .inr ⟨a, rfl, crel_fn (fun i s hi => ?_)⟩⟩
      obtain ⟨c, h1, h2⟩ := cons_get _ _ _ hi
      have hi3 : i / 3 < len := by
        have := (List.getElem?_eq_some_iff.1 h1).1
        simpa using this
      obtain rfl : C (i / 3) = c := by simpa [hi3] using h1
      obtain ⟨u, g1, g2⟩ := (hC (i / 3) (by omega)).1 _ _ h2
      exact ⟨u, by rw [← g1]; congr 2; omega, g2⟩
    · intro c hc
      simp only [List.mem_map, List.mem_range] at hc
      obtain ⟨i, hi, rfl⟩ := hc
      exact (hC i (by omega)).2

/-- A clustering: labels, cost, exact, gap. -/
structure Clu where
  labels : List Int
  cost : Int
  exact : Bool
  gap : Int
def sclu (c : Clu) : SV := .agg [ri c.labels, .val (.int .i64 c.cost), .val (.bool c.exact), .val (.int .i64 c.gap)]

theorem cell_clu {t e : TypeId} {f0 f1 f2 f3 : Field} {fuel : Nat} {cs : List Value} {x : DataW Hh × List MemPlace} (ht : P.underlying t = some (.struct #[f0, f1, f2, f3])) (hlen : cs.length = 4)
    (o0 : f0.offset = 0) (o1 : f1.offset = 1) (o2 : f2.offset = 2) (o3 : f3.offset = 3) (u0 : P.underlying f0.type = some (.slice e)) (ue : P.underlying e = some (.int .i64)) (ce : P.cellsOf e = 1) (u1 : P.underlying f1.type = some (.int .i64)) (u2 : P.underlying f2.type = some .bool) (u3 : P.underlying f3.type = some (.int .i64))
    (c0 : P.cellsOf f0.type = 1) (c1 : P.cellsOf f1.type = 1) (c2 : P.cellsOf f2.type = 1) (c3 : P.cellsOf f3.type = 1)
    (h : DataW.trod enc P w 0 (fun _ => true) held fuel t cs = some x) : ∃ c : Clu, LRel (fun _ => False) w noj [ri c.labels, .val (.int .i64 c.cost), .val (.bool c.exact), .val (.int .i64 c.gap)] cs ∧ (∀ n ∈ c.labels, i64R n) ∧ c.labels.length ≤ maxLen ∧ i64R c.cost ∧ i64R c.gap := by
  obtain ⟨xs, k, hk, hxy, _, hxl, hf⟩ := DataW.trod_struct ht h
  match xs, hxl, cs, hlen with
  | [y0, y1, y2, y3], _, [v0, v1, v2, v3], _ =>
    have g0 := hf 0 f0 rfl
    have g1 := hf 1 f1 rfl
    have g2 := hf 2 f2 rfl
    have g3 := hf 3 f3 rfl
    simp [o0, o1, o2, o3, c0, c1, c2, c3] at g0 g1 g2 g3
    obtain ⟨L, hL, hr, hlL⟩ := cell_ints u0 ue ce g0
    obtain ⟨n1, q1, _, w1⟩ := DataW.trod_int u1 g1
    obtain ⟨b2, q2, _⟩ := DataW.trod_bool u2 g2
    obtain ⟨n3, q3, _, w3⟩ := DataW.trod_int u3 g3
    simp at q1 q2 q3
    subst q1 q2 q3
    refine ⟨⟨L, n1, b2, n3⟩, ?_, hr, hlL, wf_i64 w1, wf_i64 w3⟩
    simp only [LRel, VRel]
    exact ⟨_, _, rfl, hL, _, _, rfl, rfl, _, _, rfl, rfl, _, _, rfl, rfl, rfl⟩
end

theorem PCall.law {P : Program} {f : FuncId} {args : List SV} {vs : List Value} {w : World} (h : PCall P f args (.val (.bool true))) (hl : LRel (fun _ => False) w noj args vs) (ht : TabOk (fun _ => False) w) :
    Calls P f vs.toArray w fun e w' => e = .returned (.bool true) ∧ Below w.heap.size w w' := by
  refine (h.2 w vs hl ht).mono ?_
  rintro e w' ⟨v, rfl, h2, h3⟩
  simp only [VRel] at h3
  subst h3
  exact ⟨rfl, h2⟩
end Go.Sh

/-
  Contracts: constraints, copied and compared.
-/
namespace Go.Sh
set_option linter.unusedSimpArgs false
set_option linter.unusedVariables false
open Go Go.Proofs

def dc : Con := (0, 0, false)
def cg (C : List Con) (k : Nat) : Con := C.getD k dc
theorem cons_length (C : List Con) : (cons C).length = C.length * 3 := by
  induction C with
  | nil => rfl
  | cons c C ih =>
    have e : cons (c :: C) = con3 c ++ cons C := rfl
    rw [e, List.length_append, ih]
    simp [con3]; omega
theorem cons_drop : ∀ (C : List Con) (k : Nat), (cons C).drop (k * 3) = cons (C.drop k)
  | C, 0 => by simp
  | [], k + 1 => by simp [cons]
  | c :: C, k + 1 => by
    have e : cons (c :: C) = con3 c ++ cons C := rfl
    have e2 : (k + 1) * 3 = k * 3 + 1 + 1 + 1 := by omega
    rw [e, e2]
    show (cons C).drop (k * 3) = cons (C.drop k)
    exact cons_drop C k
theorem cons_load {C : List Con} {k : Nat} (h : k < C.length) : ((cons C).drop (k * 3)).take 3 = [.val (.int .i64 (cg C k).1), .val (.int .i64 (cg C k).2.1), .val (.bool (cg C k).2.2)] := by
  rw [cons_drop, List.drop_eq_getElem_cons h]
  have e : cg C k = C[k] := by simp [cg, h]
  rw [e]
  rfl
theorem cons_at {C : List Con} {k i : Nat} (h : k < C.length) (hi : i < 3) : (cons C)[k * 3 + i]? = (con3 (cg C k))[i]? := by
  have := cons_load h
  have h2 : (((cons C).drop (k * 3)).take 3)[i]? = (con3 (cg C k))[i]? := by rw [this]; rfl
  rw [List.getElem?_take, if_pos hi, List.getElem?_drop] at h2
  exact h2
theorem cons_at0 {C : List Con} {k : Nat} (h : k < C.length) : (cons C)[k * 3]? = some (.val (.int .i64 (cg C k).1)) := cons_at (i := 0) h (by omega)
theorem cons_at1 {C : List Con} {k : Nat} (h : k < C.length) : (cons C)[k * 3 + 1]? = some (.val (.int .i64 (cg C k).2.1)) := cons_at h (by omega)
theorem cons_at2 {C : List Con} {k : Nat} (h : k < C.length) : (cons C)[k * 3 + 2]? = some (.val (.bool (cg C k).2.2)) := cons_at h (by omega)
theorem con_ex (C : List Con) (k : Nat) : ∃ a b s, cg C k = (a, b, s) := ⟨_, _, _, rfl⟩
theorem cons_of {C : List Con} {k : Nat} {a b : Int} {s : Bool} (h : k < C.length) (e : cg C k = (a, b, s)) : (cons C)[k * 3]? = some (.val (.int .i64 a)) ∧ (cons C)[k * 3 + 1]? = some (.val (.int .i64 b)) ∧ (cons C)[k * 3 + 2]? = some (.val (.bool s)) ∧
    ((cons C).drop (k * 3)).take 3 = [.val (.int .i64 a), .val (.int .i64 b), .val (.bool s)] := by
  have h0 := cons_at0 h
  have h1 := cons_at1 h
  have h2 := cons_at2 h
  have h3 := cons_load h
  rw [e] at h0 h1 h2 h3
  exact ⟨h0, h1, h2, h3⟩
theorem cons_vals (C : List Con) : (cons C).all isVal = true := by
  induction C with
  | nil => rfl
  | cons c C ih =>
    have e : cons (c :: C) = con3 c ++ cons C := rfl
    rw [e, List.all_append, ih]; rfl
theorem cons_append (A B : List Con) : cons A ++ cons B = cons (A ++ B) := by simp [cons]
theorem cons_splice : ∀ {C : List Con} {k : Nat} {a b : Int} {s : Bool}, k < C.length → splice (cons C) (k * 3) [.val (.int .i64 a), .val (.int .i64 b), .val (.bool s)] = cons (C.set k (a, b, s))
  | [], k, a, b, s, h => by simp at h
  | c :: C, 0, a, b, s, _ => rfl
  | c :: C, k + 1, a, b, s, h => by
    have ih := cons_splice (C := C) (k := k) (a := a) (b := b) (s := s) (by simpa using h)
    have e : cons (c :: C) = .val (.int .i64 c.1) :: .val (.int .i64 c.2.1) :: .val (.bool c.2.2) :: cons C := rfl
    have e2 : cons ((c :: C).set (k + 1) (a, b, s)) = .val (.int .i64 c.1) :: .val (.int .i64 c.2.1) :: .val (.bool c.2.2) :: cons (C.set k (a, b, s)) := rfl
    have e3 : (k + 1) * 3 = k * 3 + 1 + 1 + 1 := by omega
    rw [e2, ← ih, e, e3]
    simp only [splice, List.set_cons_succ]
theorem cons_set3 {C : List Con} {k : Nat} {a b : Int} {s : Bool} (h : k < C.length) : (((cons C).set (k * 3) (.val (.int .i64 a))).set (k * 3 + 1) (.val (.int .i64 b))).set (k * 3 + 1 + 1) (.val (.bool s)) = cons (C.set k (a, b, s)) := by
  have := cons_splice (a := a) (b := b) (s := s) h
  simpa only [splice] using this
theorem rep_cons (n : Nat) : rep [.val (.int .i64 0), .val (.int .i64 0), .val (.bool false)] (n * 3) = cons (List.replicate n dc) := by
  apply List.ext_getElem?
  intro i
  by_cases h : i < n * 3
  · have h3 : i / 3 < n := by omega
    have e : i = i / 3 * 3 + i % 3 := by omega
    have h4 : (cons (List.replicate n dc))[i]? = (con3 dc)[i % 3]? := by
      conv => lhs; rw [e]
      rw [cons_at (by simpa using h3) (by omega)]
      congr 2
      simp [cg, h3]
    rw [h4]
    simp only [rep, List.getElem?_map]
    rw [List.getElem?_range h]
    have : i % 3 < 3 := by omega
    simp only [Option.map_some, List.length_cons, List.length_nil]
    match i % 3, this with
    | 0, _ => rfl
    | 1, _ => rfl
    | 2, _ => rfl
  · rw [List.getElem?_eq_none (by simp [rep]; omega), List.getElem?_eq_none (by rw [cons_length]; simp; omega)]

def fillG {α : Type} (z : α) (L : List α) (k : Nat) : List α := L.take k ++ List.replicate (L.length - k) z
theorem fillG_zero {α : Type} (z : α) (L : List α) : fillG z L 0 = List.replicate L.length z := by simp [fillG]
theorem fillG_length {α : Type} (z : α) (L : List α) (k : Nat) (h : k ≤ L.length) : (fillG z L k).length = L.length := by simp [fillG]; omega
theorem fillG_set {α : Type} (z d : α) (L : List α) (k : Nat) (h : k < L.length) : (fillG z L k).set k (L.getD k d) = fillG z L (k + 1) := by
  apply List.ext_getElem?
  intro i
  simp [fillG, List.getElem?_set, List.getElem?_append, List.getElem?_take, List.getElem?_replicate]
  grind
theorem fillG_all {α : Type} (z : α) (L : List α) : fillG z L L.length = L := by simp [fillG]

def sc (c : Con) : SV := .agg [.val (.int .i64 c.1), .val (.int .i64 c.2.1), .val (.bool c.2.2)]
theorem view_con {H : Heap} {f : Nat} {k1 k2 : IntKind} {a b : Int} {s : Bool} : view H (f + 1) (.agg [.val (.int k1 a), .val (.int k2 b), .val (.bool s)]) = some (.agg [.val (.int k1 a), .val (.int k2 b), .val (.bool s)]) :=
  view_agg (viewL_cons_of view_int (viewL_cons_of view_int (viewL_cons_of view_bool viewL_nil_of)))

theorem flat_viewC {C : List Con} {n : Nat} {r : SV} {H : Heap} (h : FlatRes n 3 (cons C) r H) : view H 2 r = some (rc C) := by
  have hl := h.length
  rw [cons_length] at hl
  have hn : C.length = n := by omega
  obtain ⟨b, off, cap, ex, blk, rfl, h1, h2, h3, h4⟩ := h
  have hv : ∀ {cs : List SV} {f : Nat}, cs.all isVal = true → (∀ v, SV.val v ∈ cs → viewV v = .val v) → viewL H f cs = some cs := by
    intro cs f
    induction cs with
    | nil => intro _ _; exact viewL_nil_of
    | cons s cs ih =>
      intro ha hb
      simp only [List.all_cons, Bool.and_eq_true] at ha
      obtain ⟨v, rfl⟩ := isVal_of ha.1
      refine viewL_cons_of ?_ (ih ha.2 (fun v hv => hb v (by simp [hv])))
      simp only [view, hb v (by simp)]
  have hc : ∀ v, SV.val v ∈ cons C → viewV v = .val v := by
    intro v hv
    obtain ⟨i, hi⟩ := List.mem_iff_getElem?.1 hv
    obtain ⟨c, _, g2⟩ := cons_get C i _ hi
    have h3 : i % 3 < 3 := by omega
    match i % 3, h3, g2 with
    | 0, _, g2 => simp [con3] at g2; rw [← g2]; rfl
    | 1, _, g2 => simp [con3] at g2; rw [← g2]; rfl
    | 2, _, g2 => simp [con3] at g2; rw [← g2]; rfl
  simp only [view, h1, h3, if_true, h2, hv h4 hc, rc, hn]
theorem cg_take_succ {A B : List Con} {k : Nat} (hA : k < A.length) (hB : k < B.length) (h : A.take k = B.take k) (e : cg A k = cg B k) : A.take (k + 1) = B.take (k + 1) := by
  rw [List.take_succ_eq_append_getElem hA, List.take_succ_eq_append_getElem hB, h]
  simp [cg, hA, hB] at e
  rw [e]

end Go.Sh

/-
  Contracts: labels by first occurrence. Of the program.
-/
namespace Go.Sh
set_option linter.unusedSimpArgs false
set_option linter.unusedVariables false
open Go Go.Proofs

def cstep (s : List Int × List Int) (x : Int) : List Int × List Int :=
  if x ∈ s.1 then (s.1, s.2 ++ [idx x s.1]) else (s.1 ++ [x], s.2 ++ [(s.1.length : Int)])
def cst (L : List Int) : List Int × List Int := L.foldl cstep ([], [])
def canon (L : List Int) : List Int := (cst L).2
theorem cst_zero : cst [] = ([], []) := rfl
theorem cst_succ {L : List Int} {k : Nat} (h : k < L.length) : cst (L.take (k + 1)) = cstep (cst (L.take k)) (L.getD k 0) := by
  rw [List.take_succ_eq_append_getElem h]
  simp only [cst, List.foldl_append, List.foldl_cons, List.foldl_nil]
  congr 1
  simp [h]
theorem cst_len : ∀ (L : List Int) (s : List Int × List Int), (L.foldl cstep s).2.length = s.2.length + L.length ∧ (L.foldl cstep s).1.length ≤ s.1.length + L.length
  | [], s => by simp
  | x :: L, s => by
    have ih := cst_len L (cstep s x)
    have h2 : (cstep s x).2.length = s.2.length + 1 := by unfold cstep; split <;> simp
    have h1 : (cstep s x).1.length ≤ s.1.length + 1 := by unfold cstep; split <;> simp
    simp only [List.foldl_cons, List.length_cons]
    omega
theorem cst_len2 (L : List Int) : (cst L).2.length = L.length := by have := (cst_len L ([], [])).1; simpa [cst] using this
theorem cst_len1 (L : List Int) : (cst L).1.length ≤ L.length := by have := (cst_len L ([], [])).2; simpa [cst] using this
theorem canon_length (L : List Int) : (canon L).length = L.length := cst_len2 L
theorem idx_lt {x : Int} {L : List Int} : idx x L < L.length ∨ L = [] := by
  unfold idx
  split
  · rename_i h
    have := List.idxOf_lt_length_of_mem h
    left; omega
  · cases L with
    | nil => right; rfl
    | cons a l => left; simp; omega
theorem idx_neg {x : Int} {L : List Int} (h : ¬ x ∈ L) : idx x L = -1 := by rw [idx, if_neg h]
theorem idx_nonneg {x : Int} {L : List Int} (h : x ∈ L) : 0 ≤ idx x L := (idx_ge x L).mpr h

def canF (L : List Int) : Nat × Nat × Nat × Nat → St
  | (0, _, _, nb) => ⟨ofL [(0, ri L), (3, .val (.slice none 0 0)), (4, .val (.slice none 0 0)), (8, ri L), (9, .val (.int .i64 L.length)), (10, .val (.int .i64 0))], hp [] nb⟩
  | (k + 1, b1, b2, nb) => ⟨ofL [(0, ri L), (3, .own b1 0 (cst (L.take (k + 1))).1.length (cst (L.take (k + 1))).1.length 1 false), (4, .own b2 0 (cst (L.take (k + 1))).2.length (cst (L.take (k + 1))).2.length 1 false), (8, ri L), (9, .val (.int .i64 L.length)), (10, .val (.int .i64 ((k + 1 : Nat) : Int)))],
      hp [(b1, ⟨ints (cst (L.take (k + 1))).1, false⟩), (b2, ⟨ints (cst (L.take (k + 1))).2, false⟩)] nb⟩

theorem flat_view {L : List Int} {n : Nat} {r : SV} {H : Heap} (h : FlatRes n 1 (ints L) r H) : view H 2 r = some (ri L) := by
  obtain ⟨b, off, cap, ex, blk, rfl, h1, h2, h3, h4⟩ := h
  have hn : L.length = n := by
    have := congrArg List.length h2
    simp [ints] at this
    omega
  rw [Nat.mul_one] at h2 h3
  simp only [view, h1, Nat.mul_one, h3, if_true, h2, viewL_ints, ri, hn]
end Go.Sh

/-
  Contracts: clusterings, copied and compared; lists compared.
-/
namespace Go.Sh
set_option linter.unusedSimpArgs false
set_option linter.unusedVariables false
open Go Go.Proofs

theorem view_clu {H : Heap} {f n : Nat} {ex : Bool} {L : List Int} {a g : Int} {e : Bool} (hn : n = L.length) : view H (f + 1) (.agg [.row n ex (ints L), .val (.int .i64 a), .val (.bool e), .val (.int .i64 g)]) = some (.agg [ri L, .val (.int .i64 a), .val (.bool e), .val (.int .i64 g)]) :=
  view_agg (viewL_cons_of (view_rowL hn) (viewL_cons_of view_int (viewL_cons_of view_bool (viewL_cons_of view_int viewL_nil_of))))

def ceq (L : List Int) (a : Int) (e : Bool) (g : Int) (L' : List Int) (a' : Int) (e' : Bool) (g' : Int) : Bool := decide (L = L' ∧ a = a' ∧ e = e' ∧ g = g')

end Go.Sh

/-
  Results of any shape in memory of their own, known by what they read as.
-/
namespace Go.Sh
set_option linter.unusedSimpArgs false
set_option linter.unusedVariables false
open Go Go.RowKit
variable {P : Program}

theorem shiftL_map (k : Nat) : ∀ ss : List SV, shiftL k ss = ss.map (shift k)
  | [] => by simp [shiftL]
  | s :: ss => by simp [shiftL, shiftL_map k ss]
mutual
theorem view_shift {H0 H' : Heap} {n : Nat} (hm : ∀ b blk, H0.map b = some blk → H'.map (b + n) = some ⟨shiftL n blk.cells, blk.ex⟩) : ∀ (f : Nat) (s s' : SV), view H0 f s = some s' → view H' f (shift n s) = some s'
  | f, .undef, s', h => by cases f <;> simpa [view, shift] using h
  | f, .val u, s', h => by cases f <;> simpa [view, shift] using h
  | f, .row m ex cs, s', h => by cases f <;> simpa [view, shift] using h
  | f, .rptr cs off, s', h => by cases f <;> simpa [view, shift] using h
  | 0, .own _ _ _ _ _ _, s', h => by simp [view] at h
  | f + 1, .own b off m cap sz ex, s', h => by
    simp only [view] at h
    split at h
    · rename_i blk hb
      split at h
      · rename_i hle
        split at h
        · rename_i cs hcs
          simp only [shift, view, hm b blk hb, shiftL_length, hle, if_true]
          have := viewL_shift hm f _ _ hcs
          rw [shiftL_map] at this
          rw [shiftL_map, ← List.map_drop, ← List.map_take, this]
          exact h
        · simp at h
      · simp at h
    · simp at h
  | 0, .optr _ _, s', h => by simp [view] at h
  | f + 1, .optr b off, s', h => by
    simp only [view] at h
    split at h
    · rename_i blk hb
      split at h
      · rename_i cs hcs
        simp only [shift, view, hm b blk hb, viewL_shift hm f _ _ hcs]
        exact h
      · simp at h
    · simp at h
  | 0, .agg _, s', h => by simp [view] at h
  | f + 1, .agg cs, s', h => by
    simp only [view] at h
    split at h
    · rename_i cs' hcs
      simp only [shift, view, viewL_shift hm f _ _ hcs]
      exact h
    · simp at h
  | 0, .tup _, s', h => by simp [view] at h
  | f + 1, .tup cs, s', h => by
    simp only [view] at h
    split at h
    · rename_i cs' hcs
      simp only [shift, view, viewL_shift hm f _ _ hcs]
      exact h
    · simp at h
  | 0, .clos _ _ _, s', h => by simp [view] at h
  | f + 1, .clos fn a c, s', h => by
    simp only [view] at h
    split at h
    · rename_i a' c' ha hc
      simp only [shift, view, viewL_shift hm f _ _ ha, viewL_shift hm f _ _ hc]
      exact h
    · simp at h
  | 0, .iface _ _, s', h => by simp [view] at h
  | f + 1, .iface t s, s', h => by
    simp only [view] at h
    split at h
    · rename_i s'' hs
      simp only [shift, view, view_shift hm f _ _ hs]
      exact h
    · simp at h
theorem viewL_shift {H0 H' : Heap} {n : Nat} (hm : ∀ b blk, H0.map b = some blk → H'.map (b + n) = some ⟨shiftL n blk.cells, blk.ex⟩) : ∀ (f : Nat) (ss ss' : List SV), viewL H0 f ss = some ss' → viewL H' f (shiftL n ss) = some ss'
  | f, [], ss', h => by cases f <;> simpa [viewL, shiftL] using h
  | f, s :: ss, ss', h => by
    have key : ∃ t ts, view H0 f s = some t ∧ viewL H0 f ss = some ts ∧ ss' = t :: ts := by
      cases f
      all_goals
        simp only [viewL] at h
        split at h
        · rename_i t ts ht hts
          exact ⟨t, ts, ht, hts, by simpa using h.symm⟩
        · simp at h
    obtain ⟨t, ts, ht, hts, rfl⟩ := key
    have := viewL_cons_of (view_shift hm f s t ht) (viewL_shift hm f ss ts hts)
    simpa only [shiftL] using this
end

mutual
theorem noRow_shift (n : Nat) : ∀ s : SV, noRow s = true → noRow (shift n s) = true
  | .undef, _ => rfl
  | .val _, _ => rfl
  | .row _ _ _, h => by simp [noRow] at h
  | .rptr _ _, h => by simp [noRow] at h
  | .own _ _ _ _ _ _, _ => rfl
  | .optr _ _, _ => rfl
  | .agg cs, h => by simp only [noRow] at h; simp only [shift, noRow]; exact noRowL_shift n cs h
  | .tup cs, h => by simp only [noRow] at h; simp only [shift, noRow]; exact noRowL_shift n cs h
  | .clos _ a c, h => by simp only [noRow, Bool.and_eq_true] at h; simp only [shift, noRow, noRowL_shift n a h.1, noRowL_shift n c h.2, Bool.and_self]
  | .iface _ s, h => by simp only [noRow] at h; simp only [shift, noRow]; exact noRow_shift n s h
theorem noRowL_shift (n : Nat) : ∀ ss : List SV, noRowL ss = true → noRowL (shiftL n ss) = true
  | [], _ => by simp [shiftL, noRowL]
  | s :: ss, h => by simp only [noRowL, Bool.and_eq_true] at h; simp only [shiftL, noRowL, noRow_shift n s h.1, noRowL_shift n ss h.2, Bool.and_self]
end

/-- r reads as T in whatever heap holds the blocks from lo on as H does. -/
structure VIn (lo : Nat) (H : Heap) (fu : Nat) (T r : SV) : Prop where
  nr : noRow r = true
  vw : ∀ H' : Heap, (∀ b, lo ≤ b → b < H.nb → H'.map b = H.map b) → view H' fu r = some T
  hn : ∀ b blk, lo ≤ b → b < H.nb → H.map b = some blk → noRowL blk.cells = true
theorem VIn.mono {lo : Nat} {H H1 : Heap} {fu : Nat} {T r : SV} (h : VIn lo H fu T r) (hnb : H.nb ≤ H1.nb) (hm : ∀ b, lo ≤ b → b < H.nb → H1.map b = H.map b) : ∀ H' : Heap, (∀ b, lo ≤ b → b < H1.nb → H'.map b = H1.map b) → view H' fu r = some T :=
  fun H' hh => h.vw H' fun b hb hb2 => by rw [hh b hb (by omega), hm b hb hb2]
theorem VIn.here {lo : Nat} {H : Heap} {fu : Nat} {T r : SV} (h : VIn lo H fu T r) : view H fu r = some T := h.vw H fun _ _ _ => rfl

/-- The blocks from lo on, below hi. -/
def cutH (H : Heap) (lo hi : Nat) : Heap := ⟨fun b => if lo ≤ b ∧ b < hi then H.map b else none, H.nb⟩
theorem cutH_sub (H : Heap) (lo hi : Nat) : Sub (cutH H lo hi) H := ⟨rfl, fun b => by
  show (if lo ≤ b ∧ b < hi then H.map b else none) = none ∨ (if lo ≤ b ∧ b < hi then H.map b else none) = H.map b
  split
  · exact .inr rfl
  · exact .inl rfl⟩
theorem cutH_map {H : Heap} {lo hi b : Nat} (h1 : lo ≤ b) (h2 : b < hi) : (cutH H lo hi).map b = H.map b := if_pos ⟨h1, h2⟩

/-- What a body's end owes a contract by reading: its shape S, and that it reads as T. -/
def VRes (S : SV → Prop) (fu : Nat) (T : SV) (r : SV) (H : Heap) : Prop := S r ∧ view H fu r = some T
/-- A slice of n elements of z cells each; a struct with one in front. -/
def IsOwn (n z : Nat) (r : SV) : Prop := ∃ b off cap ex, r = .own b off n cap z ex
def IsAgg1 (n z : Nat) (r : SV) : Prop := ∃ b off cap ex, r = .agg [.own b off n cap z ex]
theorem IsOwn.sh {n z : Nat} (k : Nat) (r : SV) (h : IsOwn n z r) : IsOwn n z (shift k r) := by
  obtain ⟨b, off, cap, ex, rfl⟩ := h
  exact ⟨b + k, off, cap, ex, by simp only [shift]⟩
theorem IsAgg1.sh {n z : Nat} (k : Nat) (r : SV) (h : IsAgg1 n z r) : IsAgg1 n z (shift k r) := by
  obtain ⟨b, off, cap, ex, rfl⟩ := h
  exact ⟨b + k, off, cap, ex, by simp only [shift, shiftL]⟩
theorem FCall.callVw {f : FuncId} {args args' : List SV} {S : SV → Prop} {fu : Nat} {T : SV} {H : Heap} {K : SV → Heap → Prop} (h : FCall P f args' (VRes S fu T)) (hS : ∀ k r, S r → S (shift k r)) (fu' : Nat) (hv : viewL H fu' args = some args')
    (k : ∀ r H', S r → VIn H.nb H' fu T r → H.nb ≤ H'.nb → (∀ b, b < H.nb → H'.map b = H.map b) → K r H') : @CallX P f args H ⟨K⟩ := by
  have h' : FCall P f args' (fun r H0 => VRes S fu T r H0 ∧ noRow r = true ∧ nrHeap H0 ∧ ∀ b blk, H0.map b = some blk → b < H0.nb) := by
    refine ⟨h.1, fun w vs hl ht => (h.2 w vs hl ht).mono ?_⟩
    rintro e w' ⟨v, r, j, H0, h1, h2, h3, h4, h5, h6, h7, h8⟩
    refine ⟨v, r, j, H0, h1, h2, h3, h4, h5, h6, h7, h8, h6, h7, fun b blk hb => ?_⟩
    obtain ⟨rb, base, g1, _⟩ := h3.live b blk hb
    exact h3.dom b _ g1
  refine (h'.callS fu' hv).mono ?_
  rintro r H' ⟨r0, H0, ⟨⟨h0, h1⟩, h2, h3, h4⟩, rfl, rfl⟩
  have hmap : ∀ b blk, H0.map b = some blk → (H.merge H0).map (b + H.nb) = some ⟨shiftL H.nb blk.cells, blk.ex⟩ := fun b blk hb => by
    simp only [Heap.merge]
    rw [if_neg (by omega), Nat.add_sub_cancel, hb]; rfl
  have hnb : (H.merge H0).nb = H.nb + H0.nb := rfl
  refine k _ _ (hS _ _ h0) ⟨noRow_shift _ _ h2, fun H1 hH1 => ?_, fun b blk hb1 hb2 hb => ?_⟩ (by omega) (fun b hb => by simp only [Heap.merge]; rw [if_pos hb])
  · refine view_shift (H0 := H0) (fun b blk hb => ?_) fu r0 T h1
    have := h4 b blk hb
    rw [hH1 (b + H.nb) (by omega) (by omega), hmap b blk hb]
  · simp only [Heap.merge] at hb
    rw [if_neg (by omega)] at hb
    cases hx : H0.map (b - H.nb) with
    | none => rw [hx] at hb; simp at hb
    | some blk0 =>
      rw [hx] at hb
      simp at hb; subst hb
      exact noRowL_shift _ _ (h3 _ _ hx)
theorem FCall.pcallVw {f : FuncId} {args : List SV} {S : SV → Prop} {fu : Nat} {T : SV} (h : FCall P f args (VRes S fu T)) : PCall P f args T := h.pcall fu (fun _ _ h => h.2)
/-- At a body's end: the result uses the blocks from lo to hi alone. -/
theorem fin_vw {S : SV → Prop} {fu : Nat} {T r : SV} {H : Heap} (lo hi : Nat) (hS : S r) (hnr : noRow r = true) (hn : ∀ b blk, lo ≤ b → b < hi → H.map b = some blk → noRowL blk.cells = true) (hv : view (cutH H lo hi) fu r = some T) : Fin (VRes S fu T) r H :=
  ⟨cutH H lo hi, cutH_sub H lo hi, hnr, (fun b blk hb => by
    by_cases h : lo ≤ b ∧ b < hi
    · exact hn b blk h.1 h.2 (by rw [← cutH_map h.1 h.2]; exact hb)
    · have : (cutH H lo hi).map b = none := if_neg h
      rw [this] at hb; cases hb), hS, hv⟩
end Go.Sh

/-
  Heaps changed: plain.
-/
namespace Go.Sh
set_option linter.unusedSimpArgs false
set_option linter.unusedVariables false
open Go

theorem hset_map (H : Heap) (b x : Nat) (k : Option Blk) : (H.set b k).map x = if x = b then k else H.map x := rfl
theorem hset_nb (H : Heap) (b : Nat) (k : Option Blk) : (H.set b k).nb = H.nb := rfl
theorem hpush_map (H : Heap) (x : Nat) (k : Blk) : (H.push k).map x = if x = H.nb then some k else H.map x := rfl
theorem hpush_nb (H : Heap) (k : Blk) : (H.push k).nb = H.nb + 1 := rfl
end Go.Sh

/-
  Contracts: tests, rules, sets of rules and scorings, measured, copied and compared.
-/
namespace Go.Sh
set_option linter.unusedSimpArgs false
set_option linter.unusedVariables false
open Go Go.Proofs

/-! ### Tests: two numbers and a Bool, as constraints are -/
def rules (R : List (List Con)) : List SV := R.map rc
def rR (R : List (List Con)) : SV := .row R.length false (rules R)
def rg (R : List (List Con)) (k : Nat) : List Con := R.getD k []
theorem rules_length (R : List (List Con)) : (rules R).length = R.length := by simp [rules]
theorem rules_get {R : List (List Con)} {k : Nat} (h : k < R.length) : (rules R)[k]? = some (.row (rg R k).length false (cons (rg R k))) := by simp [rules, rg, h, rc]
theorem rules_load {R : List (List Con)} {k : Nat} (h : k < R.length) : ((rules R).drop k).take 1 = [.row (rg R k).length false (cons (rg R k))] := by
  rw [List.drop_eq_getElem_cons (by rw [rules_length]; exact h)]
  simp [rules, rg, h, rc]
def rsum (R : List (List Con)) (k : Nat) : Int := ((R.take k).map fun r => (r.length : Int)).sum
theorem rsum_succ {R : List (List Con)} {k : Nat} (h : k < R.length) : rsum R (k + 1) = rsum R k + (rg R k).length := by
  have e : rg R k = R[k] := by simp [rg, h]
  rw [rsum, List.take_succ_eq_append_getElem h, List.map_append, List.sum_append, e]
  simp only [List.map_cons, List.map_nil, List.sum_cons, List.sum_nil, Int.add_zero]
  rfl
theorem rsum_nonneg (R : List (List Con)) (k : Nat) : 0 ≤ rsum R k := by
  unfold rsum
  induction R.take k with
  | nil => simp
  | cons a l ih => simp only [List.map_cons, List.sum_cons]; omega
theorem rsum_mono {R : List (List Con)} {k : Nat} : ∀ d, k + d ≤ R.length → rsum R k ≤ rsum R (k + d)
  | 0, _ => by simp
  | d + 1, h => by
    have ih := rsum_mono (R := R) (k := k) d (by omega)
    have := rsum_succ (R := R) (k := k + d) (by omega)
    rw [show k + (d + 1) = k + d + 1 by omega]; omega
theorem rsum_le {R : List (List Con)} {k : Nat} (h : k ≤ R.length) : rsum R k ≤ rsum R R.length := by
  have := rsum_mono (R := R) (k := k) (R.length - k) (by omega)
  rwa [show k + (R.length - k) = R.length by omega] at this
theorem rg_le {R : List (List Con)} {k : Nat} (h : k < R.length) : (rg R k).length ≤ rsum R R.length := by
  have h1 := rsum_succ h
  have h2 := rsum_le (R := R) (k := k + 1) h
  have h3 := rsum_nonneg R k
  omega
theorem view_rule {H : Heap} {f n : Nat} {ex : Bool} {cs : List SV} : view H (f + 1) (.agg [.row n ex cs]) = some (.agg [.row n false cs]) := view_agg (viewL_cons_of view_row viewL_nil_of)

theorem FlatRes.isOwn {n z : Nat} {cs : List SV} {r : SV} {H : Heap} (h : FlatRes n z cs r H) : IsOwn n z r := by
  obtain ⟨b, off, cap, ex, blk, e, _⟩ := h
  exact ⟨b, off, cap, ex, e⟩
theorem rules_take (R : List (List Con)) {k : Nat} (h : k < R.length) : (R.take (k + 1)).map rc = (R.take k).map rc ++ [rc (rg R k)] := by
  rw [List.take_succ_eq_append_getElem h, List.map_append]; simp [rg, h]
theorem view_agg1_inv {H : Heap} {f : Nat} {s t : SV} (h : view H (f + 1) (.agg [s]) = some (.agg [t])) : view H f s = some t := by
  simp only [view] at h
  split at h
  · rename_i cs hcs
    simp at h; subst h
    cases f
    all_goals
      simp only [viewL] at hcs
      split at hcs
      · rename_i a b ha hb
        simp at hcs hb
        rw [ha, hcs.1]
      · simp at hcs
  · simp at h
theorem viewL_append {H : Heap} {f : Nat} : ∀ {a b a' b' : List SV}, viewL H f a = some a' → viewL H f b = some b' → viewL H f (a ++ b) = some (a' ++ b')
  | [], b, a', b', h, g => by
    have : a' = [] := by cases f <;> simpa [viewL] using h.symm
    subst this; exact g
  | s :: a, b, a', b', h, g => by
    have key : ∃ t ts, view H f s = some t ∧ viewL H f a = some ts ∧ a' = t :: ts := by
      cases f
      all_goals
        simp only [viewL] at h
        split at h
        · rename_i t ts ht hts
          exact ⟨t, ts, ht, hts, by simpa using h.symm⟩
        · simp at h
    obtain ⟨t, ts, ht, hts, rfl⟩ := key
    exact viewL_cons_of ht (viewL_append hts g)
theorem noRowL_append {a b : List SV} (h : noRowL a = true) (g : noRowL b = true) : noRowL (a ++ b) = true := by
  induction a with
  | nil => exact g
  | cons s a ih =>
    simp only [noRowL, Bool.and_eq_true] at h
    simp only [List.cons_append, noRowL, h.1, ih h.2, Bool.and_self]
/-- The outer block of a copy of rules, k of them copied. -/
structure RuB (R : List (List Con)) (k : Nat) (rs : List SV) (H : Heap) : Prop where
  ln : rs.length = k
  o : H.map 0 = some ⟨rs ++ List.replicate (R.length - k) (.val (.slice none 0 0)), true⟩
  nr : noRowL rs = true
  vw : ∀ H' : Heap, (∀ b, 1 ≤ b → b < H.nb → H'.map b = H.map b) → viewL H' 2 rs = some ((R.take k).map rc)
  hn : ∀ b blk, 1 ≤ b → b < H.nb → H.map b = some blk → noRowL blk.cells = true
  nb : 1 ≤ H.nb
abbrev sS (W : List Int) (b : Int) : SV := .agg [ri W, .val (.int .i64 b)]
theorem view_sS {H : Heap} {f n : Nat} {ex : Bool} {cs : List SV} {k : IntKind} {b : Int} : view H (f + 1) (.agg [.row n ex cs, .val (.int k b)]) = some (.agg [.row n false cs, .val (.int k b)]) := view_agg (viewL_cons_of view_row (viewL_cons_of view_int viewL_nil_of))
end Go.Sh

/-
  Contracts: are these constraints? Of the reference and of the program.
-/
namespace Go.Sh
set_option linter.unusedSimpArgs false
set_option linter.unusedVariables false
open Go Go.Proofs

def fidx (pr : Con → Bool) (C : List Con) : Int := match C.findIdx? pr with | some i => (i : Int) | none => -1
theorem fidx_none {pr : Con → Bool} {C : List Con} (h : ∀ i, i < C.length → pr (cg C i) = false) : fidx pr C = -1 := by
  have : C.findIdx? pr = none := by
    rw [List.findIdx?_eq_none_iff]
    intro x hx
    obtain ⟨i, hi, e⟩ := List.getElem_of_mem hx
    have := h i hi
    simpa [cg, hi, e] using this
  rw [fidx, this]
theorem fidx_some {pr : Con → Bool} {C : List Con} {k : Nat} (hk : k < C.length) (h : ∀ i, i < k → pr (cg C i) = false) (e : pr (cg C k) = true) : fidx pr C = k := by
  have : C.findIdx? pr = some k := by
    rw [List.findIdx?_eq_some_iff_getElem]
    refine ⟨hk, by simpa [cg, hk] using e, fun j hj => ?_⟩
    have hj' : j < C.length := by omega
    have := h j hj
    simp [cg, hj'] at this
    simp [this]
  rw [fidx, this]
theorem fidx_ge (pr : Con → Bool) (C : List Con) : (0 ≤ fidx pr C) ↔ C.any pr = true := by
  rw [fidx]
  cases h : C.findIdx? pr with
  | none =>
    rw [List.findIdx?_eq_none_iff] at h
    constructor
    · intro e; simp at e
    · intro e
      obtain ⟨x, hx, h1⟩ := List.any_eq_true.1 e
      rw [h x hx] at h1; cases h1
  | some i =>
    rw [List.findIdx?_eq_some_iff_getElem] at h
    obtain ⟨hi, h1, _⟩ := h
    simp only [Int.natCast_nonneg, true_iff, List.any_eq_true]
    exact ⟨C[i], List.getElem_mem hi, h1⟩

def goodCon (n : Int) (c : Con) : Bool := inR c.1 0 (n - 1) && (inR c.2.1 0 (n - 1) && decide (c.1 < c.2.1))
def areCons (n : Int) (C : List Con) : Bool := inR n 1 8 && (decide (C.length ≤ 10) && C.all (goodCon n))

theorem cap_rptr (cs : List SV) (off : Nat) : ∀ H fu, viewL H fu [.rptr cs off] = some [.rptr cs off] := fun _ _ => viewL_cons_of view_rptr viewL_nil_of

theorem not_any_not {C : List Con} {p : Con → Bool} : (!C.any fun c => !p c) = C.all p := by
  induction C with
  | nil => rfl
  | cons c C ih => simp only [List.any_cons, List.all_cons, ← ih]; cases p c <;> simp

end Go.Sh
