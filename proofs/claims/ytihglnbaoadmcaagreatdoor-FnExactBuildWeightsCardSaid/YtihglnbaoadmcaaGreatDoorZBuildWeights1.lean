/-
  Texts put together: Ty, C1, C2, C3, D1, Lift, G1, D2, H1, ShQ, HM1, PW1, LB1, ST1, D3, J1, K1, MX, N5, N6, V1, PP1. What each proves stands at its own head, with its conditions.
-/
import Derived.Test.YtihglnbaoadmcaaGreatDoorZa2
import Derived.Test.YtihglnbaoadmcaaGreatDoorChecked
import Derived.KernelRfl
import Derived.Test.YtihglnbaoadmcaaGreatDoorRows
import Derived.WalkKit
import Derived.ProofKit
import Derived.OpenShut
import Derived.ShutString
import Derived.ChangeOld
import Derived.Below
import Derived.Deep.Slices
import Derived.Lib.ItoaNum
import Derived.Lib.Join
import Derived.Laws.Strings2

/-
  What the shadow asks of this program's types, each a closed fact.
-/
namespace Go.Sh
set_option linter.unusedSimpArgs false
set_option linter.unusedVariables false
open Go Go.Proofs
attribute [go_sem_proc] Nat.reduceLT Nat.reduceLeDiff Nat.reduceEqDiff Nat.reduceAdd Nat.reduceSub Nat.reduceMul reduceIte reduceCtorEq Int.reduceToNat Int.reduceLE Int.reduceLT Int.reduceNeg Int.reduceSub Int.reduceAdd Int.reduceMul
attribute [go_sem_proc ↓] reduceIte
theorem Tryz.mixed : Tryz.prog.follows .mixedOrders = true := by kernel_rfl
@[go_sem] theorem Tryz.ty.sz1 : szOf Tryz.prog 1 = some 1 := by kernel_rfl
@[go_sem] theorem Tryz.ty.by1 : bytesIn Tryz.prog 1 = some 8 := by kernel_rfl
@[go_sem] theorem Tryz.ty.ag1 : aggOf Tryz.prog 1 = some false := by kernel_rfl
@[go_sem] theorem Tryz.ty.zr1 : zeroOf Tryz.prog 1 = some [.val .nilFunc] := by kernel_rfl
@[go_sem] theorem Tryz.ty.el1 : elemOfSlice Tryz.prog 1 = none := by kernel_rfl
@[go_sem] theorem Tryz.ty.ar1 : arrayOf Tryz.prog 1 = none := by kernel_rfl
@[go_sem] theorem Tryz.ty.st1 : isStr Tryz.prog 1 = false := by kernel_rfl
@[go_sem] theorem Tryz.ty.bo1 : isBool Tryz.prog 1 = false := by kernel_rfl
@[go_sem] theorem Tryz.ty.ki1 : kindOf Tryz.prog 1 = none := by kernel_rfl
@[go_sem] theorem Tryz.ty.if1 : isIface Tryz.prog 1 = some false := by kernel_rfl
@[go_sem] theorem Tryz.ty.sz2 : szOf Tryz.prog 2 = some 1 := by kernel_rfl
@[go_sem] theorem Tryz.ty.by2 : bytesIn Tryz.prog 2 = some 8 := by kernel_rfl
@[go_sem] theorem Tryz.ty.ag2 : aggOf Tryz.prog 2 = some false := by kernel_rfl
@[go_sem] theorem Tryz.ty.zr2 : zeroOf Tryz.prog 2 = some [.val (.int .i64 0)] := by kernel_rfl
@[go_sem] theorem Tryz.ty.el2 : elemOfSlice Tryz.prog 2 = none := by kernel_rfl
@[go_sem] theorem Tryz.ty.ar2 : arrayOf Tryz.prog 2 = none := by kernel_rfl
@[go_sem] theorem Tryz.ty.st2 : isStr Tryz.prog 2 = false := by kernel_rfl
@[go_sem] theorem Tryz.ty.bo2 : isBool Tryz.prog 2 = false := by kernel_rfl
@[go_sem] theorem Tryz.ty.ki2 : kindOf Tryz.prog 2 = some .i64 := by kernel_rfl
@[go_sem] theorem Tryz.ty.if2 : isIface Tryz.prog 2 = some false := by kernel_rfl
@[go_sem] theorem Tryz.ty.un2 : Tryz.prog.underlying 2 = some (.int .i64) := by kernel_rfl
@[go_sem] theorem Tryz.ty.sz3 : szOf Tryz.prog 3 = some 1 := by kernel_rfl
@[go_sem] theorem Tryz.ty.by3 : bytesIn Tryz.prog 3 = some 8 := by kernel_rfl
@[go_sem] theorem Tryz.ty.ag3 : aggOf Tryz.prog 3 = some false := by kernel_rfl
@[go_sem] theorem Tryz.ty.zr3 : zeroOf Tryz.prog 3 = some [.val (.int .i64 0)] := by kernel_rfl
@[go_sem] theorem Tryz.ty.el3 : elemOfSlice Tryz.prog 3 = none := by kernel_rfl
@[go_sem] theorem Tryz.ty.ar3 : arrayOf Tryz.prog 3 = none := by kernel_rfl
@[go_sem] theorem Tryz.ty.st3 : isStr Tryz.prog 3 = false := by kernel_rfl
@[go_sem] theorem Tryz.ty.bo3 : isBool Tryz.prog 3 = false := by kernel_rfl
@[go_sem] theorem Tryz.ty.ki3 : kindOf Tryz.prog 3 = some .i64 := by kernel_rfl
@[go_sem] theorem Tryz.ty.if3 : isIface Tryz.prog 3 = some false := by kernel_rfl
@[go_sem] theorem Tryz.ty.un3 : Tryz.prog.underlying 3 = some (.int .i64) := by kernel_rfl
@[go_sem] theorem Tryz.ty.sz4 : szOf Tryz.prog 4 = some 1 := by kernel_rfl
@[go_sem] theorem Tryz.ty.by4 : bytesIn Tryz.prog 4 = some 1 := by kernel_rfl
@[go_sem] theorem Tryz.ty.ag4 : aggOf Tryz.prog 4 = some false := by kernel_rfl
@[go_sem] theorem Tryz.ty.zr4 : zeroOf Tryz.prog 4 = some [.val (.bool false)] := by kernel_rfl
@[go_sem] theorem Tryz.ty.el4 : elemOfSlice Tryz.prog 4 = none := by kernel_rfl
@[go_sem] theorem Tryz.ty.ar4 : arrayOf Tryz.prog 4 = none := by kernel_rfl
@[go_sem] theorem Tryz.ty.st4 : isStr Tryz.prog 4 = false := by kernel_rfl
@[go_sem] theorem Tryz.ty.bo4 : isBool Tryz.prog 4 = true := by kernel_rfl
@[go_sem] theorem Tryz.ty.ki4 : kindOf Tryz.prog 4 = none := by kernel_rfl
@[go_sem] theorem Tryz.ty.if4 : isIface Tryz.prog 4 = some false := by kernel_rfl
@[go_sem] theorem Tryz.ty.un4 : Tryz.prog.underlying 4 = some (.bool) := by kernel_rfl
@[go_sem] theorem Tryz.ty.sz5 : szOf Tryz.prog 5 = some 1 := by kernel_rfl
@[go_sem] theorem Tryz.ty.by5 : bytesIn Tryz.prog 5 = some 1 := by kernel_rfl
@[go_sem] theorem Tryz.ty.ag5 : aggOf Tryz.prog 5 = some false := by kernel_rfl
@[go_sem] theorem Tryz.ty.zr5 : zeroOf Tryz.prog 5 = some [.val (.int .u8 0)] := by kernel_rfl
@[go_sem] theorem Tryz.ty.el5 : elemOfSlice Tryz.prog 5 = none := by kernel_rfl
@[go_sem] theorem Tryz.ty.ar5 : arrayOf Tryz.prog 5 = none := by kernel_rfl
@[go_sem] theorem Tryz.ty.st5 : isStr Tryz.prog 5 = false := by kernel_rfl
@[go_sem] theorem Tryz.ty.bo5 : isBool Tryz.prog 5 = false := by kernel_rfl
@[go_sem] theorem Tryz.ty.ki5 : kindOf Tryz.prog 5 = some .u8 := by kernel_rfl
@[go_sem] theorem Tryz.ty.if5 : isIface Tryz.prog 5 = some false := by kernel_rfl
@[go_sem] theorem Tryz.ty.un5 : Tryz.prog.underlying 5 = some (.int .u8) := by kernel_rfl
@[go_sem] theorem Tryz.ty.fo0_7 : fieldOf Tryz.prog 7 0 = some (2, 0) := by kernel_rfl
@[go_sem] theorem Tryz.ty.fp0_7 : fieldPl Tryz.prog 7 0 = some (0, 1) := by kernel_rfl
@[go_sem] theorem Tryz.ty.fo1_7 : fieldOf Tryz.prog 7 1 = some (3, 1) := by kernel_rfl
@[go_sem] theorem Tryz.ty.fp1_7 : fieldPl Tryz.prog 7 1 = some (1, 1) := by kernel_rfl
@[go_sem] theorem Tryz.ty.fo2_7 : fieldOf Tryz.prog 7 2 = some (4, 2) := by kernel_rfl
@[go_sem] theorem Tryz.ty.fp2_7 : fieldPl Tryz.prog 7 2 = some (2, 1) := by kernel_rfl
@[go_sem] theorem Tryz.ty.fo3_7 : fieldOf Tryz.prog 7 3 = some (6, 3) := by kernel_rfl
@[go_sem] theorem Tryz.ty.fp3_7 : fieldPl Tryz.prog 7 3 = some (3, 1) := by kernel_rfl
@[go_sem] theorem Tryz.ty.sz9 : szOf Tryz.prog 9 = some 1 := by kernel_rfl
@[go_sem] theorem Tryz.ty.by9 : bytesIn Tryz.prog 9 = some 16 := by kernel_rfl
@[go_sem] theorem Tryz.ty.ag9 : aggOf Tryz.prog 9 = some false := by kernel_rfl
@[go_sem] theorem Tryz.ty.zr9 : zeroOf Tryz.prog 9 = some [.val (.string ByteArray.empty)] := by kernel_rfl
@[go_sem] theorem Tryz.ty.el9 : elemOfSlice Tryz.prog 9 = none := by kernel_rfl
@[go_sem] theorem Tryz.ty.ar9 : arrayOf Tryz.prog 9 = none := by kernel_rfl
@[go_sem] theorem Tryz.ty.st9 : isStr Tryz.prog 9 = true := by kernel_rfl
@[go_sem] theorem Tryz.ty.bo9 : isBool Tryz.prog 9 = false := by kernel_rfl
@[go_sem] theorem Tryz.ty.ki9 : kindOf Tryz.prog 9 = none := by kernel_rfl
@[go_sem] theorem Tryz.ty.if9 : isIface Tryz.prog 9 = some false := by kernel_rfl
@[go_sem] theorem Tryz.ty.un9 : Tryz.prog.underlying 9 = some (.string) := by kernel_rfl
@[go_sem] theorem Tryz.ty.fo0_13 : fieldOf Tryz.prog 13 0 = some (9, 0) := by kernel_rfl
@[go_sem] theorem Tryz.ty.fp0_13 : fieldPl Tryz.prog 13 0 = some (0, 1) := by kernel_rfl
@[go_sem] theorem Tryz.ty.fo1_13 : fieldOf Tryz.prog 13 1 = some (12, 1) := by kernel_rfl
@[go_sem] theorem Tryz.ty.fp1_13 : fieldPl Tryz.prog 13 1 = some (1, 1) := by kernel_rfl
@[go_sem] theorem Tryz.ty.fo0_18 : fieldOf Tryz.prog 18 0 = some (17, 0) := by kernel_rfl
@[go_sem] theorem Tryz.ty.fp0_18 : fieldPl Tryz.prog 18 0 = some (0, 1) := by kernel_rfl
@[go_sem] theorem Tryz.ty.sz22 : szOf Tryz.prog 22 = some 1 := by kernel_rfl
@[go_sem] theorem Tryz.ty.by22 : bytesIn Tryz.prog 22 = some 24 := by kernel_rfl
@[go_sem] theorem Tryz.ty.ag22 : aggOf Tryz.prog 22 = some false := by kernel_rfl
@[go_sem] theorem Tryz.ty.zr22 : zeroOf Tryz.prog 22 = some [.val (.slice none 0 0)] := by kernel_rfl
@[go_sem] theorem Tryz.ty.el22 : elemOfSlice Tryz.prog 22 = some 68 := by kernel_rfl
@[go_sem] theorem Tryz.ty.ar22 : arrayOf Tryz.prog 22 = none := by kernel_rfl
@[go_sem] theorem Tryz.ty.st22 : isStr Tryz.prog 22 = false := by kernel_rfl
@[go_sem] theorem Tryz.ty.bo22 : isBool Tryz.prog 22 = false := by kernel_rfl
@[go_sem] theorem Tryz.ty.ki22 : kindOf Tryz.prog 22 = none := by kernel_rfl
@[go_sem] theorem Tryz.ty.if22 : isIface Tryz.prog 22 = some false := by kernel_rfl
@[go_sem] theorem Tryz.ty.un22 : Tryz.prog.underlying 22 = some (.slice 68) := by kernel_rfl
@[go_sem] theorem Tryz.ty.sz23 : szOf Tryz.prog 23 = some 1 := by kernel_rfl
@[go_sem] theorem Tryz.ty.by23 : bytesIn Tryz.prog 23 = some 24 := by kernel_rfl
@[go_sem] theorem Tryz.ty.ag23 : aggOf Tryz.prog 23 = some false := by kernel_rfl
@[go_sem] theorem Tryz.ty.zr23 : zeroOf Tryz.prog 23 = some [.val (.slice none 0 0)] := by kernel_rfl
@[go_sem] theorem Tryz.ty.el23 : elemOfSlice Tryz.prog 23 = some 109 := by kernel_rfl
@[go_sem] theorem Tryz.ty.ar23 : arrayOf Tryz.prog 23 = none := by kernel_rfl
@[go_sem] theorem Tryz.ty.st23 : isStr Tryz.prog 23 = false := by kernel_rfl
@[go_sem] theorem Tryz.ty.bo23 : isBool Tryz.prog 23 = false := by kernel_rfl
@[go_sem] theorem Tryz.ty.ki23 : kindOf Tryz.prog 23 = none := by kernel_rfl
@[go_sem] theorem Tryz.ty.if23 : isIface Tryz.prog 23 = some false := by kernel_rfl
@[go_sem] theorem Tryz.ty.un23 : Tryz.prog.underlying 23 = some (.slice 109) := by kernel_rfl
@[go_sem] theorem Tryz.ty.fo0_24 : fieldOf Tryz.prog 24 0 = some (23, 0) := by kernel_rfl
@[go_sem] theorem Tryz.ty.fp0_24 : fieldPl Tryz.prog 24 0 = some (0, 1) := by kernel_rfl
@[go_sem] theorem Tryz.ty.sz25 : szOf Tryz.prog 25 = some 1 := by kernel_rfl
@[go_sem] theorem Tryz.ty.by25 : bytesIn Tryz.prog 25 = some 24 := by kernel_rfl
@[go_sem] theorem Tryz.ty.ag25 : aggOf Tryz.prog 25 = some true := by kernel_rfl
@[go_sem] theorem Tryz.ty.zr25 : zeroOf Tryz.prog 25 = some [.val (.slice none 0 0)] := by kernel_rfl
@[go_sem] theorem Tryz.ty.el25 : elemOfSlice Tryz.prog 25 = none := by kernel_rfl
@[go_sem] theorem Tryz.ty.ar25 : arrayOf Tryz.prog 25 = none := by kernel_rfl
@[go_sem] theorem Tryz.ty.st25 : isStr Tryz.prog 25 = false := by kernel_rfl
@[go_sem] theorem Tryz.ty.bo25 : isBool Tryz.prog 25 = false := by kernel_rfl
@[go_sem] theorem Tryz.ty.ki25 : kindOf Tryz.prog 25 = none := by kernel_rfl
@[go_sem] theorem Tryz.ty.if25 : isIface Tryz.prog 25 = some false := by kernel_rfl
@[go_sem] theorem Tryz.ty.fo0_25 : fieldOf Tryz.prog 25 0 = some (23, 0) := by kernel_rfl
@[go_sem] theorem Tryz.ty.fp0_25 : fieldPl Tryz.prog 25 0 = some (0, 1) := by kernel_rfl
@[go_sem] theorem Tryz.ty.bk25 : buildOk Tryz.prog 25 = true := by kernel_rfl
@[go_sem] theorem Tryz.ty.sz26 : szOf Tryz.prog 26 = some 1 := by kernel_rfl
@[go_sem] theorem Tryz.ty.by26 : bytesIn Tryz.prog 26 = some 24 := by kernel_rfl
@[go_sem] theorem Tryz.ty.ag26 : aggOf Tryz.prog 26 = some false := by kernel_rfl
@[go_sem] theorem Tryz.ty.zr26 : zeroOf Tryz.prog 26 = some [.val (.slice none 0 0)] := by kernel_rfl
@[go_sem] theorem Tryz.ty.el26 : elemOfSlice Tryz.prog 26 = some 3 := by kernel_rfl
@[go_sem] theorem Tryz.ty.ar26 : arrayOf Tryz.prog 26 = none := by kernel_rfl
@[go_sem] theorem Tryz.ty.st26 : isStr Tryz.prog 26 = false := by kernel_rfl
@[go_sem] theorem Tryz.ty.bo26 : isBool Tryz.prog 26 = false := by kernel_rfl
@[go_sem] theorem Tryz.ty.ki26 : kindOf Tryz.prog 26 = none := by kernel_rfl
@[go_sem] theorem Tryz.ty.if26 : isIface Tryz.prog 26 = some false := by kernel_rfl
@[go_sem] theorem Tryz.ty.un26 : Tryz.prog.underlying 26 = some (.slice 3) := by kernel_rfl
@[go_sem] theorem Tryz.ty.fo0_27 : fieldOf Tryz.prog 27 0 = some (26, 0) := by kernel_rfl
@[go_sem] theorem Tryz.ty.fp0_27 : fieldPl Tryz.prog 27 0 = some (0, 1) := by kernel_rfl
@[go_sem] theorem Tryz.ty.fo1_27 : fieldOf Tryz.prog 27 1 = some (3, 1) := by kernel_rfl
@[go_sem] theorem Tryz.ty.fp1_27 : fieldPl Tryz.prog 27 1 = some (1, 1) := by kernel_rfl
@[go_sem] theorem Tryz.ty.sz28 : szOf Tryz.prog 28 = some 2 := by kernel_rfl
@[go_sem] theorem Tryz.ty.by28 : bytesIn Tryz.prog 28 = some 32 := by kernel_rfl
@[go_sem] theorem Tryz.ty.ag28 : aggOf Tryz.prog 28 = some true := by kernel_rfl
@[go_sem] theorem Tryz.ty.zr28 : zeroOf Tryz.prog 28 = some [.val (.slice none 0 0), .val (.int .i64 0)] := by kernel_rfl
@[go_sem] theorem Tryz.ty.el28 : elemOfSlice Tryz.prog 28 = none := by kernel_rfl
@[go_sem] theorem Tryz.ty.ar28 : arrayOf Tryz.prog 28 = none := by kernel_rfl
@[go_sem] theorem Tryz.ty.st28 : isStr Tryz.prog 28 = false := by kernel_rfl
@[go_sem] theorem Tryz.ty.bo28 : isBool Tryz.prog 28 = false := by kernel_rfl
@[go_sem] theorem Tryz.ty.ki28 : kindOf Tryz.prog 28 = none := by kernel_rfl
@[go_sem] theorem Tryz.ty.if28 : isIface Tryz.prog 28 = some false := by kernel_rfl
@[go_sem] theorem Tryz.ty.fo0_28 : fieldOf Tryz.prog 28 0 = some (26, 0) := by kernel_rfl
@[go_sem] theorem Tryz.ty.fp0_28 : fieldPl Tryz.prog 28 0 = some (0, 1) := by kernel_rfl
@[go_sem] theorem Tryz.ty.fo1_28 : fieldOf Tryz.prog 28 1 = some (3, 1) := by kernel_rfl
@[go_sem] theorem Tryz.ty.fp1_28 : fieldPl Tryz.prog 28 1 = some (1, 1) := by kernel_rfl
@[go_sem] theorem Tryz.ty.bk28 : buildOk Tryz.prog 28 = true := by kernel_rfl
@[go_sem] theorem Tryz.ty.sz32 : szOf Tryz.prog 32 = some 1 := by kernel_rfl
@[go_sem] theorem Tryz.ty.by32 : bytesIn Tryz.prog 32 = some 24 := by kernel_rfl
@[go_sem] theorem Tryz.ty.ag32 : aggOf Tryz.prog 32 = some false := by kernel_rfl
@[go_sem] theorem Tryz.ty.zr32 : zeroOf Tryz.prog 32 = some [.val (.slice none 0 0)] := by kernel_rfl
@[go_sem] theorem Tryz.ty.el32 : elemOfSlice Tryz.prog 32 = some 26 := by kernel_rfl
@[go_sem] theorem Tryz.ty.ar32 : arrayOf Tryz.prog 32 = none := by kernel_rfl
@[go_sem] theorem Tryz.ty.st32 : isStr Tryz.prog 32 = false := by kernel_rfl
@[go_sem] theorem Tryz.ty.bo32 : isBool Tryz.prog 32 = false := by kernel_rfl
@[go_sem] theorem Tryz.ty.ki32 : kindOf Tryz.prog 32 = none := by kernel_rfl
@[go_sem] theorem Tryz.ty.if32 : isIface Tryz.prog 32 = some false := by kernel_rfl
@[go_sem] theorem Tryz.ty.un32 : Tryz.prog.underlying 32 = some (.slice 26) := by kernel_rfl
@[go_sem] theorem Tryz.ty.sz34 : szOf Tryz.prog 34 = some 1 := by kernel_rfl
@[go_sem] theorem Tryz.ty.by34 : bytesIn Tryz.prog 34 = some 24 := by kernel_rfl
@[go_sem] theorem Tryz.ty.ag34 : aggOf Tryz.prog 34 = some false := by kernel_rfl
@[go_sem] theorem Tryz.ty.zr34 : zeroOf Tryz.prog 34 = some [.val (.slice none 0 0)] := by kernel_rfl
@[go_sem] theorem Tryz.ty.el34 : elemOfSlice Tryz.prog 34 = some 59 := by kernel_rfl
@[go_sem] theorem Tryz.ty.ar34 : arrayOf Tryz.prog 34 = none := by kernel_rfl
@[go_sem] theorem Tryz.ty.st34 : isStr Tryz.prog 34 = false := by kernel_rfl
@[go_sem] theorem Tryz.ty.bo34 : isBool Tryz.prog 34 = false := by kernel_rfl
@[go_sem] theorem Tryz.ty.ki34 : kindOf Tryz.prog 34 = none := by kernel_rfl
@[go_sem] theorem Tryz.ty.if34 : isIface Tryz.prog 34 = some false := by kernel_rfl
@[go_sem] theorem Tryz.ty.un34 : Tryz.prog.underlying 34 = some (.slice 59) := by kernel_rfl
@[go_sem] theorem Tryz.ty.sz36 : szOf Tryz.prog 36 = some 1 := by kernel_rfl
@[go_sem] theorem Tryz.ty.by36 : bytesIn Tryz.prog 36 = some 24 := by kernel_rfl
@[go_sem] theorem Tryz.ty.ag36 : aggOf Tryz.prog 36 = some false := by kernel_rfl
@[go_sem] theorem Tryz.ty.zr36 : zeroOf Tryz.prog 36 = some [.val (.slice none 0 0)] := by kernel_rfl
@[go_sem] theorem Tryz.ty.el36 : elemOfSlice Tryz.prog 36 = some 112 := by kernel_rfl
@[go_sem] theorem Tryz.ty.ar36 : arrayOf Tryz.prog 36 = none := by kernel_rfl
@[go_sem] theorem Tryz.ty.st36 : isStr Tryz.prog 36 = false := by kernel_rfl
@[go_sem] theorem Tryz.ty.bo36 : isBool Tryz.prog 36 = false := by kernel_rfl
@[go_sem] theorem Tryz.ty.ki36 : kindOf Tryz.prog 36 = none := by kernel_rfl
@[go_sem] theorem Tryz.ty.if36 : isIface Tryz.prog 36 = some false := by kernel_rfl
@[go_sem] theorem Tryz.ty.un36 : Tryz.prog.underlying 36 = some (.slice 112) := by kernel_rfl
@[go_sem] theorem Tryz.ty.fo0_37 : fieldOf Tryz.prog 37 0 = some (36, 0) := by kernel_rfl
@[go_sem] theorem Tryz.ty.fp0_37 : fieldPl Tryz.prog 37 0 = some (0, 1) := by kernel_rfl
@[go_sem] theorem Tryz.ty.sz38 : szOf Tryz.prog 38 = some 1 := by kernel_rfl
@[go_sem] theorem Tryz.ty.by38 : bytesIn Tryz.prog 38 = some 24 := by kernel_rfl
@[go_sem] theorem Tryz.ty.ag38 : aggOf Tryz.prog 38 = some true := by kernel_rfl
@[go_sem] theorem Tryz.ty.zr38 : zeroOf Tryz.prog 38 = some [.val (.slice none 0 0)] := by kernel_rfl
@[go_sem] theorem Tryz.ty.el38 : elemOfSlice Tryz.prog 38 = none := by kernel_rfl
@[go_sem] theorem Tryz.ty.ar38 : arrayOf Tryz.prog 38 = none := by kernel_rfl
@[go_sem] theorem Tryz.ty.st38 : isStr Tryz.prog 38 = false := by kernel_rfl
@[go_sem] theorem Tryz.ty.bo38 : isBool Tryz.prog 38 = false := by kernel_rfl
@[go_sem] theorem Tryz.ty.ki38 : kindOf Tryz.prog 38 = none := by kernel_rfl
@[go_sem] theorem Tryz.ty.if38 : isIface Tryz.prog 38 = some false := by kernel_rfl
@[go_sem] theorem Tryz.ty.fo0_38 : fieldOf Tryz.prog 38 0 = some (36, 0) := by kernel_rfl
@[go_sem] theorem Tryz.ty.fp0_38 : fieldPl Tryz.prog 38 0 = some (0, 1) := by kernel_rfl
@[go_sem] theorem Tryz.ty.bk38 : buildOk Tryz.prog 38 = true := by kernel_rfl
@[go_sem] theorem Tryz.ty.sz40 : szOf Tryz.prog 40 = some 2 := by kernel_rfl
@[go_sem] theorem Tryz.ty.by40 : bytesIn Tryz.prog 40 = some 32 := by kernel_rfl
@[go_sem] theorem Tryz.ty.ag40 : aggOf Tryz.prog 40 = some true := by kernel_rfl
@[go_sem] theorem Tryz.ty.zr40 : zeroOf Tryz.prog 40 = some [.val (.slice none 0 0), .val (.int .i64 0)] := by kernel_rfl
@[go_sem] theorem Tryz.ty.el40 : elemOfSlice Tryz.prog 40 = none := by kernel_rfl
@[go_sem] theorem Tryz.ty.ar40 : arrayOf Tryz.prog 40 = none := by kernel_rfl
@[go_sem] theorem Tryz.ty.st40 : isStr Tryz.prog 40 = false := by kernel_rfl
@[go_sem] theorem Tryz.ty.bo40 : isBool Tryz.prog 40 = false := by kernel_rfl
@[go_sem] theorem Tryz.ty.ki40 : kindOf Tryz.prog 40 = none := by kernel_rfl
@[go_sem] theorem Tryz.ty.if40 : isIface Tryz.prog 40 = some false := by kernel_rfl
@[go_sem] theorem Tryz.ty.fo0_40 : fieldOf Tryz.prog 40 0 = some (26, 0) := by kernel_rfl
@[go_sem] theorem Tryz.ty.fp0_40 : fieldPl Tryz.prog 40 0 = some (0, 1) := by kernel_rfl
@[go_sem] theorem Tryz.ty.fo1_40 : fieldOf Tryz.prog 40 1 = some (3, 1) := by kernel_rfl
@[go_sem] theorem Tryz.ty.fp1_40 : fieldPl Tryz.prog 40 1 = some (1, 1) := by kernel_rfl
@[go_sem] theorem Tryz.ty.bk40 : buildOk Tryz.prog 40 = true := by kernel_rfl
@[go_sem] theorem Tryz.ty.sz51 : szOf Tryz.prog 51 = some 1 := by kernel_rfl
@[go_sem] theorem Tryz.ty.by51 : bytesIn Tryz.prog 51 = some 24 := by kernel_rfl
@[go_sem] theorem Tryz.ty.ag51 : aggOf Tryz.prog 51 = some false := by kernel_rfl
@[go_sem] theorem Tryz.ty.zr51 : zeroOf Tryz.prog 51 = some [.val (.slice none 0 0)] := by kernel_rfl
@[go_sem] theorem Tryz.ty.el51 : elemOfSlice Tryz.prog 51 = some 5 := by kernel_rfl
@[go_sem] theorem Tryz.ty.ar51 : arrayOf Tryz.prog 51 = none := by kernel_rfl
@[go_sem] theorem Tryz.ty.st51 : isStr Tryz.prog 51 = false := by kernel_rfl
@[go_sem] theorem Tryz.ty.bo51 : isBool Tryz.prog 51 = false := by kernel_rfl
@[go_sem] theorem Tryz.ty.ki51 : kindOf Tryz.prog 51 = none := by kernel_rfl
@[go_sem] theorem Tryz.ty.if51 : isIface Tryz.prog 51 = some false := by kernel_rfl
@[go_sem] theorem Tryz.ty.un51 : Tryz.prog.underlying 51 = some (.slice 5) := by kernel_rfl
@[go_sem] theorem Tryz.ty.sz57 : szOf Tryz.prog 57 = some 1 := by kernel_rfl
@[go_sem] theorem Tryz.ty.by57 : bytesIn Tryz.prog 57 = some 24 := by kernel_rfl
@[go_sem] theorem Tryz.ty.ag57 : aggOf Tryz.prog 57 = some false := by kernel_rfl
@[go_sem] theorem Tryz.ty.zr57 : zeroOf Tryz.prog 57 = some [.val (.slice none 0 0)] := by kernel_rfl
@[go_sem] theorem Tryz.ty.el57 : elemOfSlice Tryz.prog 57 = some 9 := by kernel_rfl
@[go_sem] theorem Tryz.ty.ar57 : arrayOf Tryz.prog 57 = none := by kernel_rfl
@[go_sem] theorem Tryz.ty.st57 : isStr Tryz.prog 57 = false := by kernel_rfl
@[go_sem] theorem Tryz.ty.bo57 : isBool Tryz.prog 57 = false := by kernel_rfl
@[go_sem] theorem Tryz.ty.ki57 : kindOf Tryz.prog 57 = none := by kernel_rfl
@[go_sem] theorem Tryz.ty.if57 : isIface Tryz.prog 57 = some false := by kernel_rfl
@[go_sem] theorem Tryz.ty.un57 : Tryz.prog.underlying 57 = some (.slice 9) := by kernel_rfl
@[go_sem] theorem Tryz.ty.fo0_58 : fieldOf Tryz.prog 58 0 = some (3, 0) := by kernel_rfl
@[go_sem] theorem Tryz.ty.fp0_58 : fieldPl Tryz.prog 58 0 = some (0, 1) := by kernel_rfl
@[go_sem] theorem Tryz.ty.fo1_58 : fieldOf Tryz.prog 58 1 = some (3, 1) := by kernel_rfl
@[go_sem] theorem Tryz.ty.fp1_58 : fieldPl Tryz.prog 58 1 = some (1, 1) := by kernel_rfl
@[go_sem] theorem Tryz.ty.fo2_58 : fieldOf Tryz.prog 58 2 = some (3, 2) := by kernel_rfl
@[go_sem] theorem Tryz.ty.fp2_58 : fieldPl Tryz.prog 58 2 = some (2, 1) := by kernel_rfl
@[go_sem] theorem Tryz.ty.fo3_58 : fieldOf Tryz.prog 58 3 = some (57, 3) := by kernel_rfl
@[go_sem] theorem Tryz.ty.fp3_58 : fieldPl Tryz.prog 58 3 = some (3, 1) := by kernel_rfl
@[go_sem] theorem Tryz.ty.sz59 : szOf Tryz.prog 59 = some 4 := by kernel_rfl
@[go_sem] theorem Tryz.ty.by59 : bytesIn Tryz.prog 59 = some 48 := by kernel_rfl
@[go_sem] theorem Tryz.ty.ag59 : aggOf Tryz.prog 59 = some true := by kernel_rfl
@[go_sem] theorem Tryz.ty.zr59 : zeroOf Tryz.prog 59 = some [.val (.int .i64 0), .val (.int .i64 0), .val (.int .i64 0), .val (.slice none 0 0)] := by kernel_rfl
@[go_sem] theorem Tryz.ty.el59 : elemOfSlice Tryz.prog 59 = none := by kernel_rfl
@[go_sem] theorem Tryz.ty.ar59 : arrayOf Tryz.prog 59 = none := by kernel_rfl
@[go_sem] theorem Tryz.ty.st59 : isStr Tryz.prog 59 = false := by kernel_rfl
@[go_sem] theorem Tryz.ty.bo59 : isBool Tryz.prog 59 = false := by kernel_rfl
@[go_sem] theorem Tryz.ty.ki59 : kindOf Tryz.prog 59 = none := by kernel_rfl
@[go_sem] theorem Tryz.ty.if59 : isIface Tryz.prog 59 = some false := by kernel_rfl
@[go_sem] theorem Tryz.ty.fo0_59 : fieldOf Tryz.prog 59 0 = some (3, 0) := by kernel_rfl
@[go_sem] theorem Tryz.ty.fp0_59 : fieldPl Tryz.prog 59 0 = some (0, 1) := by kernel_rfl
@[go_sem] theorem Tryz.ty.fo1_59 : fieldOf Tryz.prog 59 1 = some (3, 1) := by kernel_rfl
@[go_sem] theorem Tryz.ty.fp1_59 : fieldPl Tryz.prog 59 1 = some (1, 1) := by kernel_rfl
@[go_sem] theorem Tryz.ty.fo2_59 : fieldOf Tryz.prog 59 2 = some (3, 2) := by kernel_rfl
@[go_sem] theorem Tryz.ty.fp2_59 : fieldPl Tryz.prog 59 2 = some (2, 1) := by kernel_rfl
@[go_sem] theorem Tryz.ty.fo3_59 : fieldOf Tryz.prog 59 3 = some (57, 3) := by kernel_rfl
@[go_sem] theorem Tryz.ty.fp3_59 : fieldPl Tryz.prog 59 3 = some (3, 1) := by kernel_rfl
@[go_sem] theorem Tryz.ty.bk59 : buildOk Tryz.prog 59 = true := by kernel_rfl
@[go_sem] theorem Tryz.ty.sz68 : szOf Tryz.prog 68 = some 4 := by kernel_rfl
@[go_sem] theorem Tryz.ty.by68 : bytesIn Tryz.prog 68 = some 48 := by kernel_rfl
@[go_sem] theorem Tryz.ty.ag68 : aggOf Tryz.prog 68 = some true := by kernel_rfl
@[go_sem] theorem Tryz.ty.zr68 : zeroOf Tryz.prog 68 = some [.val (.int .i64 0), .val (.int .i64 0), .val (.int .i64 0), .val (.slice none 0 0)] := by kernel_rfl
@[go_sem] theorem Tryz.ty.el68 : elemOfSlice Tryz.prog 68 = none := by kernel_rfl
@[go_sem] theorem Tryz.ty.ar68 : arrayOf Tryz.prog 68 = none := by kernel_rfl
@[go_sem] theorem Tryz.ty.st68 : isStr Tryz.prog 68 = false := by kernel_rfl
@[go_sem] theorem Tryz.ty.bo68 : isBool Tryz.prog 68 = false := by kernel_rfl
@[go_sem] theorem Tryz.ty.ki68 : kindOf Tryz.prog 68 = none := by kernel_rfl
@[go_sem] theorem Tryz.ty.if68 : isIface Tryz.prog 68 = some false := by kernel_rfl
@[go_sem] theorem Tryz.ty.fo0_68 : fieldOf Tryz.prog 68 0 = some (3, 0) := by kernel_rfl
@[go_sem] theorem Tryz.ty.fp0_68 : fieldPl Tryz.prog 68 0 = some (0, 1) := by kernel_rfl
@[go_sem] theorem Tryz.ty.fo1_68 : fieldOf Tryz.prog 68 1 = some (3, 1) := by kernel_rfl
@[go_sem] theorem Tryz.ty.fp1_68 : fieldPl Tryz.prog 68 1 = some (1, 1) := by kernel_rfl
@[go_sem] theorem Tryz.ty.fo2_68 : fieldOf Tryz.prog 68 2 = some (3, 2) := by kernel_rfl
@[go_sem] theorem Tryz.ty.fp2_68 : fieldPl Tryz.prog 68 2 = some (2, 1) := by kernel_rfl
@[go_sem] theorem Tryz.ty.fo3_68 : fieldOf Tryz.prog 68 3 = some (57, 3) := by kernel_rfl
@[go_sem] theorem Tryz.ty.fp3_68 : fieldPl Tryz.prog 68 3 = some (3, 1) := by kernel_rfl
@[go_sem] theorem Tryz.ty.bk68 : buildOk Tryz.prog 68 = true := by kernel_rfl
@[go_sem] theorem Tryz.ty.sz107 : szOf Tryz.prog 107 = some 1 := by kernel_rfl
@[go_sem] theorem Tryz.ty.by107 : bytesIn Tryz.prog 107 = some 24 := by kernel_rfl
@[go_sem] theorem Tryz.ty.ag107 : aggOf Tryz.prog 107 = some false := by kernel_rfl
@[go_sem] theorem Tryz.ty.zr107 : zeroOf Tryz.prog 107 = some [.val (.slice none 0 0)] := by kernel_rfl
@[go_sem] theorem Tryz.ty.el107 : elemOfSlice Tryz.prog 107 = some 170 := by kernel_rfl
@[go_sem] theorem Tryz.ty.ar107 : arrayOf Tryz.prog 107 = none := by kernel_rfl
@[go_sem] theorem Tryz.ty.st107 : isStr Tryz.prog 107 = false := by kernel_rfl
@[go_sem] theorem Tryz.ty.bo107 : isBool Tryz.prog 107 = false := by kernel_rfl
@[go_sem] theorem Tryz.ty.ki107 : kindOf Tryz.prog 107 = none := by kernel_rfl
@[go_sem] theorem Tryz.ty.if107 : isIface Tryz.prog 107 = some false := by kernel_rfl
@[go_sem] theorem Tryz.ty.un107 : Tryz.prog.underlying 107 = some (.slice 170) := by kernel_rfl
@[go_sem] theorem Tryz.ty.fo0_108 : fieldOf Tryz.prog 108 0 = some (107, 0) := by kernel_rfl
@[go_sem] theorem Tryz.ty.fp0_108 : fieldPl Tryz.prog 108 0 = some (0, 1) := by kernel_rfl
@[go_sem] theorem Tryz.ty.sz109 : szOf Tryz.prog 109 = some 1 := by kernel_rfl
@[go_sem] theorem Tryz.ty.by109 : bytesIn Tryz.prog 109 = some 24 := by kernel_rfl
@[go_sem] theorem Tryz.ty.ag109 : aggOf Tryz.prog 109 = some true := by kernel_rfl
@[go_sem] theorem Tryz.ty.zr109 : zeroOf Tryz.prog 109 = some [.val (.slice none 0 0)] := by kernel_rfl
@[go_sem] theorem Tryz.ty.el109 : elemOfSlice Tryz.prog 109 = none := by kernel_rfl
@[go_sem] theorem Tryz.ty.ar109 : arrayOf Tryz.prog 109 = none := by kernel_rfl
@[go_sem] theorem Tryz.ty.st109 : isStr Tryz.prog 109 = false := by kernel_rfl
@[go_sem] theorem Tryz.ty.bo109 : isBool Tryz.prog 109 = false := by kernel_rfl
@[go_sem] theorem Tryz.ty.ki109 : kindOf Tryz.prog 109 = none := by kernel_rfl
@[go_sem] theorem Tryz.ty.if109 : isIface Tryz.prog 109 = some false := by kernel_rfl
@[go_sem] theorem Tryz.ty.fo0_109 : fieldOf Tryz.prog 109 0 = some (107, 0) := by kernel_rfl
@[go_sem] theorem Tryz.ty.fp0_109 : fieldPl Tryz.prog 109 0 = some (0, 1) := by kernel_rfl
@[go_sem] theorem Tryz.ty.bk109 : buildOk Tryz.prog 109 = true := by kernel_rfl
@[go_sem] theorem Tryz.ty.sz110 : szOf Tryz.prog 110 = some 1 := by kernel_rfl
@[go_sem] theorem Tryz.ty.by110 : bytesIn Tryz.prog 110 = some 24 := by kernel_rfl
@[go_sem] theorem Tryz.ty.ag110 : aggOf Tryz.prog 110 = some false := by kernel_rfl
@[go_sem] theorem Tryz.ty.zr110 : zeroOf Tryz.prog 110 = some [.val (.slice none 0 0)] := by kernel_rfl
@[go_sem] theorem Tryz.ty.el110 : elemOfSlice Tryz.prog 110 = some 114 := by kernel_rfl
@[go_sem] theorem Tryz.ty.ar110 : arrayOf Tryz.prog 110 = none := by kernel_rfl
@[go_sem] theorem Tryz.ty.st110 : isStr Tryz.prog 110 = false := by kernel_rfl
@[go_sem] theorem Tryz.ty.bo110 : isBool Tryz.prog 110 = false := by kernel_rfl
@[go_sem] theorem Tryz.ty.ki110 : kindOf Tryz.prog 110 = none := by kernel_rfl
@[go_sem] theorem Tryz.ty.if110 : isIface Tryz.prog 110 = some false := by kernel_rfl
@[go_sem] theorem Tryz.ty.un110 : Tryz.prog.underlying 110 = some (.slice 114) := by kernel_rfl
@[go_sem] theorem Tryz.ty.fo0_111 : fieldOf Tryz.prog 111 0 = some (110, 0) := by kernel_rfl
@[go_sem] theorem Tryz.ty.fp0_111 : fieldPl Tryz.prog 111 0 = some (0, 1) := by kernel_rfl
@[go_sem] theorem Tryz.ty.sz112 : szOf Tryz.prog 112 = some 1 := by kernel_rfl
@[go_sem] theorem Tryz.ty.by112 : bytesIn Tryz.prog 112 = some 24 := by kernel_rfl
@[go_sem] theorem Tryz.ty.ag112 : aggOf Tryz.prog 112 = some true := by kernel_rfl
@[go_sem] theorem Tryz.ty.zr112 : zeroOf Tryz.prog 112 = some [.val (.slice none 0 0)] := by kernel_rfl
@[go_sem] theorem Tryz.ty.el112 : elemOfSlice Tryz.prog 112 = none := by kernel_rfl
@[go_sem] theorem Tryz.ty.ar112 : arrayOf Tryz.prog 112 = none := by kernel_rfl
@[go_sem] theorem Tryz.ty.st112 : isStr Tryz.prog 112 = false := by kernel_rfl
@[go_sem] theorem Tryz.ty.bo112 : isBool Tryz.prog 112 = false := by kernel_rfl
@[go_sem] theorem Tryz.ty.ki112 : kindOf Tryz.prog 112 = none := by kernel_rfl
@[go_sem] theorem Tryz.ty.if112 : isIface Tryz.prog 112 = some false := by kernel_rfl
@[go_sem] theorem Tryz.ty.fo0_112 : fieldOf Tryz.prog 112 0 = some (110, 0) := by kernel_rfl
@[go_sem] theorem Tryz.ty.fp0_112 : fieldPl Tryz.prog 112 0 = some (0, 1) := by kernel_rfl
@[go_sem] theorem Tryz.ty.bk112 : buildOk Tryz.prog 112 = true := by kernel_rfl
@[go_sem] theorem Tryz.ty.fo0_113 : fieldOf Tryz.prog 113 0 = some (3, 0) := by kernel_rfl
@[go_sem] theorem Tryz.ty.fp0_113 : fieldPl Tryz.prog 113 0 = some (0, 1) := by kernel_rfl
@[go_sem] theorem Tryz.ty.fo1_113 : fieldOf Tryz.prog 113 1 = some (3, 1) := by kernel_rfl
@[go_sem] theorem Tryz.ty.fp1_113 : fieldPl Tryz.prog 113 1 = some (1, 1) := by kernel_rfl
@[go_sem] theorem Tryz.ty.fo2_113 : fieldOf Tryz.prog 113 2 = some (4, 2) := by kernel_rfl
@[go_sem] theorem Tryz.ty.fp2_113 : fieldPl Tryz.prog 113 2 = some (2, 1) := by kernel_rfl
@[go_sem] theorem Tryz.ty.sz114 : szOf Tryz.prog 114 = some 3 := by kernel_rfl
@[go_sem] theorem Tryz.ty.by114 : bytesIn Tryz.prog 114 = some 24 := by kernel_rfl
@[go_sem] theorem Tryz.ty.ag114 : aggOf Tryz.prog 114 = some true := by kernel_rfl
@[go_sem] theorem Tryz.ty.zr114 : zeroOf Tryz.prog 114 = some [.val (.int .i64 0), .val (.int .i64 0), .val (.bool false)] := by kernel_rfl
@[go_sem] theorem Tryz.ty.el114 : elemOfSlice Tryz.prog 114 = none := by kernel_rfl
@[go_sem] theorem Tryz.ty.ar114 : arrayOf Tryz.prog 114 = none := by kernel_rfl
@[go_sem] theorem Tryz.ty.st114 : isStr Tryz.prog 114 = false := by kernel_rfl
@[go_sem] theorem Tryz.ty.bo114 : isBool Tryz.prog 114 = false := by kernel_rfl
@[go_sem] theorem Tryz.ty.ki114 : kindOf Tryz.prog 114 = none := by kernel_rfl
@[go_sem] theorem Tryz.ty.if114 : isIface Tryz.prog 114 = some false := by kernel_rfl
@[go_sem] theorem Tryz.ty.fo0_114 : fieldOf Tryz.prog 114 0 = some (3, 0) := by kernel_rfl
@[go_sem] theorem Tryz.ty.fp0_114 : fieldPl Tryz.prog 114 0 = some (0, 1) := by kernel_rfl
@[go_sem] theorem Tryz.ty.fo1_114 : fieldOf Tryz.prog 114 1 = some (3, 1) := by kernel_rfl
@[go_sem] theorem Tryz.ty.fp1_114 : fieldPl Tryz.prog 114 1 = some (1, 1) := by kernel_rfl
@[go_sem] theorem Tryz.ty.fo2_114 : fieldOf Tryz.prog 114 2 = some (4, 2) := by kernel_rfl
@[go_sem] theorem Tryz.ty.fp2_114 : fieldPl Tryz.prog 114 2 = some (2, 1) := by kernel_rfl
@[go_sem] theorem Tryz.ty.bk114 : buildOk Tryz.prog 114 = true := by kernel_rfl
@[go_sem] theorem Tryz.ty.fo0_125 : fieldOf Tryz.prog 125 0 = some (51, 0) := by kernel_rfl
@[go_sem] theorem Tryz.ty.fp0_125 : fieldPl Tryz.prog 125 0 = some (0, 1) := by kernel_rfl
@[go_sem] theorem Tryz.ty.fo1_125 : fieldOf Tryz.prog 125 1 = some (3, 1) := by kernel_rfl
@[go_sem] theorem Tryz.ty.fp1_125 : fieldPl Tryz.prog 125 1 = some (1, 1) := by kernel_rfl
@[go_sem] theorem Tryz.ty.fo2_125 : fieldOf Tryz.prog 125 2 = some (3, 2) := by kernel_rfl
@[go_sem] theorem Tryz.ty.fp2_125 : fieldPl Tryz.prog 125 2 = some (2, 1) := by kernel_rfl
@[go_sem] theorem Tryz.ty.fo0_126 : fieldOf Tryz.prog 126 0 = some (51, 0) := by kernel_rfl
@[go_sem] theorem Tryz.ty.fp0_126 : fieldPl Tryz.prog 126 0 = some (0, 1) := by kernel_rfl
@[go_sem] theorem Tryz.ty.fo1_126 : fieldOf Tryz.prog 126 1 = some (3, 1) := by kernel_rfl
@[go_sem] theorem Tryz.ty.fp1_126 : fieldPl Tryz.prog 126 1 = some (1, 1) := by kernel_rfl
@[go_sem] theorem Tryz.ty.fo2_126 : fieldOf Tryz.prog 126 2 = some (3, 2) := by kernel_rfl
@[go_sem] theorem Tryz.ty.fp2_126 : fieldPl Tryz.prog 126 2 = some (2, 1) := by kernel_rfl
@[go_sem] theorem Tryz.ty.fo0_161 : fieldOf Tryz.prog 161 0 = some (160, 0) := by kernel_rfl
@[go_sem] theorem Tryz.ty.fp0_161 : fieldPl Tryz.prog 161 0 = some (0, 1) := by kernel_rfl
@[go_sem] theorem Tryz.ty.fo1_161 : fieldOf Tryz.prog 161 1 = some (51, 1) := by kernel_rfl
@[go_sem] theorem Tryz.ty.fp1_161 : fieldPl Tryz.prog 161 1 = some (1, 1) := by kernel_rfl
@[go_sem] theorem Tryz.ty.fo0_162 : fieldOf Tryz.prog 162 0 = some (160, 0) := by kernel_rfl
@[go_sem] theorem Tryz.ty.fp0_162 : fieldPl Tryz.prog 162 0 = some (0, 1) := by kernel_rfl
@[go_sem] theorem Tryz.ty.fo1_162 : fieldOf Tryz.prog 162 1 = some (51, 1) := by kernel_rfl
@[go_sem] theorem Tryz.ty.fp1_162 : fieldPl Tryz.prog 162 1 = some (1, 1) := by kernel_rfl
@[go_sem] theorem Tryz.ty.if164 : isIface Tryz.prog 164 = some true := by kernel_rfl
@[go_sem] theorem Tryz.ty.sz170 : szOf Tryz.prog 170 = some 3 := by kernel_rfl
@[go_sem] theorem Tryz.ty.by170 : bytesIn Tryz.prog 170 = some 24 := by kernel_rfl
@[go_sem] theorem Tryz.ty.ag170 : aggOf Tryz.prog 170 = some true := by kernel_rfl
@[go_sem] theorem Tryz.ty.zr170 : zeroOf Tryz.prog 170 = some [.val (.int .i64 0), .val (.int .i64 0), .val (.bool false)] := by kernel_rfl
@[go_sem] theorem Tryz.ty.el170 : elemOfSlice Tryz.prog 170 = none := by kernel_rfl
@[go_sem] theorem Tryz.ty.ar170 : arrayOf Tryz.prog 170 = none := by kernel_rfl
@[go_sem] theorem Tryz.ty.st170 : isStr Tryz.prog 170 = false := by kernel_rfl
@[go_sem] theorem Tryz.ty.bo170 : isBool Tryz.prog 170 = false := by kernel_rfl
@[go_sem] theorem Tryz.ty.ki170 : kindOf Tryz.prog 170 = none := by kernel_rfl
@[go_sem] theorem Tryz.ty.if170 : isIface Tryz.prog 170 = some false := by kernel_rfl
@[go_sem] theorem Tryz.ty.fo0_170 : fieldOf Tryz.prog 170 0 = some (3, 0) := by kernel_rfl
@[go_sem] theorem Tryz.ty.fp0_170 : fieldPl Tryz.prog 170 0 = some (0, 1) := by kernel_rfl
@[go_sem] theorem Tryz.ty.fo1_170 : fieldOf Tryz.prog 170 1 = some (3, 1) := by kernel_rfl
@[go_sem] theorem Tryz.ty.fp1_170 : fieldPl Tryz.prog 170 1 = some (1, 1) := by kernel_rfl
@[go_sem] theorem Tryz.ty.fo2_170 : fieldOf Tryz.prog 170 2 = some (4, 2) := by kernel_rfl
@[go_sem] theorem Tryz.ty.fp2_170 : fieldPl Tryz.prog 170 2 = some (2, 1) := by kernel_rfl
@[go_sem] theorem Tryz.ty.bk170 : buildOk Tryz.prog 170 = true := by kernel_rfl
@[go_sem] theorem Tryz.ty.fo0_200 : fieldOf Tryz.prog 200 0 = some (3, 0) := by kernel_rfl
@[go_sem] theorem Tryz.ty.fp0_200 : fieldPl Tryz.prog 200 0 = some (0, 1) := by kernel_rfl
@[go_sem] theorem Tryz.ty.fo1_200 : fieldOf Tryz.prog 200 1 = some (3, 1) := by kernel_rfl
@[go_sem] theorem Tryz.ty.fp1_200 : fieldPl Tryz.prog 200 1 = some (1, 1) := by kernel_rfl
@[go_sem] theorem Tryz.ty.fo0_201 : fieldOf Tryz.prog 201 0 = some (3, 0) := by kernel_rfl
@[go_sem] theorem Tryz.ty.fp0_201 : fieldPl Tryz.prog 201 0 = some (0, 1) := by kernel_rfl
@[go_sem] theorem Tryz.ty.fo1_201 : fieldOf Tryz.prog 201 1 = some (3, 1) := by kernel_rfl
@[go_sem] theorem Tryz.ty.fp1_201 : fieldPl Tryz.prog 201 1 = some (1, 1) := by kernel_rfl
@[go_sem] theorem Tryz.ty.sz202 : szOf Tryz.prog 202 = some 26 := by kernel_rfl
@[go_sem] theorem Tryz.ty.by202 : bytesIn Tryz.prog 202 = some 208 := by kernel_rfl
@[go_sem] theorem Tryz.ty.ag202 : aggOf Tryz.prog 202 = some true := by kernel_rfl
@[go_sem] theorem Tryz.ty.el202 : elemOfSlice Tryz.prog 202 = none := by kernel_rfl
@[go_sem] theorem Tryz.ty.ar202 : arrayOf Tryz.prog 202 = some (26, 3) := by kernel_rfl
@[go_sem] theorem Tryz.ty.st202 : isStr Tryz.prog 202 = false := by kernel_rfl
@[go_sem] theorem Tryz.ty.bo202 : isBool Tryz.prog 202 = false := by kernel_rfl
@[go_sem] theorem Tryz.ty.ki202 : kindOf Tryz.prog 202 = none := by kernel_rfl
@[go_sem] theorem Tryz.ty.if202 : isIface Tryz.prog 202 = some false := by kernel_rfl
@[go_sem] theorem Tryz.ty.bk202 : buildOk Tryz.prog 202 = true := by kernel_rfl
@[go_sem] theorem Tryz.ty.un202 : Tryz.prog.underlying 202 = some (.array 26 3) := by kernel_rfl
@[go_sem] theorem Tryz.ty.fo0_238 : fieldOf Tryz.prog 238 0 = some (9, 0) := by kernel_rfl
@[go_sem] theorem Tryz.ty.fp0_238 : fieldPl Tryz.prog 238 0 = some (0, 1) := by kernel_rfl
@[go_sem] theorem Tryz.ty.fo1_238 : fieldOf Tryz.prog 238 1 = some (9, 1) := by kernel_rfl
@[go_sem] theorem Tryz.ty.fp1_238 : fieldPl Tryz.prog 238 1 = some (1, 1) := by kernel_rfl
@[go_sem] theorem Tryz.ty.fo2_238 : fieldOf Tryz.prog 238 2 = some (164, 2) := by kernel_rfl
@[go_sem] theorem Tryz.ty.fp2_238 : fieldPl Tryz.prog 238 2 = some (2, 1) := by kernel_rfl
@[go_sem] theorem Tryz.ty.fo0_239 : fieldOf Tryz.prog 239 0 = some (9, 0) := by kernel_rfl
@[go_sem] theorem Tryz.ty.fp0_239 : fieldPl Tryz.prog 239 0 = some (0, 1) := by kernel_rfl
@[go_sem] theorem Tryz.ty.fo1_239 : fieldOf Tryz.prog 239 1 = some (9, 1) := by kernel_rfl
@[go_sem] theorem Tryz.ty.fp1_239 : fieldPl Tryz.prog 239 1 = some (1, 1) := by kernel_rfl
@[go_sem] theorem Tryz.ty.fo2_239 : fieldOf Tryz.prog 239 2 = some (164, 2) := by kernel_rfl
@[go_sem] theorem Tryz.ty.fp2_239 : fieldPl Tryz.prog 239 2 = some (2, 1) := by kernel_rfl
@[go_sem] theorem Tryz.ty.fo0_242 : fieldOf Tryz.prog 242 0 = some (5, 0) := by kernel_rfl
@[go_sem] theorem Tryz.ty.fp0_242 : fieldPl Tryz.prog 242 0 = some (0, 1) := by kernel_rfl
@[go_sem] theorem Tryz.ty.fo1_242 : fieldOf Tryz.prog 242 1 = some (5, 1) := by kernel_rfl
@[go_sem] theorem Tryz.ty.fp1_242 : fieldPl Tryz.prog 242 1 = some (1, 1) := by kernel_rfl
@[go_sem] theorem Tryz.ty.fo0_243 : fieldOf Tryz.prog 243 0 = some (5, 0) := by kernel_rfl
@[go_sem] theorem Tryz.ty.fp0_243 : fieldPl Tryz.prog 243 0 = some (0, 1) := by kernel_rfl
@[go_sem] theorem Tryz.ty.fo1_243 : fieldOf Tryz.prog 243 1 = some (5, 1) := by kernel_rfl
@[go_sem] theorem Tryz.ty.fp1_243 : fieldPl Tryz.prog 243 1 = some (1, 1) := by kernel_rfl
@[go_sem] theorem Tryz.ty.fo0_258 : fieldOf Tryz.prog 258 0 = some (9, 0) := by kernel_rfl
@[go_sem] theorem Tryz.ty.fp0_258 : fieldPl Tryz.prog 258 0 = some (0, 1) := by kernel_rfl
@[go_sem] theorem Tryz.ty.fo0_259 : fieldOf Tryz.prog 259 0 = some (9, 0) := by kernel_rfl
@[go_sem] theorem Tryz.ty.fp0_259 : fieldPl Tryz.prog 259 0 = some (0, 1) := by kernel_rfl
@[go_sem] theorem Tryz.ty.fo0_265 : fieldOf Tryz.prog 265 0 = some (17, 0) := by kernel_rfl
@[go_sem] theorem Tryz.ty.fp0_265 : fieldPl Tryz.prog 265 0 = some (0, 1) := by kernel_rfl
@[go_sem] theorem Tryz.ty.fo1_265 : fieldOf Tryz.prog 265 1 = some (17, 1) := by kernel_rfl
@[go_sem] theorem Tryz.ty.fp1_265 : fieldPl Tryz.prog 265 1 = some (1, 1) := by kernel_rfl
@[go_sem] theorem Tryz.ty.fo2_265 : fieldOf Tryz.prog 265 2 = some (17, 2) := by kernel_rfl
@[go_sem] theorem Tryz.ty.fp2_265 : fieldPl Tryz.prog 265 2 = some (2, 1) := by kernel_rfl
@[go_sem] theorem Tryz.ty.fo3_265 : fieldOf Tryz.prog 265 3 = some (9, 3) := by kernel_rfl
@[go_sem] theorem Tryz.ty.fp3_265 : fieldPl Tryz.prog 265 3 = some (3, 1) := by kernel_rfl
@[go_sem] theorem Tryz.ty.fo0_268 : fieldOf Tryz.prog 268 0 = some (267, 0) := by kernel_rfl
@[go_sem] theorem Tryz.ty.fp0_268 : fieldPl Tryz.prog 268 0 = some (0, 0) := by kernel_rfl
end Go.Sh

/-
  Contracts: lists of numbers copied and compared; ranges; partitions.
-/
namespace Go.Sh
set_option linter.unusedSimpArgs false
set_option linter.unusedVariables false
open Go Go.Proofs

def inR (x a b : Int) : Bool := decide (a ≤ x) && decide (x ≤ b)

theorem inR_tt {x a b : Int} (h1 : a ≤ x) (h2 : x ≤ b) : inR x a b = true := by simp [inR, h1, h2]
theorem inR_f1 {x a b : Int} (h1 : ¬ a ≤ x) : inR x a b = false := by simp [inR, h1]
theorem inR_f2 {x a b : Int} (h1 : ¬ x ≤ b) : inR x a b = false := by simp [inR, h1]

theorem Tryz.l1In_ok (x a b : Int) : PCall Tryz.prog 39 [.val (.int .i64 x), .val (.int .i64 a), .val (.int .i64 b)] (.val (.bool (inR x a b))) := by
  refine FCall.pcall (R := fun r _ => r = .val (.bool (inR x a b))) ?_ 0 (by rintro r H rfl; simp [view, viewV])
  refine FCall.of_body Tryz.func39 rfl (by kernel_rfl) (by simp [Tryz.ntmps39]) ?_
  refine SW_of_vc Tryz.mixed _ _ _ (by kernel_rfl) ?_
  by_cases h1 : a ≤ x
  · by_cases h2 : x ≤ b
    · simp (disch := omega) only [Tryz.ntmps39, Tryz.results39, go_sem]
      exact Fin.val (by rw [inR_tt h1 h2])
    · simp (disch := omega) only [Tryz.ntmps39, Tryz.results39, go_sem]
      exact Fin.val (by rw [inR_f2 h2])
  · simp (disch := omega) only [Tryz.ntmps39, Tryz.results39, go_sem]
    exact Fin.val (by rw [inR_f1 h1])

theorem Tryz.within_ok (x a b : Int) : PCall Tryz.prog 46 [.val (.int .i64 x), .val (.int .i64 a), .val (.int .i64 b)] (.val (.bool (inR x a b))) := by
  refine FCall.pcall (R := fun r _ => r = .val (.bool (inR x a b))) ?_ 0 (by rintro r H rfl; simp [view, viewV])
  refine FCall.of_body Tryz.func46 rfl (by kernel_rfl) (by simp [Tryz.ntmps46]) ?_
  refine SW_of_vc Tryz.mixed _ _ _ (by kernel_rfl) ?_
  by_cases h1 : a ≤ x
  · by_cases h2 : x ≤ b
    · simp (disch := omega) only [Tryz.ntmps46, Tryz.results46, go_sem]
      exact Fin.val (by rw [inR_tt h1 h2])
    · simp (disch := omega) only [Tryz.ntmps46, Tryz.results46, go_sem]
      exact Fin.val (by rw [inR_f2 h2])
  · simp (disch := omega) only [Tryz.ntmps46, Tryz.results46, go_sem]
    exact Fin.val (by rw [inR_f1 h1])

def fillTo (L : List Int) (k : Nat) : List Int := L.take k ++ List.replicate (L.length - k) 0
theorem fillTo_zero (L : List Int) : fillTo L 0 = List.replicate L.length 0 := by simp [fillTo]
theorem fillTo_length (L : List Int) (k : Nat) (h : k ≤ L.length) : (fillTo L k).length = L.length := by simp [fillTo]; omega
theorem fillTo_set (L : List Int) (k : Nat) (h : k < L.length) : (fillTo L k).set k (L.getD k 0) = fillTo L (k + 1) := by
  apply List.ext_getElem?
  intro i
  simp [fillTo, List.getElem?_set, List.getElem?_append, List.getElem?_take, List.getElem?_replicate]
  grind
theorem fillTo_all (L : List Int) : fillTo L L.length = L := by simp [fillTo]

set_option maxHeartbeats 1000000 in
theorem Tryz.toIntS_f (L : List Int) (hL : L.length ≤ 1048576) : FCall Tryz.prog 45 [ri L] (IntRes L) := by
  refine FCall.of_body Tryz.func45 rfl (by kernel_rfl) (by simp [Tryz.ntmps45]) ?_
  refine SW_of_vc Tryz.mixed _ _ _ (by kernel_rfl) ?_
  simp (disch := omega) only [Tryz.ntmps45, Tryz.results45, go_sem]
  refine LoopW.loop (fun k : Nat => ⟨ofL [(0, ri L), (3, .own 0 0 L.length L.length 1 true), (4, .val (.int .i64 k))], hp [(0, ⟨ints (fillTo L k), true⟩)] 1⟩) (fun k => k ≤ L.length) (fun k => L.length - k) 0 (by omega)
    (Wk.of (by simp only [go_sem, ↓List.forall_mem_cons, List.not_mem_nil, false_implies, implies_true, and_true, true_and, and_self, ri_eq, Int.natCast_add, Int.cast_ofNat_Int]; try simp) (by simp only [fillTo_zero])) ?_
  intro k hk
  have hf := fillTo_length L k hk
  refine SW_of_vc Tryz.mixed _ _ _ (by kernel_rfl) ?_
  by_cases hlt : k < L.length
  · simp (disch := omega) only [Tryz.ntmps45, Tryz.results45, go_sem, hf, fillTo_set]
    exact ⟨k + 1, by omega, by omega, Wk.of (by simp only [go_sem, ↓List.forall_mem_cons, List.not_mem_nil, false_implies, implies_true, and_true, true_and, and_self, ri_eq, Int.natCast_add, Int.cast_ofNat_Int]; try simp) rfl⟩
  · simp (disch := omega) only [Tryz.ntmps45, Tryz.results45, go_sem, hf, fillTo_set]
    obtain rfl : k = L.length := by omega
    rw [fillTo_all]
    exact IntRes.fin (blk := ⟨ints L, true⟩) (by simp [hp, hmap]) (noRowL_ints _) (by rw [List.drop_zero, ← ints_length L, List.take_length]) (by simp [ints])

theorem eq_take_succ {A B : List Int} {k : Nat} (hA : k < A.length) (hB : k < B.length) (h : A.take k = B.take k) (e : A.getD k 0 = B.getD k 0) : A.take (k + 1) = B.take (k + 1) := by
  rw [List.take_succ_eq_append_getElem hA, List.take_succ_eq_append_getElem hB, h]
  simp [hA, hB] at e
  rw [e]

set_option maxHeartbeats 1000000 in
theorem Tryz.eqIntS_ok (A B : List Int) (hA : A.length ≤ 1099511627776) (hB : B.length ≤ 1099511627776) : PCall Tryz.prog 53 [ri A, ri B] (.val (.bool (A == B))) := by
  refine FCall.pcall (R := fun r _ => r = .val (.bool (A == B))) ?_ 0 (by rintro r H rfl; simp [view, viewV])
  refine FCall.of_body Tryz.func53 rfl (by kernel_rfl) (by simp [Tryz.ntmps53]) ?_
  refine SW_of_vc Tryz.mixed _ _ _ (by kernel_rfl) ?_
  by_cases hl : A.length = B.length
  · simp (disch := omega) only [Tryz.ntmps53, Tryz.results53, go_sem]
    refine LoopW.loop (fun k : Nat => ⟨ofL [(0, ri A), (1, ri B), (5, .val (.int .i64 k))], hp [] 0⟩) (fun k => k ≤ A.length ∧ A.take k = B.take k) (fun k => A.length - k) 0 ⟨by omega, by simp⟩ (Wk.of (by simp only [go_sem, ↓List.forall_mem_cons, List.not_mem_nil, false_implies, implies_true, and_true, true_and, and_self, ri_eq, Int.natCast_add, Int.cast_ofNat_Int]; try simp) rfl) ?_
    rintro k ⟨hk, hkk⟩
    refine SW_of_vc Tryz.mixed _ _ _ (by kernel_rfl) ?_
    by_cases hlt : k < A.length
    · by_cases he : A.getD k 0 = B.getD k 0
      · simp (disch := omega) only [Tryz.ntmps53, Tryz.results53, go_sem]
        exact ⟨k + 1, ⟨by omega, eq_take_succ hlt (by omega) hkk he⟩, by omega, Wk.of (by simp only [go_sem, ↓List.forall_mem_cons, List.not_mem_nil, false_implies, implies_true, and_true, true_and, and_self, ri_eq, Int.natCast_add, Int.cast_ofNat_Int]; try simp) rfl⟩
      · simp (disch := omega) only [Tryz.ntmps53, Tryz.results53, go_sem]
        refine Fin.val ?_
        have : A ≠ B := fun e => he (by rw [e])
        simp [this]
    · simp (disch := omega) only [Tryz.ntmps53, Tryz.results53, go_sem]
      refine Fin.val ?_
      have h1 : A.take k = A := List.take_of_length_le (by omega)
      have h2 : B.take k = B := List.take_of_length_le (by omega)
      rw [h1, h2] at hkk
      simp [hkk]
  · simp (disch := omega) only [Tryz.ntmps53, Tryz.results53, go_sem]
    refine Fin.val ?_
    have : A ≠ B := fun e => hl (by rw [e])
    simp [this]
end Go.Sh

/-
  Contracts: is a list of numbers a partition? Of the reference and of the program.
-/
namespace Go.Sh
set_option linter.unusedSimpArgs false
set_option linter.unusedVariables false
open Go Go.Proofs

theorem callP {P : Program} {f : FuncId} {args : List SV} {H : Heap} {T : SV} {K : SV → Heap → Prop} (h : CallS P f args H (fun r H' => r = T ∧ H' = H)) (k : K T H) : @CallX P f args H ⟨K⟩ :=
  h.mono (fun r H' ⟨e1, e2⟩ => by rw [e1, e2]; exact k)
theorem PCall.call {P : Program} {f : FuncId} {args : List SV} {H : Heap} {T : SV} {K : SV → Heap → Prop} (h : PCall P f args T) (hv : viewL H 0 args = some args) (k : K T H) : @CallX P f args H ⟨K⟩ := callP (h.callS 0 hv) k
def okP : Int → List Int → Bool
  | _, [] => true
  | nx, x :: l => inR x 0 nx && okP (max nx (x + 1)) l
def isPart (L : List Int) : Bool := okP 0 L && inR L.length 1 8

theorem inR_of {x a b : Int} (h : inR x a b = true) : a ≤ x ∧ x ≤ b := by simpa [inR] using h

end Go.Sh

/-
  Contracts: orders of the items.
-/
namespace Go.Sh
set_option linter.unusedSimpArgs false
set_option linter.unusedVariables false
open Go Go.Proofs

def idx (x : Int) (L : List Int) : Int := if x ∈ L then (L.idxOf x : Int) else -1
end Go.Sh

/-
  Contracts: lists marked in place, and read back.
-/
namespace Go.Sh
set_option linter.unusedSimpArgs false
set_option linter.unusedVariables false
open Go Go.Proofs

/-- k, k+1, .. in the first i places. -/
def markTo (L : List Int) (k : Int) (i : Nat) : List Int := (List.range i).map (fun x : Nat => k + (x : Int)) ++ L.drop i
theorem markTo_zero (L : List Int) (k : Int) : markTo L k 0 = L := by simp [markTo]
theorem markTo_length {L : List Int} {k : Int} {i : Nat} (h : i ≤ L.length) : (markTo L k i).length = L.length := by simp [markTo]; omega
theorem markTo_set {L : List Int} {k : Int} {i : Nat} (h : i < L.length) : (markTo L k i).set i (k + (i : Int)) = markTo L k (i + 1) := by
  apply List.ext_getElem?
  intro x
  simp only [markTo, List.getElem?_set, List.getElem?_append, List.length_map, List.length_range, List.getElem?_map, List.getElem?_drop, List.length_append, List.length_drop]
  by_cases h1 : i = x
  · subst h1
    have : i < i + (L.length - i) := by omega
    simp [this]
  · by_cases h2 : x < i
    · have h3 : x < i + 1 := by omega
      simp [h1, h2, h3]
    · have h3 : ¬ x < i + 1 := by omega
      simp [h1, h2, h3]
      congr 1
      omega
def marks (n : Nat) (k : Int) : List Int := (List.range n).map fun x : Nat => k + (x : Int)
theorem markTo_all (L : List Int) (k : Int) : markTo L k L.length = marks L.length k := by simp [markTo, marks]
theorem marks_length (n : Nat) (k : Int) : (marks n k).length = n := by simp [marks]

set_option maxHeartbeats 1000000 in
theorem Tryz.markIntS_ok (L : List Int) (k : Int) (H : Heap) (b n cap : Nat) (ex e2 : Bool) (hb : H.map b = some ⟨ints L, e2⟩) (hn : n = L.length) (hL : L.length ≤ 1099511627776) (hk : 0 ≤ k) (hk2 : k ≤ 1099511627776) :
    CallS Tryz.prog 58 [.own b 0 n cap 1 ex, .val (.int .i64 k)] H (fun r H' => r = .val (.int .i64 (k + n)) ∧ H' = H.set b (some ⟨ints (marks n k), e2⟩)) := by
  subst hn
  refine CallS.of_body Tryz.func58 rfl (by kernel_rfl) (by simp [Tryz.ntmps58]) ?_
  refine SW_of_vc Tryz.mixed _ _ _ (by kernel_rfl) ?_
  simp (disch := omega) only [Tryz.ntmps58, Tryz.results58, go_sem]
  refine LoopW.loop (fun i : Nat => ⟨ofL [(0, .own b 0 L.length cap 1 ex), (1, .val (.int .i64 (k + i))), (5, .val (.int .i64 i))], H.set b (some ⟨ints (markTo L k i), e2⟩)⟩) (fun i => i ≤ L.length) (fun i => L.length - i) 0 (by omega) (Wk.of (by simp only [go_sem, ↓List.forall_mem_cons, List.not_mem_nil, false_implies, implies_true, and_true, true_and, and_self, ri_eq, Int.natCast_add, Int.cast_ofNat_Int, Int.natCast_zero, Int.add_zero]; try simp) (by rw [markTo_zero, Heap.set_self hb])) ?_
  intro i hi
  have hml := markTo_length (k := k) hi
  refine SW_of_vc Tryz.mixed _ _ _ (by kernel_rfl) ?_
  by_cases hlt : i < L.length
  · simp (disch := omega) only [Tryz.ntmps58, Tryz.results58, go_sem, Heap.set_at, hml, Heap.set_set, markTo_set]
    refine ⟨i + 1, by omega, by omega, Wk.of (by simp only [go_sem, ↓List.forall_mem_cons, List.not_mem_nil, false_implies, implies_true, and_true, true_and, and_self, ri_eq, Int.natCast_add, Int.cast_ofNat_Int, Int.add_assoc]; try simp) rfl⟩
  · obtain rfl : i = L.length := by omega
    simp (disch := omega) only [Tryz.ntmps58, Tryz.results58, go_sem, Heap.set_at, hml, Heap.set_set, markTo_set, markTo_all]

def held (L : List Int) (k : Int) : Int := if L = marks L.length k then k + L.length else -1
set_option maxHeartbeats 1000000 in
theorem Tryz.heldIntS_ok (L : List Int) (k : Int) (hL : L.length ≤ 1099511627776) (hk : 0 ≤ k) (hk2 : k ≤ 1099511627776) : PCall Tryz.prog 59 [ri L, .val (.int .i64 k)] (.val (.int .i64 (held L k))) := by
  refine FCall.pcall (R := fun r _ => r = .val (.int .i64 (held L k))) ?_ 0 (by rintro r H rfl; simp [view, viewV])
  refine FCall.of_body Tryz.func59 rfl (by kernel_rfl) (by simp [Tryz.ntmps59]) ?_
  refine SW_of_vc Tryz.mixed _ _ _ (by kernel_rfl) ?_
  simp (disch := omega) only [Tryz.ntmps59, Tryz.results59, go_sem]
  refine LoopW.loop (fun i : Nat => ⟨ofL [(0, ri L), (1, .val (.int .i64 (k + i))), (5, .val (.int .i64 i))], hp [] 0⟩) (fun i => i ≤ L.length ∧ ∀ x, x < i → L.getD x 0 = k + (x : Int)) (fun i => L.length - i) 0 ⟨by omega, by simp⟩ (Wk.of (by simp only [go_sem, ↓List.forall_mem_cons, List.not_mem_nil, false_implies, implies_true, and_true, true_and, and_self, ri_eq, Int.natCast_add, Int.cast_ofNat_Int, Int.natCast_zero, Int.add_zero]; try simp) rfl) ?_
  rintro i ⟨hi, hh⟩
  refine SW_of_vc Tryz.mixed _ _ _ (by kernel_rfl) ?_
  by_cases hlt : i < L.length
  · by_cases he : L.getD i 0 = k + i
    · simp (disch := omega) only [Tryz.ntmps59, Tryz.results59, go_sem, he]
      refine ⟨i + 1, ⟨by omega, fun x hx => ?_⟩, by omega, Wk.of (by simp only [go_sem, ↓List.forall_mem_cons, List.not_mem_nil, false_implies, implies_true, and_true, true_and, and_self, ri_eq, Int.natCast_add, Int.cast_ofNat_Int, Int.add_assoc]; try simp) rfl⟩
      rcases Nat.lt_succ_iff_lt_or_eq.mp hx with h | rfl
      · exact hh x h
      · exact he
    · simp (disch := omega) only [Tryz.ntmps59, Tryz.results59, go_sem]
      refine Fin.val ?_
      have : L ≠ marks L.length k := by
        intro e
        apply he
        rw [e]
        simp [marks, hlt]
      rw [held, if_neg this]
  · obtain rfl : i = L.length := by omega
    simp (disch := omega) only [Tryz.ntmps59, Tryz.results59, go_sem]
    refine Fin.val ?_
    have : L = marks L.length k := by
      apply List.ext_getElem
      · simp [marks]
      · intro x h1 h2
        have := hh x h1
        simp [h1] at this
        simp [marks, this]
    rw [held, if_pos this]
theorem held_marks (n : Nat) (k : Int) : held (marks n k) k = k + n := by rw [held, marks_length, if_pos rfl]
theorem Tryz.toIntS_one (L : List Int) (hL : L.length ≤ 1048576) : FCall Tryz.prog 45 [ri L] (OneRes L.length 1 (ints L)) := ((Tryz.toIntS_f L hL).mono fun _ _ h => h.flat).one
end Go.Sh

/-
  From the values that came in to the shadow's: slices of numbers.
-/
namespace Go.Sh
set_option linter.unusedSimpArgs false
set_option linter.unusedVariables false
open Go Go.RowKit

/-- A slice of numbers that came in, as the machine's memory has it. -/
def IsRow (k : IntKind) (w : World) (a : Option Addr) (len cap : Nat) (zs : List Int) : Prop :=
  (a = none ∧ len = 0 ∧ cap = 0 ∧ zs = []) ∨
  ∃ x, a = some x ∧ len ≤ cap ∧ cap ≤ maxLen ∧ zs.length = cap ∧ (∀ i, i < zs.length → w.cell? (x.add i) = some (.int k (zs.getD i 0))) ∧ ∀ n ∈ zs, (Lit.int k n).wf = true

theorem crel_ints {O : Nat → Prop} {w : World} : ∀ (L : List Int) (x : Addr), (L ≠ [] → ¬ O x.block) → (∀ i, i < L.length → w.cell? (x.add i) = some (.int .i64 (L.getD i 0))) → CRel O w (ints L) x
  | [], x, _, _ => by simp only [ints, List.map_nil, CRel]
  | n :: L, x, hO, h => by
    have h0 := h 0 (by simp)
    rw [Addr.add_zero'] at h0
    have hs : x.spot = none := World.cell?_spot h0
    have e : ints (n :: L) = .val (.int .i64 n) :: ints L := rfl
    rw [e]
    simp only [CRel]
    refine ⟨hs, hO (by simp), ⟨_, h0, by simp [VRel]⟩, crel_ints L ⟨x.block, x.off + 1, none⟩ (fun _ => hO (by simp)) (fun i hi => ?_)⟩
    have := h (i + 1) (by simpa using hi)
    have e2 : (⟨x.block, x.off + 1, none⟩ : Addr).add i = x.add (i + 1) := by
      rw [Addr.add_lit, Addr.add_succ']
      simp [Nat.add_assoc, Nat.add_comm 1 i]
    rw [e2, this]
    simp

theorem isRow_rel {w : World} {a : Option Addr} {len cap : Nat} {zs : List Int} (h : IsRow .i64 w a len cap zs) : VRel (fun _ => False) w noj (ri (zs.take len)) (.slice a len cap) := by
  rcases h with ⟨rfl, rfl, rfl, rfl⟩ | ⟨x, rfl, h1, h2, h3, h4, h5⟩
  · simp only [ri, VRel]
    exact ⟨none, 0, rfl, Nat.le_refl _, by simp, .inl (by simp [ints])⟩
  · have hl : (zs.take len).length = len := by simp; omega
    simp only [ri, VRel]
    refine ⟨some x, cap, by rw [hl], by omega, by simp, .inr ⟨x, rfl, crel_ints _ x (fun _ h => h) (fun i hi => ?_)⟩⟩
    have hi' : i < len := by rw [hl] at hi; exact hi
    rw [h4 i (by omega)]
    congr 2
    simp [List.getD, hi']

def i64R (n : Int) : Prop := -9223372036854775808 ≤ n ∧ n ≤ 9223372036854775807
theorem wf_i64 {n : Int} (h : (Lit.int .i64 n).wf = true) : i64R n := by
  simp [Lit.wf, IntKind.min, IntKind.max, IntKind.signed, IntKind.bits] at h
  unfold i64R
  omega

section
variable {Hh : Type} {enc : TypeId × Value → Hh} {P : Program} {w : World} {held : Bool}
open Go.ChangeShapes Go.WideShapes

theorem cell_ints {t e : TypeId} {fuel : Nat} {v : Value} {x : DataW Hh × List MemPlace} (ht : P.underlying t = some (.slice e)) (he : P.underlying e = some (.int .i64)) (hc : P.cellsOf e = 1)
    (h : DataW.trod enc P w 0 (fun _ => true) held fuel t [v] = some x) : ∃ L : List Int, VRel (fun _ => False) w noj (ri L) v ∧ (∀ n ∈ L, i64R n) ∧ L.length ≤ maxLen := by
  rcases open_ints ht he hc h with ⟨hcs, _⟩ | ⟨a, l, c, zs, hcs, _, hl, hm, hz, _, hcell, hwz⟩
  · simp at hcs
    subst hcs
    exact ⟨[], isRow_rel (zs := []) (.inl ⟨rfl, rfl, rfl, rfl⟩), by simp, by simp⟩
  · simp at hcs
    subst hcs
    exact ⟨zs.take l, isRow_rel (.inr ⟨_, rfl, hl, hm, by simpa using hz, hcell, hwz⟩), fun n hn => wf_i64 (hwz n (List.mem_of_mem_take hn)), by simp; omega⟩

/-- Numbers by rows, to read. -/
def rows (M : List (List Int)) : List SV := M.map ri
def rr (M : List (List Int)) : SV := .row M.length false (rows M)

theorem addr_at {x : Addr} (hs : x.spot = none) (i : Nat) : x.add i = ⟨x.block, x.off + i, none⟩ := by
  obtain ⟨b, o, s⟩ := x
  simp at hs; subst hs
  unfold Addr.add
  by_cases h : i = 0 <;> simp [h]

theorem crel_fn {ss : List SV} {x : Addr} (h : ∀ i s, ss[i]? = some s → ∃ v, w.cell? (x.add i) = some v ∧ VRel (fun _ => False) w noj s v) : CRel (fun _ => False) w ss x := by
  cases ss with
  | nil => simp only [CRel]
  | cons s ss =>
    obtain ⟨v, h0, _⟩ := h 0 s (by simp)
    rw [Addr.add_zero'] at h0
    have hs : x.spot = none := World.cell?_spot h0
    obtain ⟨b, o, sp⟩ := x
    simp at hs; subst hs
    exact CRel.mk (fun _ h => h) (fun i s' hi => by
      obtain ⟨v', g1, g2⟩ := h i s' hi
      rw [addr_at rfl] at g1
      exact ⟨v', g1, g2⟩)

theorem cell_rows {t e q : TypeId} {fuel : Nat} {v : Value} {x : DataW Hh × List MemPlace} (ht : P.underlying t = some (.slice e)) (he : P.underlying e = some (.slice q)) (hq : P.underlying q = some (.int .i64)) (ce : P.cellsOf e = 1) (cq : P.cellsOf q = 1)
    (h : DataW.trod enc P w 0 (fun _ => true) held fuel t [v] = some x) : ∃ M : List (List Int), VRel (fun _ => False) w noj (rr M) v ∧ (∀ L ∈ M, (∀ n ∈ L, i64R n) ∧ L.length ≤ maxLen) ∧ M.length ≤ maxLen := by
  rcases Deep.open_slice1 ht ce h with ⟨hcs, _⟩ | ⟨a, len, cap, m, n, V, D, Pl, hcs, hb, hl, hm, hmm, _, hx⟩
  · simp at hcs
    subst hcs
    refine ⟨[], ?_, by simp, by simp⟩
    simp only [rr, VRel]
    exact ⟨none, 0, rfl, Nat.le_refl _, by simp, .inl (by simp [rows])⟩
  · simp at hcs
    subst hcs
    simp only [if_true] at hmm
    subst hmm
    obtain ⟨L, hL⟩ := Deep.choose_lt (α := List Int) (p := fun i L => VRel (fun _ => False) w noj (ri L) (V i) ∧ (∀ n ∈ L, i64R n) ∧ L.length ≤ maxLen) (fun i hi => cell_ints he hq cq (hx i hi).2)
    refine ⟨(List.range len).map L, ?_, ?_, by simp; omega⟩
    · simp only [rr, VRel]
      refine ⟨some a, m, by simp, by simpa using hl, by simp, .inr ⟨a, rfl, crel_fn (fun i s hi => ?_)⟩⟩
      simp only [rows, List.map_map, List.getElem?_map, Option.map_eq_some_iff] at hi
      obtain ⟨k, hk, rfl⟩ := hi
      have hi : i < len := by
        have := (List.getElem?_eq_some_iff.1 hk).1
        simpa using this
      obtain rfl : i = k := by simpa [hi] using hk
      exact ⟨V i, (hx i (by omega)).1, (hL i (by omega)).1⟩
    · intro l hl'
      simp only [List.mem_map, List.mem_range] at hl'
      obtain ⟨i, hi, rfl⟩ := hl'
      exact (hL i (by omega)).2

/-- A constraint: two items; are they together? -/
abbrev Con := Int × Int × Bool
def con3 (c : Con) : List SV := [.val (.int .i64 c.1), .val (.int .i64 c.2.1), .val (.bool c.2.2)]
def cons (C : List Con) : List SV := C.flatMap con3
def rc (C : List Con) : SV := .row C.length false (cons C)
theorem cons_get : ∀ (C : List Con) (i : Nat) (s : SV), (cons C)[i]? = some s → ∃ c, C[i / 3]? = some c ∧ (con3 c)[i % 3]? = some s
  | [], i, s, h => by simp [cons] at h
  | c :: C, i, s, h => by
    have e : cons (c :: C) = con3 c ++ cons C := rfl
    rw [e, List.getElem?_append] at h
    have e3 : (con3 c).length = 3 := rfl
    rw [e3] at h
    split at h
    · rename_i hlt
      refine ⟨c, ?_, ?_⟩
      · rw [Nat.div_eq_of_lt hlt]; rfl
      · rw [Nat.mod_eq_of_lt hlt]; exact h
    · rename_i hge
      obtain ⟨d, h1, h2⟩ := cons_get C (i - 3) s h
      refine ⟨d, ?_, ?_⟩
      · have : i / 3 = (i - 3) / 3 + 1 := by omega
        rw [this]; simpa using h1
      · have : i % 3 = (i - 3) % 3 := by omega
        rw [this]; exact h2

theorem cell_cons {t e : TypeId} {f0 f1 f2 : Field} {fuel : Nat} {v : Value} {x : DataW Hh × List MemPlace} (ht : P.underlying t = some (.slice e)) (he : P.underlying e = some (.struct #[f0, f1, f2])) (ce : P.cellsOf e = 3)
    (o0 : f0.offset = 0) (o1 : f1.offset = 1) (o2 : f2.offset = 2) (u0 : P.underlying f0.type = some (.int .i64)) (u1 : P.underlying f1.type = some (.int .i64)) (u2 : P.underlying f2.type = some .bool) (c0 : P.cellsOf f0.type = 1) (c1 : P.cellsOf f1.type = 1) (c2 : P.cellsOf f2.type = 1)
    (h : DataW.trod enc P w 0 (fun _ => true) held fuel t [v] = some x) : ∃ C : List Con, VRel (fun _ => False) w noj (rc C) v ∧ (∀ c ∈ C, i64R c.1 ∧ i64R c.2.1) ∧ C.length ≤ maxLen := by
  rcases Deep.open_slice ht h with ⟨hcs, _⟩ | ⟨a, len, cap, m, n, D, Pl, hcs, hb, hl, hm, hmm, _, hx⟩
  · simp at hcs
    subst hcs
    refine ⟨[], ?_, by simp, by simp⟩
    simp only [rc, VRel]
    exact ⟨none, 0, rfl, Nat.le_refl _, by simp, .inl (by simp [cons])⟩
  · simp at hcs
    subst hcs
    simp only [if_true] at hmm
    subst hmm
    rw [ce] at hx
    obtain ⟨C, hC⟩ := Deep.choose_lt (α := Con) (p := fun i c => (∀ k s, (con3 c)[k]? = some s → ∃ u, w.cell? (a.add (i * 3 + k)) = some u ∧ VRel (fun _ => False) w noj s u) ∧ i64R c.1 ∧ i64R c.2.1) (fun i hi => by
      obtain ⟨cs, h1, h2⟩ := hx i hi
      obtain ⟨_, hlen, hcell⟩ := World.cells?_some h1
      obtain ⟨xs, k, hk, hxy, _, hxl, hf⟩ := DataW.trod_struct he h2
      match xs, hxl, cs, hlen with
      | [y0, y1, y2], _, [v0, v1, v2], _ =>
        have g0 := hf 0 f0 rfl
        have g1 := hf 1 f1 rfl
        have g2 := hf 2 f2 rfl
        simp [o0, o1, o2, c0, c1, c2] at g0 g1 g2
        obtain ⟨n0, q0, _, w0⟩ := DataW.trod_int u0 g0
        obtain ⟨n1, q1, _, w1⟩ := DataW.trod_int u1 g1
        obtain ⟨b2, q2, _⟩ := DataW.trod_bool u2 g2
        simp at q0 q1 q2
        subst q0 q1 q2
        have e0 := hcell 0 (by omega)
        have e1 := hcell 1 (by omega)
        have e2 := hcell 2 (by omega)
        rw [Deep.add_add] at e0 e1 e2
        refine ⟨(n0, n1, b2), ?_, wf_i64 w0, wf_i64 w1⟩
        intro k s hs
        match k, hs with
        | 0, hs => simp [con3] at hs; subst hs; exact ⟨_, by simpa using e0, by simp only [VRel]⟩
        | 1, hs => simp [con3] at hs; subst hs; exact ⟨_, by simpa using e1, by simp only [VRel]⟩
        | 2, hs => simp [con3] at hs; subst hs; exact ⟨_, by simpa using e2, by simp only [VRel]⟩
        | k + 3, hs => simp [con3] at hs)
    refine ⟨(List.range len).map C, ?_, ?_, by simp; omega⟩
    · simp only [rc, VRel]
      refine ⟨some a, m, by simp, by simpa using hl, by simp, .inr ⟨a, rfl, crel_fn (fun i s hi => ?_)⟩⟩
      obtain ⟨c, h1, h2⟩ := cons_get _ _ _ hi
      have hi3 : i / 3 < len := by
        have := (List.getElem?_eq_some_iff.1 h1).1
        simpa using this
      obtain rfl : C (i / 3) = c := by simpa [hi3] using h1
      obtain ⟨u, g1, g2⟩ := (hC (i / 3) (by omega)).1 _ _ h2
      exact ⟨u, by rw [← g1]; congr 2; omega, g2⟩
    · intro c hc
      simp only [List.mem_map, List.mem_range] at hc
      obtain ⟨i, hi, rfl⟩ := hc
      exact (hC i (by omega)).2

/-- A clustering: labels, cost, exact, gap. -/
structure Clu where
  labels : List Int
  cost : Int
  exact : Bool
  gap : Int
def sclu (c : Clu) : SV := .agg [ri c.labels, .val (.int .i64 c.cost), .val (.bool c.exact), .val (.int .i64 c.gap)]

end

theorem PCall.law {P : Program} {f : FuncId} {args : List SV} {vs : List Value} {w : World} (h : PCall P f args (.val (.bool true))) (hl : LRel (fun _ => False) w noj args vs) (ht : TabOk (fun _ => False) w) :
    Calls P f vs.toArray w fun e w' => e = .returned (.bool true) ∧ Below w.heap.size w w' := by
  refine (h.2 w vs hl ht).mono ?_
  rintro e w' ⟨v, rfl, h2, h3⟩
  simp only [VRel] at h3
  subst h3
  exact ⟨rfl, h2⟩
end Go.Sh

/-
  Contracts: constraints, copied and compared.
-/
namespace Go.Sh
set_option linter.unusedSimpArgs false
set_option linter.unusedVariables false
open Go Go.Proofs

def dc : Con := (0, 0, false)
def cg (C : List Con) (k : Nat) : Con := C.getD k dc
theorem cons_length (C : List Con) : (cons C).length = C.length * 3 := by
  induction C with
  | nil => rfl
  | cons c C ih =>
    have e : cons (c :: C) = con3 c ++ cons C := rfl
    rw [e, List.length_append, ih]
    simp [con3]; omega
theorem cons_drop : ∀ (C : List Con) (k : Nat), (cons C).drop (k * 3) = cons (C.drop k)
  | C, 0 => by simp
  | [], k + 1 => by simp [cons]
  | c :: C, k + 1 => by
    have e : cons (c :: C) = con3 c ++ cons C := rfl
    have e2 : (k + 1) * 3 = k * 3 + 1 + 1 + 1 := by omega
    rw [e, e2]
    show (cons C).drop (k * 3) = cons (C.drop k)
    exact cons_drop C k
theorem cons_load {C : List Con} {k : Nat} (h : k < C.length) : ((cons C).drop (k * 3)).take 3 = [.val (.int .i64 (cg C k).1), .val (.int .i64 (cg C k).2.1), .val (.bool (cg C k).2.2)] := by
  rw [cons_drop, List.drop_eq_getElem_cons h]
  have e : cg C k = C[k] := by simp [cg, h]
  rw [e]
  rfl
theorem cons_at {C : List Con} {k i : Nat} (h : k < C.length) (hi : i < 3) : (cons C)[k * 3 + i]? = (con3 (cg C k))[i]? := by
  have := cons_load h
  have h2 : (((cons C).drop (k * 3)).take 3)[i]? = (con3 (cg C k))[i]? := by rw [this]; rfl
  rw [List.getElem?_take, if_pos hi, List.getElem?_drop] at h2
  exact h2
theorem cons_at0 {C : List Con} {k : Nat} (h : k < C.length) : (cons C)[k * 3]? = some (.val (.int .i64 (cg C k).1)) := cons_at (i := 0) h (by omega)
theorem cons_at1 {C : List Con} {k : Nat} (h : k < C.length) : (cons C)[k * 3 + 1]? = some (.val (.int .i64 (cg C k).2.1)) := cons_at h (by omega)
theorem cons_at2 {C : List Con} {k : Nat} (h : k < C.length) : (cons C)[k * 3 + 2]? = some (.val (.bool (cg C k).2.2)) := cons_at h (by omega)
theorem con_ex (C : List Con) (k : Nat) : ∃ a b s, cg C k = (a, b, s) := ⟨_, _, _, rfl⟩
theorem cons_of {C : List Con} {k : Nat} {a b : Int} {s : Bool} (h : k < C.length) (e : cg C k = (a, b, s)) : (cons C)[k * 3]? = some (.val (.int .i64 a)) ∧ (cons C)[k * 3 + 1]? = some (.val (.int .i64 b)) ∧ (cons C)[k * 3 + 2]? = some (.val (.bool s)) ∧
    ((cons C).drop (k * 3)).take 3 = [.val (.int .i64 a), .val (.int .i64 b), .val (.bool s)] := by
  have h0 := cons_at0 h
  have h1 := cons_at1 h
  have h2 := cons_at2 h
  have h3 := cons_load h
  rw [e] at h0 h1 h2 h3
  exact ⟨h0, h1, h2, h3⟩
theorem cons_vals (C : List Con) : (cons C).all isVal = true := by
  induction C with
  | nil => rfl
  | cons c C ih =>
    have e : cons (c :: C) = con3 c ++ cons C := rfl
    rw [e, List.all_append, ih]; rfl
theorem cons_append (A B : List Con) : cons A ++ cons B = cons (A ++ B) := by simp [cons]
theorem cons_splice : ∀ {C : List Con} {k : Nat} {a b : Int} {s : Bool}, k < C.length → splice (cons C) (k * 3) [.val (.int .i64 a), .val (.int .i64 b), .val (.bool s)] = cons (C.set k (a, b, s))
  | [], k, a, b, s, h => by simp at h
  | c :: C, 0, a, b, s, _ => rfl
  | c :: C, k + 1, a, b, s, h => by
    have ih := cons_splice (C := C) (k := k) (a := a) (b := b) (s := s) (by simpa using h)
    have e : cons (c :: C) = .val (.int .i64 c.1) :: .val (.int .i64 c.2.1) :: .val (.bool c.2.2) :: cons C := rfl
    have e2 : cons ((c :: C).set (k + 1) (a, b, s)) = .val (.int .i64 c.1) :: .val (.int .i64 c.2.1) :: .val (.bool c.2.2) :: cons (C.set k (a, b, s)) := rfl
    have e3 : (k + 1) * 3 = k * 3 + 1 + 1 + 1 := by omega
    rw [e2, ← ih, e, e3]
    simp only [splice, List.set_cons_succ]
theorem cons_set3 {C : List Con} {k : Nat} {a b : Int} {s : Bool} (h : k < C.length) : (((cons C).set (k * 3) (.val (.int .i64 a))).set (k * 3 + 1) (.val (.int .i64 b))).set (k * 3 + 1 + 1) (.val (.bool s)) = cons (C.set k (a, b, s)) := by
  have := cons_splice (a := a) (b := b) (s := s) h
  simpa only [splice] using this
theorem rep_cons (n : Nat) : rep [.val (.int .i64 0), .val (.int .i64 0), .val (.bool false)] (n * 3) = cons (List.replicate n dc) := by
  apply List.ext_getElem?
  intro i
  by_cases h : i < n * 3
  · have h3 : i / 3 < n := by omega
    have e : i = i / 3 * 3 + i % 3 := by omega
    have h4 : (cons (List.replicate n dc))[i]? = (con3 dc)[i % 3]? := by
      conv => lhs; rw [e]
      rw [cons_at (by simpa using h3) (by omega)]
      congr 2
      simp [cg, h3]
    rw [h4]
    simp only [rep, List.getElem?_map]
    rw [List.getElem?_range h]
    have : i % 3 < 3 := by omega
    simp only [Option.map_some, List.length_cons, List.length_nil]
    match i % 3, this with
    | 0, _ => rfl
    | 1, _ => rfl
    | 2, _ => rfl
  · rw [List.getElem?_eq_none (by simp [rep]; omega), List.getElem?_eq_none (by rw [cons_length]; simp; omega)]

def fillG {α : Type} (z : α) (L : List α) (k : Nat) : List α := L.take k ++ List.replicate (L.length - k) z
theorem fillG_zero {α : Type} (z : α) (L : List α) : fillG z L 0 = List.replicate L.length z := by simp [fillG]
theorem fillG_length {α : Type} (z : α) (L : List α) (k : Nat) (h : k ≤ L.length) : (fillG z L k).length = L.length := by simp [fillG]; omega
theorem fillG_set {α : Type} (z d : α) (L : List α) (k : Nat) (h : k < L.length) : (fillG z L k).set k (L.getD k d) = fillG z L (k + 1) := by
  apply List.ext_getElem?
  intro i
  simp [fillG, List.getElem?_set, List.getElem?_append, List.getElem?_take, List.getElem?_replicate]
  grind
theorem fillG_all {α : Type} (z : α) (L : List α) : fillG z L L.length = L := by simp [fillG]

theorem view_con {H : Heap} {f : Nat} {k1 k2 : IntKind} {a b : Int} {s : Bool} : view H (f + 1) (.agg [.val (.int k1 a), .val (.int k2 b), .val (.bool s)]) = some (.agg [.val (.int k1 a), .val (.int k2 b), .val (.bool s)]) :=
  view_agg (viewL_cons_of view_int (viewL_cons_of view_int (viewL_cons_of view_bool viewL_nil_of)))

theorem flat_viewC {C : List Con} {n : Nat} {r : SV} {H : Heap} (h : FlatRes n 3 (cons C) r H) : view H 2 r = some (rc C) := by
  have hl := h.length
  rw [cons_length] at hl
  have hn : C.length = n := by omega
  obtain ⟨b, off, cap, ex, blk, rfl, h1, h2, h3, h4⟩ := h
  have hv : ∀ {cs : List SV} {f : Nat}, cs.all isVal = true → (∀ v, SV.val v ∈ cs → viewV v = .val v) → viewL H f cs = some cs := by
    intro cs f
    induction cs with
    | nil => intro _ _; exact viewL_nil_of
    | cons s cs ih =>
      intro ha hb
      simp only [List.all_cons, Bool.and_eq_true] at ha
      obtain ⟨v, rfl⟩ := isVal_of ha.1
      refine viewL_cons_of ?_ (ih ha.2 (fun v hv => hb v (by simp [hv])))
      simp only [view, hb v (by simp)]
  have hc : ∀ v, SV.val v ∈ cons C → viewV v = .val v := by
    intro v hv
    obtain ⟨i, hi⟩ := List.mem_iff_getElem?.1 hv
    obtain ⟨c, _, g2⟩ := cons_get C i _ hi
    have h3 : i % 3 < 3 := by omega
    match i % 3, h3, g2 with
    | 0, _, g2 => simp [con3] at g2; rw [← g2]; rfl
    | 1, _, g2 => simp [con3] at g2; rw [← g2]; rfl
    | 2, _, g2 => simp [con3] at g2; rw [← g2]; rfl
  simp only [view, h1, h3, if_true, h2, hv h4 hc, rc, hn]
theorem cg_take_succ {A B : List Con} {k : Nat} (hA : k < A.length) (hB : k < B.length) (h : A.take k = B.take k) (e : cg A k = cg B k) : A.take (k + 1) = B.take (k + 1) := by
  rw [List.take_succ_eq_append_getElem hA, List.take_succ_eq_append_getElem hB, h]
  simp [cg, hA, hB] at e
  rw [e]

end Go.Sh

/-
  Contracts: labels by first occurrence. Of the program.
-/
namespace Go.Sh
set_option linter.unusedSimpArgs false
set_option linter.unusedVariables false
open Go Go.Proofs

def cstep (s : List Int × List Int) (x : Int) : List Int × List Int :=
  if x ∈ s.1 then (s.1, s.2 ++ [idx x s.1]) else (s.1 ++ [x], s.2 ++ [(s.1.length : Int)])
def cst (L : List Int) : List Int × List Int := L.foldl cstep ([], [])
def canon (L : List Int) : List Int := (cst L).2
theorem cst_len : ∀ (L : List Int) (s : List Int × List Int), (L.foldl cstep s).2.length = s.2.length + L.length ∧ (L.foldl cstep s).1.length ≤ s.1.length + L.length
  | [], s => by simp
  | x :: L, s => by
    have ih := cst_len L (cstep s x)
    have h2 : (cstep s x).2.length = s.2.length + 1 := by unfold cstep; split <;> simp
    have h1 : (cstep s x).1.length ≤ s.1.length + 1 := by unfold cstep; split <;> simp
    simp only [List.foldl_cons, List.length_cons]
    omega
theorem cst_len2 (L : List Int) : (cst L).2.length = L.length := by have := (cst_len L ([], [])).1; simpa [cst] using this
theorem canon_length (L : List Int) : (canon L).length = L.length := cst_len2 L
theorem flat_view {L : List Int} {n : Nat} {r : SV} {H : Heap} (h : FlatRes n 1 (ints L) r H) : view H 2 r = some (ri L) := by
  obtain ⟨b, off, cap, ex, blk, rfl, h1, h2, h3, h4⟩ := h
  have hn : L.length = n := by
    have := congrArg List.length h2
    simp [ints] at this
    omega
  rw [Nat.mul_one] at h2 h3
  simp only [view, h1, Nat.mul_one, h3, if_true, h2, viewL_ints, ri, hn]
end Go.Sh

/-
  Contracts: clusterings, copied and compared; lists compared.
-/
namespace Go.Sh
set_option linter.unusedSimpArgs false
set_option linter.unusedVariables false
open Go Go.Proofs

theorem Tryz.szIntS_ok (L : List Int) (l : Int) (hC : L.length ≤ 9223372036854775807) (h0 : 0 ≤ l) (h1 : l ≤ 1048576) : PCall Tryz.prog 37 [ri L, .val (.int .i64 l)] (.val (.int .i64 (if l < L.length then -1 else l - L.length))) := by
  refine FCall.pcall (R := fun r _ => r = .val (.int .i64 (if l < L.length then -1 else l - L.length))) ?_ 0 (by rintro r H rfl; exact view_int)
  refine FCall.of_body Tryz.func37 rfl (by kernel_rfl) (by simp [Tryz.ntmps37]) ?_
  refine SW_of_vc Tryz.mixed _ _ _ (by kernel_rfl) ?_
  by_cases hl : l < L.length
  · simp (disch := omega) only [Tryz.ntmps37, Tryz.results37, go_sem]
    exact Fin.val rfl
  · simp (disch := omega) only [Tryz.ntmps37, Tryz.results37, go_sem]
    exact Fin.val rfl

end Go.Sh

/-
  Results of any shape in memory of their own, known by what they read as.
-/
namespace Go.Sh
set_option linter.unusedSimpArgs false
set_option linter.unusedVariables false
open Go Go.RowKit
variable {P : Program}

theorem shiftL_map (k : Nat) : ∀ ss : List SV, shiftL k ss = ss.map (shift k)
  | [] => by simp [shiftL]
  | s :: ss => by simp [shiftL, shiftL_map k ss]
mutual
theorem view_shift {H0 H' : Heap} {n : Nat} (hm : ∀ b blk, H0.map b = some blk → H'.map (b + n) = some ⟨shiftL n blk.cells, blk.ex⟩) : ∀ (f : Nat) (s s' : SV), view H0 f s = some s' → view H' f (shift n s) = some s'
  | f, .undef, s', h => by cases f <;> simpa [view, shift] using h
  | f, .val u, s', h => by cases f <;> simpa [view, shift] using h
  | f, .row m ex cs, s', h => by cases f <;> simpa [view, shift] using h
  | f, .rptr cs off, s', h => by cases f <;> simpa [view, shift] using h
  | 0, .own _ _ _ _ _ _, s', h => by simp [view] at h
  | f + 1, .own b off m cap sz ex, s', h => by
    simp only [view] at h
    split at h
    · rename_i blk hb
      split at h
      · rename_i hle
        split at h
        · rename_i cs hcs
          simp only [shift, view, hm b blk hb, shiftL_length, hle, if_true]
          have := viewL_shift hm f _ _ hcs
          rw [shiftL_map] at this
          rw [shiftL_map, ← List.map_drop, ← List.map_take, this]
          exact h
        · simp at h
      · simp at h
    · simp at h
  | 0, .optr _ _, s', h => by simp [view] at h
  | f + 1, .optr b off, s', h => by
    simp only [view] at h
    split at h
    · rename_i blk hb
      split at h
      · rename_i cs hcs
        simp only [shift, view, hm b blk hb, viewL_shift hm f _ _ hcs]
        exact h
      · simp at h
    · simp at h
  | 0, .agg _, s', h => by simp [view] at h
  | f + 1, .agg cs, s', h => by
    simp only [view] at h
    split at h
    · rename_i cs' hcs
      simp only [shift, view, viewL_shift hm f _ _ hcs]
      exact h
    · simp at h
  | 0, .tup _, s', h => by simp [view] at h
  | f + 1, .tup cs, s', h => by
    simp only [view] at h
    split at h
    · rename_i cs' hcs
      simp only [shift, view, viewL_shift hm f _ _ hcs]
      exact h
    · simp at h
  | 0, .clos _ _ _, s', h => by simp [view] at h
  | f + 1, .clos fn a c, s', h => by
    simp only [view] at h
    split at h
    · rename_i a' c' ha hc
      simp only [shift, view, viewL_shift hm f _ _ ha, viewL_shift hm f _ _ hc]
      exact h
    · simp at h
  | 0, .iface _ _, s', h => by simp [view] at h
  | f + 1, .iface t s, s', h => by
    simp only [view] at h
    split at h
    · rename_i s'' hs
      simp only [shift, view, view_shift hm f _ _ hs]
      exact h
    · simp at h
theorem viewL_shift {H0 H' : Heap} {n : Nat} (hm : ∀ b blk, H0.map b = some blk → H'.map (b + n) = some ⟨shiftL n blk.cells, blk.ex⟩) : ∀ (f : Nat) (ss ss' : List SV), viewL H0 f ss = some ss' → viewL H' f (shiftL n ss) = some ss'
  | f, [], ss', h => by cases f <;> simpa [viewL, shiftL] using h
  | f, s :: ss, ss', h => by
    have key : ∃ t ts, view H0 f s = some t ∧ viewL H0 f ss = some ts ∧ ss' = t :: ts := by
      cases f
      all_goals
        simp only [viewL] at h
        split at h
        · rename_i t ts ht hts
          exact ⟨t, ts, ht, hts, by simpa using h.symm⟩
        · simp at h
    obtain ⟨t, ts, ht, hts, rfl⟩ := key
    have := viewL_cons_of (view_shift hm f s t ht) (viewL_shift hm f ss ts hts)
    simpa only [shiftL] using this
end
mutual
theorem noRow_shift (n : Nat) : ∀ s : SV, noRow s = true → noRow (shift n s) = true
  | .undef, _ => rfl
  | .val _, _ => rfl
  | .row _ _ _, h => by simp [noRow] at h
  | .rptr _ _, h => by simp [noRow] at h
  | .own _ _ _ _ _ _, _ => rfl
  | .optr _ _, _ => rfl
  | .agg cs, h => by simp only [noRow] at h; simp only [shift, noRow]; exact noRowL_shift n cs h
  | .tup cs, h => by simp only [noRow] at h; simp only [shift, noRow]; exact noRowL_shift n cs h
  | .clos _ a c, h => by simp only [noRow, Bool.and_eq_true] at h; simp only [shift, noRow, noRowL_shift n a h.1, noRowL_shift n c h.2, Bool.and_self]
  | .iface _ s, h => by simp only [noRow] at h; simp only [shift, noRow]; exact noRow_shift n s h
theorem noRowL_shift (n : Nat) : ∀ ss : List SV, noRowL ss = true → noRowL (shiftL n ss) = true
  | [], _ => by simp [shiftL, noRowL]
  | s :: ss, h => by simp only [noRowL, Bool.and_eq_true] at h; simp only [shiftL, noRowL, noRow_shift n s h.1, noRowL_shift n ss h.2, Bool.and_self]
end
/-- r reads as T in whatever heap holds the blocks from lo on as H does. -/
structure VIn (lo : Nat) (H : Heap) (fu : Nat) (T r : SV) : Prop where
  nr : noRow r = true
  vw : ∀ H' : Heap, (∀ b, lo ≤ b → b < H.nb → H'.map b = H.map b) → view H' fu r = some T
  hn : ∀ b blk, lo ≤ b → b < H.nb → H.map b = some blk → noRowL blk.cells = true
theorem VIn.mono {lo : Nat} {H H1 : Heap} {fu : Nat} {T r : SV} (h : VIn lo H fu T r) (hnb : H.nb ≤ H1.nb) (hm : ∀ b, lo ≤ b → b < H.nb → H1.map b = H.map b) : ∀ H' : Heap, (∀ b, lo ≤ b → b < H1.nb → H'.map b = H1.map b) → view H' fu r = some T :=
  fun H' hh => h.vw H' fun b hb hb2 => by rw [hh b hb (by omega), hm b hb hb2]
theorem VIn.here {lo : Nat} {H : Heap} {fu : Nat} {T r : SV} (h : VIn lo H fu T r) : view H fu r = some T := h.vw H fun _ _ _ => rfl

/-- The blocks from lo on, below hi. -/
def cutH (H : Heap) (lo hi : Nat) : Heap := ⟨fun b => if lo ≤ b ∧ b < hi then H.map b else none, H.nb⟩
theorem cutH_sub (H : Heap) (lo hi : Nat) : Sub (cutH H lo hi) H := ⟨rfl, fun b => by
  show (if lo ≤ b ∧ b < hi then H.map b else none) = none ∨ (if lo ≤ b ∧ b < hi then H.map b else none) = H.map b
  split
  · exact .inr rfl
  · exact .inl rfl⟩
theorem cutH_map {H : Heap} {lo hi b : Nat} (h1 : lo ≤ b) (h2 : b < hi) : (cutH H lo hi).map b = H.map b := if_pos ⟨h1, h2⟩

/-- What a body's end owes a contract by reading: its shape S, and that it reads as T. -/
def VRes (S : SV → Prop) (fu : Nat) (T : SV) (r : SV) (H : Heap) : Prop := S r ∧ view H fu r = some T
/-- A slice of n elements of z cells each; a struct with one in front. -/
def IsOwn (n z : Nat) (r : SV) : Prop := ∃ b off cap ex, r = .own b off n cap z ex
def IsAgg1 (n z : Nat) (r : SV) : Prop := ∃ b off cap ex, r = .agg [.own b off n cap z ex]
theorem IsOwn.sh {n z : Nat} (k : Nat) (r : SV) (h : IsOwn n z r) : IsOwn n z (shift k r) := by
  obtain ⟨b, off, cap, ex, rfl⟩ := h
  exact ⟨b + k, off, cap, ex, by simp only [shift]⟩
theorem IsAgg1.sh {n z : Nat} (k : Nat) (r : SV) (h : IsAgg1 n z r) : IsAgg1 n z (shift k r) := by
  obtain ⟨b, off, cap, ex, rfl⟩ := h
  exact ⟨b + k, off, cap, ex, by simp only [shift, shiftL]⟩
theorem FCall.callVw {f : FuncId} {args args' : List SV} {S : SV → Prop} {fu : Nat} {T : SV} {H : Heap} {K : SV → Heap → Prop} (h : FCall P f args' (VRes S fu T)) (hS : ∀ k r, S r → S (shift k r)) (fu' : Nat) (hv : viewL H fu' args = some args')
    (k : ∀ r H', S r → VIn H.nb H' fu T r → H.nb ≤ H'.nb → (∀ b, b < H.nb → H'.map b = H.map b) → K r H') : @CallX P f args H ⟨K⟩ := by
  have h' : FCall P f args' (fun r H0 => VRes S fu T r H0 ∧ noRow r = true ∧ nrHeap H0 ∧ ∀ b blk, H0.map b = some blk → b < H0.nb) := by
    refine ⟨h.1, fun w vs hl ht => (h.2 w vs hl ht).mono ?_⟩
    rintro e w' ⟨v, r, j, H0, h1, h2, h3, h4, h5, h6, h7, h8⟩
    refine ⟨v, r, j, H0, h1, h2, h3, h4, h5, h6, h7, h8, h6, h7, fun b blk hb => ?_⟩
    obtain ⟨rb, base, g1, _⟩ := h3.live b blk hb
    exact h3.dom b _ g1
  refine (h'.callS fu' hv).mono ?_
  rintro r H' ⟨r0, H0, ⟨⟨h0, h1⟩, h2, h3, h4⟩, rfl, rfl⟩
  have hmap : ∀ b blk, H0.map b = some blk → (H.merge H0).map (b + H.nb) = some ⟨shiftL H.nb blk.cells, blk.ex⟩ := fun b blk hb => by
    simp only [Heap.merge]
    rw [if_neg (by omega), Nat.add_sub_cancel, hb]; rfl
  have hnb : (H.merge H0).nb = H.nb + H0.nb := rfl
  refine k _ _ (hS _ _ h0) ⟨noRow_shift _ _ h2, fun H1 hH1 => ?_, fun b blk hb1 hb2 hb => ?_⟩ (by omega) (fun b hb => by simp only [Heap.merge]; rw [if_pos hb])
  · refine view_shift (H0 := H0) (fun b blk hb => ?_) fu r0 T h1
    have := h4 b blk hb
    rw [hH1 (b + H.nb) (by omega) (by omega), hmap b blk hb]
  · simp only [Heap.merge] at hb
    rw [if_neg (by omega)] at hb
    cases hx : H0.map (b - H.nb) with
    | none => rw [hx] at hb; simp at hb
    | some blk0 =>
      rw [hx] at hb
      simp at hb; subst hb
      exact noRowL_shift _ _ (h3 _ _ hx)
theorem FCall.pcallVw {f : FuncId} {args : List SV} {S : SV → Prop} {fu : Nat} {T : SV} (h : FCall P f args (VRes S fu T)) : PCall P f args T := h.pcall fu (fun _ _ h => h.2)
/-- At a body's end: the result uses the blocks from lo to hi alone. -/
theorem fin_vw {S : SV → Prop} {fu : Nat} {T r : SV} {H : Heap} (lo hi : Nat) (hS : S r) (hnr : noRow r = true) (hn : ∀ b blk, lo ≤ b → b < hi → H.map b = some blk → noRowL blk.cells = true) (hv : view (cutH H lo hi) fu r = some T) : Fin (VRes S fu T) r H :=
  ⟨cutH H lo hi, cutH_sub H lo hi, hnr, (fun b blk hb => by
    by_cases h : lo ≤ b ∧ b < hi
    · exact hn b blk h.1 h.2 (by rw [← cutH_map h.1 h.2]; exact hb)
    · have : (cutH H lo hi).map b = none := if_neg h
      rw [this] at hb; cases hb), hS, hv⟩
end Go.Sh

/-
  Heaps changed: plain.
-/
namespace Go.Sh
set_option linter.unusedSimpArgs false
set_option linter.unusedVariables false
open Go

theorem hset_map (H : Heap) (b x : Nat) (k : Option Blk) : (H.set b k).map x = if x = b then k else H.map x := rfl
theorem hset_nb (H : Heap) (b : Nat) (k : Option Blk) : (H.set b k).nb = H.nb := rfl
theorem hpush_map (H : Heap) (x : Nat) (k : Blk) : (H.push k).map x = if x = H.nb then some k else H.map x := rfl
theorem hpush_nb (H : Heap) (k : Blk) : (H.push k).nb = H.nb + 1 := rfl
end Go.Sh

/-
  Contracts: tests, rules, sets of rules and scorings, measured, copied and compared.
-/
namespace Go.Sh
set_option linter.unusedSimpArgs false
set_option linter.unusedVariables false
open Go Go.Proofs

/-! ### Tests: two numbers and a Bool, as constraints are -/
theorem Tryz.toTest_ok (a b : Int) (s : Bool) : PCall Tryz.prog 174 [.agg [.val (.int .i64 a), .val (.int .i64 b), .val (.bool s)]] (.agg [.val (.int .i64 a), .val (.int .i64 b), .val (.bool s)]) := by
  refine FCall.pcall (R := fun r _ => r = .agg [.val (.int .i64 a), .val (.int .i64 b), .val (.bool s)]) ?_ 1 (by rintro r H rfl; exact view_con) 
  refine FCall.of_body Tryz.func174 rfl (by kernel_rfl) (by simp [Tryz.ntmps174]) ?_
  refine SW_of_vc Tryz.mixed _ _ _ (by kernel_rfl) ?_
  simp (disch := omega) only [Tryz.ntmps174, Tryz.results174, go_sem]
  exact Fin.agg rfl rfl

theorem Tryz.eqTest_ok (a b : Int) (s : Bool) (c d : Int) (t : Bool) : PCall Tryz.prog 197 [.agg [.val (.int .i64 a), .val (.int .i64 b), .val (.bool s)], .agg [.val (.int .i64 c), .val (.int .i64 d), .val (.bool t)]] (.val (.bool (decide ((a, b, s) = (c, d, t))))) := by
  refine FCall.pcall (R := fun r _ => r = .val (.bool (decide ((a, b, s) = (c, d, t))))) ?_ 0 (by rintro r H rfl; exact view_bool)
  refine FCall.of_body Tryz.func197 rfl (by kernel_rfl) (by simp [Tryz.ntmps197]) ?_
  refine SW_of_vc Tryz.mixed _ _ _ (by kernel_rfl) ?_
  by_cases h1 : a = c
  · by_cases h2 : b = d
    · cases s <;> cases t <;> simp (disch := omega) only [Tryz.ntmps197, Tryz.results197, go_sem] <;> exact Fin.val (by simp [h1, h2])
    · simp (disch := omega) only [Tryz.ntmps197, Tryz.results197, go_sem]
      exact Fin.val (by simp [h2])
  · simp (disch := omega) only [Tryz.ntmps197, Tryz.results197, go_sem]
    exact Fin.val (by simp [h1])

set_option maxHeartbeats 1000000 in
theorem Tryz.toTestS_f (C : List Con) (hC : C.length ≤ 1048576) : FCall Tryz.prog 130 [rc C] (FlatRes C.length 3 (cons C)) := by
  refine FCall.of_body Tryz.func130 rfl (by kernel_rfl) (by simp [Tryz.ntmps130]) ?_
  refine SW_of_vc Tryz.mixed _ _ _ (by kernel_rfl) ?_
  simp (disch := omega) only [Tryz.ntmps130, Tryz.results130, go_sem, rc]
  refine LoopW.loop (fun k : Nat => ⟨ofL [(0, rc C), (3, .own 0 0 C.length C.length 3 true), (4, .val (.int .i64 k))], hp [(0, ⟨cons (fillG dc C k), true⟩)] 1⟩) (fun k => k ≤ C.length) (fun k => C.length - k) 0 (by omega)
    (Wk.of (by simp only [go_sem, ↓List.forall_mem_cons, List.not_mem_nil, false_implies, implies_true, and_true, true_and, and_self, ri_eq, Int.natCast_add, Int.cast_ofNat_Int, rc]; try simp) (by simp only [fillG_zero, rep_cons])) ?_
  intro k hk
  have hf := fillG_length dc C k hk
  have hl := cons_length (fillG dc C k)
  have hl2 := cons_length C
  refine SW_of_vc Tryz.mixed _ _ _ (by kernel_rfl) ?_
  by_cases hlt : k < C.length
  · simp (disch := omega) only [Tryz.ntmps130, Tryz.results130, go_sem, rc, cons_load]
    refine (Tryz.toTest_ok _ _ _).callV 1 (viewL_cons_of (view_con) viewL_nil_of) ?_
    simp (disch := omega) only [Tryz.ntmps130, Tryz.results130, go_sem, rc, cons_set3, hl, hf]
    refine ⟨k + 1, by omega, by omega, Wk.of (by simp only [go_sem, ↓List.forall_mem_cons, List.not_mem_nil, false_implies, implies_true, and_true, true_and, and_self, ri_eq, Int.natCast_add, Int.cast_ofNat_Int, rc]; try simp) ?_⟩
    have := fillG_set dc dc C k hlt
    rw [← this]; rfl
  · simp (disch := omega) only [Tryz.ntmps130, Tryz.results130, go_sem, rc]
    obtain rfl : k = C.length := by omega
    rw [fillG_all]
    exact flat_fin hl2 (cons_vals C) (by rw [hp_map, hmap_cons, if_pos rfl])

set_option maxHeartbeats 1000000 in
theorem Tryz.eqTestS_ok (A B : List Con) (hA : A.length ≤ 1048576) (hB : B.length ≤ 1048576) : PCall Tryz.prog 149 [rc A, rc B] (.val (.bool (decide (A = B)))) := by
  refine FCall.pcall (R := fun r _ => r = .val (.bool (decide (A = B)))) ?_ 0 (by rintro r H rfl; exact view_bool)
  refine FCall.of_body Tryz.func149 rfl (by kernel_rfl) (by simp [Tryz.ntmps149]) ?_
  refine SW_of_vc Tryz.mixed _ _ _ (by kernel_rfl) ?_
  have lA := cons_length A
  have lB := cons_length B
  by_cases hl : A.length = B.length
  · simp (disch := omega) only [Tryz.ntmps149, Tryz.results149, go_sem, rc]
    refine LoopW.loop (fun k : Nat => ⟨ofL [(0, rc A), (1, rc B), (5, .val (.int .i64 k))], hp [] 0⟩) (fun k => k ≤ A.length ∧ A.take k = B.take k) (fun k => A.length - k) 0 ⟨by omega, by simp⟩ (Wk.of (by simp only [go_sem, ↓List.forall_mem_cons, List.not_mem_nil, false_implies, implies_true, and_true, true_and, and_self, ri_eq, Int.natCast_add, Int.cast_ofNat_Int, rc]; try simp) rfl) ?_
    rintro k ⟨hk, hkk⟩
    refine SW_of_vc Tryz.mixed _ _ _ (by kernel_rfl) ?_
    by_cases hlt : k < A.length
    · simp (disch := omega) only [Tryz.ntmps149, Tryz.results149, go_sem, rc, cons_load]
      refine (Tryz.eqTest_ok _ _ _ _ _ _).callDV 1 (viewL_cons_of (view_con) (viewL_cons_of (view_con) viewL_nil_of)) ?_
      by_cases he : cg A k = cg B k
      · have he' : decide (((cg A k).1, (cg A k).2.1, (cg A k).2.2) = ((cg B k).1, (cg B k).2.1, (cg B k).2.2)) = true := by simp [he]
        rw [he']
        simp (disch := omega) only [Tryz.ntmps149, Tryz.results149, go_sem]
        exact ⟨k + 1, ⟨by omega, cg_take_succ hlt (by omega) hkk he⟩, by omega, Wk.of (by simp only [go_sem, ↓List.forall_mem_cons, List.not_mem_nil, false_implies, implies_true, and_true, true_and, and_self, ri_eq, Int.natCast_add, Int.cast_ofNat_Int, rc]; try simp) rfl⟩
      · have he' : decide (((cg A k).1, (cg A k).2.1, (cg A k).2.2) = ((cg B k).1, (cg B k).2.1, (cg B k).2.2)) = false := decide_eq_false (fun e => he e)
        rw [he']
        simp (disch := omega) only [Tryz.ntmps149, Tryz.results149, go_sem]
        refine Fin.val ?_
        have : A ≠ B := fun e => he (by rw [e])
        simp [this]
    · simp (disch := omega) only [Tryz.ntmps149, Tryz.results149, go_sem, rc]
      refine Fin.val ?_
      have h1 : A.take k = A := List.take_of_length_le (by omega)
      have h2 : B.take k = B := List.take_of_length_le (by omega)
      rw [h1, h2] at hkk
      simp [hkk]
  · simp (disch := omega) only [Tryz.ntmps149, Tryz.results149, go_sem, rc]
    refine Fin.val ?_
    have : A ≠ B := fun e => hl (by rw [e])
    simp [this]

theorem Tryz.szTestS_ok (C : List Con) (l : Int) (hC : C.length ≤ 9223372036854775807) (h0 : 0 ≤ l) (h1 : l ≤ 1048576) : PCall Tryz.prog 128 [rc C, .val (.int .i64 l)] (.val (.int .i64 (if l < C.length then -1 else l - C.length))) := by
  refine FCall.pcall (R := fun r _ => r = .val (.int .i64 (if l < C.length then -1 else l - C.length))) ?_ 0 (by rintro r H rfl; exact view_int)
  refine FCall.of_body Tryz.func128 rfl (by kernel_rfl) (by simp [Tryz.ntmps128]) ?_
  refine SW_of_vc Tryz.mixed _ _ _ (by kernel_rfl) ?_
  by_cases hl : l < C.length
  · simp (disch := omega) only [Tryz.ntmps128, Tryz.results128, go_sem, rc]
    exact Fin.val rfl
  · simp (disch := omega) only [Tryz.ntmps128, Tryz.results128, go_sem, rc]
    exact Fin.val rfl

/-! ### Rules -/
def rules (R : List (List Con)) : List SV := R.map rc
def rR (R : List (List Con)) : SV := .row R.length false (rules R)
def rg (R : List (List Con)) (k : Nat) : List Con := R.getD k []
theorem rules_length (R : List (List Con)) : (rules R).length = R.length := by simp [rules]
theorem rules_get {R : List (List Con)} {k : Nat} (h : k < R.length) : (rules R)[k]? = some (.row (rg R k).length false (cons (rg R k))) := by simp [rules, rg, h, rc]
theorem rules_load {R : List (List Con)} {k : Nat} (h : k < R.length) : ((rules R).drop k).take 1 = [.row (rg R k).length false (cons (rg R k))] := by
  rw [List.drop_eq_getElem_cons (by rw [rules_length]; exact h)]
  simp [rules, rg, h, rc]
def rsum (R : List (List Con)) (k : Nat) : Int := ((R.take k).map fun r => (r.length : Int)).sum
theorem rsum_succ {R : List (List Con)} {k : Nat} (h : k < R.length) : rsum R (k + 1) = rsum R k + (rg R k).length := by
  have e : rg R k = R[k] := by simp [rg, h]
  rw [rsum, List.take_succ_eq_append_getElem h, List.map_append, List.sum_append, e]
  simp only [List.map_cons, List.map_nil, List.sum_cons, List.sum_nil, Int.add_zero]
  rfl
theorem rsum_nonneg (R : List (List Con)) (k : Nat) : 0 ≤ rsum R k := by
  unfold rsum
  induction R.take k with
  | nil => simp
  | cons a l ih => simp only [List.map_cons, List.sum_cons]; omega
theorem rsum_mono {R : List (List Con)} {k : Nat} : ∀ d, k + d ≤ R.length → rsum R k ≤ rsum R (k + d)
  | 0, _ => by simp
  | d + 1, h => by
    have ih := rsum_mono (R := R) (k := k) d (by omega)
    have := rsum_succ (R := R) (k := k + d) (by omega)
    rw [show k + (d + 1) = k + d + 1 by omega]; omega
theorem rsum_le {R : List (List Con)} {k : Nat} (h : k ≤ R.length) : rsum R k ≤ rsum R R.length := by
  have := rsum_mono (R := R) (k := k) (R.length - k) (by omega)
  rwa [show k + (R.length - k) = R.length by omega] at this
theorem rg_le {R : List (List Con)} {k : Nat} (h : k < R.length) : (rg R k).length ≤ rsum R R.length := by
  have h1 := rsum_succ h
  have h2 := rsum_le (R := R) (k := k + 1) h
  have h3 := rsum_nonneg R k
  omega
theorem view_rule {H : Heap} {f n : Nat} {ex : Bool} {cs : List SV} : view H (f + 1) (.agg [.row n ex cs]) = some (.agg [.row n false cs]) := view_agg (viewL_cons_of view_row viewL_nil_of)

theorem Tryz.szRule_ok (T : List Con) (l : Int) (hT : T.length ≤ 9223372036854775807) (h0 : 0 ≤ l) (h1 : l ≤ 1048576) : PCall Tryz.prog 81 [.agg [rc T], .val (.int .i64 l)] (.val (.int .i64 (if l < T.length then -1 else l - T.length))) := by
  refine FCall.pcall (R := fun r _ => r = .val (.int .i64 (if l < T.length then -1 else l - T.length))) ?_ 0 (by rintro r H rfl; exact view_int)
  refine FCall.of_body Tryz.func81 rfl (by kernel_rfl) (by simp [Tryz.ntmps81]) ?_
  have w := Tryz.szTestS_ok T l hT h0 h1
  refine SW_of_vc Tryz.mixed _ _ _ (by kernel_rfl) ?_
  by_cases hl : l < T.length
  · rw [if_pos hl] at w
    simp (disch := omega) only [Tryz.ntmps81, Tryz.results81, go_sem, rc]
    refine w.callV 0 (viewL_cons_of (view_row) (viewL_cons_of (view_int) viewL_nil_of)) ?_
    simp (disch := omega) only [Tryz.ntmps81, Tryz.results81, go_sem, rc]
    exact Fin.val rfl
  · rw [if_neg hl] at w
    simp (disch := omega) only [Tryz.ntmps81, Tryz.results81, go_sem, rc]
    refine w.callV 0 (viewL_cons_of (view_row) (viewL_cons_of (view_int) viewL_nil_of)) ?_
    simp (disch := omega) only [Tryz.ntmps81, Tryz.results81, go_sem, rc]
    exact Fin.val rfl

set_option maxHeartbeats 4000000 in
theorem Tryz.szRuleS_ok (R : List (List Con)) (l : Int) (hR : R.length ≤ 9223372036854775807) (hT : ∀ i, i < R.length → (rg R i).length ≤ 9223372036854775807) (h0 : 0 ≤ l) (h1 : l ≤ 1048576) :
    PCall Tryz.prog 36 [rR R, .val (.int .i64 l)] (.val (.int .i64 (if l < R.length + rsum R R.length then -1 else l - R.length - rsum R R.length))) := by
  refine FCall.pcall (R := fun r _ => r = .val (.int .i64 (if l < R.length + rsum R R.length then -1 else l - R.length - rsum R R.length))) ?_ 0 (by rintro r H rfl; exact view_int)
  refine FCall.of_body Tryz.func36 rfl (by kernel_rfl) (by simp [Tryz.ntmps36]) ?_
  have hrl := rules_length R
  have hrn := rsum_nonneg R R.length
  refine SW_of_vc Tryz.mixed _ _ _ (by kernel_rfl) ?_
  by_cases hl : l < R.length
  · simp (disch := omega) only [Tryz.ntmps36, Tryz.results36, go_sem, rR]
    exact Fin.val rfl
  simp (disch := omega) only [Tryz.ntmps36, Tryz.results36, go_sem, rR]
  refine LoopW.loop (fun k : Nat => ⟨ofL [(0, rR R), (1, .val (.int .i64 (l - R.length - rsum R k))), (5, .val (.int .i64 k))], hp [] 0⟩) (fun k => k ≤ R.length ∧ rsum R k ≤ l - R.length) (fun k => R.length - k) 0 ⟨by omega, by simp [rsum]; omega⟩ (Wk.of (by simp only [go_sem, ↓List.forall_mem_cons, List.not_mem_nil, false_implies, implies_true, and_true, true_and, and_self, ri_eq, Int.natCast_add, Int.cast_ofNat_Int, rR, show rsum R 0 = 0 from rfl, Int.sub_zero]; try simp) rfl) ?_
  rintro k ⟨hk, hs⟩
  have hk0 := rsum_nonneg R k
  refine SW_of_vc Tryz.mixed _ _ _ (by kernel_rfl) ?_
  by_cases hlt : k < R.length
  · have gk := rules_get hlt
    have gl := rules_load hlt
    have hsu := rsum_succ hlt
    have hle := rsum_le (R := R) (k := k + 1) hlt
    have w := Tryz.szRule_ok (rg R k) (l - R.length - rsum R k) (hT k hlt) (by omega) (by omega)
    by_cases hc : l - R.length - rsum R k < (rg R k).length
    · rw [if_pos hc] at w
      simp (disch := omega) only [Tryz.ntmps36, Tryz.results36, go_sem, rR, gk, gl, hrl]
      refine w.callV 1 (viewL_cons_of view_rule (viewL_cons_of view_int viewL_nil_of)) ?_
      simp (disch := omega) only [Tryz.ntmps36, Tryz.results36, go_sem, rR, gk, gl, hrl]
      exact Fin.val rfl
    · rw [if_neg hc] at w
      have e : l - R.length - rsum R k - (rg R k).length = l - R.length - rsum R (k + 1) := by omega
      simp (disch := omega) only [Tryz.ntmps36, Tryz.results36, go_sem, rR, gk, gl, hrl]
      refine w.callV 1 (viewL_cons_of view_rule (viewL_cons_of view_int viewL_nil_of)) ?_
      simp (disch := omega) only [Tryz.ntmps36, Tryz.results36, go_sem, rR, gk, gl, hrl]
      exact ⟨k + 1, ⟨hlt, by omega⟩, by omega, Wk.of (by simp only [go_sem, ↓List.forall_mem_cons, List.not_mem_nil, false_implies, implies_true, and_true, true_and, and_self, ri_eq, Int.natCast_add, Int.cast_ofNat_Int, rR, e]; try simp) rfl⟩
  · obtain rfl : k = R.length := by omega
    simp (disch := omega) only [Tryz.ntmps36, Tryz.results36, go_sem, rR]
    exact Fin.val rfl
theorem Tryz.szRuleSet_ok (R : List (List Con)) (l : Int) (hR : R.length ≤ 9223372036854775807) (hT : ∀ i, i < R.length → (rg R i).length ≤ 9223372036854775807) (h0 : 0 ≤ l) (h1 : l ≤ 1048576) :
    PCall Tryz.prog 6 [.agg [rR R], .val (.int .i64 l)] (.val (.int .i64 (if l < R.length + rsum R R.length then -1 else l - R.length - rsum R R.length))) := by
  refine FCall.pcall (R := fun r _ => r = .val (.int .i64 (if l < R.length + rsum R R.length then -1 else l - R.length - rsum R R.length))) ?_ 0 (by rintro r H rfl; exact view_int)
  refine FCall.of_body Tryz.func6 rfl (by kernel_rfl) (by simp [Tryz.ntmps6]) ?_
  have w := Tryz.szRuleS_ok R l hR hT h0 h1
  refine SW_of_vc Tryz.mixed _ _ _ (by kernel_rfl) ?_
  by_cases hl : l < R.length + rsum R R.length
  · rw [if_pos hl] at w
    simp (disch := omega) only [Tryz.ntmps6, Tryz.results6, go_sem, rR]
    refine w.callV 0 (viewL_cons_of (view_row) (viewL_cons_of (view_int) viewL_nil_of)) ?_
    simp (disch := omega) only [Tryz.ntmps6, Tryz.results6, go_sem, rR]
    exact Fin.val rfl
  · rw [if_neg hl] at w
    simp (disch := omega) only [Tryz.ntmps6, Tryz.results6, go_sem, rR]
    refine w.callV 0 (viewL_cons_of (view_row) (viewL_cons_of (view_int) viewL_nil_of)) ?_
    simp (disch := omega) only [Tryz.ntmps6, Tryz.results6, go_sem, rR]
    exact Fin.val rfl

theorem Tryz.eqRule_ok (T : List Con) (hT : T.length ≤ 1048576) : PCall Tryz.prog 101 [.agg [rc T], .agg [rc T]] (.val (.bool true)) := by
  refine FCall.pcall (R := fun r _ => r = .val (.bool true)) ?_ 0 (by rintro r H rfl; exact view_bool)
  refine FCall.of_body Tryz.func101 rfl (by kernel_rfl) (by simp [Tryz.ntmps101]) ?_
  have w := Tryz.eqTestS_ok T T hT hT
  rw [decide_eq_true rfl] at w
  refine SW_of_vc Tryz.mixed _ _ _ (by kernel_rfl) ?_
  simp (disch := omega) only [Tryz.ntmps101, Tryz.results101, go_sem, rc]
  refine w.callV 0 (viewL_cons_of (view_row) (viewL_cons_of (view_row) viewL_nil_of)) ?_
  simp (disch := omega) only [Tryz.ntmps101, Tryz.results101, go_sem, rc]
  exact Fin.val rfl
set_option maxHeartbeats 4000000 in
theorem Tryz.eqRuleS_ok (R : List (List Con)) (hR : R.length ≤ 1048576) (hT : ∀ i, i < R.length → (rg R i).length ≤ 1048576) : PCall Tryz.prog 55 [rR R, rR R] (.val (.bool true)) := by
  refine FCall.pcall (R := fun r _ => r = .val (.bool true)) ?_ 0 (by rintro r H rfl; exact view_bool)
  refine FCall.of_body Tryz.func55 rfl (by kernel_rfl) (by simp [Tryz.ntmps55]) ?_
  have hrl := rules_length R
  refine SW_of_vc Tryz.mixed _ _ _ (by kernel_rfl) ?_
  simp (disch := omega) only [Tryz.ntmps55, Tryz.results55, go_sem, rR, bne_self_eq_false]
  refine LoopW.loop (fun k : Nat => ⟨ofL [(0, rR R), (1, rR R), (5, .val (.int .i64 k))], hp [] 0⟩) (fun k => k ≤ R.length) (fun k => R.length - k) 0 (by omega) (Wk.of (by simp only [go_sem, ↓List.forall_mem_cons, List.not_mem_nil, false_implies, implies_true, and_true, true_and, and_self, ri_eq, Int.natCast_add, Int.cast_ofNat_Int, rR]; try simp) rfl) ?_
  intro k hk
  refine SW_of_vc Tryz.mixed _ _ _ (by kernel_rfl) ?_
  by_cases hlt : k < R.length
  · have gk := rules_get hlt
    have gl := rules_load hlt
    have w := Tryz.eqRule_ok (rg R k) (hT k hlt)
    simp (disch := omega) only [Tryz.ntmps55, Tryz.results55, go_sem, rR, gk, gl, hrl]
    refine w.callDV 1 (viewL_cons_of view_rule (viewL_cons_of view_rule viewL_nil_of)) ?_
    simp (disch := omega) only [Tryz.ntmps55, Tryz.results55, go_sem, rR, gk, gl, hrl]
    exact ⟨k + 1, hlt, by omega, Wk.of (by simp only [go_sem, ↓List.forall_mem_cons, List.not_mem_nil, false_implies, implies_true, and_true, true_and, and_self, ri_eq, Int.natCast_add, Int.cast_ofNat_Int, rR]; try simp) rfl⟩
  · simp (disch := omega) only [Tryz.ntmps55, Tryz.results55, go_sem, rR]
    exact Fin.val rfl
theorem Tryz.eqRuleSet_ok (R : List (List Con)) (hR : R.length ≤ 1048576) (hT : ∀ i, i < R.length → (rg R i).length ≤ 1048576) : PCall Tryz.prog 15 [.agg [rR R], .agg [rR R]] (.val (.bool true)) := by
  refine FCall.pcall (R := fun r _ => r = .val (.bool true)) ?_ 0 (by rintro r H rfl; exact view_bool)
  refine FCall.of_body Tryz.func15 rfl (by kernel_rfl) (by simp [Tryz.ntmps15]) ?_
  have w := Tryz.eqRuleS_ok R hR hT
  refine SW_of_vc Tryz.mixed _ _ _ (by kernel_rfl) ?_
  simp (disch := omega) only [Tryz.ntmps15, Tryz.results15, go_sem, rR]
  refine w.callV 0 (viewL_cons_of (view_row) (viewL_cons_of (view_row) viewL_nil_of)) ?_
  simp (disch := omega) only [Tryz.ntmps15, Tryz.results15, go_sem, rR]
  exact Fin.val rfl

/-! ### Copies -/
theorem FlatRes.isOwn {n z : Nat} {cs : List SV} {r : SV} {H : Heap} (h : FlatRes n z cs r H) : IsOwn n z r := by
  obtain ⟨b, off, cap, ex, blk, e, _⟩ := h
  exact ⟨b, off, cap, ex, e⟩
set_option maxHeartbeats 4000000 in
theorem Tryz.toRule_f (T : List Con) (hT : T.length ≤ 1048576) : FCall Tryz.prog 85 [.agg [rc T]] (VRes (IsAgg1 T.length 3) 3 (.agg [rc T])) := by
  have w : FCall Tryz.prog 130 [rc T] (VRes (IsOwn T.length 3) 2 (rc T)) := (Tryz.toTestS_f T hT).mono fun _ _ h => ⟨h.isOwn, flat_viewC h⟩
  refine FCall.of_body Tryz.func85 rfl (by kernel_rfl) (by simp [Tryz.ntmps85]) ?_
  refine SW_of_vc Tryz.mixed _ _ _ (by kernel_rfl) ?_
  simp (disch := omega) only [Tryz.ntmps85, Tryz.results85, go_sem, rc]
  refine w.callVw IsOwn.sh 0 (viewL_cons_of (view_row) viewL_nil_of) ?_
  rintro _ H ⟨b, off, cap, ex, rfl⟩ hv hnb hlow
  have h0 := hlow 0 (by simp [hp])
  have h1 := hlow 1 (by simp [hp])
  have h2 := hlow 2 (by simp [hp])
  simp only [hp, hmap, Nat.reduceEqDiff, if_true, if_false] at hnb h0 h1 h2 hv
  simp (disch := omega) only [Tryz.ntmps85, Tryz.results85, go_sem, rc, h0, h1, h2, hset_map]
  refine fin_vw 3 H.nb ⟨b, off, cap, ex, rfl⟩ rfl (fun b blk b1 b2 hb => hv.hn b blk b1 b2 (by simpa (disch := omega) only [hset_map, if_neg] using hb)) ?_
  refine view_agg (viewL_cons_of (hv.vw _ (fun b b1 b2 => ?_)) viewL_nil_of)
  rw [cutH_map b1 b2]
  simp (disch := omega) only [hset_map, if_neg]

theorem rules_take (R : List (List Con)) {k : Nat} (h : k < R.length) : (R.take (k + 1)).map rc = (R.take k).map rc ++ [rc (rg R k)] := by
  rw [List.take_succ_eq_append_getElem h, List.map_append]; simp [rg, h]
theorem view_agg1_inv {H : Heap} {f : Nat} {s t : SV} (h : view H (f + 1) (.agg [s]) = some (.agg [t])) : view H f s = some t := by
  simp only [view] at h
  split at h
  · rename_i cs hcs
    simp at h; subst h
    cases f
    all_goals
      simp only [viewL] at hcs
      split at hcs
      · rename_i a b ha hb
        simp at hcs hb
        rw [ha, hcs.1]
      · simp at hcs
  · simp at h
theorem viewL_append {H : Heap} {f : Nat} : ∀ {a b a' b' : List SV}, viewL H f a = some a' → viewL H f b = some b' → viewL H f (a ++ b) = some (a' ++ b')
  | [], b, a', b', h, g => by
    have : a' = [] := by cases f <;> simpa [viewL] using h.symm
    subst this; exact g
  | s :: a, b, a', b', h, g => by
    have key : ∃ t ts, view H f s = some t ∧ viewL H f a = some ts ∧ a' = t :: ts := by
      cases f
      all_goals
        simp only [viewL] at h
        split at h
        · rename_i t ts ht hts
          exact ⟨t, ts, ht, hts, by simpa using h.symm⟩
        · simp at h
    obtain ⟨t, ts, ht, hts, rfl⟩ := key
    exact viewL_cons_of ht (viewL_append hts g)
theorem noRowL_append {a b : List SV} (h : noRowL a = true) (g : noRowL b = true) : noRowL (a ++ b) = true := by
  induction a with
  | nil => exact g
  | cons s a ih =>
    simp only [noRowL, Bool.and_eq_true] at h
    simp only [List.cons_append, noRowL, h.1, ih h.2, Bool.and_self]
/-- The outer block of a copy of rules, k of them copied. -/
structure RuB (R : List (List Con)) (k : Nat) (rs : List SV) (H : Heap) : Prop where
  ln : rs.length = k
  o : H.map 0 = some ⟨rs ++ List.replicate (R.length - k) (.val (.slice none 0 0)), true⟩
  nr : noRowL rs = true
  vw : ∀ H' : Heap, (∀ b, 1 ≤ b → b < H.nb → H'.map b = H.map b) → viewL H' 2 rs = some ((R.take k).map rc)
  hn : ∀ b blk, 1 ≤ b → b < H.nb → H.map b = some blk → noRowL blk.cells = true
  nb : 1 ≤ H.nb
set_option maxHeartbeats 4000000 in
theorem Tryz.toRuleS_f (R : List (List Con)) (hR : R.length ≤ 1048576) (hT : ∀ i, i < R.length → (rg R i).length ≤ 1048576) : FCall Tryz.prog 44 [rR R] (VRes (IsOwn R.length 1) 3 (rR R)) := by
  have hrl := rules_length R
  refine FCall.of_body Tryz.func44 rfl (by kernel_rfl) (by simp [Tryz.ntmps44]) ?_
  refine SW_of_vc Tryz.mixed _ _ _ (by kernel_rfl) ?_
  simp (disch := omega) only [Tryz.ntmps44, Tryz.results44, go_sem, rR]
  refine LoopW.loop (fun y : Nat × List SV × Heap => ⟨ofL [(0, rR R), (3, .own 0 0 R.length R.length 1 true), (4, .val (.int .i64 y.1))], y.2.2⟩) (fun y => y.1 ≤ R.length ∧ RuB R y.1 y.2.1 y.2.2) (fun y => R.length - y.1)
    (0, [], hp [(0, ⟨List.replicate R.length (.val (.slice none 0 0)), true⟩)] 1) ⟨by simp, rfl, by simp [hp, hmap], rfl, fun H' _ => viewL_nil_of, fun b blk b1 b2 hb => by simp [hp, hmap] at b2; omega, by simp [hp]⟩ (Wk.of (by simp only [go_sem, ↓List.forall_mem_cons, List.not_mem_nil, false_implies, implies_true, and_true, true_and, and_self, ri_eq, Int.natCast_add, Int.cast_ofNat_Int, rR]; try simp) (by first | rfl | (trace_state; simp))) ?_
  rintro ⟨k, rs, H⟩ ⟨hk, hB⟩
  simp only at hk hB
  have hm := hB.o
  have hln := hB.ln
  refine SW_of_vc Tryz.mixed _ _ _ (by kernel_rfl) ?_
  by_cases hlt : k < R.length
  · have gk := rules_get hlt
    have gl := rules_load hlt
    simp (disch := omega) only [Tryz.ntmps44, Tryz.results44, go_sem, rR, gk, gl, hrl]
    refine (Tryz.toRule_f (rg R k) (hT k hlt)).callVw IsAgg1.sh 1 (viewL_cons_of view_rule viewL_nil_of) ?_
    rintro _ H1 ⟨b, off, cap, ex, rfl⟩ hv hnb hlow
    have hm1 : H1.map 0 = _ := (hlow 0 (by have := hB.nb; omega)).trans hm
    have hcl : (rs ++ List.replicate (R.length - k) (SV.val (.slice none 0 0))).length = R.length := by simp [hln]; omega
    have hst : (rs ++ List.replicate (R.length - k) (SV.val (.slice none 0 0))).set k (.own b off (rg R k).length cap 3 ex) = (rs ++ [.own b off (rg R k).length cap 3 ex]) ++ List.replicate (R.length - (k + 1)) (.val (.slice none 0 0)) := by
      rw [List.set_append_right _ _ (by omega), hln, Nat.sub_self, show R.length - k = (R.length - (k + 1)) + 1 by omega, List.replicate_succ, List.set_cons_zero, List.append_assoc, List.singleton_append]
    simp (disch := omega) only [Tryz.ntmps44, Tryz.results44, go_sem, rR, hm1, hcl, hst]
    refine ⟨(k + 1, rs ++ [.own b off (rg R k).length cap 3 ex], _), ⟨hlt, ?_⟩, by show R.length - (k + 1) < R.length - k; omega, Wk.of (by simp only [go_sem, ↓List.forall_mem_cons, List.not_mem_nil, false_implies, implies_true, and_true, true_and, and_self, ri_eq, Int.natCast_add, Int.cast_ofNat_Int, rR]; try simp) rfl⟩
    have hBn := hB.nb
    refine ⟨by simp [hln], by simp only [hset_map, if_pos], noRowL_append hB.nr rfl, fun H' hH' => ?_, fun b blk b1 b2 hb => ?_, by simp only [hset_nb]; omega⟩
    · simp only [hset_nb] at hH'
      have hH2 : ∀ b, 1 ≤ b → b < H1.nb → H'.map b = H1.map b := fun b b1 b2 => by
        rw [hH' b b1 b2, hset_map, if_neg (by omega)]
      rw [rules_take R hlt]
      refine viewL_append (hB.vw H' fun b b1 b2 => by rw [hH2 b b1 (by omega), hlow b b2]) (viewL_cons_of (view_agg1_inv (hv.vw H' fun b b1 b2 => hH2 b (by omega) b2)) viewL_nil_of)
    · simp only [hset_nb] at b2
      rw [hset_map, if_neg (by omega)] at hb
      by_cases hbn : b < H.nb
      · exact hB.hn b blk b1 hbn (by rw [← hlow b hbn]; exact hb)
      · exact hv.hn b blk (by omega) b2 hb
  · obtain rfl : k = R.length := by omega
    simp (disch := omega) only [Tryz.ntmps44, Tryz.results44, go_sem, rR]
    have hBn := hB.nb
    rw [Nat.sub_self, List.replicate_zero, List.append_nil] at hm
    refine fin_vw 0 H.nb ⟨0, 0, R.length, true, rfl⟩ rfl (fun b blk _ b2 hb => ?_) ?_
    · by_cases h0 : b = 0
      · subst h0; rw [hm] at hb; simp at hb; subst hb; exact hB.nr
      · exact hB.hn b blk (by omega) b2 hb
    · have hv := hB.vw (cutH H 0 H.nb) (fun b b1 b2 => cutH_map (by omega) b2)
      rw [List.take_length] at hv
      have hm0 : (cutH H 0 H.nb).map 0 = some ⟨rs, true⟩ := by rw [cutH_map (by omega) (by omega), hm]
      simp only [view, hm0, Nat.mul_one, List.drop_zero, hln, Nat.zero_add, Nat.le_refl, if_true]
      rw [show List.take R.length rs = rs from List.take_of_length_le (by omega), hv]
      rfl
set_option maxHeartbeats 4000000 in
theorem Tryz.toRuleSet_f (R : List (List Con)) (hR : R.length ≤ 1048576) (hT : ∀ i, i < R.length → (rg R i).length ≤ 1048576) : FCall Tryz.prog 10 [.agg [rR R]] (VRes (IsAgg1 R.length 1) 4 (.agg [rR R])) := by
  have w := Tryz.toRuleS_f R hR hT
  refine FCall.of_body Tryz.func10 rfl (by kernel_rfl) (by simp [Tryz.ntmps10]) ?_
  refine SW_of_vc Tryz.mixed _ _ _ (by kernel_rfl) ?_
  simp (disch := omega) only [Tryz.ntmps10, Tryz.results10, go_sem, rR]
  refine w.callVw IsOwn.sh 0 (viewL_cons_of (view_row) viewL_nil_of) ?_
  rintro _ H ⟨b, off, cap, ex, rfl⟩ hv hnb hlow
  have h0 := hlow 0 (by simp [hp])
  have h1 := hlow 1 (by simp [hp])
  have h2 := hlow 2 (by simp [hp])
  simp only [hp, hmap, Nat.reduceEqDiff, if_true, if_false] at hnb h0 h1 h2 hv
  simp (disch := omega) only [Tryz.ntmps10, Tryz.results10, go_sem, rR, h0, h1, h2, hset_map]
  refine fin_vw 3 H.nb ⟨b, off, cap, ex, rfl⟩ rfl (fun b blk b1 b2 hb => hv.hn b blk b1 b2 (by simpa (disch := omega) only [hset_map, if_neg] using hb)) ?_
  refine view_agg (viewL_cons_of (hv.vw _ (fun b b1 b2 => ?_)) viewL_nil_of)
  rw [cutH_map b1 b2]
  simp (disch := omega) only [hset_map, if_neg]
theorem Tryz.toRuleSet_ok (R : List (List Con)) (hR : R.length ≤ 1048576) (hT : ∀ i, i < R.length → (rg R i).length ≤ 1048576) : PCall Tryz.prog 10 [.agg [rR R]] (.agg [rR R]) := (Tryz.toRuleSet_f R hR hT).pcallVw

/-! ### Scorings -/
abbrev sS (W : List Int) (b : Int) : SV := .agg [ri W, .val (.int .i64 b)]
theorem view_sS {H : Heap} {f n : Nat} {ex : Bool} {cs : List SV} {k : IntKind} {b : Int} : view H (f + 1) (.agg [.row n ex cs, .val (.int k b)]) = some (.agg [.row n false cs, .val (.int k b)]) := view_agg (viewL_cons_of view_row (viewL_cons_of view_int viewL_nil_of))
theorem Tryz.szScoring_ok (L : List Int) (b : Int) (l : Int) (hL : L.length ≤ 9223372036854775807) (h0 : 0 ≤ l) (h1 : l ≤ 1048576) : PCall Tryz.prog 7 [sS L b, .val (.int .i64 l)] (.val (.int .i64 (if l < L.length then -1 else l - L.length))) := by
  refine FCall.pcall (R := fun r _ => r = .val (.int .i64 (if l < L.length then -1 else l - L.length))) ?_ 0 (by rintro r H rfl; exact view_int)
  refine FCall.of_body Tryz.func7 rfl (by kernel_rfl) (by simp [Tryz.ntmps7]) ?_
  have w := Tryz.szIntS_ok L l hL h0 h1
  refine SW_of_vc Tryz.mixed _ _ _ (by kernel_rfl) ?_
  by_cases hl : l < L.length
  · rw [if_pos hl] at w
    simp (disch := omega) only [Tryz.ntmps7, Tryz.results7, go_sem]
    refine w.callV 0 (viewL_cons_of (view_row) (viewL_cons_of (view_int) viewL_nil_of)) ?_
    simp (disch := omega) only [Tryz.ntmps7, Tryz.results7, go_sem]
    exact Fin.val rfl
  · rw [if_neg hl] at w
    simp (disch := omega) only [Tryz.ntmps7, Tryz.results7, go_sem]
    refine w.callV 0 (viewL_cons_of (view_row) (viewL_cons_of (view_int) viewL_nil_of)) ?_
    simp (disch := omega) only [Tryz.ntmps7, Tryz.results7, go_sem]
    exact Fin.val rfl
theorem Tryz.toScoring_ok (L : List Int) (a : Int) (hL : L.length ≤ 1048576) : PCall Tryz.prog 11 [sS L a] (sS L a) := by
  refine FCall.pcall (R := fun r H => ∃ b, r = .agg [.own b 0 L.length L.length 1 false, .val (.int .i64 a)] ∧ H.map b = some ⟨ints L, false⟩) ?_ 2 ?_
  · refine FCall.of_body Tryz.func11 rfl (by kernel_rfl) (by simp [Tryz.ntmps11]) ?_
    refine SW_of_vc Tryz.mixed _ _ _ (by kernel_rfl) ?_
    simp (disch := omega) only [Tryz.ntmps11, Tryz.results11, go_sem]
    refine (Tryz.toIntS_one L hL).callOne (ints_vals L) 0 (viewL_cons_of (view_rowL (by first | rfl | simp [marks_length, canon_length] | omega)) viewL_nil_of) ?_
    simp (disch := omega) only [Tryz.ntmps11, Tryz.results11, go_sem]
    refine ⟨⟨fun x => if x = 3 then some ⟨ints L, false⟩ else none, _⟩, ⟨rfl, fun x => ?_⟩, rfl, fun b blk hb => ?_, 3, rfl, rfl⟩
    · by_cases hx : x = 3
      · subst hx; right; simp [hp, hmap]
      · left; simp [hx]
    · by_cases hx : b = 3
      · subst hx; simp at hb; subst hb; exact noRowL_ints L
      · simp [hx] at hb
  · rintro r H ⟨b, rfl, hb⟩
    exact view_agg (viewL_cons_of (view_own hb rfl) (viewL_cons_of view_int viewL_nil_of))
theorem Tryz.eqScoring_ok (L : List Int) (a : Int) (hL : L.length ≤ 1048576) : PCall Tryz.prog 16 [sS L a, sS L a] (.val (.bool true)) := by
  refine FCall.pcall (R := fun r _ => r = .val (.bool true)) ?_ 0 (by rintro r H rfl; exact view_bool)
  refine FCall.of_body Tryz.func16 rfl (by kernel_rfl) (by simp [Tryz.ntmps16]) ?_
  refine SW_of_vc Tryz.mixed _ _ _ (by kernel_rfl) ?_
  simp (disch := omega) only [Tryz.ntmps16, Tryz.results16, go_sem]
  refine (Tryz.eqIntS_ok L L (by omega) (by omega)).callV 0 (viewL_cons_of (view_rowL (by first | rfl | simp [marks_length, canon_length] | omega)) (viewL_cons_of (view_rowL (by first | rfl | simp [marks_length, canon_length] | omega)) viewL_nil_of)) ?_
  simp (disch := omega) only [Tryz.ntmps16, Tryz.results16, go_sem, bne_self_eq_false, beq_self_eq_true]
  exact Fin.val rfl
end Go.Sh

/-
  Copies whose rows may be written: rules, scorings.
-/
namespace Go.Sh
set_option linter.unusedSimpArgs false
set_option linter.unusedVariables false
open Go Go.Proofs

/-- An outer block; what its cells hold lies behind it and reads as T. -/
structure NIn (H : Heap) (ob : Nat) (ex : Bool) (cs : List SV) (fu : Nat) (T : List SV) : Prop where
  o : H.map ob = some ⟨cs, ex⟩
  nr : noRowL cs = true
  vw : ∀ H' : Heap, (∀ b, ob < b → b < H.nb → H'.map b = H.map b) → viewL H' fu cs = some T
  hn : ∀ b blk, ob < b → b < H.nb → H.map b = some blk → noRowL blk.cells = true
  lt : ob < H.nb
theorem NIn.fr {H H1 : Heap} {ob : Nat} {ex : Bool} {cs : List SV} {fu : Nat} {T : List SV} (h : NIn H ob ex cs fu T) (hm : ∀ b, ob ≤ b → b < H.nb → H1.map b = H.map b) : NIn ⟨H1.map, H.nb⟩ ob ex cs fu T :=
  ⟨by rw [← h.o]; exact hm ob (Nat.le_refl _) h.lt, h.nr, fun H' hH' => h.vw H' fun b b1 b2 => (hH' b b1 b2).trans (hm b (by omega) b2), fun b blk b1 b2 hb => h.hn b blk b1 b2 (by rw [← hm b (by omega) b2]; exact hb), h.lt⟩
theorem NIn.fr2 {H H1 : Heap} {ob : Nat} {ex : Bool} {cs : List SV} {fu : Nat} {T : List SV} (h : NIn H ob ex cs fu T) (hn : H1.nb = H.nb) (hm : ∀ b, ob ≤ b → b < H.nb → H1.map b = H.map b) : NIn H1 ob ex cs fu T := by
  have := h.fr hm
  rw [← hn] at this
  exact this
def NRes (wr : SV → SV) (n z fu : Nat) (T : List SV) (r : SV) (H : Heap) : Prop := ∃ ob ex cs, r = wr (.own ob 0 n n z ex) ∧ cs.length = n * z ∧ NIn H ob ex cs fu T
theorem fin_N {wr : SV → SV} {n z fu ob : Nat} {ex : Bool} {cs T : List SV} {H : Heap} (hw : ∀ k s, shift k (wr s) = wr (shift k s)) (hr : ∀ s, noRow s = true → noRow (wr s) = true) (h : NIn H ob ex cs fu T) (hl : cs.length = n * z) : Fin (NRes wr n z fu T) (wr (.own ob 0 n n z ex)) H := by
  refine ⟨cutH H ob H.nb, cutH_sub H ob H.nb, hr _ rfl, fun b blk hb => ?_, ob, ex, cs, rfl, hl, ?_⟩
  · by_cases h1 : ob ≤ b ∧ b < H.nb
    · rw [cutH_map h1.1 h1.2] at hb
      rcases Nat.eq_or_lt_of_le h1.1 with rfl | g
      · rw [h.o] at hb; simp at hb; subst hb; exact h.nr
      · exact h.hn b blk g h1.2 hb
    · have : (cutH H ob H.nb).map b = none := if_neg h1
      rw [this] at hb; cases hb
  · exact ⟨by rw [cutH_map (Nat.le_refl _) h.lt, h.o], h.nr, fun H' hH' => h.vw H' fun b b1 b2 => (hH' b b1 b2).trans (cutH_map (by omega) b2), fun b blk b1 b2 hb => h.hn b blk b1 b2 (by rw [← cutH_map (H := H) (Nat.le_of_lt b1) b2]; exact hb), h.lt⟩
section
variable {P : Program}
theorem FCall.callN {f : FuncId} {args args' : List SV} {wr : SV → SV} {n z fu : Nat} {T : List SV} {H : Heap} {K : SV → Heap → Prop} (h : FCall P f args' (NRes wr n z fu T)) (hw : ∀ k s, shift k (wr s) = wr (shift k s)) (fu' : Nat) (hv : viewL H fu' args = some args')
    (k : ∀ ob ex cs H', cs.length = n * z → NIn H' ob ex cs fu T → H.nb ≤ ob → H.nb ≤ H'.nb → (∀ b, b < H.nb → H'.map b = H.map b) → K (wr (.own ob 0 n n z ex)) H') : @CallX P f args H ⟨K⟩ := by
  have h' : FCall P f args' (fun r H0 => NRes wr n z fu T r H0 ∧ ∀ b blk, H0.map b = some blk → b < H0.nb) := by
    refine ⟨h.1, fun w vs hl ht => (h.2 w vs hl ht).mono ?_⟩
    rintro e w' ⟨v, r, j, H0, h1, h2, h3, h4, h5, h6, h7, h8⟩
    refine ⟨v, r, j, H0, h1, h2, h3, h4, h5, h6, h7, h8, fun b blk hb => ?_⟩
    obtain ⟨rb, base, g1, _⟩ := h3.live b blk hb
    exact h3.dom b _ g1
  refine (h'.callS fu' hv).mono ?_
  rintro r H' ⟨r0, H0, ⟨⟨ob, ex, cs, rfl, hl, hN⟩, h4⟩, rfl, rfl⟩
  have hmap : ∀ b blk, H0.map b = some blk → (H.merge H0).map (b + H.nb) = some ⟨shiftL H.nb blk.cells, blk.ex⟩ := fun b blk hb => by
    simp only [Heap.merge]
    rw [if_neg (by omega), Nat.add_sub_cancel, hb]; rfl
  have hnb : (H.merge H0).nb = H.nb + H0.nb := rfl
  rw [hw]
  simp only [shift]
  refine k (ob + H.nb) ex (shiftL H.nb cs) _ (by rw [shiftL_length, hl]) ⟨hmap _ _ hN.o, noRowL_shift _ _ hN.nr, fun H1 hH1 => ?_, fun b blk hb1 hb2 hb => ?_, by have := hN.lt; omega⟩ (by omega) (by omega) (fun b hb => by simp only [Heap.merge]; rw [if_pos hb])
  · have hv0 := hN.vw ⟨fun b => if ob < b ∧ b < H0.nb then H0.map b else none, H0.nb⟩ (fun b b1 b2 => if_pos ⟨b1, b2⟩)
    refine viewL_shift (fun b blk hb => ?_) fu cs T hv0
    simp only at hb
    split at hb
    · rename_i hc
      rw [hH1 (b + H.nb) (by omega) (by omega), hmap b blk hb]
    · cases hb
  · simp only [Heap.merge] at hb
    rw [if_neg (by omega)] at hb
    cases hx : H0.map (b - H.nb) with
    | none => rw [hx] at hb; simp at hb
    | some blk0 =>
      rw [hx] at hb
      simp at hb; subst hb
      have := hN.lt
      exact noRowL_shift _ _ (hN.hn _ _ (by omega) (by omega) hx)
end
theorem NIn.view {H : Heap} {ob n z cap : Nat} {ex e : Bool} {cs : List SV} {fu : Nat} {T : List SV} (h : NIn H ob ex cs fu T) (hl : cs.length = n * z) : Sh.view H (fu + 1) (.own ob 0 n cap z e) = some (.row n false T) := by
  simp only [Sh.view, h.o, List.drop_zero, Nat.zero_add, hl, Nat.le_refl, if_true]
  rw [← hl, List.take_length, h.vw H fun _ _ _ => rfl]
set_option maxHeartbeats 4000000 in
theorem Tryz.toRuleS_n (R : List (List Con)) (hR : R.length ≤ 1048576) (hT : ∀ i, i < R.length → (rg R i).length ≤ 1048576) : FCall Tryz.prog 44 [rR R] (NRes (fun s => s) R.length 1 2 (rules R)) := by
  have hrl := rules_length R
  refine FCall.of_body Tryz.func44 rfl (by kernel_rfl) (by simp [Tryz.ntmps44]) ?_
  refine SW_of_vc Tryz.mixed _ _ _ (by kernel_rfl) ?_
  simp (disch := omega) only [Tryz.ntmps44, Tryz.results44, go_sem, rR]
  refine LoopW.loop (fun y : Nat × List SV × Heap => ⟨ofL [(0, rR R), (3, .own 0 0 R.length R.length 1 true), (4, .val (.int .i64 y.1))], y.2.2⟩) (fun y => y.1 ≤ R.length ∧ RuB R y.1 y.2.1 y.2.2) (fun y => R.length - y.1)
    (0, [], hp [(0, ⟨List.replicate R.length (.val (.slice none 0 0)), true⟩)] 1) ⟨by simp, rfl, by simp [hp, hmap], rfl, fun H' _ => viewL_nil_of, fun b blk b1 b2 hb => by simp [hp, hmap] at b2; omega, by simp [hp]⟩ (Wk.of (by simp only [go_sem, ↓List.forall_mem_cons, List.not_mem_nil, false_implies, implies_true, and_true, true_and, and_self, ri_eq, Int.natCast_add, Int.cast_ofNat_Int, rR]; try simp) (by first | rfl | (trace_state; simp))) ?_
  rintro ⟨k, rs, H⟩ ⟨hk, hB⟩
  simp only at hk hB
  have hm := hB.o
  have hln := hB.ln
  refine SW_of_vc Tryz.mixed _ _ _ (by kernel_rfl) ?_
  by_cases hlt : k < R.length
  · have gk := rules_get hlt
    have gl := rules_load hlt
    simp (disch := omega) only [Tryz.ntmps44, Tryz.results44, go_sem, rR, gk, gl, hrl]
    refine (Tryz.toRule_f (rg R k) (hT k hlt)).callVw IsAgg1.sh 1 (viewL_cons_of view_rule viewL_nil_of) ?_
    rintro _ H1 ⟨b, off, cap, ex, rfl⟩ hv hnb hlow
    have hm1 : H1.map 0 = _ := (hlow 0 (by have := hB.nb; omega)).trans hm
    have hcl : (rs ++ List.replicate (R.length - k) (SV.val (.slice none 0 0))).length = R.length := by simp [hln]; omega
    have hst : (rs ++ List.replicate (R.length - k) (SV.val (.slice none 0 0))).set k (.own b off (rg R k).length cap 3 ex) = (rs ++ [.own b off (rg R k).length cap 3 ex]) ++ List.replicate (R.length - (k + 1)) (.val (.slice none 0 0)) := by
      rw [List.set_append_right _ _ (by omega), hln, Nat.sub_self, show R.length - k = (R.length - (k + 1)) + 1 by omega, List.replicate_succ, List.set_cons_zero, List.append_assoc, List.singleton_append]
    simp (disch := omega) only [Tryz.ntmps44, Tryz.results44, go_sem, rR, hm1, hcl, hst]
    refine ⟨(k + 1, rs ++ [.own b off (rg R k).length cap 3 ex], _), ⟨hlt, ?_⟩, by show R.length - (k + 1) < R.length - k; omega, Wk.of (by simp only [go_sem, ↓List.forall_mem_cons, List.not_mem_nil, false_implies, implies_true, and_true, true_and, and_self, ri_eq, Int.natCast_add, Int.cast_ofNat_Int, rR]; try simp) rfl⟩
    have hBn := hB.nb
    refine ⟨by simp [hln], by simp only [hset_map, if_pos], noRowL_append hB.nr rfl, fun H' hH' => ?_, fun b blk b1 b2 hb => ?_, by simp only [hset_nb]; omega⟩
    · simp only [hset_nb] at hH'
      have hH2 : ∀ b, 1 ≤ b → b < H1.nb → H'.map b = H1.map b := fun b b1 b2 => by
        rw [hH' b b1 b2, hset_map, if_neg (by omega)]
      rw [rules_take R hlt]
      refine viewL_append (hB.vw H' fun b b1 b2 => by rw [hH2 b b1 (by omega), hlow b b2]) (viewL_cons_of (view_agg1_inv (hv.vw H' fun b b1 b2 => hH2 b (by omega) b2)) viewL_nil_of)
    · simp only [hset_nb] at b2
      rw [hset_map, if_neg (by omega)] at hb
      by_cases hbn : b < H.nb
      · exact hB.hn b blk b1 hbn (by rw [← hlow b hbn]; exact hb)
      · exact hv.hn b blk (by omega) b2 hb
  · obtain rfl : k = R.length := by omega
    simp (disch := omega) only [Tryz.ntmps44, Tryz.results44, go_sem, rR]
    have hBn := hB.nb
    rw [Nat.sub_self, List.replicate_zero, List.append_nil] at hm
    refine fin_N (wr := fun s => s) (fun _ _ => rfl) (fun _ h => h) (cs := rs) ⟨hm, hB.nr, fun H' hH' => ?_, fun b blk b1 b2 hb => hB.hn b blk (by omega) b2 hb, by omega⟩ (by rw [hln]; omega)
    have := hB.vw H' (fun b b1 b2 => hH' b (by omega) b2)
    rw [List.take_length] at this
    exact this
set_option maxHeartbeats 4000000 in
theorem Tryz.toRuleSet_n (R : List (List Con)) (hR : R.length ≤ 1048576) (hT : ∀ i, i < R.length → (rg R i).length ≤ 1048576) : FCall Tryz.prog 10 [.agg [rR R]] (NRes (fun s => .agg [s]) R.length 1 2 (rules R)) := by
  have w := Tryz.toRuleS_n R hR hT
  refine FCall.of_body Tryz.func10 rfl (by kernel_rfl) (by simp [Tryz.ntmps10]) ?_
  refine SW_of_vc Tryz.mixed _ _ _ (by kernel_rfl) ?_
  simp (disch := omega) only [Tryz.ntmps10, Tryz.results10, go_sem, rR]
  refine w.callN (fun _ _ => rfl) 0 (viewL_cons_of (view_row) viewL_nil_of) ?_
  rintro ob ex cs H hl hN hlo hnb hlow
  have h0 := hlow 0 (by simp [hp])
  have h1 := hlow 1 (by simp [hp])
  have h2 := hlow 2 (by simp [hp])
  simp only [hp, hmap, Nat.reduceEqDiff, if_true, if_false] at hlo hnb h0 h1 h2
  simp (disch := omega) only [Tryz.ntmps10, Tryz.results10, go_sem, rR, h0, h1, h2, hset_map]
  exact fin_N (wr := fun s => .agg [s]) (fun _ _ => by simp only [shift, shiftL]) (fun s h => by simp only [noRow, noRowL, h, Bool.and_true]) (hN.fr2 (by simp only [hset_nb]) (fun b b1 b2 => by simp (disch := omega) only [hset_map, if_neg])) hl
end Go.Sh

/-
  Strings as lists of bytes.
-/
namespace Go.Sh
set_option linter.unusedSimpArgs false
set_option linter.unusedVariables false
open Go

abbrev str (l : List UInt8) : SV := .val (.string (sb l))
@[go_sem] theorem sb_mk (l : List UInt8) : ByteArray.mk (List.toArray l) = sb l := rfl
@[go_sem] theorem sb_size (l : List UInt8) : (sb l).size = l.length := by simp [sb, ByteArray.size]
@[go_sem] theorem sb_append (a b : List UInt8) : sb a ++ sb b = sb (a ++ b) := by
  apply ByteArray.ext
  simp [sb]
@[go_sem] theorem sb_toList (l : List UInt8) : (sb l).toList = l := ByteArray.toList_mk l
@[go_sem] theorem sb_extract (l : List UInt8) (a b : Nat) : (sb l).extract a b = sb ((l.drop a).take (b - a)) := ByteArray.extract_mk l a b
@[go_sem] theorem sb_data (l : List UInt8) : (sb l).data.toList = l := by simp [sb]
theorem sb_empty : ByteArray.empty = sb [] := rfl
@[go_sem] theorem sb_index (l : List UInt8) (i : Int) : (if h : 0 ≤ i ∧ i.toNat < (sb l).size then some (SV.val (.int .u8 ((sb l)[i.toNat]'h.2).toNat)) else none) = if 0 ≤ i ∧ i.toNat < l.length then some (.val (.int .u8 (l.getD i.toNat 0).toNat)) else none := by
  by_cases h : 0 ≤ i ∧ i.toNat < l.length
  · have h' : 0 ≤ i ∧ i.toNat < (sb l).size := by rw [sb_size]; exact h
    rw [dif_pos h', if_pos h]
    congr 3
    simp [sb, ByteArray.getElem_eq_getElem_data, h.2]
  · have h' : ¬ (0 ≤ i ∧ i.toNat < (sb l).size) := by rw [sb_size]; exact h
    rw [dif_neg h', if_neg h]
@[go_sem] theorem sstr_add (a b : List UInt8) : sstr .add (sb a) (sb b) = if a.length + b.length ≤ 9223372036854775807 then some (str (a ++ b)) else none := by
  simp only [sstr, sb_size, sb_append]
@[go_sem] theorem sstr_eql (a b : List UInt8) : sstr .eql (sb a) (sb b) = some (.val (.bool (a == b))) := by simp only [sstr, sb_toList]
@[go_sem] theorem sstr_neq (a b : List UInt8) : sstr .neq (sb a) (sb b) = some (.val (.bool (!(a == b)))) := by simp only [sstr, sb_toList]
theorem view_str {H : Heap} {f : Nat} {b : ByteArray} : view H f (.val (.string b)) = some (.val (.string b)) := by unfold view; rfl
theorem wrap8_id {x : Int} (h0 : 0 ≤ x) (h1 : x ≤ 255) : IntKind.u8.wrap x = x := by
  simp [IntKind.wrap, IntKind.signed, IntKind.bits]; omega
/-- Slices of strings, to read. -/
def strs (L : List (List UInt8)) : List SV := L.map str
def rst (L : List (List UInt8)) : SV := .row L.length false (strs L)
end Go.Sh

/-
  Contracts: labels by first occurrence. Of the reference.
-/
namespace Go.Sh
set_option linter.unusedSimpArgs false
set_option linter.unusedVariables false
open Go Go.Proofs

end Go.Sh

/-
  Contracts: pairs of partitions and their meet. Of the reference and of the program.
-/
namespace Go.Sh
set_option linter.unusedSimpArgs false
set_option linter.unusedVariables false
open Go Go.Proofs

def pairB (A B : List Int) : Bool := isPart A && (isPart B && decide (A.length = B.length))
def both (A B : List Int) : List Int := List.zipWith (fun x y => x * 8 + y) A B
def meet (A B : List Int) : List Int := canon (if pairB A B = true then both A B else [])

end Go.Sh

/-
  Contracts: numbers by rows, copied, measured, compared.
-/
namespace Go.Sh
set_option linter.unusedSimpArgs false
set_option linter.unusedVariables false
open Go Go.Proofs

def mrow (M : List (List Int)) (i : Nat) : List Int := M.getD i []
def mat (M : List (List Int)) (i k : Nat) : Int := (mrow M i).getD k 0
theorem rows_get {M : List (List Int)} {k : Nat} (h : k < M.length) : (rows M)[k]? = some (.row (mrow M k).length false (ints (mrow M k))) := by
  simp [rows, mrow, h, ri]
theorem rr_eq (M : List (List Int)) : rr M = .row M.length false (rows M) := rfl

def outer (M : List (List Int)) (k : Nat) : List SV := (List.range M.length).map fun i => if i < k then .own (i + 1) 0 (mrow M i).length (mrow M i).length 1 false else .val (.slice none 0 0)
theorem viewL_fn {H : Heap} {f : Nat} {α : Type} {g h : α → SV} : ∀ (l : List α), (∀ a ∈ l, view H f (g a) = some (h a)) → viewL H f (l.map g) = some (l.map h)
  | [], _ => viewL_nil_of
  | a :: l, hv => viewL_cons_of (hv a (by simp)) (viewL_fn l (fun b hb => hv b (by simp [hb])))
def msum (M : List (List Int)) (k : Nat) : Int := ((M.take k).map fun r => (r.length : Int)).sum
theorem msum_succ {M : List (List Int)} {k : Nat} (h : k < M.length) : msum M (k + 1) = msum M k + (mrow M k).length := by
  have e : mrow M k = M[k] := by simp [mrow, h]
  rw [msum, List.take_succ_eq_append_getElem h, List.map_append, List.sum_append, e]
  simp only [List.map_cons, List.map_nil, List.sum_cons, List.sum_nil, Int.add_zero]
  rfl
theorem msum_nonneg (M : List (List Int)) (k : Nat) : 0 ≤ msum M k := by
  unfold msum
  induction M.take k with
  | nil => simp
  | cons a l ih => simp only [List.map_cons, List.sum_cons]; omega
theorem msum_mono {M : List (List Int)} : ∀ {k j : Nat}, k ≤ j → j ≤ M.length → msum M k ≤ msum M j := by
  intro k j h
  induction h with
  | refl => intro _; exact Int.le_refl _
  | step h ih =>
    intro hj
    have := ih (by omega)
    rw [msum_succ (by omega)]
    omega

theorem mtake_succ {A B : List (List Int)} {k : Nat} (hA : k < A.length) (hB : k < B.length) (h : A.take k = B.take k) (e : mrow A k = mrow B k) : A.take (k + 1) = B.take (k + 1) := by
  rw [List.take_succ_eq_append_getElem hA, List.take_succ_eq_append_getElem hB, h]
  simp [mrow, hA, hB] at e
  rw [e]

set_option maxHeartbeats 1000000 in
theorem Tryz.eqIntSS_ok (A B : List (List Int)) (hA : A.length ≤ 1048576) (hB : B.length ≤ 1048576) (rA : ∀ i, i < A.length → (mrow A i).length ≤ 1048576) (rB : ∀ i, i < B.length → (mrow B i).length ≤ 1048576) : PCall Tryz.prog 13 [rr A, rr B] (.val (.bool (decide (A = B)))) := by
  refine FCall.pcall (R := fun r _ => r = .val (.bool (decide (A = B)))) ?_ 0 (by rintro r H rfl; exact view_bool)
  refine FCall.of_body Tryz.func13 rfl (by kernel_rfl) (by simp [Tryz.ntmps13]) ?_
  refine SW_of_vc Tryz.mixed _ _ _ (by kernel_rfl) ?_
  by_cases hl : A.length = B.length
  · simp (disch := omega) only [Tryz.ntmps13, Tryz.results13, go_sem, rr_eq]
    refine LoopW.loop (fun k : Nat => ⟨ofL [(0, rr A), (1, rr B), (5, .val (.int .i64 k))], hp [] 0⟩) (fun k => k ≤ A.length ∧ A.take k = B.take k) (fun k => A.length - k) 0 ⟨by omega, by simp⟩ (Wk.of (by simp only [go_sem, ↓List.forall_mem_cons, List.not_mem_nil, false_implies, implies_true, and_true, true_and, and_self, ri_eq, Int.natCast_add, Int.cast_ofNat_Int, rr_eq]; try simp) rfl) ?_
    rintro k ⟨hk, hkk⟩
    refine SW_of_vc Tryz.mixed _ _ _ (by kernel_rfl) ?_
    by_cases hlt : k < A.length
    · have hq := Tryz.eqIntS_ok (mrow A k) (mrow B k) (by have := rA k hlt; omega) (by have := rB k (by omega); omega)
      by_cases he : mrow A k = mrow B k
      · have he' : (mrow A k == mrow B k) = true := by simp [he]
        rw [he'] at hq
        simp (disch := omega) only [Tryz.ntmps13, Tryz.results13, go_sem, rr_eq, rows_get]
        refine hq.callDV 0 (viewL_cons_of (view_rowL (by first | rfl | simp [marks_length, canon_length] | omega)) (viewL_cons_of (view_rowL (by first | rfl | simp [marks_length, canon_length] | omega)) viewL_nil_of)) ?_
        simp (disch := omega) only [Tryz.ntmps13, Tryz.results13, go_sem, rr_eq]
        exact ⟨k + 1, ⟨by omega, mtake_succ hlt (by omega) hkk he⟩, by omega, Wk.of (by simp only [go_sem, ↓List.forall_mem_cons, List.not_mem_nil, false_implies, implies_true, and_true, true_and, and_self, ri_eq, Int.natCast_add, Int.cast_ofNat_Int, rr_eq]; try simp) rfl⟩
      · have he' : (mrow A k == mrow B k) = false := by simpa using he
        rw [he'] at hq
        simp (disch := omega) only [Tryz.ntmps13, Tryz.results13, go_sem, rr_eq, rows_get]
        refine hq.callDV 0 (viewL_cons_of (view_rowL (by first | rfl | simp [marks_length, canon_length] | omega)) (viewL_cons_of (view_rowL (by first | rfl | simp [marks_length, canon_length] | omega)) viewL_nil_of)) ?_
        simp (disch := omega) only [Tryz.ntmps13, Tryz.results13, go_sem, rr_eq]
        refine Fin.val ?_
        have : A ≠ B := fun e => he (by rw [e])
        simp [this]
    · simp (disch := omega) only [Tryz.ntmps13, Tryz.results13, go_sem, rr_eq]
      refine Fin.val ?_
      have h1 : A.take k = A := List.take_of_length_le (by omega)
      have h2 : B.take k = B := List.take_of_length_le (by omega)
      rw [h1, h2] at hkk
      simp [hkk]
  · simp (disch := omega) only [Tryz.ntmps13, Tryz.results13, go_sem, rr_eq]
    refine Fin.val ?_
    have : A ≠ B := fun e => hl (by rw [e])
    simp [this]
end Go.Sh

/-
  Matrices in memory of their own: a block of rows, each row a block of scalars.
-/
namespace Go.Sh
set_option linter.unusedSimpArgs false
set_option linter.unusedVariables false
open Go Go.Proofs

/-- What a heap holds: a block; a matrix (its outer block b, its rows b+1, b+2, ..); rows under names of any kind; a name that is gone. -/
inductive Ent where
  | blk (k : Nat) (v : Blk)
  | mat (b : Nat) (R : List (List SV))
  | rows (fl : Bool) (nr : List (Nat × List SV))
  | cut (b : Nat)

def rowAt (R : List (List SV)) (i : Nat) : List SV := R.getD i []
def outerB (b : Nat) (R : List (List SV)) : List SV := (List.range R.length).map fun i => .own (b + 1 + i) 0 (rowAt R i).length (rowAt R i).length 1 false
def matMap (b : Nat) (R : List (List SV)) (x : Nat) : Option Blk := if x = b then some ⟨outerB b R, false⟩ else some ⟨rowAt R (x - b - 1), false⟩
def nrFind : List (Nat × List SV) → Nat → Option (List SV)
  | [], _ => none
  | p :: l, x => if x = p.1 then some p.2 else nrFind l x
def xmap : List Ent → Nat → Option Blk
  | [], _ => none
  | .blk k v :: l, x => if x = k then some v else xmap l x
  | .mat b R :: l, x => if b ≤ x ∧ x ≤ b + R.length then matMap b R x else xmap l x
  | .rows fl nr :: l, x => match nrFind nr x with
    | some r => some ⟨r, fl⟩
    | none => xmap l x
  | .cut b :: l, x => if x = b then none else xmap l x
def hx (l : List Ent) (n : Nat) : Heap := ⟨xmap l, n⟩
def toE (l : List (Nat × Blk)) : List Ent := l.map fun p => .blk p.1 p.2
theorem toE_nil : toE [] = [] := rfl
theorem toE_cons (k : Nat) (v : Blk) (l : List (Nat × Blk)) : toE ((k, v) :: l) = .blk k v :: toE l := rfl
theorem hp_hx (l : List (Nat × Blk)) (n : Nat) : hp l n = hx (toE l) n := by
  refine Heap.ext' (fun x => ?_) rfl
  show hmap l x = xmap (toE l) x
  induction l with
  | nil => rfl
  | cons p l ih =>
    obtain ⟨k, v⟩ := p
    simp only [toE_cons, hmap, xmap, ih]
theorem hx_nb (l : List Ent) (n : Nat) : (hx l n).nb = n := rfl
theorem hx_map (l : List Ent) (n x : Nat) : (hx l n).map x = xmap l x := rfl
theorem hx_push (l : List Ent) (n : Nat) (k : Blk) : (hx l n).push k = hx (.blk n k :: l) (n + 1) := rfl
theorem xmap_blk (k : Nat) (v : Blk) (l : List Ent) (x : Nat) : xmap (.blk k v :: l) x = if x = k then some v else xmap l x := rfl
theorem xmap_nil (x : Nat) : xmap [] x = none := rfl

def Heap.pushM (H : Heap) (R : List (List SV)) : Heap := ⟨fun x => if H.nb ≤ x ∧ x ≤ H.nb + R.length then matMap H.nb R x else H.map x, H.nb + R.length + 1⟩
theorem hx_pushM (l : List Ent) (n : Nat) (R : List (List SV)) : (hx l n).pushM R = hx (.mat n R :: l) (n + R.length + 1) := rfl
theorem hp_pushM (l : List (Nat × Blk)) (n : Nat) (R : List (List SV)) : (hp l n).pushM R = hx (.mat n R :: toE l) (n + R.length + 1) := by rw [hp_hx, hx_pushM]

def xset : List Ent → Nat → Blk → List Ent
  | [], b, x => [.blk b x]
  | .blk k v :: l, b, x => if k = b then .blk k x :: l else .blk k v :: xset l b x
  | .mat c R :: l, b, x => if c < b ∧ b ≤ c + R.length ∧ x.cells.length = (rowAt R (b - c - 1)).length ∧ x.ex = false then .mat c (R.set (b - c - 1) x.cells) :: l else if b < c ∨ c + R.length < b then .mat c R :: xset l b x else .blk b x :: .mat c R :: l
  | .rows fl nr :: l, b, x => .blk b x :: .rows fl nr :: l
  | .cut c :: l, b, x => .blk b x :: .cut c :: l
theorem rowAt_length {R : List (List SV)} {i : Nat} (h : i < R.length) : rowAt R i = R[i] := by simp [rowAt, h]
theorem outerB_set {b : Nat} {R : List (List SV)} {i : Nat} {r : List SV} (h : r.length = (rowAt R i).length) : outerB b (R.set i r) = outerB b R := by
  unfold outerB
  rw [List.length_set]
  refine List.map_congr_left (fun k hk => ?_)
  have hk : k < R.length := by simpa using hk
  have e : (rowAt (R.set i r) k).length = (rowAt R k).length := by
    rw [rowAt_length (by simpa using hk), rowAt_length hk, List.getElem_set]
    split
    · rename_i e; subst e
      rw [h, rowAt_length hk]
    · rfl
  rw [e]
theorem xmap_set : ∀ (l : List Ent) (b : Nat) (k : Blk) (x : Nat), (if x = b then some k else xmap l x) = xmap (xset l b k) x
  | [], b, k, x => by simp only [xset, xmap]
  | .blk c v :: l, b, k, x => by
    have ih := xmap_set l b k x
    simp only [xset]
    by_cases e : c = b
    · rw [if_pos e]
      subst e
      simp only [xmap]
      by_cases hx : x = c <;> simp [hx]
    · rw [if_neg e]
      simp only [xmap, ← ih]
      by_cases hx : x = b
      · subst hx
        rw [if_pos rfl, if_neg (by omega), if_pos rfl]
      · rw [if_neg hx, if_neg hx]
  | .mat c R :: l, b, k, x => by
    have ih := xmap_set l b k x
    simp only [xset]
    by_cases h : c < b ∧ b ≤ c + R.length ∧ k.cells.length = (rowAt R (b - c - 1)).length ∧ k.ex = false
    · rw [if_pos h]
      obtain ⟨h1, h2, h3, h4⟩ := h
      obtain ⟨kc, kx⟩ := k
      simp only at h3 h4
      subst h4
      simp only [xmap, List.length_set]
      by_cases hx : x = b
      · subst hx
        rw [if_pos rfl, if_pos (by omega), matMap, if_neg (by omega), rowAt_length (by simp; omega)]
        simp
      · rw [if_neg hx]
        by_cases hr : c ≤ x ∧ x ≤ c + R.length
        · rw [if_pos hr, if_pos hr, matMap, matMap, outerB_set h3]
          by_cases hc : x = c
          · rw [if_pos hc, if_pos hc]
          · rw [if_neg hc, if_neg hc]
            rw [rowAt_length (by omega), rowAt_length (by simp; omega), List.getElem_set_ne (by omega)]
        · rw [if_neg hr, if_neg hr]
    · rw [if_neg h]
      by_cases h2 : b < c ∨ c + R.length < b
      · rw [if_pos h2]
        simp only [xmap, ← ih]
        by_cases hx : x = b
        · subst hx
          rw [if_pos rfl, if_pos rfl, if_neg (by omega)]
        · rw [if_neg hx, if_neg hx]
      · rw [if_neg h2]
        rfl
  | .rows fl nr :: l, b, k, x => rfl
  | .cut c :: l, b, k, x => rfl
theorem hx_set (l : List Ent) (n b : Nat) (k : Blk) : (hx l n).set b (some k) = hx (xset l b k) n :=
  Heap.ext' (fun x => xmap_set l b k x) rfl
def xdel : List Ent → Nat → List Ent
  | [], _ => []
  | .blk k v :: l, b => if k = b then xdel l b else .blk k v :: xdel l b
  | .mat c R :: l, b => if b < c ∨ c + R.length < b then .mat c R :: xdel l b else .cut b :: .mat c R :: l
  | .rows fl nr :: l, b => .cut b :: .rows fl nr :: l
  | .cut c :: l, b => .cut b :: .cut c :: l
theorem xmap_del : ∀ (l : List Ent) (b : Nat) (x : Nat), (if x = b then none else xmap l x) = xmap (xdel l b) x
  | [], b, x => by simp only [xdel, xmap]; split <;> rfl
  | .blk c v :: l, b, x => by
    have ih := xmap_del l b x
    simp only [xdel]
    by_cases e : c = b
    · rw [if_pos e, ← ih]
      subst e
      simp only [xmap]
      by_cases hx : x = c <;> simp [hx]
    · rw [if_neg e]
      simp only [xmap, ← ih]
      by_cases hx : x = b
      · subst hx
        rw [if_pos rfl, if_neg (by omega), if_pos rfl]
      · rw [if_neg hx, if_neg hx]
  | .mat c R :: l, b, x => by
    have ih := xmap_del l b x
    simp only [xdel]
    by_cases h2 : b < c ∨ c + R.length < b
    · rw [if_pos h2]
      simp only [xmap, ← ih]
      by_cases hx : x = b
      · subst hx
        rw [if_pos rfl, if_pos rfl, if_neg (by omega)]
      · rw [if_neg hx, if_neg hx]
    · rw [if_neg h2]; rfl
  | .rows fl nr :: l, b, x => rfl
  | .cut c :: l, b, x => rfl
theorem hx_del (l : List Ent) (n b : Nat) : (hx l n).set b none = hx (xdel l b) n :=
  Heap.ext' (fun x => xmap_del l b x) rfl
theorem xdel_blk (k : Nat) (v : Blk) (l : List Ent) (b : Nat) : xdel (.blk k v :: l) b = if k = b then xdel l b else .blk k v :: xdel l b := rfl
theorem xdel_rows (fl : Bool) (nr : List (Nat × List SV)) (l : List Ent) (b : Nat) : xdel (.rows fl nr :: l) b = .cut b :: .rows fl nr :: l := rfl
theorem xdel_nil (b : Nat) : xdel [] b = [] := rfl
theorem xset_blk (k : Nat) (v : Blk) (l : List Ent) (b : Nat) (x : Blk) : xset (.blk k v :: l) b x = if k = b then .blk k x :: l else .blk k v :: xset l b x := rfl
theorem xset_nil (b : Nat) (x : Blk) : xset [] b x = [.blk b x] := rfl

/-! ### Of ints, of bools -/
def mset (M : List (List Int)) (i c : Nat) (x : Int) : List (List Int) := M.set i ((mrow M i).set c x)
def mi (M : List (List Int)) : List (List SV) := M.map ints
theorem mi_length (M : List (List Int)) : (mi M).length = M.length := by simp [mi]
theorem mi_row {M : List (List Int)} {i : Nat} (h : i < M.length) : rowAt (mi M) i = ints (mrow M i) := by simp [rowAt, mi, mrow, h]
theorem mset_length (M : List (List Int)) (i c : Nat) (x : Int) : (mset M i c x).length = M.length := by simp [mset]
theorem mset_row_length (M : List (List Int)) (i c k : Nat) (x : Int) : (mrow (mset M i c x) k).length = (mrow M k).length := by
  simp only [mrow, mset, List.getD_eq_getElem?_getD, List.getElem?_set]
  by_cases h : i = k
  · subst h
    by_cases h2 : i < M.length
    · simp [h2]
    · simp [h2]
  · simp [h]
def bools (L : List Bool) : List SV := L.map fun x => .val (.bool x)
theorem bools_length (L : List Bool) : (bools L).length = L.length := by simp [bools]
def mb (M : List (List Bool)) : List (List SV) := M.map bools
theorem mb_length (M : List (List Bool)) : (mb M).length = M.length := by simp [mb]
def rowsB (M : List (List Bool)) : List SV := M.map fun r => .row r.length false (bools r)
def rb (M : List (List Bool)) : SV := .row M.length false (rowsB M)
theorem mset_at (M : List (List Int)) (i c : Nat) (x : Int) {k d : Nat} (hi : i < M.length) (hc : c < (mrow M i).length) : mat (mset M i c x) k d = if k = i ∧ d = c then x else mat M k d := by
  simp only [mat, mrow, mset, List.getD_eq_getElem?_getD, List.getElem?_set]
  by_cases h : i = k
  · subst h
    simp only [hi, if_true, true_and, Option.getD_some, List.getElem?_set]
    by_cases h2 : c = d
    · subst h2
      simp only [mrow, List.getD_eq_getElem?_getD] at hc
      simp [hc]
    · have : ¬ d = c := fun e => h2 e.symm
      simp [h2, this]
  · have : ¬ k = i := fun e => h e.symm
    simp [h, this]
theorem outerB_length (b : Nat) (R : List (List SV)) : (outerB b R).length = R.length := by simp [outerB]
theorem xmap_mat (b : Nat) (R : List (List SV)) (l : List Ent) : xmap (.mat b R :: l) b = some ⟨outerB b R, false⟩ := by
  simp [xmap, matMap]
theorem xmap_rowI {b i : Nat} {M : List (List Int)} {l : List Ent} (h : i < M.length) : xmap (.mat b (mi M) :: l) (b + 1 + i) = some ⟨ints (mrow M i), false⟩ := by
  rw [xmap, if_pos (by rw [mi_length]; omega), matMap, if_neg (by omega), ← mi_row h]
  congr 3; omega
theorem xmap_skipI {b x : Nat} {M : List (List Int)} {l : List Ent} (h : x < b ∨ b + M.length < x) : xmap (.mat b (mi M) :: l) x = xmap l x := by
  rw [xmap, if_neg (by rw [mi_length]; omega)]
theorem outerB_getI {b k : Nat} {M : List (List Int)} (h : k < M.length) : (outerB b (mi M))[k]? = some (.own (b + 1 + k) 0 (mrow M k).length (mrow M k).length 1 false) := by
  simp only [outerB, List.getElem?_map, mi_length]
  rw [List.getElem?_range h]
  simp only [Option.map_some, mi_row h, ints_length]
theorem xset_rowI {b i c : Nat} {x : Int} {M : List (List Int)} {l : List Ent} (h : i < M.length) : xset (.mat b (mi M) :: l) (b + 1 + i) ⟨ints ((mrow M i).set c x), false⟩ = .mat b (mi (mset M i c x)) :: l := by
  have e : b + 1 + i - b - 1 = i := by omega
  rw [xset, e, if_pos ⟨by omega, by rw [mi_length]; omega, by rw [mi_row h, ints_length, ints_length, List.length_set], rfl⟩]
  simp [mset, mi, List.map_set]
theorem xset_skipI {b x : Nat} {M : List (List Int)} {l : List Ent} {k : Blk} (h : x < b ∨ b + M.length < x) : xset (.mat b (mi M) :: l) x k = .mat b (mi M) :: xset l x k := by
  rw [xset, if_neg (by rw [mi_length]; omega), if_pos (by rw [mi_length]; exact h)]
/-! ### A round's end -/
def EntIn (H : Heap) : Ent → Prop
  | .blk k v => H.map k = some v
  | .mat b R => ∀ x, b ≤ x → x ≤ b + R.length → H.map x = matMap b R x
  | .rows fl nr => ∀ p ∈ nr, H.map p.1 = some ⟨p.2, fl⟩
  | .cut b => H.map b = none
theorem nrFind_mem : ∀ {nr : List (Nat × List SV)} {x : Nat} {r : List SV}, nrFind nr x = some r → (x, r) ∈ nr
  | [], x, r, h => by simp [nrFind] at h
  | p :: l, x, r, h => by
    rw [nrFind] at h
    split at h
    · rename_i e; subst e
      simp at h; subst h; simp
    · exact List.mem_cons_of_mem _ (nrFind_mem h)
theorem Wk.ofX {s : St} {l : List (Nat × SV)} {lb : List Ent} {n : Nat} (h : ∀ p ∈ l, s.σ p.1 = p.2) (hm : ∀ e ∈ lb, EntIn s.H e) (hn : s.H.nb ≤ n) : Wk s ⟨ofL l, hx lb n⟩ := by
  refine ⟨ofL_wk h, hn, fun b => ?_⟩
  show xmap lb b = none ∨ xmap lb b = s.H.map b
  clear h hn
  induction lb with
  | nil => exact .inl rfl
  | cons q lb ih =>
    have ih := ih (fun e he => hm e (by simp [he]))
    have hq := hm q (by simp)
    cases q with
    | blk k v =>
      rw [xmap]
      split
      · rename_i e; subst e; exact .inr hq.symm
      · exact ih
    | mat c R =>
      rw [xmap]
      split
      · rename_i e; exact .inr (hq b e.1 e.2).symm
      · exact ih
    | rows fl nr =>
      rw [xmap]
      split
      · rename_i r hr
        exact .inr (hq _ (nrFind_mem hr)).symm
      · exact ih
    | cut c =>
      rw [xmap]
      split
      · exact .inl rfl
      · exact ih
theorem EntIn.self {b : Nat} {R : List (List SV)} {l : List Ent} {n : Nat} : EntIn (hx (.mat b R :: l) n) (.mat b R) := by
  intro x h1 h2
  rw [hx_map, xmap, if_pos ⟨h1, h2⟩]
theorem EntIn.skipM {b k n : Nat} {v : Blk} {R : List (List SV)} {l : List Ent} (h : EntIn (hx l n) (.mat b R)) (hk : k < b ∨ b + R.length < k) : EntIn (hx (.blk k v :: l) n) (.mat b R) := by
  intro x h1 h2
  rw [hx_map, xmap, if_neg (by omega)]
  exact h x h1 h2
theorem EntIn.snoc {H : Heap} {b : Nat} {r : List SV} {fl : Bool} {nr : List (Nat × List SV)} (h : EntIn H (.rows fl nr)) (h2 : H.map b = some ⟨r, fl⟩) : EntIn H (.rows fl (nr ++ [(b, r)])) := by
  intro p hp
  rcases List.mem_append.1 hp with hp | hp
  · exact h p hp
  · simp at hp; subst hp; exact h2
/-- No name twice. -/
def NrOk (b nb : Nat) (nr : List (Nat × List SV)) : Prop := b < nb ∧ (∀ p ∈ nr, p.1 < nb ∧ p.1 ≠ b) ∧ (nr.map (·.1)).Nodup
theorem NrOk.nil {b nb : Nat} (h : b < nb) : NrOk b nb [] := ⟨h, by simp, by simp⟩
theorem NrOk.snoc {b nb b' nb' x : Nat} {r : List SV} {nr : List (Nat × List SV)} (h : NrOk b nb nr) (h1 : nb ≤ x) (h2 : nb ≤ b') (h3 : x ≠ b') (h4 : x < nb') (h5 : b' < nb') : NrOk b' nb' (nr ++ [(x, r)]) := by
  refine ⟨h5, fun p hp => ?_, ?_⟩
  · rcases List.mem_append.1 hp with hp | hp
    · have := (h.2.1 p hp).1; omega
    · simp at hp; subst hp; exact ⟨h4, h3⟩
  · rw [List.map_append, List.nodup_append]
    refine ⟨h.2.2, by simp, ?_⟩
    intro a ha c hc
    obtain ⟨p, hp, rfl⟩ := List.mem_map.1 ha
    simp at hc; subst hc
    have := (h.2.1 p hp).1; omega

/-! ### Results -/
def MatRes (R : List (List SV)) (r : SV) (H : Heap) : Prop :=
  ∃ (b off cap : Nat) (ex : Bool) (blk : Blk), r = .own b off R.length cap 1 ex ∧ H.map b = some blk ∧ off + R.length ≤ blk.cells.length ∧ (∀ row ∈ R, row.all isVal = true) ∧
    ∃ nm oi : Nat → Nat, (∀ i i', i < R.length → i' < R.length → nm i = nm i' → i = i') ∧ (∀ i, i < R.length → nm i ≠ b) ∧
      ∀ i, i < R.length → ∃ capi exi blki, blk.cells[off + i]? = some (.own (nm i) (oi i) (rowAt R i).length capi 1 exi) ∧ H.map (nm i) = some blki ∧ (blki.cells.drop (oi i)).take (rowAt R i).length = rowAt R i ∧ oi i + (rowAt R i).length ≤ blki.cells.length
def MatOne (R : List (List SV)) (r : SV) (H : Heap) : Prop := r = .own 0 0 R.length R.length 1 false ∧ H = hx [.mat 0 R] (R.length + 1)

theorem outerB_get {b k : Nat} {R : List (List SV)} (h : k < R.length) : (outerB b R)[k]? = some (.own (b + 1 + k) 0 (rowAt R k).length (rowAt R k).length 1 false) := by
  simp only [outerB, List.getElem?_map]
  rw [List.getElem?_range h]
  rfl
theorem rowAt_mem {R : List (List SV)} {i : Nat} (h : i < R.length) : rowAt R i ∈ R := by rw [rowAt_length h]; exact List.getElem_mem h
theorem own_zero {O : Nat → Prop} {w : World} {j : JMap} {v : Value} {b off n cap sz : Nat} {ex : Bool} {rb base : Nat} (h : VRel O w j (.own b off n cap sz ex) v) (hj : j b = some (rb, base)) {j' : JMap} {b' : Nat} {O' : Nat → Prop} (hj' : j' b' = some (rb, base + off)) :
    VRel O' w j' (.own b' 0 n n sz false) v := by
  simp only [VRel] at h ⊢
  obtain ⟨rb', base', a, cap', c, e, fr, g1, g2, g3, g4, g5, g6, g7, g8⟩ := h
  rw [hj] at g1
  obtain ⟨rfl, rfl⟩ := (by simpa using g1 : rb = rb' ∧ base = base')
  exact ⟨rb, base + off, a, cap', c, e, fr, hj', g2, Nat.le_refl _, by omega, by simp, by simpa using g6, g7, by simpa using g8⟩

theorem mat_rel {R : List (List SV)} {j : JMap} {H : Heap} {w : World} {r : SV} {v : Value} (h : MatRes R r H) (hr : Rel j H w) (hv : VRel (OwnR j H) w j r v) :
    ∃ j', Rel j' (hx [.mat 0 R] (R.length + 1)) w ∧ VRel (OwnR j' (hx [.mat 0 R] (R.length + 1))) w j' (.own 0 0 R.length R.length 1 false) v ∧ ∀ k, OwnR j' (hx [.mat 0 R] (R.length + 1)) k → OwnR j H k := by
  obtain ⟨b, off, cap, ex, blk, rfl, hb, hlen, hval, nm, oi, hinj, hne, hrow⟩ := h
  obtain ⟨rb, base, k1, hat⟩ := hr.live b blk hb
  let j' : JMap := fun x => if x = 0 then some (rb, base + off) else if x ≤ R.length then (j (nm (x - 1))).map (fun p => (p.1, p.2 + oi (x - 1))) else none
  have j0 : j' 0 = some (rb, base + off) := rfl
  have jr : ∀ i, i < R.length → ∃ rbi basei, j (nm i) = some (rbi, basei) ∧ j' (0 + 1 + i) = some (rbi, basei + oi i) := by
    intro i hi
    obtain ⟨capi, exi, blki, q1, q2, q3, q4⟩ := hrow i hi
    obtain ⟨rbi, basei, p1, _⟩ := hr.live _ blki q2
    refine ⟨rbi, basei, p1, ?_⟩
    show (if 0 + 1 + i = 0 then _ else if 0 + 1 + i ≤ R.length then (j (nm (0 + 1 + i - 1))).map _ else none) = _
    have e : 0 + 1 + i - 1 = i := by omega
    rw [if_neg (by omega), if_pos (by omega), e, p1]
    rfl
  have hm0 : (hx [.mat 0 R] (R.length + 1)).map 0 = some ⟨outerB 0 R, false⟩ := by rw [hx_map, xmap_mat]
  have hmr : ∀ i, i < R.length → (hx [.mat 0 R] (R.length + 1)).map (0 + 1 + i) = some ⟨rowAt R i, false⟩ := by
    intro i hi
    rw [hx_map, xmap, if_pos (by omega), matMap, if_neg (by omega)]
    congr 3; omega
  have hms : ∀ x bl, (hx [.mat 0 R] (R.length + 1)).map x = some bl → (x = 0 ∧ bl = ⟨outerB 0 R, false⟩) ∨ ∃ i, i < R.length ∧ x = 0 + 1 + i ∧ bl = ⟨rowAt R i, false⟩ := by
    intro x bl hx
    rw [hx_map, xmap] at hx
    split at hx
    · rename_i hr
      rw [matMap] at hx
      split at hx
      · rename_i h0
        simp at hx
        exact .inl ⟨h0, hx.symm⟩
      · rename_i h0
        simp at hx
        exact .inr ⟨x - 1, by omega, by omega, hx.symm⟩
    · simp [xmap] at hx
  have hback : ∀ k, OwnR j' (hx [.mat 0 R] (R.length + 1)) k → OwnR j H k := by
    rintro k ⟨x, bl, bs, h1, h2⟩
    rcases hms x bl h1 with ⟨rfl, rfl⟩ | ⟨i, hi, rfl, rfl⟩
    · rw [j0] at h2
      simp at h2
      obtain ⟨rfl, _⟩ := h2
      exact ⟨b, blk, base, hb, k1⟩
    · obtain ⟨rbi, basei, p1, p2⟩ := jr i hi
      rw [p2] at h2
      simp at h2
      obtain ⟨rfl, _⟩ := h2
      obtain ⟨capi, exi, blki, q1, q2, q3, q4⟩ := hrow i hi
      exact ⟨nm i, blki, basei, q2, p1⟩
  refine ⟨j', ⟨hr.tab.tr (Tr.weaken w hback), ?_, ?_, ?_⟩, own_zero hv k1 j0, hback⟩
  · intro x p hp
    show x < R.length + 1
    by_cases h0 : x = 0
    · omega
    · have : (if x = 0 then some (rb, base + off) else if x ≤ R.length then (j (nm (x - 1))).map (fun p => (p.1, p.2 + oi (x - 1))) else none) = some p := hp
      rw [if_neg h0] at this
      split at this
      · omega
      · simp at this
  · intro x bl hx
    obtain ⟨c, e, lo, hi', q2, q3, q4, q5, q6⟩ := hat
    rcases hms x bl hx with ⟨rfl, rfl⟩ | ⟨i, hi, rfl, rfl⟩
    · refine ⟨rb, base + off, j0, c, e, lo, hi', q2, q3, ?_, by simp, ?_⟩
      · show base + off + (outerB 0 R).length ≤ c.size
        rw [outerB_length]; omega
      · intro i s hs
        have hs' : (outerB 0 R)[i]? = some s := hs
        have hi : i < R.length := by
          have := (List.getElem?_eq_some_iff.1 hs').1
          rwa [outerB_length] at this
        rw [outerB_get hi] at hs'
        simp at hs'
        subst hs'
        obtain ⟨capi, exi, blki, p1, p2, p3, p4⟩ := hrow i hi
        obtain ⟨u, g1, g2⟩ := q6 (off + i) _ p1
        obtain ⟨rbi, basei, t1, t2⟩ := jr i hi
        exact ⟨u, by simpa [Nat.add_assoc] using g1, by simpa only [Nat.zero_add] using own_zero g2 t1 t2⟩
    · obtain ⟨capi, exi, blki, p1, p2, p3, p4⟩ := hrow i hi
      obtain ⟨rbi, basei, t1, t2⟩ := jr i hi
      obtain ⟨rbi', basei', s1, c', e', lo', hi2, s2, s3, s4, s5, s6⟩ := hr.live _ blki p2
      rw [t1] at s1
      obtain ⟨rfl, rfl⟩ := (by simpa using s1 : rbi = rbi' ∧ basei = basei')
      refine ⟨rbi, basei + oi i, t2, c', e', lo', hi2, s2, s3, ?_, by simp, ?_⟩
      · show basei + oi i + (rowAt R i).length ≤ c'.size
        omega
      · intro k s hs
        have hs' : (rowAt R i)[k]? = some s := hs
        have hk : k < (rowAt R i).length := (List.getElem?_eq_some_iff.1 hs').1
        rw [← p3, List.getElem?_take, if_pos hk, List.getElem?_drop] at hs'
        obtain ⟨u, g1, g2⟩ := s6 (oi i + k) s hs'
        refine ⟨u, by simpa [Nat.add_assoc] using g1, ?_⟩
        have hsv : isVal s = true := (List.all_eq_true.1 (hval _ (rowAt_mem hi))) s (List.mem_of_getElem? hs)
        obtain ⟨z, rfl⟩ := isVal_of hsv
        simpa only [VRel] using g2
  · intro x x' bl bl' rb1 ba ba' h1 h2 h3 h4
    rcases hms x bl h1 with ⟨rfl, rfl⟩ | ⟨i, hi, rfl, rfl⟩ <;> rcases hms x' bl' h2 with ⟨rfl, rfl⟩ | ⟨i', hi', rfl, rfl⟩
    · rfl
    · obtain ⟨rbi, basei, t1, t2⟩ := jr i' hi'
      obtain ⟨capi, exi, blki, p1, p2, p3, p4⟩ := hrow i' hi'
      rw [j0] at h3
      rw [t2] at h4
      simp at h3 h4
      obtain ⟨rfl, _⟩ := h3
      obtain ⟨rfl, _⟩ := h4
      exact absurd (hr.inj _ _ _ _ _ _ _ p2 hb t1 k1) (hne i' hi')
    · obtain ⟨rbi, basei, t1, t2⟩ := jr i hi
      obtain ⟨capi, exi, blki, p1, p2, p3, p4⟩ := hrow i hi
      rw [j0] at h4
      rw [t2] at h3
      simp at h3 h4
      obtain ⟨rfl, _⟩ := h3
      obtain ⟨rfl, _⟩ := h4
      exact absurd (hr.inj _ _ _ _ _ _ _ p2 hb t1 k1) (hne i hi)
    · obtain ⟨rbi, basei, t1, t2⟩ := jr i hi
      obtain ⟨capi, exi, blki, p1, p2, p3, p4⟩ := hrow i hi
      obtain ⟨rbi', basei', t1', t2'⟩ := jr i' hi'
      obtain ⟨capi', exi', blki', p1', p2', p3', p4'⟩ := hrow i' hi'
      rw [t2] at h3
      rw [t2'] at h4
      simp at h3 h4
      obtain ⟨rfl, _⟩ := h3
      obtain ⟨rfl, _⟩ := h4
      rw [hinj i i' hi hi' (hr.inj _ _ _ _ _ _ _ p2 p2' t1 t1')]

theorem outerB_nr (b : Nat) (R : List (List SV)) : noRowL (outerB b R) = true := by
  unfold outerB
  generalize List.range R.length = l
  induction l with
  | nil => rfl
  | cons a l ih => simp only [List.map_cons, noRowL, ih, Bool.and_true, noRow]
theorem mat_nr {b n : Nat} {R : List (List SV)} (h : ∀ row ∈ R, row.all isVal = true) : nrHeap (hx [.mat b R] n) := by
  intro x blk hb
  rw [hx_map, xmap] at hb
  split at hb
  · rename_i hr
    rw [matMap] at hb
    split at hb
    · simp at hb; subst hb; exact outerB_nr b R
    · rename_i h0
      simp at hb; subst hb
      exact isVal_noRow (h _ (rowAt_mem (by omega)))
  · simp [xmap] at hb
theorem MatRes.vals {R : List (List SV)} {r : SV} {H : Heap} (h : MatRes R r H) : ∀ row ∈ R, row.all isVal = true := by
  obtain ⟨b, off, cap, ex, blk, _, _, _, h5, _⟩ := h
  exact h5
variable {P : Program}
theorem FCall.mat {f : FuncId} {args : List SV} {R : List (List SV)} (h : FCall P f args (MatRes R)) : FCall P f args (MatOne R) := by
  refine ⟨h.1, fun w vs hl ht => (h.2 w vs hl ht).mono ?_⟩
  rintro e w' ⟨v, r, j, H, h1, h2, h3, h4, h5, h6, h7, h8⟩
  obtain ⟨j', r', v', o'⟩ := mat_rel h8 h3 h4
  exact ⟨v, _, j', _, h1, h2, r', v', fun k hk => h5 k (o' k hk), rfl, mat_nr h8.vals, rfl, rfl⟩
theorem merge_mat {j : JMap} {H : Heap} {w : World} (r : Rel j H w) {R : List (List SV)} (h : ∀ row ∈ R, row.all isVal = true) : H.merge (hx [.mat 0 R] (R.length + 1)) = H.pushM R := by
  refine Heap.ext' (fun x => ?_) (by simp only [Heap.merge, Heap.pushM, hx]; omega)
  simp only [Heap.merge, Heap.pushM, hx_map, xmap]
  by_cases h1 : x < H.nb
  · rw [if_pos h1, if_neg (by omega)]
  · rw [if_neg h1]
    by_cases h2 : x ≤ H.nb + R.length
    · rw [if_pos (by omega), if_pos (by omega), matMap, matMap]
      by_cases h3 : x = H.nb
      · subst h3
        rw [if_pos (by omega), if_pos rfl]
        simp only [Option.map_some]
        congr 2
        unfold outerB
        generalize List.range R.length = l
        induction l with
        | nil => rfl
        | cons a l ih =>
          simp only [List.map_cons, shiftL, ih, shift]
          congr 2; omega
      · rw [if_neg (by omega), if_neg h3]
        simp only [Option.map_some]
        have e : x - H.nb - 0 - 1 = x - H.nb - 1 := by omega
        rw [e, isVal_shift (h _ (rowAt_mem (by omega)))]
    · rw [if_neg (by omega), if_neg (by omega), r.fresh (by omega)]
      rfl
/-- A call that gives back a matrix in memory of its own. -/
theorem FCall.callMat {f : FuncId} {args args' : List SV} {R : List (List SV)} {H : Heap} {K : SV → Heap → Prop} (h : FCall P f args' (MatOne R)) (hc : ∀ row ∈ R, row.all isVal = true) (fu : Nat) (hv : viewL H fu args = some args')
    (k : K (.own H.nb 0 R.length R.length 1 false) (H.pushM R)) : @CallX P f args H ⟨K⟩ := by
  refine ⟨h.1, fun j w vs r hl => ((h.callS fu hv).2 j w vs r hl).mono ?_⟩
  rintro e w' ⟨r1, v, j', H', h1, h2, h3, h4, r0, H0, ⟨rfl, rfl⟩, rfl, rfl⟩
  refine ⟨_, v, j', _, h1, h2, h3, h4, ?_⟩
  rw [merge_mat r hc]
  simpa only [shift, Nat.zero_add] using k
theorem mi_vals (M : List (List Int)) : ∀ row ∈ mi M, row.all isVal = true := by
  intro row h
  obtain ⟨l, _, rfl⟩ := List.mem_map.1 h
  exact ints_vals l
/-! ### Seen as contents -/
theorem view_mat {H : Heap} {b n f cap : Nat} {ex : Bool} {R : List (List SV)} (h : EntIn H (.mat b R)) (hn : n = R.length) (hv : ∀ i, i < R.length → viewL H f (rowAt R i) = some (rowAt R i)) :
    view H (f + 2) (.own b 0 n cap 1 ex) = some (.row n false (R.map fun r => .row r.length false r)) := by
  subst hn
  have h0 : H.map b = some ⟨outerB b R, false⟩ := by rw [h b (by omega) (by omega), matMap, if_pos rfl]
  simp only [view, h0, Nat.mul_one, List.drop_zero, outerB_length, Nat.zero_add, Nat.le_refl, if_true]
  have e : (outerB b R).take R.length = outerB b R := List.take_of_length_le (by rw [outerB_length]; exact Nat.le_refl _)
  rw [e, outerB, viewL_fn (h := fun i => .row (rowAt R i).length false (rowAt R i)) _ (fun i hi => ?_)]
  · have : (List.range R.length).map (fun i => SV.row (rowAt R i).length false (rowAt R i)) = R.map fun r => .row r.length false r := by
      apply List.ext_getElem?
      intro i
      simp only [List.getElem?_map]
      by_cases hi : i < R.length
      · rw [List.getElem?_range hi, List.getElem?_eq_getElem hi, ← rowAt_length hi]; rfl
      · have : (List.range R.length)[i]? = none := by simp; omega
        rw [this, List.getElem?_eq_none (by omega : R.length ≤ i)]; rfl
    rw [this]
  · have hi' : i < R.length := by simpa using hi
    have hm : H.map (b + 1 + i) = some ⟨rowAt R i, false⟩ := by
      rw [h (b + 1 + i) (by omega) (by omega), matMap, if_neg (by omega)]
      congr 3; omega
    simp only [view, hm, Nat.mul_one, List.drop_zero, Nat.zero_add, Nat.le_refl, if_true, List.take_length, hv i hi']
theorem view_mi {H : Heap} {b n f cap : Nat} {ex : Bool} {M : List (List Int)} (h : EntIn H (.mat b (mi M))) (hn : n = M.length) : view H (f + 2) (.own b 0 n cap 1 ex) = some (rr M) := by
  rw [view_mat h (by rw [hn, mi_length]) (fun i hi => by rw [mi_row (by rwa [mi_length] at hi)]; exact viewL_ints _ _ _)]
  subst hn
  simp only [rr, rows, mi, List.map_map]
  congr 2
  exact List.map_congr_left (fun r _ => by simp [ri, ints_length])
theorem MatOne.viewI {M : List (List Int)} {r : SV} {H : Heap} (h : MatOne (mi M) r H) : view H 2 r = some (rr M) := by
  obtain ⟨rfl, rfl⟩ := h
  exact view_mi EntIn.self (mi_length M)
attribute [go_sem] hx_del xdel_blk xdel_rows xdel_nil hx_nb hx_map hx_push hx_set hx_pushM hp_pushM toE_nil toE_cons xmap_blk xmap_nil xmap_mat xset_blk xset_nil mi_length mb_length outerB_length bools_length
end Go.Sh

/-
  Contracts: matrices copied into memory of their own, marked, read back.
-/
namespace Go.Sh
set_option linter.unusedSimpArgs false
set_option linter.unusedVariables false
open Go Go.Proofs
variable {P : Program}

theorem CallS.sub {f : FuncId} {args : List SV} {H : Heap} {Q Q' : SV → Heap → Prop} (h : CallS P f args H Q) (hq : ∀ r H', Q r H' → ∃ H2, Sub H2 H' ∧ Q' r H2) : CallS P f args H Q' := by
  refine ⟨h.1, fun j w vs r hl => (h.2 j w vs r hl).mono ?_⟩
  rintro e w' ⟨r, v, j', H', h1, h2, h3, h4, h5⟩
  obtain ⟨H2, hs, hq2⟩ := hq r H' h5
  have hsub : ∀ k, OwnR j' H2 k → OwnR j' H' k := by
    rintro k ⟨b, blk, base, g1, g2⟩
    refine ⟨b, blk, base, ?_, g2⟩
    rcases hs.map b with e | e
    · rw [e] at g1; simp at g1
    · rw [← e]; exact g1
  refine ⟨r, v, j', H2, h1, h2.sub hs, VRel.tr (Tr.weaken w' hsub) (fun _ _ h => h) r v h3, ?_, hq2⟩
  exact ⟨h4.os, h4.tape, h4.output, h4.size, h4.keep, h4.sizes, h4.jle, by rw [hs.nb]; exact h4.nble, fun k o => h4.own k (hsub k o)⟩

def Heap.cutR (H : Heap) (a c : Nat) : Heap := ⟨fun x => if a ≤ x ∧ x ≤ c then none else H.map x, H.nb⟩
def consE (e : Ent) (H : Heap) : Heap := match e with
  | .blk k v => ⟨fun x => if x = k then some v else H.map x, H.nb⟩
  | .mat b R => ⟨fun x => if b ≤ x ∧ x ≤ b + R.length then matMap b R x else H.map x, H.nb⟩
  | .rows fl nr => ⟨fun x => match nrFind nr x with | some r => some ⟨r, fl⟩ | none => H.map x, H.nb⟩
  | .cut b => ⟨fun x => if x = b then none else H.map x, H.nb⟩
theorem consE_hx (e : Ent) (l : List Ent) (n : Nat) : consE e (hx l n) = hx (e :: l) n := by cases e <;> rfl
theorem cutR_nil (n a c : Nat) : (hx [] n).cutR a c = hx [] n := by
  refine Heap.ext' (fun x => ?_) rfl
  simp only [Heap.cutR, hx, xmap]
  split <;> rfl
theorem fin_mat {b n cap : Nat} {ex : Bool} {R : List (List SV)} {H : Heap} (h : EntIn H (.mat b R)) (hv : ∀ row ∈ R, row.all isVal = true) (hn : n = R.length) : Fin (MatRes R) (.own b 0 n cap 1 ex) H := by
  subst hn
  refine ⟨hx [.mat b R] H.nb, ⟨rfl, fun x => ?_⟩, rfl, mat_nr hv, b, 0, cap, ex, _, rfl, by rw [hx_map, xmap_mat], by rw [outerB_length]; omega, hv, fun i => b + 1 + i, fun _ => 0, fun i i' _ _ e => by have e : b + 1 + i = b + 1 + i' := e; omega, fun i _ => by show b + 1 + i ≠ b; omega, fun i hi => ?_⟩
  · rw [hx_map, xmap]
    by_cases hr : b ≤ x ∧ x ≤ b + R.length
    · rw [if_pos hr]; exact .inr (h x hr.1 hr.2).symm
    · rw [if_neg hr]; exact .inl rfl
  · refine ⟨(rowAt R i).length, false, ⟨rowAt R i, false⟩, ?_, ?_, ?_, ?_⟩
    · rw [Nat.zero_add, outerB_get hi]
    · show (hx [.mat b R] H.nb).map (b + 1 + i) = _
      rw [hx_map, xmap, if_pos (by omega), matMap, if_neg (by omega)]
      congr 3; omega
    · simp
    · simp
attribute [go_sem] consE_hx cutR_nil
end Go.Sh

/-
  Contracts: matrices marked, and what they hold then.
-/
namespace Go.Sh
set_option linter.unusedSimpArgs false
set_option linter.unusedVariables false
open Go Go.Proofs
variable {P : Program}

def marksM (M : List (List Int)) (k : Int) : List (List Int) := (List.range M.length).map fun i => marks (mrow M i).length (k + msum M i)
theorem marksM_length (M : List (List Int)) (k : Int) : (marksM M k).length = M.length := by simp [marksM]
theorem marksM_row {M : List (List Int)} {k : Int} {i : Nat} (h : i < M.length) : mrow (marksM M k) i = marks (mrow M i).length (k + msum M i) := by simp [mrow, marksM, h]
theorem outerB_eq {b : Nat} {R S : List (List SV)} (h : R.length = S.length) (g : ∀ i, i < R.length → (rowAt R i).length = (rowAt S i).length) : outerB b R = outerB b S := by
  unfold outerB
  rw [← h]
  refine List.map_congr_left (fun i hi => ?_)
  rw [g i (by simpa using hi)]
theorem marksM_outer (b : Nat) (M : List (List Int)) (k : Int) : outerB b (mi (marksM M k)) = outerB b (mi M) := by
  refine outerB_eq (by rw [mi_length, mi_length, marksM_length]) fun i hi => ?_
  rw [mi_length, marksM_length] at hi
  rw [mi_row (by rw [marksM_length]; exact hi), mi_row hi, ints_length, ints_length, marksM_row hi, marks_length]
def Heap.mkd (H : Heap) (b : Nat) (M : List (List Int)) (k : Int) (i : Nat) : Heap := ⟨fun x => if b + 1 ≤ x ∧ x ≤ b + i then some ⟨ints (mrow (marksM M k) (x - b - 1)), false⟩ else H.map x, H.nb⟩
theorem mkd_zero (H : Heap) (b : Nat) (M : List (List Int)) (k : Int) : H.mkd b M k 0 = H := Heap.ext' (fun x => by simp only [Heap.mkd]; rw [if_neg (by omega)]) rfl
theorem mkd_set {H : Heap} {b : Nat} {M : List (List Int)} {k : Int} {i : Nat} (h : i < M.length) : (H.mkd b M k i).set (b + 1 + i) (some ⟨ints (marks (mrow M i).length (k + msum M i)), false⟩) = H.mkd b M k (i + 1) := by
  refine Heap.ext' (fun x => ?_) rfl
  simp only [Heap.mkd, Heap.set]
  by_cases h1 : x = b + 1 + i
  · subst h1
    have e : b + 1 + i - b - 1 = i := by omega
    rw [if_pos rfl, if_pos (by omega), e, marksM_row h]
  · rw [if_neg h1]
    by_cases h2 : b + 1 ≤ x ∧ x ≤ b + i
    · rw [if_pos h2, if_pos (by omega)]
    · rw [if_neg h2, if_neg (by omega)]
theorem mkd_map {H : Heap} {b : Nat} {M : List (List Int)} {k : Int} {i x : Nat} (h : x ≤ b ∨ b + i < x) : (H.mkd b M k i).map x = H.map x := by
  simp only [Heap.mkd]; rw [if_neg (by omega)]

set_option maxHeartbeats 1000000 in
/-- A matrix marked. -/
theorem Tryz.markIntSS_keep (M : List (List Int)) (k : Int) (H : Heap) (b n : Nat) (hb : EntIn H (.mat b (mi M))) (hn : n = M.length) (hM : M.length ≤ 1048576) (hR : ∀ i, i < M.length → (mrow M i).length ≤ 1048576) (hk : 0 ≤ k) (hk2 : k + msum M M.length ≤ 1099511627776) :
    CallS Tryz.prog 20 [.own b 0 n n 1 false, .val (.int .i64 k)] H (fun r H' => r = .val (.int .i64 (k + msum M M.length)) ∧ H' = consE (.mat b (mi (marksM M k))) H) := by
  subst hn
  have hb' := hb
  simp only [EntIn, mi_length] at hb'
  have h0 : H.map b = some ⟨outerB b (mi M), false⟩ := by rw [hb' b (by omega) (by omega), matMap, if_pos rfl]
  have hrow : ∀ i, i < M.length → H.map (b + 1 + i) = some ⟨ints (mrow M i), false⟩ := fun i hi => by
    rw [hb' (b + 1 + i) (by omega) (by omega), matMap, if_neg (by omega), ← mi_row hi]
    congr 3; omega
  have hend : consE (.mat b (mi (marksM M k))) H = H.mkd b M k M.length := by
    refine Heap.ext' (fun x => ?_) rfl
    simp only [consE, Heap.mkd, mi_length, marksM_length]
    by_cases h1 : b ≤ x ∧ x ≤ b + M.length
    · rw [if_pos h1, matMap]
      by_cases h2 : x = b
      · subst h2
        rw [if_pos rfl, if_neg (by omega), marksM_outer, h0]
      · rw [if_neg h2, if_pos (by omega), mi_row (by rw [marksM_length]; omega)]
    · rw [if_neg h1, if_neg (by omega)]
  rw [hend]
  refine CallS.of_body Tryz.func20 rfl (by kernel_rfl) (by simp [Tryz.ntmps20]) ?_
  refine SW_of_vc Tryz.mixed _ _ _ (by kernel_rfl) ?_
  simp (disch := omega) only [Tryz.ntmps20, Tryz.results20, go_sem]
  refine LoopW.loop (fun i : Nat => ⟨ofL [(0, .own b 0 M.length M.length 1 false), (1, .val (.int .i64 (k + msum M i))), (5, .val (.int .i64 i))], H.mkd b M k i⟩) (fun i => i ≤ M.length) (fun i => M.length - i) 0 (by omega) (Wk.of (by simp only [go_sem, ↓List.forall_mem_cons, List.not_mem_nil, false_implies, implies_true, and_true, true_and, and_self, ri_eq, Int.natCast_add, Int.cast_ofNat_Int, msum, List.take_zero, List.sum_nil, Int.add_zero]; try simp) (mkd_zero _ _ _ _).symm) ?_
  intro i hi
  refine SW_of_vc Tryz.mixed _ _ _ (by kernel_rfl) ?_
  have hm0 : (H.mkd b M k i).map b = some ⟨outerB b (mi M), false⟩ := by rw [mkd_map (by omega), h0]
  have hmn := msum_nonneg M i
  by_cases hlt : i < M.length
  · have hm1 : (H.mkd b M k i).map (b + 1 + i) = some ⟨ints (mrow M i), false⟩ := by rw [mkd_map (by omega), hrow i hlt]
    have hmono := msum_mono (M := M) (k := i) (j := M.length) (by omega) (by omega)
    have hs := msum_succ hlt
    simp (disch := omega) only [Tryz.ntmps20, Tryz.results20, go_sem, hm0, outerB_getI]
    refine (Tryz.markIntS_ok (mrow M i) (k + msum M i) _ (b + 1 + i) _ _ false false hm1 rfl (by have := hR i hlt; omega) (by omega) (by omega)).callDet ?_
    simp (disch := omega) only [Tryz.ntmps20, Tryz.results20, go_sem]
    exact ⟨i + 1, hlt, by omega, Wk.of (by simp only [go_sem, ↓List.forall_mem_cons, List.not_mem_nil, false_implies, implies_true, and_true, true_and, and_self, ri_eq, Int.natCast_add, Int.cast_ofNat_Int, hs, Int.add_assoc]; try simp) (mkd_set hlt)⟩
  · obtain rfl : i = M.length := by omega
    simp (disch := omega) only [Tryz.ntmps20, Tryz.results20, go_sem]
theorem Tryz.markIntSS_nil (k : Int) (H : Heap) (hk : 0 ≤ k) (hk2 : k ≤ 1099511627776) : CallS Tryz.prog 20 [.val (.slice none 0 0), .val (.int .i64 k)] H (fun r H' => r = .val (.int .i64 k) ∧ H' = H) := by
  refine CallS.of_body Tryz.func20 rfl (by kernel_rfl) (by simp [Tryz.ntmps20]) ?_
  refine SW_of_vc Tryz.mixed _ _ _ (by kernel_rfl) ?_
  simp (disch := omega) only [Tryz.ntmps20, Tryz.results20, go_sem]
  refine LoopW.loop (fun _ : Unit => ⟨ofL [(0, .val (.slice none 0 0)), (1, .val (.int .i64 k)), (5, .val (.int .i64 0))], H⟩) (fun _ => True) (fun _ => 0) () trivial (Wk.of (by simp only [go_sem, ↓List.forall_mem_cons, List.not_mem_nil, false_implies, implies_true, and_true, true_and, and_self, ri_eq, Int.natCast_add, Int.cast_ofNat_Int]; try simp) rfl) ?_
  rintro _ _
  refine SW_of_vc Tryz.mixed _ _ _ (by kernel_rfl) ?_
  simp (disch := omega) only [Tryz.ntmps20, Tryz.results20, go_sem]

set_option maxHeartbeats 1000000 in
theorem Tryz.heldIntSS_marks (M : List (List Int)) (k : Int) (hM : M.length ≤ 1048576) (hR : ∀ i, i < M.length → (mrow M i).length ≤ 1048576) (hk : 0 ≤ k) (hk2 : k + msum M M.length ≤ 1099511627776) :
    PCall Tryz.prog 21 [rr (marksM M k), .val (.int .i64 k)] (.val (.int .i64 (k + msum M M.length))) := by
  refine FCall.pcall (R := fun r _ => r = .val (.int .i64 (k + msum M M.length))) ?_ 0 (by rintro r H rfl; exact view_int)
  have hl := marksM_length M k
  refine FCall.of_body Tryz.func21 rfl (by kernel_rfl) (by simp [Tryz.ntmps21]) ?_
  refine SW_of_vc Tryz.mixed _ _ _ (by kernel_rfl) ?_
  simp (disch := omega) only [Tryz.ntmps21, Tryz.results21, go_sem, rr_eq, hl]
  refine LoopW.loop (fun i : Nat => ⟨ofL [(0, rr (marksM M k)), (1, .val (.int .i64 (k + msum M i))), (5, .val (.int .i64 i))], hp [] 0⟩) (fun i => i ≤ M.length) (fun i => M.length - i) 0 (by omega) (Wk.of (by simp only [go_sem, ↓List.forall_mem_cons, List.not_mem_nil, false_implies, implies_true, and_true, true_and, and_self, ri_eq, Int.natCast_add, Int.cast_ofNat_Int, rr_eq, hl, msum, List.take_zero, List.sum_nil, Int.add_zero]; try simp) rfl) ?_
  intro i hi
  refine SW_of_vc Tryz.mixed _ _ _ (by kernel_rfl) ?_
  have hmn := msum_nonneg M i
  by_cases hlt : i < M.length
  · have hrow := marksM_row (k := k) hlt
    have hmono := msum_mono (M := M) (k := i) (j := M.length) (by omega) (by omega)
    have hmono2 := msum_mono (M := M) (k := i + 1) (j := M.length) (by omega) (by omega)
    have hs := msum_succ hlt
    have w := Tryz.heldIntS_ok (marks (mrow M i).length (k + msum M i)) (k + msum M i) (by rw [marks_length]; have := hR i hlt; omega) (by omega) (by omega)
    rw [held_marks] at w
    simp (disch := omega) only [Tryz.ntmps21, Tryz.results21, go_sem, rr_eq, hl, rows_get, hrow, marks_length]
    refine w.callV 0 (viewL_cons_of (view_rowL (by first | rfl | simp [marks_length, canon_length] | omega)) (viewL_cons_of (view_int) viewL_nil_of)) ?_
    simp (disch := omega) only [Tryz.ntmps21, Tryz.results21, go_sem, rr_eq, hl]
    exact ⟨i + 1, hlt, by omega, Wk.of (by simp only [go_sem, ↓List.forall_mem_cons, List.not_mem_nil, false_implies, implies_true, and_true, true_and, and_self, ri_eq, Int.natCast_add, Int.cast_ofNat_Int, rr_eq, hl, hs, Int.add_assoc]; try simp) rfl⟩
  · obtain rfl : i = M.length := by omega
    simp (disch := omega) only [Tryz.ntmps21, Tryz.results21, go_sem, rr_eq, hl]
    exact Fin.val rfl
theorem view_nilM {H : Heap} {f : Nat} : view H f (.val (.slice none 0 0)) = some (rr []) := view_nil
end Go.Sh

/-
  Blocks of a partition: plain. Rows under names of their own, changed one by one.
-/
namespace Go.Sh
set_option linter.unusedSimpArgs false
set_option linter.unusedVariables false
open Go Go.Proofs

def blkTo (L : List Int) : Nat → List (List Int)
  | 0 => []
  | k + 1 => if L.getD k 0 = (blkTo L k).length then blkTo L k ++ [[(k : Int)]] else (blkTo L k).set (L.getD k 0).toNat ((blkTo L k).getD (L.getD k 0).toNat [] ++ [(k : Int)])
theorem blkTo_new {L : List Int} {k : Nat} (h : L.getD k 0 = (blkTo L k).length) : blkTo L (k + 1) = blkTo L k ++ [[(k : Int)]] := by rw [blkTo, if_pos h]
theorem blkTo_old {L : List Int} {k x : Nat} (hx : L.getD k 0 = x) (h : x < (blkTo L k).length) : blkTo L (k + 1) = (blkTo L k).set x (mrow (blkTo L k) x ++ [(k : Int)]) := by
  rw [blkTo, if_neg (by omega), hx, Int.toNat_natCast]; rfl
def nxt : List Int → Int → Nat → Int
  | _, n, 0 => n
  | [], n, _ + 1 => n
  | x :: L, n, k + 1 => nxt L (max n (x + 1)) k
theorem nxt_succ : ∀ (L : List Int) (n : Int) (k : Nat), k < L.length → nxt L n (k + 1) = max (nxt L n k) (L.getD k 0 + 1)
  | [], n, k, h => by simp at h
  | x :: L, n, 0, h => by cases L <;> simp [nxt]
  | x :: L, n, k + 1, h => by
    have := nxt_succ L (max n (x + 1)) k (by simpa using h)
    simpa [nxt] using this
theorem okP_nxt : ∀ (L : List Int) (n : Int), okP n L = true → ∀ k, k < L.length → 0 ≤ L.getD k 0 ∧ L.getD k 0 ≤ nxt L n k
  | [], n, _, k, h => by simp at h
  | x :: L, n, ho, 0, h => by
    rw [okP, Bool.and_eq_true] at ho
    have := inR_of ho.1
    simpa [nxt] using this
  | x :: L, n, ho, k + 1, h => by
    rw [okP, Bool.and_eq_true] at ho
    have := okP_nxt L (max n (x + 1)) ho.2 k (by simpa using h)
    simpa [nxt] using this
theorem blkTo_length {L : List Int} (h : okP 0 L = true) : ∀ k, k ≤ L.length → ((blkTo L k).length : Int) = nxt L 0 k
  | 0, _ => by simp [blkTo, nxt]
  | k + 1, hk => by
    have ih := blkTo_length h k (by omega)
    have hb := okP_nxt L 0 h k (by omega)
    rw [nxt_succ L 0 k (by omega)]
    by_cases e : L.getD k 0 = (blkTo L k).length
    · rw [blkTo_new e, List.length_append, List.length_singleton]; omega
    · rw [blkTo, if_neg e, List.length_set]; omega
theorem blk_at {L : List Int} (h : isPart L = true) {k : Nat} (hk : k < L.length) : ∃ x : Nat, L.getD k 0 = x ∧ x ≤ (blkTo L k).length := by
  rw [isPart, Bool.and_eq_true] at h
  have h1 := okP_nxt L 0 h.1 k hk
  have h2 := blkTo_length h.1 k (by omega)
  exact ⟨(L.getD k 0).toNat, by omega, by omega⟩
theorem blkTo_le (L : List Int) : ∀ k, (blkTo L k).length ≤ k
  | 0 => by simp [blkTo]
  | k + 1 => by
    have := blkTo_le L k
    rw [blkTo]
    split
    · simp; omega
    · simp; omega
theorem blkTo_row (L : List Int) : ∀ k i, (mrow (blkTo L k) i).length ≤ k
  | 0, i => by simp [blkTo, mrow]
  | k + 1, i => by
    have ih := blkTo_row L k
    rw [blkTo]
    split
    · simp only [mrow, List.getD_eq_getElem?_getD, List.getElem?_append]
      split
      · have := ih i
        simp only [mrow, List.getD_eq_getElem?_getD] at this; omega
      · cases h : i - (blkTo L k).length with
        | zero => simp
        | succ m => simp
    · simp only [mrow, List.getD_eq_getElem?_getD, List.getElem?_set]
      split
      · split
        · have := ih (L.getD k 0).toNat
          simp only [mrow, List.getD_eq_getElem?_getD] at this
          simp; omega
        · simp
      · have := ih i
        simp only [mrow, List.getD_eq_getElem?_getD] at this; omega
/-- The items of each block. -/
def blocksOf (L : List Int) : List (List Int) := if isPart L = true then blkTo L L.length else []
theorem blocksOf_t {L : List Int} (h : isPart L = true) : blocksOf L = blkTo L L.length := by rw [blocksOf, if_pos h]
theorem blocksOf_f {L : List Int} (h : isPart L = false) : blocksOf L = [] := by rw [blocksOf, if_neg (by rw [h]; simp)]

/-! ### Rows, one by one -/
def nrAt (nr : List (Nat × List SV)) (x : Nat) : Nat × List SV := nr.getD x (0, [])
theorem nrAt_mem {nr : List (Nat × List SV)} {x : Nat} (h : x < nr.length) : nrAt nr x ∈ nr := by simp [nrAt, h]
theorem mem_setN {nr : List (Nat × List SV)} {x : Nat} {q p : Nat × List SV} (h : p ∈ nr.set x q) : p = q ∨ ∃ j, j < nr.length ∧ j ≠ x ∧ p = nrAt nr j := by
  obtain ⟨j, hj, rfl⟩ := List.getElem_of_mem h
  rw [List.length_set] at hj
  rw [List.getElem_set]
  split
  · exact .inl rfl
  · rename_i hne
    exact .inr ⟨j, hj, fun e => hne e.symm, by simp [nrAt, hj]⟩
theorem NrOk.set {b nb nb' nm x : Nat} {r : List SV} {nr : List (Nat × List SV)} (h : NrOk b nb nr) (h1 : nb ≤ nm) (h2 : nm < nb') : NrOk b nb' (nr.set x (nm, r)) := by
  have hb := h.1
  refine ⟨by omega, fun p hp => ?_, ?_⟩
  · rcases mem_setN hp with rfl | ⟨j, hj, _, rfl⟩
    · exact ⟨h2, by simp only []; omega⟩
    · have := h.2.1 _ (nrAt_mem hj)
      exact ⟨by omega, this.2⟩
  · rw [List.map_set]
    refine List.pairwise_iff_getElem.2 fun i j hi hj hij => ?_
    simp only [List.length_set, List.length_map] at hi hj
    rw [List.getElem_set, List.getElem_set]
    have hlt : ∀ k (hk : k < nr.length), (nr.map (·.1))[k]'(by simpa using hk) < nb := fun k hk => by
      have := (h.2.1 _ (List.getElem_mem hk)).1
      simpa using this
    split
    · rw [if_neg (by omega)]
      have := hlt j hj
      simp only []; omega
    · split
      · have := hlt i hi
        simp only []; omega
      · exact List.pairwise_iff_getElem.1 h.2.2 i j _ _ hij
end Go.Sh

/-
  Partitions as text: plain.
-/
namespace Go.Sh
set_option linter.unusedSimpArgs false
set_option linter.unusedVariables false
open Go Go.Proofs

/-! ### Pieces between a byte -/
def cutL (c : UInt8) : List UInt8 → List (List UInt8)
  | [] => [[]]
  | x :: s => if x = c then [] :: cutL c s else match cutL c s with
    | [] => [[x]]
    | p :: ps => (x :: p) :: ps
theorem cutL_ne (c : UInt8) : ∀ s, ∃ p ps, cutL c s = p :: ps
  | [] => ⟨_, _, rfl⟩
  | x :: s => by
    rw [cutL]
    split
    · exact ⟨_, _, rfl⟩
    · obtain ⟨p, ps, h⟩ := cutL_ne c s
      rw [h]; exact ⟨_, _, rfl⟩
theorem cutL_none {c : UInt8} : ∀ {s : List UInt8}, c ∉ s → cutL c s = [s]
  | [], _ => rfl
  | x :: s, h => by
    have hx : x ≠ c := fun e => h (by simp [e])
    rw [cutL, if_neg hx, cutL_none (fun hm => h (by simp [hm]))]
theorem cutL_app {c : UInt8} : ∀ {p s : List UInt8}, c ∉ p → cutL c (p ++ c :: s) = p :: cutL c s
  | [], s, _ => by rw [List.nil_append, cutL, if_pos rfl]
  | x :: p, s, h => by
    have hx : x ≠ c := fun e => h (by simp [e])
    rw [List.cons_append, cutL, if_neg hx, cutL_app (p := p) (fun hm => h (by simp [hm]))]
theorem cutL_first {c : UInt8} {s : List UInt8} {m : Nat} (hm : m < s.length) (h : s.getD m 0 = c) (hn : ∀ k, k < m → s.getD k 0 ≠ c) : cutL c s = s.take m :: cutL c (s.drop (m + 1)) := by
  have e : s = s.take m ++ c :: s.drop (m + 1) := by
    have h1 : s.drop m = c :: s.drop (m + 1) := by
      rw [List.drop_eq_getElem_cons hm]; congr 1; simpa [hm] using h
    rw [← h1, List.take_append_drop]
  have hnot : c ∉ s.take m := by
    intro hmem
    obtain ⟨k, hk, e⟩ := List.getElem_of_mem hmem
    have hk' : k < m := by rw [List.length_take] at hk; omega
    refine hn k hk' ?_
    rw [List.getElem_take] at e
    simp [show k < s.length by omega, e]
  conv => lhs; rw [e]
  rw [cutL_app hnot]
theorem cutL_last {c : UInt8} {s : List UInt8} (hn : ∀ k, k < s.length → s.getD k 0 ≠ c) : cutL c s = [s] := by
  refine cutL_none fun hmem => ?_
  obtain ⟨k, hk, e⟩ := List.getElem_of_mem hmem
  exact hn k hk (by simp [hk, e])
theorem cutL_len (c : UInt8) : ∀ s : List UInt8, (cutL c s).length = s.count c + 1
  | [] => rfl
  | x :: s => by
    have ih := cutL_len c s
    rw [cutL]
    split
    · rename_i h; subst h; simp [ih]
    · rename_i h
      obtain ⟨p, ps, e⟩ := cutL_ne c s
      rw [e] at ih ⊢
      rw [List.count_cons_of_ne h]
      simpa using ih
/-! ### The text of a partition -/
theorem itoa_small {x : Nat} (h : x < 10) : Lib.itoa (x : Int) = [UInt8.ofNat (48 + x)] := by
  rw [Lib.itoa, if_neg (by omega), Int.toNat_natCast, Lib.decDigits, dif_pos h]
def fmtB (b : List Int) : List UInt8 := Lib.join (b.map Lib.itoa) []
theorem join_nilsep : ∀ (xs : List (List UInt8)), Lib.join xs [] = xs.flatten
  | [] => rfl
  | x :: xs => by rw [Lib.join_cons]; simp [Lib.joinTail]
theorem fmtB_eq (b : List Int) : fmtB b = (b.map Lib.itoa).flatten := join_nilsep _
theorem blkTo_lt {L : List Int} (h : isPart L = true) {k : Nat} (hk : k < L.length) : L.getD k 0 < (blkTo L (k + 1)).length := by
  obtain ⟨x, hx, hxl⟩ := blk_at h hk
  by_cases hnew : x = (blkTo L k).length
  · rw [blkTo_new (L := L) (k := k) (by rw [hx, hnew]), List.length_append, List.length_singleton]; omega
  · rw [blkTo_old hx (by omega), List.length_set]; omega
theorem blkTo_len_mono (L : List Int) {j : Nat} : ∀ {k : Nat}, j ≤ k → (blkTo L j).length ≤ (blkTo L k).length
  | 0, h => by
    obtain rfl : j = 0 := by omega
    exact Nat.le_refl _
  | k + 1, h => by
    rcases Nat.lt_or_ge k j with g | g
    · obtain rfl : j = k + 1 := by omega
      exact Nat.le_refl _
    · refine Nat.le_trans (blkTo_len_mono L g) ?_
      rw [blkTo]; split <;> simp
theorem blk_mem {L : List Int} (h : isPart L = true) : ∀ k, k ≤ L.length → ∀ i, i < (blkTo L k).length → (mrow (blkTo L k) i ≠ []) ∧ ∀ y, y ∈ mrow (blkTo L k) i ↔ ∃ x : Nat, x < k ∧ y = x ∧ L.getD x 0 = i
  | 0, _, i, hi => by simp [blkTo] at hi
  | k + 1, hk, i, hi => by
    have ih := blk_mem h k (by omega)
    obtain ⟨x, hx, hxl⟩ := blk_at h (k := k) (by omega)
    by_cases hnew : x = (blkTo L k).length
    · have e := blkTo_new (L := L) (k := k) (by rw [hx, hnew])
      rw [e] at hi ⊢
      rw [List.length_append, List.length_singleton] at hi
      by_cases hi2 : i < (blkTo L k).length
      · have er : mrow (blkTo L k ++ [[(k : Int)]]) i = mrow (blkTo L k) i := by simp [mrow, List.getElem?_append_left hi2]
        rw [er]
        obtain ⟨n1, n2⟩ := ih i hi2
        refine ⟨n1, fun y => (n2 y).trans ?_⟩
        constructor
        · rintro ⟨z, z1, z2, z3⟩; exact ⟨z, by omega, z2, z3⟩
        · rintro ⟨z, z1, z2, z3⟩
          rcases Nat.lt_succ_iff_lt_or_eq.mp z1 with g | rfl
          · exact ⟨z, g, z2, z3⟩
          · omega
      · obtain rfl : i = (blkTo L k).length := by omega
        have er : mrow (blkTo L k ++ [[(k : Int)]]) (blkTo L k).length = [(k : Int)] := by simp [mrow]
        rw [er]
        refine ⟨by simp, fun y => ?_⟩
        simp only [List.mem_singleton]
        constructor
        · rintro rfl; exact ⟨k, by omega, rfl, by rw [hx, hnew]⟩
        · rintro ⟨z, z1, rfl, z3⟩
          rcases Nat.lt_succ_iff_lt_or_eq.mp z1 with g | rfl
          · obtain ⟨z', hz', hzl⟩ := blk_at h (k := z) (by omega)
            have := blkTo_len_mono L (j := z + 1) (k := k) (by omega)
            have := blkTo_lt h (k := z) (by omega)
            omega
          · rfl
    · have hlt : x < (blkTo L k).length := by omega
      have e := blkTo_old hx hlt
      rw [e] at hi ⊢
      rw [List.length_set] at hi
      obtain ⟨n1, n2⟩ := ih i hi
      by_cases hix : i = x
      · subst hix
        have er : mrow ((blkTo L k).set i (mrow (blkTo L k) i ++ [(k : Int)])) i = mrow (blkTo L k) i ++ [(k : Int)] := by simp [mrow, hi]
        rw [er]
        refine ⟨by simp, fun y => ?_⟩
        rw [List.mem_append, List.mem_singleton, n2 y]
        constructor
        · rintro (⟨z, z1, z2, z3⟩ | rfl)
          · exact ⟨z, by omega, z2, z3⟩
          · exact ⟨k, by omega, rfl, hx⟩
        · rintro ⟨z, z1, z2, z3⟩
          rcases Nat.lt_succ_iff_lt_or_eq.mp z1 with g | rfl
          · exact .inl ⟨z, g, z2, z3⟩
          · exact .inr z2
      · have er : mrow ((blkTo L k).set x (mrow (blkTo L k) x ++ [(k : Int)])) i = mrow (blkTo L k) i := by simp [mrow, List.getElem?_set, Ne.symm hix]
        rw [er]
        refine ⟨n1, fun y => (n2 y).trans ?_⟩
        constructor
        · rintro ⟨z, z1, z2, z3⟩; exact ⟨z, by omega, z2, z3⟩
        · rintro ⟨z, z1, z2, z3⟩
          rcases Nat.lt_succ_iff_lt_or_eq.mp z1 with g | rfl
          · exact ⟨z, g, z2, z3⟩
          · omega

/-! ### What the reference reads -/
def sput (i : Int) (p : List Int × Int) (c : UInt8) : List Int × Int :=
  if 0 ≤ (c.toNat : Int) - 48 ∧ (c.toNat : Int) - 48 ≤ 7 then (p.1.set (c.toNat - 48) i, max p.2 ((c.toNat : Int) - 48 + 1)) else p
def spc : Int → List (List UInt8) → List Int × Int → List Int × Int
  | _, [], p => p
  | i, q :: qs, p => spc (i + 1) qs (q.foldl (sput i) p)
end Go.Sh
