/- Texts of this proof, one behind the other. -/
import Derived.Test.YtbeoiejnogdkpaaBPClears1
import Derived.Test.YtbeoiejnogdkpaaProg
import Derived.KernelRfl
import Derived.Sort.LotC
import Derived.Sort.AssemblyPlain
namespace Go.Proofs.Ytbeoiejnogdkpaa.Sy
open Go Go.RowKit
set_option linter.unusedVariables false
set_option maxRecDepth 4000
structure SN where
 insertionSort:Nat
 siftDown:Nat
 heapSort:Nat
 reverseRange:Nat
 partialInsertionSort:Nat
 partitionEqual:Nat
 partition:Nat
 breakPatterns:Nat
 order2:Nat
 median:Nat
 medianAdjacent:Nat
 choosePivot:Nat
 pdqsort:Nat
 less:Nat
 slices_nextPowerOfTwo:Nat
 slices_xorshift_Next:Nat
def G_breakPatterns_c (z:Nat) (g:Bool) (q:SN):Fn1:=⟨67,[],(.seq (.reg [o 13 (.mov (.t 2)),o 14 (.mov (.t 1)),o 15 (.bin .sub (.t 13) (.t 14)),o 8 (.mov (.t 15))]) (.seq (.reg [o 16 (.mov (.t 8)),o 17 (.bin .geq (.t 16) (.k (.int .i64 8)))]) (.cnd (.t 17) (.seq (.reg [o 18 (.mov (.t 8)),o 19 (.cvi .u64 (.t 18)),o 9 (.new [(.int .u64 0)]),on (.st 1 (.t 9) (.t 19))]) (.seq (.reg [o 20 (.mov (.t 8)),o 21 (.call q.slices_nextPowerOfTwo [(.t 20)]),o 10 (.mov (.t 21))]) (.seq (.reg [o 22 (.mov (.t 1)),o 23 (.mov (.t 8)),o 24 (.bin .quo (.t 23) (.k (.int .i64 4))),o 25 (.bin .mul (.t 24) (.k (.int .i64 2))),o 26 (.bin .add (.t 22) (.t 25)),o 27 (.bin .sub (.t 26) (.k (.int .i64 1))),o 11 (.mov (.t 27))]) (.blk 0 (.lop (.seq (.seq (.reg [o 28 (.mov (.t 11)),o 29 (.mov (.t 1)),o 30 (.mov (.t 8)),o 31 (.bin .quo (.t 30) (.k (.int .i64 4))),o 32 (.bin .mul (.t 31) (.k (.int .i64 2))),o 33 (.bin .add (.t 29) (.t 32)),o 34 (.bin .add (.t 33) (.k (.int .i64 1))),o 35 (.bin .leq (.t 28) (.t 34))]) (.cnd (.t 35) .skip (.ext 0))) (.seq (.blk 1 (.seq (.reg [o 38 (.call q.slices_xorshift_Next [(.t 9)]),o 39 (.mov (.t 10)),o 40 (.bin .sub (.t 39) (.k (.int .u64 1))),o 41 (.bin .and (.t 38) (.t 40)),o 42 (.cvi .i64 (.t 41)),o 12 (.mov (.t 42))]) (.seq (.seq (.reg [o 43 (.mov (.t 12)),o 44 (.mov (.t 8)),o 45 (.bin .geq (.t 43) (.t 44))]) (.cnd (.t 45) (.reg [o 46 (.mov (.t 12)),o 47 (.mov (.t 8)),o 48 (.bin .sub (.t 46) (.t 47)),o 12 (.mov (.t 48))]) .skip)) (.drw [o 49 (.mov (.t 0)),o 50 (.mov (.t 11)),o 51 (.mov (.t 0)),o 52 (.mov (.t 1)),o 53 (.mov (.t 12)),o 54 (.bin .add (.t 52) (.t 53)),o 55 (.mov (.t 0)),o 56 (.mov (.t 1)),o 57 (.mov (.t 12)),o 58 (.bin .add (.t 56) (.t 57)),o 59 (.iad z (.t 55) (.t 58)),o 60 (.ld g z (.t 59)),o 61 (.mov (.t 0)),o 62 (.mov (.t 11)),o 63 (.iad z (.t 61) (.t 62)),o 64 (.ld g z (.t 63))] [o 65 (.iad z (.t 49) (.t 50)),on (.st z (.t 65) (.t 60)),o 66 (.iad z (.t 51) (.t 54)),on (.st z (.t 66) (.t 64))])))) (.reg [o 36 (.mov (.t 11)),o 37 (.bin .add (.t 36) (.k (.int .i64 1))),o 11 (.mov (.t 37))])))))))) .skip)))⟩
def G_breakPatterns_o (z:Nat) (g:Bool) (q:SN):Fn1:=⟨65,[],(.seq (.reg [o 11 (.mov (.t 2)),o 12 (.mov (.t 1)),o 13 (.bin .sub (.t 11) (.t 12)),o 6 (.mov (.t 13))]) (.seq (.reg [o 14 (.mov (.t 6)),o 15 (.bin .geq (.t 14) (.k (.int .i64 8)))]) (.cnd (.t 15) (.seq (.reg [o 16 (.mov (.t 6)),o 17 (.cvi .u64 (.t 16)),o 7 (.new [(.int .u64 0)]),on (.st 1 (.t 7) (.t 17))]) (.seq (.reg [o 18 (.mov (.t 6)),o 19 (.call q.slices_nextPowerOfTwo [(.t 18)]),o 8 (.mov (.t 19))]) (.seq (.reg [o 20 (.mov (.t 1)),o 21 (.mov (.t 6)),o 22 (.bin .quo (.t 21) (.k (.int .i64 4))),o 23 (.bin .mul (.t 22) (.k (.int .i64 2))),o 24 (.bin .add (.t 20) (.t 23)),o 25 (.bin .sub (.t 24) (.k (.int .i64 1))),o 9 (.mov (.t 25))]) (.blk 0 (.lop (.seq (.seq (.reg [o 26 (.mov (.t 9)),o 27 (.mov (.t 1)),o 28 (.mov (.t 6)),o 29 (.bin .quo (.t 28) (.k (.int .i64 4))),o 30 (.bin .mul (.t 29) (.k (.int .i64 2))),o 31 (.bin .add (.t 27) (.t 30)),o 32 (.bin .add (.t 31) (.k (.int .i64 1))),o 33 (.bin .leq (.t 26) (.t 32))]) (.cnd (.t 33) .skip (.ext 0))) (.seq (.blk 1 (.seq (.reg [o 36 (.call q.slices_xorshift_Next [(.t 7)]),o 37 (.mov (.t 8)),o 38 (.bin .sub (.t 37) (.k (.int .u64 1))),o 39 (.bin .and (.t 36) (.t 38)),o 40 (.cvi .i64 (.t 39)),o 10 (.mov (.t 40))]) (.seq (.seq (.reg [o 41 (.mov (.t 10)),o 42 (.mov (.t 6)),o 43 (.bin .geq (.t 41) (.t 42))]) (.cnd (.t 43) (.reg [o 44 (.mov (.t 10)),o 45 (.mov (.t 6)),o 46 (.bin .sub (.t 44) (.t 45)),o 10 (.mov (.t 46))]) .skip)) (.drw [o 47 (.mov (.t 0)),o 48 (.mov (.t 9)),o 49 (.mov (.t 0)),o 50 (.mov (.t 1)),o 51 (.mov (.t 10)),o 52 (.bin .add (.t 50) (.t 51)),o 53 (.mov (.t 0)),o 54 (.mov (.t 1)),o 55 (.mov (.t 10)),o 56 (.bin .add (.t 54) (.t 55)),o 57 (.iad z (.t 53) (.t 56)),o 58 (.ld g z (.t 57)),o 59 (.mov (.t 0)),o 60 (.mov (.t 9)),o 61 (.iad z (.t 59) (.t 60)),o 62 (.ld g z (.t 61))] [o 63 (.iad z (.t 47) (.t 48)),on (.st z (.t 63) (.t 58)),o 64 (.iad z (.t 49) (.t 52)),on (.st z (.t 64) (.t 62))])))) (.reg [o 34 (.mov (.t 9)),o 35 (.bin .add (.t 34) (.k (.int .i64 1))),o 9 (.mov (.t 35))])))))))) .skip)))⟩
def G_choosePivot_c (z:Nat) (g:Bool) (q:SN):Fn1:=⟨63,[.t 8,.t 9],(.seq (.reg [o 8 (.mov (.k (.int .i64 0))),o 9 (.mov (.k (.int .i64 0)))]) (.seq (.reg [o 15 (.mov (.t 2)),o 16 (.mov (.t 1)),o 17 (.bin .sub (.t 15) (.t 16)),o 10 (.mov (.t 17))]) (.seq (.reg [o 11 (.new [(.int .i64 0)])]) (.seq (.reg [o 18 (.mov (.t 1)),o 19 (.mov (.t 10)),o 20 (.bin .quo (.t 19) (.k (.int .i64 4))),o 21 (.bin .mul (.t 20) (.k (.int .i64 1))),o 22 (.bin .add (.t 18) (.t 21)),o 12 (.mov (.t 22))]) (.seq (.reg [o 23 (.mov (.t 1)),o 24 (.mov (.t 10)),o 25 (.bin .quo (.t 24) (.k (.int .i64 4))),o 26 (.bin .mul (.t 25) (.k (.int .i64 2))),o 27 (.bin .add (.t 23) (.t 26)),o 13 (.mov (.t 27))]) (.seq (.reg [o 28 (.mov (.t 1)),o 29 (.mov (.t 10)),o 30 (.bin .quo (.t 29) (.k (.int .i64 4))),o 31 (.bin .mul (.t 30) (.k (.int .i64 3))),o 32 (.bin .add (.t 28) (.t 31)),o 14 (.mov (.t 32))]) (.seq (.seq (.reg [o 33 (.mov (.t 10)),o 34 (.bin .geq (.t 33) (.k (.int .i64 8)))]) (.cnd (.t 34) (.seq (.seq (.reg [o 35 (.mov (.t 10)),o 36 (.bin .geq (.t 35) (.k (.int .i64 50)))]) (.cnd (.t 36) (.seq (.reg [o 37 (.mov (.t 0)),o 38 (.mov (.t 12)),o 39 (.mov (.t 3)),o 40 (.call q.medianAdjacent [(.t 37),(.t 38),(.t 11),(.t 39)]),o 12 (.mov (.t 40))]) (.seq (.reg [o 41 (.mov (.t 0)),o 42 (.mov (.t 13)),o 43 (.mov (.t 3)),o 44 (.call q.medianAdjacent [(.t 41),(.t 42),(.t 11),(.t 43)]),o 13 (.mov (.t 44))]) (.reg [o 45 (.mov (.t 0)),o 46 (.mov (.t 14)),o 47 (.mov (.t 3)),o 48 (.call q.medianAdjacent [(.t 45),(.t 46),(.t 11),(.t 47)]),o 14 (.mov (.t 48))]))) .skip)) (.reg [o 49 (.mov (.t 0)),o 50 (.mov (.t 12)),o 51 (.mov (.t 13)),o 52 (.mov (.t 14)),o 53 (.mov (.t 3)),o 54 (.call q.median [(.t 49),(.t 50),(.t 51),(.t 52),(.t 11),(.t 53)]),o 13 (.mov (.t 54))])) .skip)) (.seq (.reg [o 55 (.ld false 1 (.t 11))]) (.blk 0 (.seq (.reg [o 58 (.bin .eql (.t 55) (.k (.int .i64 0))),o 57 (.mov (.t 58))]) (.cnd (.t 57) (.seq (.reg [o 59 (.mov (.t 13)),o 8 (.mov (.t 59)),o 9 (.mov (.k (.int .i64 1)))]) .ret) (.seq (.reg [o 61 (.bin .eql (.t 55) (.k (.int .i64 12))),o 60 (.mov (.t 61))]) (.cnd (.t 60) (.seq (.reg [o 62 (.mov (.t 13)),o 8 (.mov (.t 62)),o 9 (.mov (.k (.int .i64 2)))]) .ret) (.seq (.reg [o 56 (.mov (.t 13)),o 8 (.mov (.t 56)),o 9 (.mov (.k (.int .i64 0)))]) .ret))))))))))))))⟩
def G_choosePivot_o (z:Nat) (g:Bool) (q:SN):Fn1:=⟨57,[.t 6,.t 7],(.seq (.reg [o 6 (.mov (.k (.int .i64 0))),o 7 (.mov (.k (.int .i64 0)))]) (.seq (.reg [o 13 (.mov (.t 2)),o 14 (.mov (.t 1)),o 15 (.bin .sub (.t 13) (.t 14)),o 8 (.mov (.t 15))]) (.seq (.reg [o 9 (.new [(.int .i64 0)])]) (.seq (.reg [o 16 (.mov (.t 1)),o 17 (.mov (.t 8)),o 18 (.bin .quo (.t 17) (.k (.int .i64 4))),o 19 (.bin .mul (.t 18) (.k (.int .i64 1))),o 20 (.bin .add (.t 16) (.t 19)),o 10 (.mov (.t 20))]) (.seq (.reg [o 21 (.mov (.t 1)),o 22 (.mov (.t 8)),o 23 (.bin .quo (.t 22) (.k (.int .i64 4))),o 24 (.bin .mul (.t 23) (.k (.int .i64 2))),o 25 (.bin .add (.t 21) (.t 24)),o 11 (.mov (.t 25))]) (.seq (.reg [o 26 (.mov (.t 1)),o 27 (.mov (.t 8)),o 28 (.bin .quo (.t 27) (.k (.int .i64 4))),o 29 (.bin .mul (.t 28) (.k (.int .i64 3))),o 30 (.bin .add (.t 26) (.t 29)),o 12 (.mov (.t 30))]) (.seq (.seq (.reg [o 31 (.mov (.t 8)),o 32 (.bin .geq (.t 31) (.k (.int .i64 8)))]) (.cnd (.t 32) (.seq (.seq (.reg [o 33 (.mov (.t 8)),o 34 (.bin .geq (.t 33) (.k (.int .i64 50)))]) (.cnd (.t 34) (.seq (.reg [o 35 (.mov (.t 0)),o 36 (.mov (.t 10)),o 37 (.call q.medianAdjacent [(.t 35),(.t 36),(.t 9)]),o 10 (.mov (.t 37))]) (.seq (.reg [o 38 (.mov (.t 0)),o 39 (.mov (.t 11)),o 40 (.call q.medianAdjacent [(.t 38),(.t 39),(.t 9)]),o 11 (.mov (.t 40))]) (.reg [o 41 (.mov (.t 0)),o 42 (.mov (.t 12)),o 43 (.call q.medianAdjacent [(.t 41),(.t 42),(.t 9)]),o 12 (.mov (.t 43))]))) .skip)) (.reg [o 44 (.mov (.t 0)),o 45 (.mov (.t 10)),o 46 (.mov (.t 11)),o 47 (.mov (.t 12)),o 48 (.call q.median [(.t 44),(.t 45),(.t 46),(.t 47),(.t 9)]),o 11 (.mov (.t 48))])) .skip)) (.seq (.reg [o 49 (.ld false 1 (.t 9))]) (.blk 0 (.seq (.reg [o 52 (.bin .eql (.t 49) (.k (.int .i64 0))),o 51 (.mov (.t 52))]) (.cnd (.t 51) (.seq (.reg [o 53 (.mov (.t 11)),o 6 (.mov (.t 53)),o 7 (.mov (.k (.int .i64 1)))]) .ret) (.seq (.reg [o 55 (.bin .eql (.t 49) (.k (.int .i64 12))),o 54 (.mov (.t 55))]) (.cnd (.t 54) (.seq (.reg [o 56 (.mov (.t 11)),o 6 (.mov (.t 56)),o 7 (.mov (.k (.int .i64 2)))]) .ret) (.seq (.reg [o 50 (.mov (.t 11)),o 6 (.mov (.t 50)),o 7 (.mov (.k (.int .i64 0)))]) .ret))))))))))))))⟩
def G_heapSort_c (z:Nat) (g:Bool) (q:SN):Fn1:=⟨60,[],(.seq (.reg [o 13 (.mov (.t 1)),o 8 (.mov (.t 13))]) (.seq (.reg [o 9 (.mov (.k (.int .i64 0)))]) (.seq (.reg [o 14 (.mov (.t 2)),o 15 (.mov (.t 1)),o 16 (.bin .sub (.t 14) (.t 15)),o 10 (.mov (.t 16))]) (.seq (.seq (.reg [o 17 (.mov (.t 10)),o 18 (.bin .sub (.t 17) (.k (.int .i64 1))),o 19 (.bin .quo (.t 18) (.k (.int .i64 2))),o 11 (.mov (.t 19))]) (.blk 0 (.lop (.seq (.seq (.reg [o 20 (.mov (.t 11)),o 21 (.bin .geq (.t 20) (.k (.int .i64 0)))]) (.cnd (.t 21) .skip (.ext 0))) (.seq (.blk 1 (.reg [o 24 (.mov (.t 0)),o 25 (.mov (.t 11)),o 26 (.mov (.t 10)),o 27 (.mov (.t 8)),o 28 (.mov (.t 3)),o 29 (.call q.siftDown [(.t 24),(.t 25),(.t 26),(.t 27),(.t 28)])])) (.reg [o 22 (.mov (.t 11)),o 23 (.bin .sub (.t 22) (.k (.int .i64 1))),o 11 (.mov (.t 23))])))))) (.seq (.reg [o 30 (.mov (.t 10)),o 31 (.bin .sub (.t 30) (.k (.int .i64 1))),o 12 (.mov (.t 31))]) (.blk 2 (.lop (.seq (.seq (.reg [o 32 (.mov (.t 12)),o 33 (.bin .geq (.t 32) (.k (.int .i64 0)))]) (.cnd (.t 33) .skip (.ext 2))) (.seq (.blk 3 (.seq (.drw [o 36 (.mov (.t 0)),o 37 (.mov (.t 8)),o 38 (.mov (.t 0)),o 39 (.mov (.t 8)),o 40 (.mov (.t 12)),o 41 (.bin .add (.t 39) (.t 40)),o 42 (.mov (.t 0)),o 43 (.mov (.t 8)),o 44 (.mov (.t 12)),o 45 (.bin .add (.t 43) (.t 44)),o 46 (.iad z (.t 42) (.t 45)),o 47 (.ld g z (.t 46)),o 48 (.mov (.t 0)),o 49 (.mov (.t 8)),o 50 (.iad z (.t 48) (.t 49)),o 51 (.ld g z (.t 50))] [o 52 (.iad z (.t 36) (.t 37)),on (.st z (.t 52) (.t 47)),o 53 (.iad z (.t 38) (.t 41)),on (.st z (.t 53) (.t 51))]) (.reg [o 54 (.mov (.t 0)),o 55 (.mov (.t 9)),o 56 (.mov (.t 12)),o 57 (.mov (.t 8)),o 58 (.mov (.t 3)),o 59 (.call q.siftDown [(.t 54),(.t 55),(.t 56),(.t 57),(.t 58)])]))) (.reg [o 34 (.mov (.t 12)),o 35 (.bin .sub (.t 34) (.k (.int .i64 1))),o 12 (.mov (.t 35))]))))))))))⟩
def G_heapSort_o (z:Nat) (g:Bool) (q:SN):Fn1:=⟨56,[],(.seq (.reg [o 11 (.mov (.t 1)),o 6 (.mov (.t 11))]) (.seq (.reg [o 7 (.mov (.k (.int .i64 0)))]) (.seq (.reg [o 12 (.mov (.t 2)),o 13 (.mov (.t 1)),o 14 (.bin .sub (.t 12) (.t 13)),o 8 (.mov (.t 14))]) (.seq (.seq (.reg [o 15 (.mov (.t 8)),o 16 (.bin .sub (.t 15) (.k (.int .i64 1))),o 17 (.bin .quo (.t 16) (.k (.int .i64 2))),o 9 (.mov (.t 17))]) (.blk 0 (.lop (.seq (.seq (.reg [o 18 (.mov (.t 9)),o 19 (.bin .geq (.t 18) (.k (.int .i64 0)))]) (.cnd (.t 19) .skip (.ext 0))) (.seq (.blk 1 (.reg [o 22 (.mov (.t 0)),o 23 (.mov (.t 9)),o 24 (.mov (.t 8)),o 25 (.mov (.t 6)),o 26 (.call q.siftDown [(.t 22),(.t 23),(.t 24),(.t 25)])])) (.reg [o 20 (.mov (.t 9)),o 21 (.bin .sub (.t 20) (.k (.int .i64 1))),o 9 (.mov (.t 21))])))))) (.seq (.reg [o 27 (.mov (.t 8)),o 28 (.bin .sub (.t 27) (.k (.int .i64 1))),o 10 (.mov (.t 28))]) (.blk 2 (.lop (.seq (.seq (.reg [o 29 (.mov (.t 10)),o 30 (.bin .geq (.t 29) (.k (.int .i64 0)))]) (.cnd (.t 30) .skip (.ext 2))) (.seq (.blk 3 (.seq (.drw [o 33 (.mov (.t 0)),o 34 (.mov (.t 6)),o 35 (.mov (.t 0)),o 36 (.mov (.t 6)),o 37 (.mov (.t 10)),o 38 (.bin .add (.t 36) (.t 37)),o 39 (.mov (.t 0)),o 40 (.mov (.t 6)),o 41 (.mov (.t 10)),o 42 (.bin .add (.t 40) (.t 41)),o 43 (.iad z (.t 39) (.t 42)),o 44 (.ld g z (.t 43)),o 45 (.mov (.t 0)),o 46 (.mov (.t 6)),o 47 (.iad z (.t 45) (.t 46)),o 48 (.ld g z (.t 47))] [o 49 (.iad z (.t 33) (.t 34)),on (.st z (.t 49) (.t 44)),o 50 (.iad z (.t 35) (.t 38)),on (.st z (.t 50) (.t 48))]) (.reg [o 51 (.mov (.t 0)),o 52 (.mov (.t 7)),o 53 (.mov (.t 10)),o 54 (.mov (.t 6)),o 55 (.call q.siftDown [(.t 51),(.t 52),(.t 53),(.t 54)])]))) (.reg [o 31 (.mov (.t 10)),o 32 (.bin .sub (.t 31) (.k (.int .i64 1))),o 10 (.mov (.t 32))]))))))))))⟩
def G_insertionSort_c (z:Nat) (g:Bool) (q:SN):Fn1:=⟨53,[],(.seq (.reg [o 10 (.mov (.t 1)),o 11 (.bin .add (.t 10) (.k (.int .i64 1))),o 8 (.mov (.t 11))]) (.blk 0 (.lop (.seq (.seq (.reg [o 12 (.mov (.t 8)),o 13 (.mov (.t 2)),o 14 (.bin .lss (.t 12) (.t 13))]) (.cnd (.t 14) .skip (.ext 0))) (.seq (.blk 1 (.seq (.reg [o 17 (.mov (.t 8)),o 9 (.mov (.t 17))]) (.blk 2 (.lop (.seq (.seq (.drw [o 18 (.mov (.t 9)),o 19 (.mov (.t 1)),o 20 (.bin .gtr (.t 18) (.t 19)),o 21 (.mov (.t 20)),og 22 21 true (.mov (.t 3)),og 23 21 true (.mov (.t 0)),og 24 21 true (.mov (.t 9)),og 25 21 true (.iad z (.t 23) (.t 24)),og 26 21 true (.ld g z (.t 25)),og 27 21 true (.mov (.t 0)),og 28 21 true (.mov (.t 9)),og 29 21 true (.bin .sub (.t 28) (.k (.int .i64 1))),og 30 21 true (.iad z (.t 27) (.t 29)),og 31 21 true (.ld g z (.t 30))] [og 32 21 true (.callv (.t 22) [(.t 26),(.t 31)]),og 33 21 true (.bin .lss (.t 32) (.k (.int .i64 0))),o 34 (.pick (.t 21) (.t 33) (.k (.bool false)))]) (.cnd (.t 34) .skip (.ext 2))) (.seq (.blk 3 (.drw [o 37 (.mov (.t 0)),o 38 (.mov (.t 9)),o 39 (.mov (.t 0)),o 40 (.mov (.t 9)),o 41 (.bin .sub (.t 40) (.k (.int .i64 1))),o 42 (.mov (.t 0)),o 43 (.mov (.t 9)),o 44 (.bin .sub (.t 43) (.k (.int .i64 1))),o 45 (.iad z (.t 42) (.t 44)),o 46 (.ld g z (.t 45)),o 47 (.mov (.t 0)),o 48 (.mov (.t 9)),o 49 (.iad z (.t 47) (.t 48)),o 50 (.ld g z (.t 49))] [o 51 (.iad z (.t 37) (.t 38)),on (.st z (.t 51) (.t 46)),o 52 (.iad z (.t 39) (.t 41)),on (.st z (.t 52) (.t 50))])) (.reg [o 35 (.mov (.t 9)),o 36 (.bin .sub (.t 35) (.k (.int .i64 1))),o 9 (.mov (.t 36))]))))))) (.reg [o 15 (.mov (.t 8)),o 16 (.bin .add (.t 15) (.k (.int .i64 1))),o 8 (.mov (.t 16))]))))))⟩
def G_insertionSort_o (z:Nat) (g:Bool) (q:SN):Fn1:=⟨49,[],(.seq (.reg [o 8 (.mov (.t 1)),o 9 (.bin .add (.t 8) (.k (.int .i64 1))),o 6 (.mov (.t 9))]) (.blk 0 (.lop (.seq (.seq (.reg [o 10 (.mov (.t 6)),o 11 (.mov (.t 2)),o 12 (.bin .lss (.t 10) (.t 11))]) (.cnd (.t 12) .skip (.ext 0))) (.seq (.blk 1 (.seq (.reg [o 15 (.mov (.t 6)),o 7 (.mov (.t 15))]) (.blk 2 (.lop (.seq (.seq (.drw [o 16 (.mov (.t 7)),o 17 (.mov (.t 1)),o 18 (.bin .gtr (.t 16) (.t 17)),o 19 (.mov (.t 18)),og 20 19 true (.mov (.t 0)),og 21 19 true (.mov (.t 7)),og 22 19 true (.iad z (.t 20) (.t 21)),og 23 19 true (.ld g z (.t 22)),og 24 19 true (.mov (.t 0)),og 25 19 true (.mov (.t 7)),og 26 19 true (.bin .sub (.t 25) (.k (.int .i64 1))),og 27 19 true (.iad z (.t 24) (.t 26)),og 28 19 true (.ld g z (.t 27))] [og 29 19 true (.call q.less [(.t 23),(.t 28)]),o 30 (.pick (.t 19) (.t 29) (.k (.bool false)))]) (.cnd (.t 30) .skip (.ext 2))) (.seq (.blk 3 (.drw [o 33 (.mov (.t 0)),o 34 (.mov (.t 7)),o 35 (.mov (.t 0)),o 36 (.mov (.t 7)),o 37 (.bin .sub (.t 36) (.k (.int .i64 1))),o 38 (.mov (.t 0)),o 39 (.mov (.t 7)),o 40 (.bin .sub (.t 39) (.k (.int .i64 1))),o 41 (.iad z (.t 38) (.t 40)),o 42 (.ld g z (.t 41)),o 43 (.mov (.t 0)),o 44 (.mov (.t 7)),o 45 (.iad z (.t 43) (.t 44)),o 46 (.ld g z (.t 45))] [o 47 (.iad z (.t 33) (.t 34)),on (.st z (.t 47) (.t 42)),o 48 (.iad z (.t 35) (.t 37)),on (.st z (.t 48) (.t 46))])) (.reg [o 31 (.mov (.t 7)),o 32 (.bin .sub (.t 31) (.k (.int .i64 1))),o 7 (.mov (.t 32))]))))))) (.reg [o 13 (.mov (.t 6)),o 14 (.bin .add (.t 13) (.k (.int .i64 1))),o 6 (.mov (.t 14))]))))))⟩
def G_median_c (z:Nat) (g:Bool) (q:SN):Fn1:=⟨41,[.t 12],(.seq (.reg [o 12 (.mov (.k (.int .i64 0)))]) (.seq (.reg [o 14 (.mov (.t 0)),o 15 (.mov (.t 1)),o 16 (.mov (.t 2)),o 17 (.mov (.t 4)),o 18 (.mov (.t 5)),o 19 (.call q.order2 [(.t 14),(.t 15),(.t 16),(.t 17),(.t 18)]),o 13 (.mov (.t 19)),o 20 (.ext 0 (.t 13)),o 21 (.ext 1 (.t 13)),o 1 (.mov (.t 20)),o 2 (.mov (.t 21))]) (.seq (.reg [o 23 (.mov (.t 0)),o 24 (.mov (.t 2)),o 25 (.mov (.t 3)),o 26 (.mov (.t 4)),o 27 (.mov (.t 5)),o 28 (.call q.order2 [(.t 23),(.t 24),(.t 25),(.t 26),(.t 27)]),o 22 (.mov (.t 28)),o 29 (.ext 0 (.t 22)),o 30 (.ext 1 (.t 22)),o 2 (.mov (.t 29)),o 3 (.mov (.t 30))]) (.seq (.reg [o 32 (.mov (.t 0)),o 33 (.mov (.t 1)),o 34 (.mov (.t 2)),o 35 (.mov (.t 4)),o 36 (.mov (.t 5)),o 37 (.call q.order2 [(.t 32),(.t 33),(.t 34),(.t 35),(.t 36)]),o 31 (.mov (.t 37)),o 38 (.ext 0 (.t 31)),o 39 (.ext 1 (.t 31)),o 1 (.mov (.t 38)),o 2 (.mov (.t 39))]) (.seq (.reg [o 40 (.mov (.t 2)),o 12 (.mov (.t 40))]) .ret)))))⟩
def G_median_o (z:Nat) (g:Bool) (q:SN):Fn1:=⟨36,[.t 10],(.seq (.reg [o 10 (.mov (.k (.int .i64 0)))]) (.seq (.reg [o 12 (.mov (.t 0)),o 13 (.mov (.t 1)),o 14 (.mov (.t 2)),o 15 (.mov (.t 4)),o 16 (.call q.order2 [(.t 12),(.t 13),(.t 14),(.t 15)]),o 11 (.mov (.t 16)),o 17 (.ext 0 (.t 11)),o 18 (.ext 1 (.t 11)),o 1 (.mov (.t 17)),o 2 (.mov (.t 18))]) (.seq (.reg [o 20 (.mov (.t 0)),o 21 (.mov (.t 2)),o 22 (.mov (.t 3)),o 23 (.mov (.t 4)),o 24 (.call q.order2 [(.t 20),(.t 21),(.t 22),(.t 23)]),o 19 (.mov (.t 24)),o 25 (.ext 0 (.t 19)),o 26 (.ext 1 (.t 19)),o 2 (.mov (.t 25)),o 3 (.mov (.t 26))]) (.seq (.reg [o 28 (.mov (.t 0)),o 29 (.mov (.t 1)),o 30 (.mov (.t 2)),o 31 (.mov (.t 4)),o 32 (.call q.order2 [(.t 28),(.t 29),(.t 30),(.t 31)]),o 27 (.mov (.t 32)),o 33 (.ext 0 (.t 27)),o 34 (.ext 1 (.t 27)),o 1 (.mov (.t 33)),o 2 (.mov (.t 34))]) (.seq (.reg [o 35 (.mov (.t 2)),o 10 (.mov (.t 35))]) .ret)))))⟩
def G_medianAdjacent_c (z:Nat) (g:Bool) (q:SN):Fn1:=⟨18,[.t 8],(.seq (.reg [o 8 (.mov (.k (.int .i64 0)))]) (.seq (.reg [o 9 (.mov (.t 0)),o 10 (.mov (.t 1)),o 11 (.bin .sub (.t 10) (.k (.int .i64 1))),o 12 (.mov (.t 1)),o 13 (.mov (.t 1)),o 14 (.bin .add (.t 13) (.k (.int .i64 1))),o 15 (.mov (.t 2)),o 16 (.mov (.t 3)),o 17 (.call q.median [(.t 9),(.t 11),(.t 12),(.t 14),(.t 15),(.t 16)]),o 8 (.mov (.t 17))]) .ret))⟩
def G_medianAdjacent_o (z:Nat) (g:Bool) (q:SN):Fn1:=⟨15,[.t 6],(.seq (.reg [o 6 (.mov (.k (.int .i64 0)))]) (.seq (.reg [o 7 (.mov (.t 0)),o 8 (.mov (.t 1)),o 9 (.bin .sub (.t 8) (.k (.int .i64 1))),o 10 (.mov (.t 1)),o 11 (.mov (.t 1)),o 12 (.bin .add (.t 11) (.k (.int .i64 1))),o 13 (.mov (.t 2)),o 14 (.call q.median [(.t 7),(.t 9),(.t 10),(.t 12),(.t 13)]),o 6 (.mov (.t 14))]) .ret))⟩
def G_order2_c (z:Nat) (g:Bool) (q:SN):Fn1:=⟨32,[.t 10,.t 11],(.seq (.reg [o 10 (.mov (.k (.int .i64 0))),o 11 (.mov (.k (.int .i64 0)))]) (.seq (.seq (.drw [o 12 (.mov (.t 4)),o 13 (.mov (.t 0)),o 14 (.mov (.t 2)),o 15 (.iad z (.t 13) (.t 14)),o 16 (.ld g z (.t 15)),o 17 (.mov (.t 0)),o 18 (.mov (.t 1)),o 19 (.iad z (.t 17) (.t 18)),o 20 (.ld g z (.t 19))] [o 21 (.callv (.t 12) [(.t 16),(.t 20)]),o 22 (.bin .lss (.t 21) (.k (.int .i64 0)))]) (.cnd (.t 22) (.seq (.reg [o 23 (.mov (.t 3)),o 24 (.nck (.t 23)),o 25 (.ld false 1 (.t 24)),o 26 (.bin .add (.t 25) (.k (.int .i64 1))),o 27 (.nck (.t 23)),on (.st 1 (.t 27) (.t 26))]) (.seq (.reg [o 28 (.mov (.t 2)),o 29 (.mov (.t 1)),o 10 (.mov (.t 28)),o 11 (.mov (.t 29))]) .ret)) .skip)) (.seq (.reg [o 30 (.mov (.t 1)),o 31 (.mov (.t 2)),o 10 (.mov (.t 30)),o 11 (.mov (.t 31))]) .ret)))⟩
def G_order2_o (z:Nat) (g:Bool) (q:SN):Fn1:=⟨28,[.t 8,.t 9],(.seq (.reg [o 8 (.mov (.k (.int .i64 0))),o 9 (.mov (.k (.int .i64 0)))]) (.seq (.seq (.drw [o 10 (.mov (.t 0)),o 11 (.mov (.t 2)),o 12 (.iad z (.t 10) (.t 11)),o 13 (.ld g z (.t 12)),o 14 (.mov (.t 0)),o 15 (.mov (.t 1)),o 16 (.iad z (.t 14) (.t 15)),o 17 (.ld g z (.t 16))] [o 18 (.call q.less [(.t 13),(.t 17)])]) (.cnd (.t 18) (.seq (.reg [o 19 (.mov (.t 3)),o 20 (.nck (.t 19)),o 21 (.ld false 1 (.t 20)),o 22 (.bin .add (.t 21) (.k (.int .i64 1))),o 23 (.nck (.t 19)),on (.st 1 (.t 23) (.t 22))]) (.seq (.reg [o 24 (.mov (.t 2)),o 25 (.mov (.t 1)),o 8 (.mov (.t 24)),o 9 (.mov (.t 25))]) .ret)) .skip)) (.seq (.reg [o 26 (.mov (.t 1)),o 27 (.mov (.t 2)),o 8 (.mov (.t 26)),o 9 (.mov (.t 27))]) .ret)))⟩
def G_partialInsertionSort_c (z:Nat) (g:Bool) (q:SN):Fn1:=⟨141,[.t 8],(.seq (.reg [o 8 (.mov (.k (.bool false)))]) (.seq (.reg [o 13 (.mov (.t 1)),o 14 (.bin .add (.t 13) (.k (.int .i64 1))),o 9 (.mov (.t 14))]) (.seq (.seq (.reg [o 10 (.mov (.k (.int .i64 0)))]) (.blk 0 (.lop (.seq (.seq (.reg [o 15 (.mov (.t 10)),o 16 (.bin .lss (.t 15) (.k (.int .i64 5)))]) (.cnd (.t 16) .skip (.ext 0))) (.seq (.blk 1 (.seq (.blk 2 (.lop (.seq (.seq (.drw [o 19 (.mov (.t 9)),o 20 (.mov (.t 2)),o 21 (.bin .lss (.t 19) (.t 20)),o 22 (.mov (.t 21)),og 23 22 true (.mov (.t 3)),og 24 22 true (.mov (.t 0)),og 25 22 true (.mov (.t 9)),og 26 22 true (.iad z (.t 24) (.t 25)),og 27 22 true (.ld g z (.t 26)),og 28 22 true (.mov (.t 0)),og 29 22 true (.mov (.t 9)),og 30 22 true (.bin .sub (.t 29) (.k (.int .i64 1))),og 31 22 true (.iad z (.t 28) (.t 30)),og 32 22 true (.ld g z (.t 31))] [og 33 22 true (.callv (.t 23) [(.t 27),(.t 32)]),og 34 22 true (.bin .lss (.t 33) (.k (.int .i64 0))),og 35 22 true (.un .not (.t 34)),o 36 (.pick (.t 22) (.t 35) (.k (.bool false)))]) (.cnd (.t 36) .skip (.ext 2))) (.blk 3 (.reg [o 37 (.mov (.t 9)),o 38 (.bin .add (.t 37) (.k (.int .i64 1))),o 9 (.mov (.t 38))]))))) (.seq (.seq (.reg [o 39 (.mov (.t 9)),o 40 (.mov (.t 2)),o 41 (.bin .eql (.t 39) (.t 40))]) (.cnd (.t 41) (.seq (.reg [o 8 (.mov (.k (.bool true)))]) .ret) .skip)) (.seq (.seq (.reg [o 42 (.mov (.t 2)),o 43 (.mov (.t 1)),o 44 (.bin .sub (.t 42) (.t 43)),o 45 (.bin .lss (.t 44) (.k (.int .i64 50)))]) (.cnd (.t 45) (.seq (.reg [o 8 (.mov (.k (.bool false)))]) .ret) .skip)) (.seq (.drw [o 46 (.mov (.t 0)),o 47 (.mov (.t 9)),o 48 (.mov (.t 0)),o 49 (.mov (.t 9)),o 50 (.bin .sub (.t 49) (.k (.int .i64 1))),o 51 (.mov (.t 0)),o 52 (.mov (.t 9)),o 53 (.bin .sub (.t 52) (.k (.int .i64 1))),o 54 (.iad z (.t 51) (.t 53)),o 55 (.ld g z (.t 54)),o 56 (.mov (.t 0)),o 57 (.mov (.t 9)),o 58 (.iad z (.t 56) (.t 57)),o 59 (.ld g z (.t 58))] [o 60 (.iad z (.t 46) (.t 47)),on (.st z (.t 60) (.t 55)),o 61 (.iad z (.t 48) (.t 50)),on (.st z (.t 61) (.t 59))]) (.seq (.seq (.reg [o 62 (.mov (.t 9)),o 63 (.mov (.t 1)),o 64 (.bin .sub (.t 62) (.t 63)),o 65 (.bin .geq (.t 64) (.k (.int .i64 2)))]) (.cnd (.t 65) (.seq (.reg [o 66 (.mov (.t 9)),o 67 (.bin .sub (.t 66) (.k (.int .i64 1))),o 11 (.mov (.t 67))]) (.blk 4 (.lop (.seq (.seq (.reg [o 68 (.mov (.t 11)),o 69 (.bin .geq (.t 68) (.k (.int .i64 1)))]) (.cnd (.t 69) .skip (.ext 4))) (.seq (.blk 5 (.seq (.seq (.drw [o 72 (.mov (.t 3)),o 73 (.mov (.t 0)),o 74 (.mov (.t 11)),o 75 (.iad z (.t 73) (.t 74)),o 76 (.ld g z (.t 75)),o 77 (.mov (.t 0)),o 78 (.mov (.t 11)),o 79 (.bin .sub (.t 78) (.k (.int .i64 1))),o 80 (.iad z (.t 77) (.t 79)),o 81 (.ld g z (.t 80))] [o 82 (.callv (.t 72) [(.t 76),(.t 81)]),o 83 (.bin .lss (.t 82) (.k (.int .i64 0))),o 84 (.un .not (.t 83))]) (.cnd (.t 84) (.ext 4) .skip)) (.drw [o 85 (.mov (.t 0)),o 86 (.mov (.t 11)),o 87 (.mov (.t 0)),o 88 (.mov (.t 11)),o 89 (.bin .sub (.t 88) (.k (.int .i64 1))),o 90 (.mov (.t 0)),o 91 (.mov (.t 11)),o 92 (.bin .sub (.t 91) (.k (.int .i64 1))),o 93 (.iad z (.t 90) (.t 92)),o 94 (.ld g z (.t 93)),o 95 (.mov (.t 0)),o 96 (.mov (.t 11)),o 97 (.iad z (.t 95) (.t 96)),o 98 (.ld g z (.t 97))] [o 99 (.iad z (.t 85) (.t 86)),on (.st z (.t 99) (.t 94)),o 100 (.iad z (.t 87) (.t 89)),on (.st z (.t 100) (.t 98))]))) (.reg [o 70 (.mov (.t 11)),o 71 (.bin .sub (.t 70) (.k (.int .i64 1))),o 11 (.mov (.t 71))])))))) .skip)) (.seq (.reg [o 101 (.mov (.t 2)),o 102 (.mov (.t 9)),o 103 (.bin .sub (.t 101) (.t 102)),o 104 (.bin .geq (.t 103) (.k (.int .i64 2)))]) (.cnd (.t 104) (.seq (.reg [o 105 (.mov (.t 9)),o 106 (.bin .add (.t 105) (.k (.int .i64 1))),o 12 (.mov (.t 106))]) (.blk 6 (.lop (.seq (.seq (.reg [o 107 (.mov (.t 12)),o 108 (.mov (.t 2)),o 109 (.bin .lss (.t 107) (.t 108))]) (.cnd (.t 109) .skip (.ext 6))) (.seq (.blk 7 (.seq (.seq (.drw [o 112 (.mov (.t 3)),o 113 (.mov (.t 0)),o 114 (.mov (.t 12)),o 115 (.iad z (.t 113) (.t 114)),o 116 (.ld g z (.t 115)),o 117 (.mov (.t 0)),o 118 (.mov (.t 12)),o 119 (.bin .sub (.t 118) (.k (.int .i64 1))),o 120 (.iad z (.t 117) (.t 119)),o 121 (.ld g z (.t 120))] [o 122 (.callv (.t 112) [(.t 116),(.t 121)]),o 123 (.bin .lss (.t 122) (.k (.int .i64 0))),o 124 (.un .not (.t 123))]) (.cnd (.t 124) (.ext 6) .skip)) (.drw [o 125 (.mov (.t 0)),o 126 (.mov (.t 12)),o 127 (.mov (.t 0)),o 128 (.mov (.t 12)),o 129 (.bin .sub (.t 128) (.k (.int .i64 1))),o 130 (.mov (.t 0)),o 131 (.mov (.t 12)),o 132 (.bin .sub (.t 131) (.k (.int .i64 1))),o 133 (.iad z (.t 130) (.t 132)),o 134 (.ld g z (.t 133)),o 135 (.mov (.t 0)),o 136 (.mov (.t 12)),o 137 (.iad z (.t 135) (.t 136)),o 138 (.ld g z (.t 137))] [o 139 (.iad z (.t 125) (.t 126)),on (.st z (.t 139) (.t 134)),o 140 (.iad z (.t 127) (.t 129)),on (.st z (.t 140) (.t 138))]))) (.reg [o 110 (.mov (.t 12)),o 111 (.bin .add (.t 110) (.k (.int .i64 1))),o 12 (.mov (.t 111))])))))) .skip)))))))) (.reg [o 17 (.mov (.t 10)),o 18 (.bin .add (.t 17) (.k (.int .i64 1))),o 10 (.mov (.t 18))])))))) (.seq (.reg [o 8 (.mov (.k (.bool false)))]) .ret))))⟩
def G_partialInsertionSort_o (z:Nat) (g:Bool) (q:SN):Fn1:=⟨133,[.t 6],(.seq (.reg [o 6 (.mov (.k (.bool false)))]) (.seq (.reg [o 11 (.mov (.t 1)),o 12 (.bin .add (.t 11) (.k (.int .i64 1))),o 7 (.mov (.t 12))]) (.seq (.seq (.reg [o 8 (.mov (.k (.int .i64 0)))]) (.blk 0 (.lop (.seq (.seq (.reg [o 13 (.mov (.t 8)),o 14 (.bin .lss (.t 13) (.k (.int .i64 5)))]) (.cnd (.t 14) .skip (.ext 0))) (.seq (.blk 1 (.seq (.blk 2 (.lop (.seq (.seq (.drw [o 17 (.mov (.t 7)),o 18 (.mov (.t 2)),o 19 (.bin .lss (.t 17) (.t 18)),o 20 (.mov (.t 19)),og 21 20 true (.mov (.t 0)),og 22 20 true (.mov (.t 7)),og 23 20 true (.iad z (.t 21) (.t 22)),og 24 20 true (.ld g z (.t 23)),og 25 20 true (.mov (.t 0)),og 26 20 true (.mov (.t 7)),og 27 20 true (.bin .sub (.t 26) (.k (.int .i64 1))),og 28 20 true (.iad z (.t 25) (.t 27)),og 29 20 true (.ld g z (.t 28))] [og 30 20 true (.call q.less [(.t 24),(.t 29)]),og 31 20 true (.un .not (.t 30)),o 32 (.pick (.t 20) (.t 31) (.k (.bool false)))]) (.cnd (.t 32) .skip (.ext 2))) (.blk 3 (.reg [o 33 (.mov (.t 7)),o 34 (.bin .add (.t 33) (.k (.int .i64 1))),o 7 (.mov (.t 34))]))))) (.seq (.seq (.reg [o 35 (.mov (.t 7)),o 36 (.mov (.t 2)),o 37 (.bin .eql (.t 35) (.t 36))]) (.cnd (.t 37) (.seq (.reg [o 6 (.mov (.k (.bool true)))]) .ret) .skip)) (.seq (.seq (.reg [o 38 (.mov (.t 2)),o 39 (.mov (.t 1)),o 40 (.bin .sub (.t 38) (.t 39)),o 41 (.bin .lss (.t 40) (.k (.int .i64 50)))]) (.cnd (.t 41) (.seq (.reg [o 6 (.mov (.k (.bool false)))]) .ret) .skip)) (.seq (.drw [o 42 (.mov (.t 0)),o 43 (.mov (.t 7)),o 44 (.mov (.t 0)),o 45 (.mov (.t 7)),o 46 (.bin .sub (.t 45) (.k (.int .i64 1))),o 47 (.mov (.t 0)),o 48 (.mov (.t 7)),o 49 (.bin .sub (.t 48) (.k (.int .i64 1))),o 50 (.iad z (.t 47) (.t 49)),o 51 (.ld g z (.t 50)),o 52 (.mov (.t 0)),o 53 (.mov (.t 7)),o 54 (.iad z (.t 52) (.t 53)),o 55 (.ld g z (.t 54))] [o 56 (.iad z (.t 42) (.t 43)),on (.st z (.t 56) (.t 51)),o 57 (.iad z (.t 44) (.t 46)),on (.st z (.t 57) (.t 55))]) (.seq (.seq (.reg [o 58 (.mov (.t 7)),o 59 (.mov (.t 1)),o 60 (.bin .sub (.t 58) (.t 59)),o 61 (.bin .geq (.t 60) (.k (.int .i64 2)))]) (.cnd (.t 61) (.seq (.reg [o 62 (.mov (.t 7)),o 63 (.bin .sub (.t 62) (.k (.int .i64 1))),o 9 (.mov (.t 63))]) (.blk 4 (.lop (.seq (.seq (.reg [o 64 (.mov (.t 9)),o 65 (.bin .geq (.t 64) (.k (.int .i64 1)))]) (.cnd (.t 65) .skip (.ext 4))) (.seq (.blk 5 (.seq (.seq (.drw [o 68 (.mov (.t 0)),o 69 (.mov (.t 9)),o 70 (.iad z (.t 68) (.t 69)),o 71 (.ld g z (.t 70)),o 72 (.mov (.t 0)),o 73 (.mov (.t 9)),o 74 (.bin .sub (.t 73) (.k (.int .i64 1))),o 75 (.iad z (.t 72) (.t 74)),o 76 (.ld g z (.t 75))] [o 77 (.call q.less [(.t 71),(.t 76)]),o 78 (.un .not (.t 77))]) (.cnd (.t 78) (.ext 4) .skip)) (.drw [o 79 (.mov (.t 0)),o 80 (.mov (.t 9)),o 81 (.mov (.t 0)),o 82 (.mov (.t 9)),o 83 (.bin .sub (.t 82) (.k (.int .i64 1))),o 84 (.mov (.t 0)),o 85 (.mov (.t 9)),o 86 (.bin .sub (.t 85) (.k (.int .i64 1))),o 87 (.iad z (.t 84) (.t 86)),o 88 (.ld g z (.t 87)),o 89 (.mov (.t 0)),o 90 (.mov (.t 9)),o 91 (.iad z (.t 89) (.t 90)),o 92 (.ld g z (.t 91))] [o 93 (.iad z (.t 79) (.t 80)),on (.st z (.t 93) (.t 88)),o 94 (.iad z (.t 81) (.t 83)),on (.st z (.t 94) (.t 92))]))) (.reg [o 66 (.mov (.t 9)),o 67 (.bin .sub (.t 66) (.k (.int .i64 1))),o 9 (.mov (.t 67))])))))) .skip)) (.seq (.reg [o 95 (.mov (.t 2)),o 96 (.mov (.t 7)),o 97 (.bin .sub (.t 95) (.t 96)),o 98 (.bin .geq (.t 97) (.k (.int .i64 2)))]) (.cnd (.t 98) (.seq (.reg [o 99 (.mov (.t 7)),o 100 (.bin .add (.t 99) (.k (.int .i64 1))),o 10 (.mov (.t 100))]) (.blk 6 (.lop (.seq (.seq (.reg [o 101 (.mov (.t 10)),o 102 (.mov (.t 2)),o 103 (.bin .lss (.t 101) (.t 102))]) (.cnd (.t 103) .skip (.ext 6))) (.seq (.blk 7 (.seq (.seq (.drw [o 106 (.mov (.t 0)),o 107 (.mov (.t 10)),o 108 (.iad z (.t 106) (.t 107)),o 109 (.ld g z (.t 108)),o 110 (.mov (.t 0)),o 111 (.mov (.t 10)),o 112 (.bin .sub (.t 111) (.k (.int .i64 1))),o 113 (.iad z (.t 110) (.t 112)),o 114 (.ld g z (.t 113))] [o 115 (.call q.less [(.t 109),(.t 114)]),o 116 (.un .not (.t 115))]) (.cnd (.t 116) (.ext 6) .skip)) (.drw [o 117 (.mov (.t 0)),o 118 (.mov (.t 10)),o 119 (.mov (.t 0)),o 120 (.mov (.t 10)),o 121 (.bin .sub (.t 120) (.k (.int .i64 1))),o 122 (.mov (.t 0)),o 123 (.mov (.t 10)),o 124 (.bin .sub (.t 123) (.k (.int .i64 1))),o 125 (.iad z (.t 122) (.t 124)),o 126 (.ld g z (.t 125)),o 127 (.mov (.t 0)),o 128 (.mov (.t 10)),o 129 (.iad z (.t 127) (.t 128)),o 130 (.ld g z (.t 129))] [o 131 (.iad z (.t 117) (.t 118)),on (.st z (.t 131) (.t 126)),o 132 (.iad z (.t 119) (.t 121)),on (.st z (.t 132) (.t 130))]))) (.reg [o 104 (.mov (.t 10)),o 105 (.bin .add (.t 104) (.k (.int .i64 1))),o 10 (.mov (.t 105))])))))) .skip)))))))) (.reg [o 15 (.mov (.t 8)),o 16 (.bin .add (.t 15) (.k (.int .i64 1))),o 8 (.mov (.t 16))])))))) (.seq (.reg [o 6 (.mov (.k (.bool false)))]) .ret))))⟩
def G_partition_c (z:Nat) (g:Bool) (q:SN):Fn1:=⟨178,[.t 10,.t 11],(.seq (.reg [o 10 (.mov (.k (.int .i64 0))),o 11 (.mov (.k (.bool false)))]) (.seq (.drw [o 14 (.mov (.t 0)),o 15 (.mov (.t 1)),o 16 (.mov (.t 0)),o 17 (.mov (.t 3)),o 18 (.mov (.t 0)),o 19 (.mov (.t 3)),o 20 (.iad z (.t 18) (.t 19)),o 21 (.ld g z (.t 20)),o 22 (.mov (.t 0)),o 23 (.mov (.t 1)),o 24 (.iad z (.t 22) (.t 23)),o 25 (.ld g z (.t 24))] [o 26 (.iad z (.t 14) (.t 15)),on (.st z (.t 26) (.t 21)),o 27 (.iad z (.t 16) (.t 17)),on (.st z (.t 27) (.t 25))]) (.seq (.reg [o 28 (.mov (.t 1)),o 29 (.bin .add (.t 28) (.k (.int .i64 1))),o 30 (.mov (.t 2)),o 31 (.bin .sub (.t 30) (.k (.int .i64 1))),o 12 (.mov (.t 29)),o 13 (.mov (.t 31))]) (.seq (.blk 0 (.lop (.seq (.seq (.drw [o 32 (.mov (.t 12)),o 33 (.mov (.t 13)),o 34 (.bin .leq (.t 32) (.t 33)),o 35 (.mov (.t 34)),og 36 35 true (.mov (.t 4)),og 37 35 true (.mov (.t 0)),og 38 35 true (.mov (.t 12)),og 39 35 true (.iad z (.t 37) (.t 38)),og 40 35 true (.ld g z (.t 39)),og 41 35 true (.mov (.t 0)),og 42 35 true (.mov (.t 1)),og 43 35 true (.iad z (.t 41) (.t 42)),og 44 35 true (.ld g z (.t 43))] [og 45 35 true (.callv (.t 36) [(.t 40),(.t 44)]),og 46 35 true (.bin .lss (.t 45) (.k (.int .i64 0))),o 47 (.pick (.t 35) (.t 46) (.k (.bool false)))]) (.cnd (.t 47) .skip (.ext 0))) (.blk 1 (.reg [o 48 (.mov (.t 12)),o 49 (.bin .add (.t 48) (.k (.int .i64 1))),o 12 (.mov (.t 49))]))))) (.seq (.blk 2 (.lop (.seq (.seq (.drw [o 50 (.mov (.t 12)),o 51 (.mov (.t 13)),o 52 (.bin .leq (.t 50) (.t 51)),o 53 (.mov (.t 52)),og 54 53 true (.mov (.t 4)),og 55 53 true (.mov (.t 0)),og 56 53 true (.mov (.t 13)),og 57 53 true (.iad z (.t 55) (.t 56)),og 58 53 true (.ld g z (.t 57)),og 59 53 true (.mov (.t 0)),og 60 53 true (.mov (.t 1)),og 61 53 true (.iad z (.t 59) (.t 60)),og 62 53 true (.ld g z (.t 61))] [og 63 53 true (.callv (.t 54) [(.t 58),(.t 62)]),og 64 53 true (.bin .lss (.t 63) (.k (.int .i64 0))),og 65 53 true (.un .not (.t 64)),o 66 (.pick (.t 53) (.t 65) (.k (.bool false)))]) (.cnd (.t 66) .skip (.ext 2))) (.blk 3 (.reg [o 67 (.mov (.t 13)),o 68 (.bin .sub (.t 67) (.k (.int .i64 1))),o 13 (.mov (.t 68))]))))) (.seq (.seq (.reg [o 69 (.mov (.t 12)),o 70 (.mov (.t 13)),o 71 (.bin .gtr (.t 69) (.t 70))]) (.cnd (.t 71) (.seq (.drw [o 72 (.mov (.t 0)),o 73 (.mov (.t 13)),o 74 (.mov (.t 0)),o 75 (.mov (.t 1)),o 76 (.mov (.t 0)),o 77 (.mov (.t 1)),o 78 (.iad z (.t 76) (.t 77)),o 79 (.ld g z (.t 78)),o 80 (.mov (.t 0)),o 81 (.mov (.t 13)),o 82 (.iad z (.t 80) (.t 81)),o 83 (.ld g z (.t 82))] [o 84 (.iad z (.t 72) (.t 73)),on (.st z (.t 84) (.t 79)),o 85 (.iad z (.t 74) (.t 75)),on (.st z (.t 85) (.t 83))]) (.seq (.reg [o 86 (.mov (.t 13)),o 10 (.mov (.t 86)),o 11 (.mov (.k (.bool true)))]) .ret)) .skip)) (.seq (.drw [o 87 (.mov (.t 0)),o 88 (.mov (.t 12)),o 89 (.mov (.t 0)),o 90 (.mov (.t 13)),o 91 (.mov (.t 0)),o 92 (.mov (.t 13)),o 93 (.iad z (.t 91) (.t 92)),o 94 (.ld g z (.t 93)),o 95 (.mov (.t 0)),o 96 (.mov (.t 12)),o 97 (.iad z (.t 95) (.t 96)),o 98 (.ld g z (.t 97))] [o 99 (.iad z (.t 87) (.t 88)),on (.st z (.t 99) (.t 94)),o 100 (.iad z (.t 89) (.t 90)),on (.st z (.t 100) (.t 98))]) (.seq (.reg [o 101 (.mov (.t 12)),o 102 (.bin .add (.t 101) (.k (.int .i64 1))),o 12 (.mov (.t 102))]) (.seq (.reg [o 103 (.mov (.t 13)),o 104 (.bin .sub (.t 103) (.k (.int .i64 1))),o 13 (.mov (.t 104))]) (.seq (.blk 4 (.lop (.blk 5 (.seq (.blk 6 (.lop (.seq (.seq (.drw [o 105 (.mov (.t 12)),o 106 (.mov (.t 13)),o 107 (.bin .leq (.t 105) (.t 106)),o 108 (.mov (.t 107)),og 109 108 true (.mov (.t 4)),og 110 108 true (.mov (.t 0)),og 111 108 true (.mov (.t 12)),og 112 108 true (.iad z (.t 110) (.t 111)),og 113 108 true (.ld g z (.t 112)),og 114 108 true (.mov (.t 0)),og 115 108 true (.mov (.t 1)),og 116 108 true (.iad z (.t 114) (.t 115)),og 117 108 true (.ld g z (.t 116))] [og 118 108 true (.callv (.t 109) [(.t 113),(.t 117)]),og 119 108 true (.bin .lss (.t 118) (.k (.int .i64 0))),o 120 (.pick (.t 108) (.t 119) (.k (.bool false)))]) (.cnd (.t 120) .skip (.ext 6))) (.blk 7 (.reg [o 121 (.mov (.t 12)),o 122 (.bin .add (.t 121) (.k (.int .i64 1))),o 12 (.mov (.t 122))]))))) (.seq (.blk 8 (.lop (.seq (.seq (.drw [o 123 (.mov (.t 12)),o 124 (.mov (.t 13)),o 125 (.bin .leq (.t 123) (.t 124)),o 126 (.mov (.t 125)),og 127 126 true (.mov (.t 4)),og 128 126 true (.mov (.t 0)),og 129 126 true (.mov (.t 13)),og 130 126 true (.iad z (.t 128) (.t 129)),og 131 126 true (.ld g z (.t 130)),og 132 126 true (.mov (.t 0)),og 133 126 true (.mov (.t 1)),og 134 126 true (.iad z (.t 132) (.t 133)),og 135 126 true (.ld g z (.t 134))] [og 136 126 true (.callv (.t 127) [(.t 131),(.t 135)]),og 137 126 true (.bin .lss (.t 136) (.k (.int .i64 0))),og 138 126 true (.un .not (.t 137)),o 139 (.pick (.t 126) (.t 138) (.k (.bool false)))]) (.cnd (.t 139) .skip (.ext 8))) (.blk 9 (.reg [o 140 (.mov (.t 13)),o 141 (.bin .sub (.t 140) (.k (.int .i64 1))),o 13 (.mov (.t 141))]))))) (.seq (.seq (.reg [o 142 (.mov (.t 12)),o 143 (.mov (.t 13)),o 144 (.bin .gtr (.t 142) (.t 143))]) (.cnd (.t 144) (.ext 4) .skip)) (.seq (.drw [o 145 (.mov (.t 0)),o 146 (.mov (.t 12)),o 147 (.mov (.t 0)),o 148 (.mov (.t 13)),o 149 (.mov (.t 0)),o 150 (.mov (.t 13)),o 151 (.iad z (.t 149) (.t 150)),o 152 (.ld g z (.t 151)),o 153 (.mov (.t 0)),o 154 (.mov (.t 12)),o 155 (.iad z (.t 153) (.t 154)),o 156 (.ld g z (.t 155))] [o 157 (.iad z (.t 145) (.t 146)),on (.st z (.t 157) (.t 152)),o 158 (.iad z (.t 147) (.t 148)),on (.st z (.t 158) (.t 156))]) (.seq (.reg [o 159 (.mov (.t 12)),o 160 (.bin .add (.t 159) (.k (.int .i64 1))),o 12 (.mov (.t 160))]) (.reg [o 161 (.mov (.t 13)),o 162 (.bin .sub (.t 161) (.k (.int .i64 1))),o 13 (.mov (.t 162))]))))))))) (.seq (.drw [o 163 (.mov (.t 0)),o 164 (.mov (.t 13)),o 165 (.mov (.t 0)),o 166 (.mov (.t 1)),o 167 (.mov (.t 0)),o 168 (.mov (.t 1)),o 169 (.iad z (.t 167) (.t 168)),o 170 (.ld g z (.t 169)),o 171 (.mov (.t 0)),o 172 (.mov (.t 13)),o 173 (.iad z (.t 171) (.t 172)),o 174 (.ld g z (.t 173))] [o 175 (.iad z (.t 163) (.t 164)),on (.st z (.t 175) (.t 170)),o 176 (.iad z (.t 165) (.t 166)),on (.st z (.t 176) (.t 174))]) (.seq (.reg [o 177 (.mov (.t 13)),o 10 (.mov (.t 177)),o 11 (.mov (.k (.bool false)))]) .ret))))))))))))⟩
def G_partition_o (z:Nat) (g:Bool) (q:SN):Fn1:=⟨168,[.t 8,.t 9],(.seq (.reg [o 8 (.mov (.k (.int .i64 0))),o 9 (.mov (.k (.bool false)))]) (.seq (.drw [o 12 (.mov (.t 0)),o 13 (.mov (.t 1)),o 14 (.mov (.t 0)),o 15 (.mov (.t 3)),o 16 (.mov (.t 0)),o 17 (.mov (.t 3)),o 18 (.iad z (.t 16) (.t 17)),o 19 (.ld g z (.t 18)),o 20 (.mov (.t 0)),o 21 (.mov (.t 1)),o 22 (.iad z (.t 20) (.t 21)),o 23 (.ld g z (.t 22))] [o 24 (.iad z (.t 12) (.t 13)),on (.st z (.t 24) (.t 19)),o 25 (.iad z (.t 14) (.t 15)),on (.st z (.t 25) (.t 23))]) (.seq (.reg [o 26 (.mov (.t 1)),o 27 (.bin .add (.t 26) (.k (.int .i64 1))),o 28 (.mov (.t 2)),o 29 (.bin .sub (.t 28) (.k (.int .i64 1))),o 10 (.mov (.t 27)),o 11 (.mov (.t 29))]) (.seq (.blk 0 (.lop (.seq (.seq (.drw [o 30 (.mov (.t 10)),o 31 (.mov (.t 11)),o 32 (.bin .leq (.t 30) (.t 31)),o 33 (.mov (.t 32)),og 34 33 true (.mov (.t 0)),og 35 33 true (.mov (.t 10)),og 36 33 true (.iad z (.t 34) (.t 35)),og 37 33 true (.ld g z (.t 36)),og 38 33 true (.mov (.t 0)),og 39 33 true (.mov (.t 1)),og 40 33 true (.iad z (.t 38) (.t 39)),og 41 33 true (.ld g z (.t 40))] [og 42 33 true (.call q.less [(.t 37),(.t 41)]),o 43 (.pick (.t 33) (.t 42) (.k (.bool false)))]) (.cnd (.t 43) .skip (.ext 0))) (.blk 1 (.reg [o 44 (.mov (.t 10)),o 45 (.bin .add (.t 44) (.k (.int .i64 1))),o 10 (.mov (.t 45))]))))) (.seq (.blk 2 (.lop (.seq (.seq (.drw [o 46 (.mov (.t 10)),o 47 (.mov (.t 11)),o 48 (.bin .leq (.t 46) (.t 47)),o 49 (.mov (.t 48)),og 50 49 true (.mov (.t 0)),og 51 49 true (.mov (.t 11)),og 52 49 true (.iad z (.t 50) (.t 51)),og 53 49 true (.ld g z (.t 52)),og 54 49 true (.mov (.t 0)),og 55 49 true (.mov (.t 1)),og 56 49 true (.iad z (.t 54) (.t 55)),og 57 49 true (.ld g z (.t 56))] [og 58 49 true (.call q.less [(.t 53),(.t 57)]),og 59 49 true (.un .not (.t 58)),o 60 (.pick (.t 49) (.t 59) (.k (.bool false)))]) (.cnd (.t 60) .skip (.ext 2))) (.blk 3 (.reg [o 61 (.mov (.t 11)),o 62 (.bin .sub (.t 61) (.k (.int .i64 1))),o 11 (.mov (.t 62))]))))) (.seq (.seq (.reg [o 63 (.mov (.t 10)),o 64 (.mov (.t 11)),o 65 (.bin .gtr (.t 63) (.t 64))]) (.cnd (.t 65) (.seq (.drw [o 66 (.mov (.t 0)),o 67 (.mov (.t 11)),o 68 (.mov (.t 0)),o 69 (.mov (.t 1)),o 70 (.mov (.t 0)),o 71 (.mov (.t 1)),o 72 (.iad z (.t 70) (.t 71)),o 73 (.ld g z (.t 72)),o 74 (.mov (.t 0)),o 75 (.mov (.t 11)),o 76 (.iad z (.t 74) (.t 75)),o 77 (.ld g z (.t 76))] [o 78 (.iad z (.t 66) (.t 67)),on (.st z (.t 78) (.t 73)),o 79 (.iad z (.t 68) (.t 69)),on (.st z (.t 79) (.t 77))]) (.seq (.reg [o 80 (.mov (.t 11)),o 8 (.mov (.t 80)),o 9 (.mov (.k (.bool true)))]) .ret)) .skip)) (.seq (.drw [o 81 (.mov (.t 0)),o 82 (.mov (.t 10)),o 83 (.mov (.t 0)),o 84 (.mov (.t 11)),o 85 (.mov (.t 0)),o 86 (.mov (.t 11)),o 87 (.iad z (.t 85) (.t 86)),o 88 (.ld g z (.t 87)),o 89 (.mov (.t 0)),o 90 (.mov (.t 10)),o 91 (.iad z (.t 89) (.t 90)),o 92 (.ld g z (.t 91))] [o 93 (.iad z (.t 81) (.t 82)),on (.st z (.t 93) (.t 88)),o 94 (.iad z (.t 83) (.t 84)),on (.st z (.t 94) (.t 92))]) (.seq (.reg [o 95 (.mov (.t 10)),o 96 (.bin .add (.t 95) (.k (.int .i64 1))),o 10 (.mov (.t 96))]) (.seq (.reg [o 97 (.mov (.t 11)),o 98 (.bin .sub (.t 97) (.k (.int .i64 1))),o 11 (.mov (.t 98))]) (.seq (.blk 4 (.lop (.blk 5 (.seq (.blk 6 (.lop (.seq (.seq (.drw [o 99 (.mov (.t 10)),o 100 (.mov (.t 11)),o 101 (.bin .leq (.t 99) (.t 100)),o 102 (.mov (.t 101)),og 103 102 true (.mov (.t 0)),og 104 102 true (.mov (.t 10)),og 105 102 true (.iad z (.t 103) (.t 104)),og 106 102 true (.ld g z (.t 105)),og 107 102 true (.mov (.t 0)),og 108 102 true (.mov (.t 1)),og 109 102 true (.iad z (.t 107) (.t 108)),og 110 102 true (.ld g z (.t 109))] [og 111 102 true (.call q.less [(.t 106),(.t 110)]),o 112 (.pick (.t 102) (.t 111) (.k (.bool false)))]) (.cnd (.t 112) .skip (.ext 6))) (.blk 7 (.reg [o 113 (.mov (.t 10)),o 114 (.bin .add (.t 113) (.k (.int .i64 1))),o 10 (.mov (.t 114))]))))) (.seq (.blk 8 (.lop (.seq (.seq (.drw [o 115 (.mov (.t 10)),o 116 (.mov (.t 11)),o 117 (.bin .leq (.t 115) (.t 116)),o 118 (.mov (.t 117)),og 119 118 true (.mov (.t 0)),og 120 118 true (.mov (.t 11)),og 121 118 true (.iad z (.t 119) (.t 120)),og 122 118 true (.ld g z (.t 121)),og 123 118 true (.mov (.t 0)),og 124 118 true (.mov (.t 1)),og 125 118 true (.iad z (.t 123) (.t 124)),og 126 118 true (.ld g z (.t 125))] [og 127 118 true (.call q.less [(.t 122),(.t 126)]),og 128 118 true (.un .not (.t 127)),o 129 (.pick (.t 118) (.t 128) (.k (.bool false)))]) (.cnd (.t 129) .skip (.ext 8))) (.blk 9 (.reg [o 130 (.mov (.t 11)),o 131 (.bin .sub (.t 130) (.k (.int .i64 1))),o 11 (.mov (.t 131))]))))) (.seq (.seq (.reg [o 132 (.mov (.t 10)),o 133 (.mov (.t 11)),o 134 (.bin .gtr (.t 132) (.t 133))]) (.cnd (.t 134) (.ext 4) .skip)) (.seq (.drw [o 135 (.mov (.t 0)),o 136 (.mov (.t 10)),o 137 (.mov (.t 0)),o 138 (.mov (.t 11)),o 139 (.mov (.t 0)),o 140 (.mov (.t 11)),o 141 (.iad z (.t 139) (.t 140)),o 142 (.ld g z (.t 141)),o 143 (.mov (.t 0)),o 144 (.mov (.t 10)),o 145 (.iad z (.t 143) (.t 144)),o 146 (.ld g z (.t 145))] [o 147 (.iad z (.t 135) (.t 136)),on (.st z (.t 147) (.t 142)),o 148 (.iad z (.t 137) (.t 138)),on (.st z (.t 148) (.t 146))]) (.seq (.reg [o 149 (.mov (.t 10)),o 150 (.bin .add (.t 149) (.k (.int .i64 1))),o 10 (.mov (.t 150))]) (.reg [o 151 (.mov (.t 11)),o 152 (.bin .sub (.t 151) (.k (.int .i64 1))),o 11 (.mov (.t 152))]))))))))) (.seq (.drw [o 153 (.mov (.t 0)),o 154 (.mov (.t 11)),o 155 (.mov (.t 0)),o 156 (.mov (.t 1)),o 157 (.mov (.t 0)),o 158 (.mov (.t 1)),o 159 (.iad z (.t 157) (.t 158)),o 160 (.ld g z (.t 159)),o 161 (.mov (.t 0)),o 162 (.mov (.t 11)),o 163 (.iad z (.t 161) (.t 162)),o 164 (.ld g z (.t 163))] [o 165 (.iad z (.t 153) (.t 154)),on (.st z (.t 165) (.t 160)),o 166 (.iad z (.t 155) (.t 156)),on (.st z (.t 166) (.t 164))]) (.seq (.reg [o 167 (.mov (.t 11)),o 8 (.mov (.t 167)),o 9 (.mov (.k (.bool false)))]) .ret))))))))))))⟩
def G_partitionEqual_c (z:Nat) (g:Bool) (q:SN):Fn1:=⟨90,[.t 10],(.seq (.reg [o 10 (.mov (.k (.int .i64 0)))]) (.seq (.drw [o 13 (.mov (.t 0)),o 14 (.mov (.t 1)),o 15 (.mov (.t 0)),o 16 (.mov (.t 3)),o 17 (.mov (.t 0)),o 18 (.mov (.t 3)),o 19 (.iad z (.t 17) (.t 18)),o 20 (.ld g z (.t 19)),o 21 (.mov (.t 0)),o 22 (.mov (.t 1)),o 23 (.iad z (.t 21) (.t 22)),o 24 (.ld g z (.t 23))] [o 25 (.iad z (.t 13) (.t 14)),on (.st z (.t 25) (.t 20)),o 26 (.iad z (.t 15) (.t 16)),on (.st z (.t 26) (.t 24))]) (.seq (.reg [o 27 (.mov (.t 1)),o 28 (.bin .add (.t 27) (.k (.int .i64 1))),o 29 (.mov (.t 2)),o 30 (.bin .sub (.t 29) (.k (.int .i64 1))),o 11 (.mov (.t 28)),o 12 (.mov (.t 30))]) (.seq (.blk 0 (.lop (.blk 1 (.seq (.blk 2 (.lop (.seq (.seq (.drw [o 31 (.mov (.t 11)),o 32 (.mov (.t 12)),o 33 (.bin .leq (.t 31) (.t 32)),o 34 (.mov (.t 33)),og 35 34 true (.mov (.t 4)),og 36 34 true (.mov (.t 0)),og 37 34 true (.mov (.t 1)),og 38 34 true (.iad z (.t 36) (.t 37)),og 39 34 true (.ld g z (.t 38)),og 40 34 true (.mov (.t 0)),og 41 34 true (.mov (.t 11)),og 42 34 true (.iad z (.t 40) (.t 41)),og 43 34 true (.ld g z (.t 42))] [og 44 34 true (.callv (.t 35) [(.t 39),(.t 43)]),og 45 34 true (.bin .lss (.t 44) (.k (.int .i64 0))),og 46 34 true (.un .not (.t 45)),o 47 (.pick (.t 34) (.t 46) (.k (.bool false)))]) (.cnd (.t 47) .skip (.ext 2))) (.blk 3 (.reg [o 48 (.mov (.t 11)),o 49 (.bin .add (.t 48) (.k (.int .i64 1))),o 11 (.mov (.t 49))]))))) (.seq (.blk 4 (.lop (.seq (.seq (.drw [o 50 (.mov (.t 11)),o 51 (.mov (.t 12)),o 52 (.bin .leq (.t 50) (.t 51)),o 53 (.mov (.t 52)),og 54 53 true (.mov (.t 4)),og 55 53 true (.mov (.t 0)),og 56 53 true (.mov (.t 1)),og 57 53 true (.iad z (.t 55) (.t 56)),og 58 53 true (.ld g z (.t 57)),og 59 53 true (.mov (.t 0)),og 60 53 true (.mov (.t 12)),og 61 53 true (.iad z (.t 59) (.t 60)),og 62 53 true (.ld g z (.t 61))] [og 63 53 true (.callv (.t 54) [(.t 58),(.t 62)]),og 64 53 true (.bin .lss (.t 63) (.k (.int .i64 0))),o 65 (.pick (.t 53) (.t 64) (.k (.bool false)))]) (.cnd (.t 65) .skip (.ext 4))) (.blk 5 (.reg [o 66 (.mov (.t 12)),o 67 (.bin .sub (.t 66) (.k (.int .i64 1))),o 12 (.mov (.t 67))]))))) (.seq (.seq (.reg [o 68 (.mov (.t 11)),o 69 (.mov (.t 12)),o 70 (.bin .gtr (.t 68) (.t 69))]) (.cnd (.t 70) (.ext 0) .skip)) (.seq (.drw [o 71 (.mov (.t 0)),o 72 (.mov (.t 11)),o 73 (.mov (.t 0)),o 74 (.mov (.t 12)),o 75 (.mov (.t 0)),o 76 (.mov (.t 12)),o 77 (.iad z (.t 75) (.t 76)),o 78 (.ld g z (.t 77)),o 79 (.mov (.t 0)),o 80 (.mov (.t 11)),o 81 (.iad z (.t 79) (.t 80)),o 82 (.ld g z (.t 81))] [o 83 (.iad z (.t 71) (.t 72)),on (.st z (.t 83) (.t 78)),o 84 (.iad z (.t 73) (.t 74)),on (.st z (.t 84) (.t 82))]) (.seq (.reg [o 85 (.mov (.t 11)),o 86 (.bin .add (.t 85) (.k (.int .i64 1))),o 11 (.mov (.t 86))]) (.reg [o 87 (.mov (.t 12)),o 88 (.bin .sub (.t 87) (.k (.int .i64 1))),o 12 (.mov (.t 88))]))))))))) (.seq (.reg [o 89 (.mov (.t 11)),o 10 (.mov (.t 89))]) .ret)))))⟩
def G_partitionEqual_o (z:Nat) (g:Bool) (q:SN):Fn1:=⟨84,[.t 8],(.seq (.reg [o 8 (.mov (.k (.int .i64 0)))]) (.seq (.drw [o 11 (.mov (.t 0)),o 12 (.mov (.t 1)),o 13 (.mov (.t 0)),o 14 (.mov (.t 3)),o 15 (.mov (.t 0)),o 16 (.mov (.t 3)),o 17 (.iad z (.t 15) (.t 16)),o 18 (.ld g z (.t 17)),o 19 (.mov (.t 0)),o 20 (.mov (.t 1)),o 21 (.iad z (.t 19) (.t 20)),o 22 (.ld g z (.t 21))] [o 23 (.iad z (.t 11) (.t 12)),on (.st z (.t 23) (.t 18)),o 24 (.iad z (.t 13) (.t 14)),on (.st z (.t 24) (.t 22))]) (.seq (.reg [o 25 (.mov (.t 1)),o 26 (.bin .add (.t 25) (.k (.int .i64 1))),o 27 (.mov (.t 2)),o 28 (.bin .sub (.t 27) (.k (.int .i64 1))),o 9 (.mov (.t 26)),o 10 (.mov (.t 28))]) (.seq (.blk 0 (.lop (.blk 1 (.seq (.blk 2 (.lop (.seq (.seq (.drw [o 29 (.mov (.t 9)),o 30 (.mov (.t 10)),o 31 (.bin .leq (.t 29) (.t 30)),o 32 (.mov (.t 31)),og 33 32 true (.mov (.t 0)),og 34 32 true (.mov (.t 1)),og 35 32 true (.iad z (.t 33) (.t 34)),og 36 32 true (.ld g z (.t 35)),og 37 32 true (.mov (.t 0)),og 38 32 true (.mov (.t 9)),og 39 32 true (.iad z (.t 37) (.t 38)),og 40 32 true (.ld g z (.t 39))] [og 41 32 true (.call q.less [(.t 36),(.t 40)]),og 42 32 true (.un .not (.t 41)),o 43 (.pick (.t 32) (.t 42) (.k (.bool false)))]) (.cnd (.t 43) .skip (.ext 2))) (.blk 3 (.reg [o 44 (.mov (.t 9)),o 45 (.bin .add (.t 44) (.k (.int .i64 1))),o 9 (.mov (.t 45))]))))) (.seq (.blk 4 (.lop (.seq (.seq (.drw [o 46 (.mov (.t 9)),o 47 (.mov (.t 10)),o 48 (.bin .leq (.t 46) (.t 47)),o 49 (.mov (.t 48)),og 50 49 true (.mov (.t 0)),og 51 49 true (.mov (.t 1)),og 52 49 true (.iad z (.t 50) (.t 51)),og 53 49 true (.ld g z (.t 52)),og 54 49 true (.mov (.t 0)),og 55 49 true (.mov (.t 10)),og 56 49 true (.iad z (.t 54) (.t 55)),og 57 49 true (.ld g z (.t 56))] [og 58 49 true (.call q.less [(.t 53),(.t 57)]),o 59 (.pick (.t 49) (.t 58) (.k (.bool false)))]) (.cnd (.t 59) .skip (.ext 4))) (.blk 5 (.reg [o 60 (.mov (.t 10)),o 61 (.bin .sub (.t 60) (.k (.int .i64 1))),o 10 (.mov (.t 61))]))))) (.seq (.seq (.reg [o 62 (.mov (.t 9)),o 63 (.mov (.t 10)),o 64 (.bin .gtr (.t 62) (.t 63))]) (.cnd (.t 64) (.ext 0) .skip)) (.seq (.drw [o 65 (.mov (.t 0)),o 66 (.mov (.t 9)),o 67 (.mov (.t 0)),o 68 (.mov (.t 10)),o 69 (.mov (.t 0)),o 70 (.mov (.t 10)),o 71 (.iad z (.t 69) (.t 70)),o 72 (.ld g z (.t 71)),o 73 (.mov (.t 0)),o 74 (.mov (.t 9)),o 75 (.iad z (.t 73) (.t 74)),o 76 (.ld g z (.t 75))] [o 77 (.iad z (.t 65) (.t 66)),on (.st z (.t 77) (.t 72)),o 78 (.iad z (.t 67) (.t 68)),on (.st z (.t 78) (.t 76))]) (.seq (.reg [o 79 (.mov (.t 9)),o 80 (.bin .add (.t 79) (.k (.int .i64 1))),o 9 (.mov (.t 80))]) (.reg [o 81 (.mov (.t 10)),o 82 (.bin .sub (.t 81) (.k (.int .i64 1))),o 10 (.mov (.t 82))]))))))))) (.seq (.reg [o 83 (.mov (.t 9)),o 8 (.mov (.t 83))]) .ret)))))⟩
def G_pdqsort_c (z:Nat) (g:Bool) (q:SN):Fn1:=⟨148,[],(.seq (.reg [o 10 (.mov (.k (.bool true)))]) (.seq (.reg [o 11 (.mov (.k (.bool true)))]) (.blk 0 (.lop (.blk 1 (.seq (.reg [o 21 (.mov (.t 2)),o 22 (.mov (.t 1)),o 23 (.bin .sub (.t 21) (.t 22)),o 12 (.mov (.t 23))]) (.seq (.seq (.reg [o 24 (.mov (.t 12)),o 25 (.bin .leq (.t 24) (.k (.int .i64 12)))]) (.cnd (.t 25) (.seq (.reg [o 26 (.mov (.t 0)),o 27 (.mov (.t 1)),o 28 (.mov (.t 2)),o 29 (.mov (.t 4)),o 30 (.call q.insertionSort [(.t 26),(.t 27),(.t 28),(.t 29)])]) .ret) .skip)) (.seq (.seq (.reg [o 31 (.mov (.t 3)),o 32 (.bin .eql (.t 31) (.k (.int .i64 0)))]) (.cnd (.t 32) (.seq (.reg [o 33 (.mov (.t 0)),o 34 (.mov (.t 1)),o 35 (.mov (.t 2)),o 36 (.mov (.t 4)),o 37 (.call q.heapSort [(.t 33),(.t 34),(.t 35),(.t 36)])]) .ret) .skip)) (.seq (.seq (.reg [o 38 (.mov (.t 10)),o 39 (.un .not (.t 38))]) (.cnd (.t 39) (.seq (.reg [o 40 (.mov (.t 0)),o 41 (.mov (.t 1)),o 42 (.mov (.t 2)),o 43 (.mov (.t 4)),o 44 (.call q.breakPatterns [(.t 40),(.t 41),(.t 42),(.t 43)])]) (.reg [o 45 (.mov (.t 3)),o 46 (.bin .sub (.t 45) (.k (.int .i64 1))),o 3 (.mov (.t 46))])) .skip)) (.seq (.reg [o 48 (.mov (.t 0)),o 49 (.mov (.t 1)),o 50 (.mov (.t 2)),o 51 (.mov (.t 4)),o 52 (.call q.choosePivot [(.t 48),(.t 49),(.t 50),(.t 51)]),o 47 (.mov (.t 52)),o 53 (.ext 0 (.t 47)),o 54 (.ext 1 (.t 47)),o 13 (.mov (.t 53)),o 14 (.mov (.t 54))]) (.seq (.seq (.reg [o 55 (.mov (.t 14)),o 56 (.bin .eql (.t 55) (.k (.int .i64 2)))]) (.cnd (.t 56) (.seq (.reg [o 57 (.mov (.t 0)),o 58 (.mov (.t 1)),o 59 (.mov (.t 2)),o 60 (.mov (.t 4)),o 61 (.call q.reverseRange [(.t 57),(.t 58),(.t 59),(.t 60)])]) (.seq (.reg [o 62 (.mov (.t 2)),o 63 (.bin .sub (.t 62) (.k (.int .i64 1))),o 64 (.mov (.t 13)),o 65 (.mov (.t 1)),o 66 (.bin .sub (.t 64) (.t 65)),o 67 (.bin .sub (.t 63) (.t 66)),o 13 (.mov (.t 67))]) (.reg [o 14 (.mov (.k (.int .i64 1)))]))) .skip)) (.seq (.seq (.reg [o 68 (.mov (.t 10)),o 69 (.mov (.t 68)),og 70 69 true (.mov (.t 11)),o 71 (.pick (.t 69) (.t 70) (.k (.bool false))),o 72 (.mov (.t 71)),og 73 72 true (.mov (.t 14)),og 74 72 true (.bin .eql (.t 73) (.k (.int .i64 1))),o 75 (.pick (.t 72) (.t 74) (.k (.bool false)))]) (.cnd (.t 75) (.seq (.reg [o 76 (.mov (.t 0)),o 77 (.mov (.t 1)),o 78 (.mov (.t 2)),o 79 (.mov (.t 4)),o 80 (.call q.partialInsertionSort [(.t 76),(.t 77),(.t 78),(.t 79)])]) (.cnd (.t 80) .ret .skip)) .skip)) (.seq (.seq (.drw [o 81 (.mov (.t 1)),o 82 (.bin .gtr (.t 81) (.k (.int .i64 0))),o 83 (.mov (.t 82)),og 84 83 true (.mov (.t 4)),og 85 83 true (.mov (.t 0)),og 86 83 true (.mov (.t 1)),og 87 83 true (.bin .sub (.t 86) (.k (.int .i64 1))),og 88 83 true (.iad z (.t 85) (.t 87)),og 89 83 true (.ld g z (.t 88)),og 90 83 true (.mov (.t 0)),og 91 83 true (.mov (.t 13)),og 92 83 true (.iad z (.t 90) (.t 91)),og 93 83 true (.ld g z (.t 92))] [og 94 83 true (.callv (.t 84) [(.t 89),(.t 93)]),og 95 83 true (.bin .lss (.t 94) (.k (.int .i64 0))),og 96 83 true (.un .not (.t 95)),o 97 (.pick (.t 83) (.t 96) (.k (.bool false)))]) (.cnd (.t 97) (.seq (.reg [o 98 (.mov (.t 0)),o 99 (.mov (.t 1)),o 100 (.mov (.t 2)),o 101 (.mov (.t 13)),o 102 (.mov (.t 4)),o 103 (.call q.partitionEqual [(.t 98),(.t 99),(.t 100),(.t 101),(.t 102)]),o 15 (.mov (.t 103))]) (.seq (.reg [o 104 (.mov (.t 15)),o 1 (.mov (.t 104))]) (.ext 1))) .skip)) (.seq (.reg [o 106 (.mov (.t 0)),o 107 (.mov (.t 1)),o 108 (.mov (.t 2)),o 109 (.mov (.t 13)),o 110 (.mov (.t 4)),o 111 (.call q.partition [(.t 106),(.t 107),(.t 108),(.t 109),(.t 110)]),o 105 (.mov (.t 111)),o 112 (.ext 0 (.t 105)),o 113 (.ext 1 (.t 105)),o 16 (.mov (.t 112)),o 17 (.mov (.t 113))]) (.seq (.reg [o 114 (.mov (.t 17)),o 11 (.mov (.t 114))]) (.seq (.reg [o 115 (.mov (.t 16)),o 116 (.mov (.t 1)),o 117 (.bin .sub (.t 115) (.t 116)),o 118 (.mov (.t 2)),o 119 (.mov (.t 16)),o 120 (.bin .sub (.t 118) (.t 119)),o 18 (.mov (.t 117)),o 19 (.mov (.t 120))]) (.seq (.reg [o 121 (.mov (.t 12)),o 122 (.bin .quo (.t 121) (.k (.int .i64 8))),o 20 (.mov (.t 122))]) (.seq (.reg [o 123 (.mov (.t 18)),o 124 (.mov (.t 19)),o 125 (.bin .lss (.t 123) (.t 124))]) (.cnd (.t 125) (.seq (.reg [o 126 (.mov (.t 18)),o 127 (.mov (.t 20)),o 128 (.bin .geq (.t 126) (.t 127)),o 10 (.mov (.t 128))]) (.seq (.reg [o 129 (.mov (.t 0)),o 130 (.mov (.t 1)),o 131 (.mov (.t 16)),o 132 (.mov (.t 3)),o 133 (.mov (.t 4)),o 134 (.call q.pdqsort [(.t 129),(.t 130),(.t 131),(.t 132),(.t 133)])]) (.reg [o 135 (.mov (.t 16)),o 136 (.bin .add (.t 135) (.k (.int .i64 1))),o 1 (.mov (.t 136))]))) (.seq (.reg [o 137 (.mov (.t 19)),o 138 (.mov (.t 20)),o 139 (.bin .geq (.t 137) (.t 138)),o 10 (.mov (.t 139))]) (.seq (.reg [o 140 (.mov (.t 0)),o 141 (.mov (.t 16)),o 142 (.bin .add (.t 141) (.k (.int .i64 1))),o 143 (.mov (.t 2)),o 144 (.mov (.t 3)),o 145 (.mov (.t 4)),o 146 (.call q.pdqsort [(.t 140),(.t 142),(.t 143),(.t 144),(.t 145)])]) (.reg [o 147 (.mov (.t 16)),o 2 (.mov (.t 147))]))))))))))))))))))))))⟩
def G_pdqsort_o (z:Nat) (g:Bool) (q:SN):Fn1:=⟨134,[],(.seq (.reg [o 8 (.mov (.k (.bool true)))]) (.seq (.reg [o 9 (.mov (.k (.bool true)))]) (.blk 0 (.lop (.blk 1 (.seq (.reg [o 19 (.mov (.t 2)),o 20 (.mov (.t 1)),o 21 (.bin .sub (.t 19) (.t 20)),o 10 (.mov (.t 21))]) (.seq (.seq (.reg [o 22 (.mov (.t 10)),o 23 (.bin .leq (.t 22) (.k (.int .i64 12)))]) (.cnd (.t 23) (.seq (.reg [o 24 (.mov (.t 0)),o 25 (.mov (.t 1)),o 26 (.mov (.t 2)),o 27 (.call q.insertionSort [(.t 24),(.t 25),(.t 26)])]) .ret) .skip)) (.seq (.seq (.reg [o 28 (.mov (.t 3)),o 29 (.bin .eql (.t 28) (.k (.int .i64 0)))]) (.cnd (.t 29) (.seq (.reg [o 30 (.mov (.t 0)),o 31 (.mov (.t 1)),o 32 (.mov (.t 2)),o 33 (.call q.heapSort [(.t 30),(.t 31),(.t 32)])]) .ret) .skip)) (.seq (.seq (.reg [o 34 (.mov (.t 8)),o 35 (.un .not (.t 34))]) (.cnd (.t 35) (.seq (.reg [o 36 (.mov (.t 0)),o 37 (.mov (.t 1)),o 38 (.mov (.t 2)),o 39 (.call q.breakPatterns [(.t 36),(.t 37),(.t 38)])]) (.reg [o 40 (.mov (.t 3)),o 41 (.bin .sub (.t 40) (.k (.int .i64 1))),o 3 (.mov (.t 41))])) .skip)) (.seq (.reg [o 43 (.mov (.t 0)),o 44 (.mov (.t 1)),o 45 (.mov (.t 2)),o 46 (.call q.choosePivot [(.t 43),(.t 44),(.t 45)]),o 42 (.mov (.t 46)),o 47 (.ext 0 (.t 42)),o 48 (.ext 1 (.t 42)),o 11 (.mov (.t 47)),o 12 (.mov (.t 48))]) (.seq (.seq (.reg [o 49 (.mov (.t 12)),o 50 (.bin .eql (.t 49) (.k (.int .i64 2)))]) (.cnd (.t 50) (.seq (.reg [o 51 (.mov (.t 0)),o 52 (.mov (.t 1)),o 53 (.mov (.t 2)),o 54 (.call q.reverseRange [(.t 51),(.t 52),(.t 53)])]) (.seq (.reg [o 55 (.mov (.t 2)),o 56 (.bin .sub (.t 55) (.k (.int .i64 1))),o 57 (.mov (.t 11)),o 58 (.mov (.t 1)),o 59 (.bin .sub (.t 57) (.t 58)),o 60 (.bin .sub (.t 56) (.t 59)),o 11 (.mov (.t 60))]) (.reg [o 12 (.mov (.k (.int .i64 1)))]))) .skip)) (.seq (.seq (.reg [o 61 (.mov (.t 8)),o 62 (.mov (.t 61)),og 63 62 true (.mov (.t 9)),o 64 (.pick (.t 62) (.t 63) (.k (.bool false))),o 65 (.mov (.t 64)),og 66 65 true (.mov (.t 12)),og 67 65 true (.bin .eql (.t 66) (.k (.int .i64 1))),o 68 (.pick (.t 65) (.t 67) (.k (.bool false)))]) (.cnd (.t 68) (.seq (.reg [o 69 (.mov (.t 0)),o 70 (.mov (.t 1)),o 71 (.mov (.t 2)),o 72 (.call q.partialInsertionSort [(.t 69),(.t 70),(.t 71)])]) (.cnd (.t 72) .ret .skip)) .skip)) (.seq (.seq (.drw [o 73 (.mov (.t 1)),o 74 (.bin .gtr (.t 73) (.k (.int .i64 0))),o 75 (.mov (.t 74)),og 76 75 true (.mov (.t 0)),og 77 75 true (.mov (.t 1)),og 78 75 true (.bin .sub (.t 77) (.k (.int .i64 1))),og 79 75 true (.iad z (.t 76) (.t 78)),og 80 75 true (.ld g z (.t 79)),og 81 75 true (.mov (.t 0)),og 82 75 true (.mov (.t 11)),og 83 75 true (.iad z (.t 81) (.t 82)),og 84 75 true (.ld g z (.t 83))] [og 85 75 true (.call q.less [(.t 80),(.t 84)]),og 86 75 true (.un .not (.t 85)),o 87 (.pick (.t 75) (.t 86) (.k (.bool false)))]) (.cnd (.t 87) (.seq (.reg [o 88 (.mov (.t 0)),o 89 (.mov (.t 1)),o 90 (.mov (.t 2)),o 91 (.mov (.t 11)),o 92 (.call q.partitionEqual [(.t 88),(.t 89),(.t 90),(.t 91)]),o 13 (.mov (.t 92))]) (.seq (.reg [o 93 (.mov (.t 13)),o 1 (.mov (.t 93))]) (.ext 1))) .skip)) (.seq (.reg [o 95 (.mov (.t 0)),o 96 (.mov (.t 1)),o 97 (.mov (.t 2)),o 98 (.mov (.t 11)),o 99 (.call q.partition [(.t 95),(.t 96),(.t 97),(.t 98)]),o 94 (.mov (.t 99)),o 100 (.ext 0 (.t 94)),o 101 (.ext 1 (.t 94)),o 14 (.mov (.t 100)),o 15 (.mov (.t 101))]) (.seq (.reg [o 102 (.mov (.t 15)),o 9 (.mov (.t 102))]) (.seq (.reg [o 103 (.mov (.t 14)),o 104 (.mov (.t 1)),o 105 (.bin .sub (.t 103) (.t 104)),o 106 (.mov (.t 2)),o 107 (.mov (.t 14)),o 108 (.bin .sub (.t 106) (.t 107)),o 16 (.mov (.t 105)),o 17 (.mov (.t 108))]) (.seq (.reg [o 109 (.mov (.t 10)),o 110 (.bin .quo (.t 109) (.k (.int .i64 8))),o 18 (.mov (.t 110))]) (.seq (.reg [o 111 (.mov (.t 16)),o 112 (.mov (.t 17)),o 113 (.bin .lss (.t 111) (.t 112))]) (.cnd (.t 113) (.seq (.reg [o 114 (.mov (.t 16)),o 115 (.mov (.t 18)),o 116 (.bin .geq (.t 114) (.t 115)),o 8 (.mov (.t 116))]) (.seq (.reg [o 117 (.mov (.t 0)),o 118 (.mov (.t 1)),o 119 (.mov (.t 14)),o 120 (.mov (.t 3)),o 121 (.call q.pdqsort [(.t 117),(.t 118),(.t 119),(.t 120)])]) (.reg [o 122 (.mov (.t 14)),o 123 (.bin .add (.t 122) (.k (.int .i64 1))),o 1 (.mov (.t 123))]))) (.seq (.reg [o 124 (.mov (.t 17)),o 125 (.mov (.t 18)),o 126 (.bin .geq (.t 124) (.t 125)),o 8 (.mov (.t 126))]) (.seq (.reg [o 127 (.mov (.t 0)),o 128 (.mov (.t 14)),o 129 (.bin .add (.t 128) (.k (.int .i64 1))),o 130 (.mov (.t 2)),o 131 (.mov (.t 3)),o 132 (.call q.pdqsort [(.t 127),(.t 129),(.t 130),(.t 131)])]) (.reg [o 133 (.mov (.t 14)),o 2 (.mov (.t 133))]))))))))))))))))))))))⟩
def G_reverseRange_c (z:Nat) (g:Bool) (q:SN):Fn1:=⟨34,[],(.seq (.reg [o 10 (.mov (.t 1)),o 8 (.mov (.t 10))]) (.seq (.reg [o 11 (.mov (.t 2)),o 12 (.bin .sub (.t 11) (.k (.int .i64 1))),o 9 (.mov (.t 12))]) (.blk 0 (.lop (.seq (.seq (.reg [o 13 (.mov (.t 8)),o 14 (.mov (.t 9)),o 15 (.bin .lss (.t 13) (.t 14))]) (.cnd (.t 15) .skip (.ext 0))) (.blk 1 (.seq (.drw [o 16 (.mov (.t 0)),o 17 (.mov (.t 8)),o 18 (.mov (.t 0)),o 19 (.mov (.t 9)),o 20 (.mov (.t 0)),o 21 (.mov (.t 9)),o 22 (.iad z (.t 20) (.t 21)),o 23 (.ld g z (.t 22)),o 24 (.mov (.t 0)),o 25 (.mov (.t 8)),o 26 (.iad z (.t 24) (.t 25)),o 27 (.ld g z (.t 26))] [o 28 (.iad z (.t 16) (.t 17)),on (.st z (.t 28) (.t 23)),o 29 (.iad z (.t 18) (.t 19)),on (.st z (.t 29) (.t 27))]) (.seq (.reg [o 30 (.mov (.t 8)),o 31 (.bin .add (.t 30) (.k (.int .i64 1))),o 8 (.mov (.t 31))]) (.reg [o 32 (.mov (.t 9)),o 33 (.bin .sub (.t 32) (.k (.int .i64 1))),o 9 (.mov (.t 33))])))))))))⟩
def G_reverseRange_o (z:Nat) (g:Bool) (q:SN):Fn1:=⟨32,[],(.seq (.reg [o 8 (.mov (.t 1)),o 6 (.mov (.t 8))]) (.seq (.reg [o 9 (.mov (.t 2)),o 10 (.bin .sub (.t 9) (.k (.int .i64 1))),o 7 (.mov (.t 10))]) (.blk 0 (.lop (.seq (.seq (.reg [o 11 (.mov (.t 6)),o 12 (.mov (.t 7)),o 13 (.bin .lss (.t 11) (.t 12))]) (.cnd (.t 13) .skip (.ext 0))) (.blk 1 (.seq (.drw [o 14 (.mov (.t 0)),o 15 (.mov (.t 6)),o 16 (.mov (.t 0)),o 17 (.mov (.t 7)),o 18 (.mov (.t 0)),o 19 (.mov (.t 7)),o 20 (.iad z (.t 18) (.t 19)),o 21 (.ld g z (.t 20)),o 22 (.mov (.t 0)),o 23 (.mov (.t 6)),o 24 (.iad z (.t 22) (.t 23)),o 25 (.ld g z (.t 24))] [o 26 (.iad z (.t 14) (.t 15)),on (.st z (.t 26) (.t 21)),o 27 (.iad z (.t 16) (.t 17)),on (.st z (.t 27) (.t 25))]) (.seq (.reg [o 28 (.mov (.t 6)),o 29 (.bin .add (.t 28) (.k (.int .i64 1))),o 6 (.mov (.t 29))]) (.reg [o 30 (.mov (.t 7)),o 31 (.bin .sub (.t 30) (.k (.int .i64 1))),o 7 (.mov (.t 31))])))))))))⟩
def G_siftDown_c (z:Nat) (g:Bool) (q:SN):Fn1:=⟨82,[],(.seq (.reg [o 12 (.mov (.t 1)),o 10 (.mov (.t 12))]) (.blk 0 (.lop (.blk 1 (.seq (.reg [o 13 (.mov (.t 10)),o 14 (.bin .mul (.k (.int .i64 2)) (.t 13)),o 15 (.bin .add (.t 14) (.k (.int .i64 1))),o 11 (.mov (.t 15))]) (.seq (.seq (.reg [o 16 (.mov (.t 11)),o 17 (.mov (.t 2)),o 18 (.bin .geq (.t 16) (.t 17))]) (.cnd (.t 18) (.ext 0) .skip)) (.seq (.seq (.drw [o 19 (.mov (.t 11)),o 20 (.bin .add (.t 19) (.k (.int .i64 1))),o 21 (.mov (.t 2)),o 22 (.bin .lss (.t 20) (.t 21)),o 23 (.mov (.t 22)),og 24 23 true (.mov (.t 4)),og 25 23 true (.mov (.t 0)),og 26 23 true (.mov (.t 3)),og 27 23 true (.mov (.t 11)),og 28 23 true (.bin .add (.t 26) (.t 27)),og 29 23 true (.iad z (.t 25) (.t 28)),og 30 23 true (.ld g z (.t 29)),og 31 23 true (.mov (.t 0)),og 32 23 true (.mov (.t 3)),og 33 23 true (.mov (.t 11)),og 34 23 true (.bin .add (.t 32) (.t 33)),og 35 23 true (.bin .add (.t 34) (.k (.int .i64 1))),og 36 23 true (.iad z (.t 31) (.t 35)),og 37 23 true (.ld g z (.t 36))] [og 38 23 true (.callv (.t 24) [(.t 30),(.t 37)]),og 39 23 true (.bin .lss (.t 38) (.k (.int .i64 0))),o 40 (.pick (.t 23) (.t 39) (.k (.bool false)))]) (.cnd (.t 40) (.reg [o 41 (.mov (.t 11)),o 42 (.bin .add (.t 41) (.k (.int .i64 1))),o 11 (.mov (.t 42))]) .skip)) (.seq (.seq (.drw [o 43 (.mov (.t 4)),o 44 (.mov (.t 0)),o 45 (.mov (.t 3)),o 46 (.mov (.t 10)),o 47 (.bin .add (.t 45) (.t 46)),o 48 (.iad z (.t 44) (.t 47)),o 49 (.ld g z (.t 48)),o 50 (.mov (.t 0)),o 51 (.mov (.t 3)),o 52 (.mov (.t 11)),o 53 (.bin .add (.t 51) (.t 52)),o 54 (.iad z (.t 50) (.t 53)),o 55 (.ld g z (.t 54))] [o 56 (.callv (.t 43) [(.t 49),(.t 55)]),o 57 (.bin .lss (.t 56) (.k (.int .i64 0))),o 58 (.un .not (.t 57))]) (.cnd (.t 58) .ret .skip)) (.seq (.drw [o 59 (.mov (.t 0)),o 60 (.mov (.t 3)),o 61 (.mov (.t 10)),o 62 (.bin .add (.t 60) (.t 61)),o 63 (.mov (.t 0)),o 64 (.mov (.t 3)),o 65 (.mov (.t 11)),o 66 (.bin .add (.t 64) (.t 65)),o 67 (.mov (.t 0)),o 68 (.mov (.t 3)),o 69 (.mov (.t 11)),o 70 (.bin .add (.t 68) (.t 69)),o 71 (.iad z (.t 67) (.t 70)),o 72 (.ld g z (.t 71)),o 73 (.mov (.t 0)),o 74 (.mov (.t 3)),o 75 (.mov (.t 10)),o 76 (.bin .add (.t 74) (.t 75)),o 77 (.iad z (.t 73) (.t 76)),o 78 (.ld g z (.t 77))] [o 79 (.iad z (.t 59) (.t 62)),on (.st z (.t 79) (.t 72)),o 80 (.iad z (.t 63) (.t 66)),on (.st z (.t 80) (.t 78))]) (.reg [o 81 (.mov (.t 11)),o 10 (.mov (.t 81))]))))))))))⟩
def G_siftDown_o (z:Nat) (g:Bool) (q:SN):Fn1:=⟨76,[],(.seq (.reg [o 10 (.mov (.t 1)),o 8 (.mov (.t 10))]) (.blk 0 (.lop (.blk 1 (.seq (.reg [o 11 (.mov (.t 8)),o 12 (.bin .mul (.k (.int .i64 2)) (.t 11)),o 13 (.bin .add (.t 12) (.k (.int .i64 1))),o 9 (.mov (.t 13))]) (.seq (.seq (.reg [o 14 (.mov (.t 9)),o 15 (.mov (.t 2)),o 16 (.bin .geq (.t 14) (.t 15))]) (.cnd (.t 16) (.ext 0) .skip)) (.seq (.seq (.drw [o 17 (.mov (.t 9)),o 18 (.bin .add (.t 17) (.k (.int .i64 1))),o 19 (.mov (.t 2)),o 20 (.bin .lss (.t 18) (.t 19)),o 21 (.mov (.t 20)),og 22 21 true (.mov (.t 0)),og 23 21 true (.mov (.t 3)),og 24 21 true (.mov (.t 9)),og 25 21 true (.bin .add (.t 23) (.t 24)),og 26 21 true (.iad z (.t 22) (.t 25)),og 27 21 true (.ld g z (.t 26)),og 28 21 true (.mov (.t 0)),og 29 21 true (.mov (.t 3)),og 30 21 true (.mov (.t 9)),og 31 21 true (.bin .add (.t 29) (.t 30)),og 32 21 true (.bin .add (.t 31) (.k (.int .i64 1))),og 33 21 true (.iad z (.t 28) (.t 32)),og 34 21 true (.ld g z (.t 33))] [og 35 21 true (.call q.less [(.t 27),(.t 34)]),o 36 (.pick (.t 21) (.t 35) (.k (.bool false)))]) (.cnd (.t 36) (.reg [o 37 (.mov (.t 9)),o 38 (.bin .add (.t 37) (.k (.int .i64 1))),o 9 (.mov (.t 38))]) .skip)) (.seq (.seq (.drw [o 39 (.mov (.t 0)),o 40 (.mov (.t 3)),o 41 (.mov (.t 8)),o 42 (.bin .add (.t 40) (.t 41)),o 43 (.iad z (.t 39) (.t 42)),o 44 (.ld g z (.t 43)),o 45 (.mov (.t 0)),o 46 (.mov (.t 3)),o 47 (.mov (.t 9)),o 48 (.bin .add (.t 46) (.t 47)),o 49 (.iad z (.t 45) (.t 48)),o 50 (.ld g z (.t 49))] [o 51 (.call q.less [(.t 44),(.t 50)]),o 52 (.un .not (.t 51))]) (.cnd (.t 52) .ret .skip)) (.seq (.drw [o 53 (.mov (.t 0)),o 54 (.mov (.t 3)),o 55 (.mov (.t 8)),o 56 (.bin .add (.t 54) (.t 55)),o 57 (.mov (.t 0)),o 58 (.mov (.t 3)),o 59 (.mov (.t 9)),o 60 (.bin .add (.t 58) (.t 59)),o 61 (.mov (.t 0)),o 62 (.mov (.t 3)),o 63 (.mov (.t 9)),o 64 (.bin .add (.t 62) (.t 63)),o 65 (.iad z (.t 61) (.t 64)),o 66 (.ld g z (.t 65)),o 67 (.mov (.t 0)),o 68 (.mov (.t 3)),o 69 (.mov (.t 8)),o 70 (.bin .add (.t 68) (.t 69)),o 71 (.iad z (.t 67) (.t 70)),o 72 (.ld g z (.t 71))] [o 73 (.iad z (.t 53) (.t 56)),on (.st z (.t 73) (.t 66)),o 74 (.iad z (.t 57) (.t 60)),on (.st z (.t 74) (.t 72))]) (.reg [o 75 (.mov (.t 9)),o 8 (.mov (.t 75))]))))))))))⟩
def G_Compact (z:Nat) (g:Bool) (ze:List GV):Fn1:=⟨61,[.t 2],(.seq (.reg [o 2 (.mov (.k .nilS))]) (.seq (.seq (.reg [o 6 (.mov (.t 0)),o 7 (.len false (.t 6)),o 8 (.bin .lss (.t 7) (.k (.int .i64 2)))]) (.cnd (.t 8) (.seq (.reg [o 9 (.mov (.t 0)),o 2 (.mov (.t 9))]) .ret) .skip)) (.seq (.seq (.reg [o 3 (.mov (.k (.int .i64 1)))]) (.blk 0 (.lop (.seq (.seq (.reg [o 10 (.mov (.t 3)),o 11 (.mov (.t 0)),o 12 (.len false (.t 11)),o 13 (.bin .lss (.t 10) (.t 12))]) (.cnd (.t 13) .skip (.ext 0))) (.seq (.blk 1 (.seq (.drw [o 16 (.mov (.t 0)),o 17 (.mov (.t 3)),o 18 (.iad z (.t 16) (.t 17)),o 19 (.ld g z (.t 18)),o 20 (.mov (.t 0)),o 21 (.mov (.t 3)),o 22 (.bin .sub (.t 21) (.k (.int .i64 1))),o 23 (.iad z (.t 20) (.t 22)),o 24 (.ld g z (.t 23))] [o 25 (.bin .eql (.t 19) (.t 24))]) (.cnd (.t 25) (.seq (.reg [o 26 (.mov (.t 0)),o 27 (.mov (.t 3)),o 28 (.cut z (.t 26) (some (.t 27)) none),o 4 (.mov (.t 28))]) (.seq (.seq (.reg [o 5 (.mov (.k (.int .i64 1)))]) (.blk 2 (.lop (.seq (.seq (.reg [o 29 (.mov (.t 5)),o 30 (.mov (.t 4)),o 31 (.len false (.t 30)),o 32 (.bin .lss (.t 29) (.t 31))]) (.cnd (.t 32) .skip (.ext 2))) (.seq (.blk 3 (.seq (.drw [o 35 (.mov (.t 4)),o 36 (.mov (.t 5)),o 37 (.iad z (.t 35) (.t 36)),o 38 (.ld g z (.t 37)),o 39 (.mov (.t 4)),o 40 (.mov (.t 5)),o 41 (.bin .sub (.t 40) (.k (.int .i64 1))),o 42 (.iad z (.t 39) (.t 41)),o 43 (.ld g z (.t 42))] [o 44 (.bin .neq (.t 38) (.t 43))]) (.cnd (.t 44) (.seq (.reg [o 45 (.mov (.t 0)),o 46 (.mov (.t 3)),o 47 (.mov (.t 4)),o 48 (.mov (.t 5)),o 49 (.iad z (.t 47) (.t 48)),o 50 (.ld g z (.t 49)),o 51 (.iad z (.t 45) (.t 46)),on (.st z (.t 51) (.t 50))]) (.reg [o 52 (.mov (.t 3)),o 53 (.bin .add (.t 52) (.k (.int .i64 1))),o 3 (.mov (.t 53))])) .skip))) (.reg [o 33 (.mov (.t 5)),o 34 (.bin .add (.t 33) (.k (.int .i64 1))),o 5 (.mov (.t 34))])))))) (.seq (.reg [o 54 (.mov (.t 0)),o 55 (.mov (.t 3)),o 56 (.cut z (.t 54) (some (.t 55)) none),on (.clr z ze (.t 56))]) (.seq (.reg [o 57 (.mov (.t 0)),o 58 (.mov (.t 3)),o 59 (.cut z (.t 57) none (some (.t 58))),o 2 (.mov (.t 59))]) .ret)))) .skip))) (.reg [o 14 (.mov (.t 3)),o 15 (.bin .add (.t 14) (.k (.int .i64 1))),o 3 (.mov (.t 15))])))))) (.seq (.reg [o 60 (.mov (.t 0)),o 2 (.mov (.t 60))]) .ret))))⟩
end Go.Proofs.Ytbeoiejnogdkpaa.Sy
namespace Go.Proofs.Ytbeoiejnogdkpaa.Sy.C
open Go Go.RowKit Go.Proofs.Ytbeoiejnogdkpaa.Sy Go.Sort
set_option linter.unusedSimpArgs false
set_option linter.unusedVariables false
set_option maxRecDepth 4000
variable {α:Type} [Inhabited α] {lt:α→α→Bool} {σ0 σ:St} {rs:List Thg} {k:Nat} {v:GV} {d:Array α}
end Go.Proofs.Ytbeoiejnogdkpaa.Sy.C
namespace Go.Proofs.Ytbeoiejnogdkpaa.Sy.C
open Go Go.RowKit Go.Proofs.Ytbeoiejnogdkpaa.Sy Go.Sort
set_option linter.unusedSimpArgs false
set_option linter.unusedVariables false
set_option maxRecDepth 4000
variable {α:Type} [Inhabited α] {lt:α→α→Bool} {σ0 σ:St} {rs:List Thg} {k:Nat} {v:GV} {d:Array α}
end Go.Proofs.Ytbeoiejnogdkpaa.Sy.C
namespace Go.Proofs.Ytbeoiejnogdkpaa.Sy.C
open Go Go.RowKit Go.Proofs.Ytbeoiejnogdkpaa.Sy Go.Sort
set_option linter.unusedSimpArgs false
set_option linter.unusedVariables false
set_option maxRecDepth 4000
variable {α:Type} [Inhabited α] {lt:α→α→Bool} {σ0 σ:St} {rs:List Thg} {k:Nat} {v:GV} {d:Array α}
end Go.Proofs.Ytbeoiejnogdkpaa.Sy.C
namespace Go.Proofs.Ytbeoiejnogdkpaa.Sy.C
open Go Go.RowKit Go.Proofs.Ytbeoiejnogdkpaa.Sy Go.Sort
set_option linter.unusedSimpArgs false
set_option linter.unusedVariables false
set_option maxRecDepth 4000
variable {α:Type} [Inhabited α] {lt:α→α→Bool} {σ0 σ:St} {rs:List Thg} {k:Nat} {v:GV} {d:Array α}
end Go.Proofs.Ytbeoiejnogdkpaa.Sy.C
namespace Go.Proofs.Ytbeoiejnogdkpaa.Sy
open Go Go.RowKit Go.Sort
set_option linter.unusedSimpArgs false
set_option linter.unusedVariables false
set_option maxRecDepth 10000
end Go.Proofs.Ytbeoiejnogdkpaa.Sy
namespace Go.Proofs.Ytbeoiejnogdkpaa.Sy.C
open Go Go.RowKit Go.Proofs.Ytbeoiejnogdkpaa.Sy Go.Sort
set_option linter.unusedSimpArgs false
set_option linter.unusedVariables false
set_option maxRecDepth 4000
variable {α:Type} [Inhabited α] {lt:α→α→Bool} {σ0 σ:St} {rs:List Thg} {k g:Nat} {s:Int} {v:GV} {d:Array α}
end Go.Proofs.Ytbeoiejnogdkpaa.Sy.C
namespace Go.Proofs.Ytbeoiejnogdkpaa.Sy.C
open Go Go.RowKit Go.Proofs.Ytbeoiejnogdkpaa.Sy Go.Sort
set_option linter.unusedSimpArgs false
set_option linter.unusedVariables false
set_option maxRecDepth 4000
variable {α:Type} [Inhabited α] {lt:α→α→Bool} {σ0:St} {rs:List Thg} {k:Nat} {v:GV}
end Go.Proofs.Ytbeoiejnogdkpaa.Sy.C
namespace Go.Proofs.Ytbeoiejnogdkpaa.Sy.C
open Go Go.RowKit Go.Proofs.Ytbeoiejnogdkpaa.Sy Go.Sort
set_option linter.unusedSimpArgs false
set_option linter.unusedVariables false
set_option maxRecDepth 4000
variable {α:Type} [Inhabited α] {lt:α→α→Bool} {σ0 σ:St} {rs:List Thg} {v:GV}
end Go.Proofs.Ytbeoiejnogdkpaa.Sy.C
namespace Go.Proofs.Ytbeoiejnogdkpaa.Sy
open Go Go.RowKit
set_option linter.unusedSimpArgs false
set_option linter.unusedVariables false
set_option maxRecDepth 4000
instance:Inhabited Cell:=⟨{obj:=.empty,dot:=⟨0,0⟩,time:=0,ref:=⟨0,0⟩,val:=0,gone:=false}⟩
def elCell:El Cell:=⟨pCell,true,fun x=>.agg (pCell.enc x),fun _=>rfl,fun _=>rfl,by decide⟩
def cmpCell (a b:Cell):Int:=orI (cmpI b.time a.time) (cmpDot b.dot a.dot)
end Go.Proofs.Ytbeoiejnogdkpaa.Sy
namespace Go.Proofs.Ytbeoiejnogdkpaa.Sy
open Go Go.RowKit
set_option linter.unusedSimpArgs false
set_option linter.unusedVariables false
set_option maxRecDepth 4000
abbrev n_s_l08Later:Nat:=81
def F_s_l08Later:Fn1:=⟨36,[.t 4],(.seq (.reg [o 2 (.box (.t 0)),o 3 (.box (.t 1)),o 4 (.mov (.k (.bool false)))]) (.seq (.seq (.reg [o 5 (.fad 3 (.t 2)),o 6 (.ld false 1 (.t 5)),o 7 (.fad 3 (.t 3)),o 8 (.ld false 1 (.t 7)),o 9 (.bin .neq (.t 6) (.t 8))]) (.cnd (.t 9) (.seq (.reg [o 10 (.fad 3 (.t 2)),o 11 (.ld false 1 (.t 10)),o 12 (.fad 3 (.t 3)),o 13 (.ld false 1 (.t 12)),o 14 (.bin .gtr (.t 11) (.t 13)),o 4 (.mov (.t 14))]) .ret) .skip)) (.seq (.seq (.reg [o 15 (.fad 1 (.t 2)),o 16 (.fad 0 (.t 15)),o 17 (.ld false 1 (.t 16)),o 18 (.fad 1 (.t 3)),o 19 (.fad 0 (.t 18)),o 20 (.ld false 1 (.t 19)),o 21 (.bin .neq (.t 17) (.t 20))]) (.cnd (.t 21) (.seq (.reg [o 22 (.fad 1 (.t 2)),o 23 (.fad 0 (.t 22)),o 24 (.ld false 1 (.t 23)),o 25 (.fad 1 (.t 3)),o 26 (.fad 0 (.t 25)),o 27 (.ld false 1 (.t 26)),o 28 (.bin .gtr (.t 24) (.t 27)),o 4 (.mov (.t 28))]) .ret) .skip)) (.seq (.reg [o 29 (.fad 1 (.t 2)),o 30 (.fad 1 (.t 29)),o 31 (.ld false 1 (.t 30)),o 32 (.fad 1 (.t 3)),o 33 (.fad 1 (.t 32)),o 34 (.ld false 1 (.t 33)),o 35 (.bin .gtr (.t 31) (.t 34)),o 4 (.mov (.t 35))]) .ret))))⟩
theorem ir_s_l08Later:compFn Try.prog n_s_l08Later=some F_s_l08Later:=by kernel_rfl
abbrev n_s_l08Below:Nat:=59
def F_s_l08Below:Fn1:=⟨97,[.t 8],(.seq (.reg [o 4 (.box (.t 0)),o 6 (.box (.t 2)),o 8 (.mov (.k .nilS))]) (.seq (.reg [o 16 (.lit 8 0 [] []),o 9 (.mov (.t 16))]) (.seq (.seq (.reg [o 10 (.mov (.k (.int .i64 0)))]) (.blk 0 (.lop (.seq (.seq (.reg [o 17 (.mov (.t 10)),o 18 (.fad 3 (.t 4)),o 19 (.ld false 1 (.t 18)),o 20 (.len false (.t 19)),o 21 (.bin .lss (.t 17) (.t 20))]) (.cnd (.t 21) .skip (.ext 0))) (.seq (.blk 1 (.seq (.reg [o 24 (.fad 3 (.t 4)),o 25 (.ld false 1 (.t 24)),o 26 (.mov (.t 10)),o 27 (.iad 8 (.t 25) (.t 26)),o 28 (.ld true 8 (.t 27)),o 11 (.new [(.str ⟨#[]⟩),(.int .i64 0),(.int .i64 0),(.int .i64 0),(.int .i64 0),(.int .i64 0),(.int .i64 0),(.bool false)]),on (.st 8 (.t 11) (.t 28))]) (.seq (.seq (.reg [o 29 (.fad 0 (.t 11)),o 30 (.ld false 1 (.t 29)),o 31 (.mov (.t 1)),o 32 (.bin .neq (.t 30) (.t 31)),o 33 (.mov (.t 32)),og 34 33 false (.fad 4 (.t 11)),og 35 33 false (.ld true 2 (.t 34)),og 36 33 false (.ld true 2 (.t 6)),og 37 33 false (.eqs true [.i .i64,.i .i64] (.t 35) (.t 36)),o 38 (.pick (.t 33) (.k (.bool true)) (.t 37))]) (.cnd (.t 38) (.ext 1) .skip)) (.seq (.reg [o 39 (.lit 8 0 [] []),o 12 (.mov (.t 39))]) (.seq (.reg [o 13 (.mov (.k (.bool false)))]) (.seq (.seq (.reg [o 14 (.mov (.k (.int .i64 0)))]) (.blk 2 (.lop (.seq (.seq (.reg [o 40 (.mov (.t 14)),o 41 (.mov (.t 9)),o 42 (.len false (.t 41)),o 43 (.bin .lss (.t 40) (.t 42))]) (.cnd (.t 43) .skip (.ext 2))) (.seq (.blk 3 (.seq (.seq (.drw [o 46 (.mov (.t 13)),o 47 (.un .not (.t 46)),o 48 (.mov (.t 47)),og 49 48 true (.ld true 8 (.t 11)),og 50 48 true (.mov (.t 9)),og 51 48 true (.mov (.t 14)),og 52 48 true (.iad 8 (.t 50) (.t 51)),og 53 48 true (.ld true 8 (.t 52))] [og 54 48 true (.call 81 [(.t 49),(.t 53)]),o 55 (.pick (.t 48) (.t 54) (.k (.bool false)))]) (.cnd (.t 55) (.seq (.reg [o 56 (.mov (.t 12)),o 57 (.ld true 8 (.t 11)),o 58 (.lit 8 1 [(.str ⟨#[]⟩),(.int .i64 0),(.int .i64 0),(.int .i64 0),(.int .i64 0),(.int .i64 0),(.int .i64 0),(.bool false)] [(0,8,(.t 57))]),o 59 (.app 8 72 [(.str ⟨#[]⟩),(.int .i64 0),(.int .i64 0),(.int .i64 0),(.int .i64 0),(.int .i64 0),(.int .i64 0),(.bool false)] (.t 56) (.t 58)),o 12 (.mov (.t 59))]) (.reg [o 13 (.mov (.k (.bool true)))])) .skip)) (.reg [o 60 (.mov (.t 12)),o 61 (.mov (.t 9)),o 62 (.mov (.t 14)),o 63 (.iad 8 (.t 61) (.t 62)),o 64 (.ld true 8 (.t 63)),o 65 (.lit 8 1 [(.str ⟨#[]⟩),(.int .i64 0),(.int .i64 0),(.int .i64 0),(.int .i64 0),(.int .i64 0),(.int .i64 0),(.bool false)] [(0,8,(.t 64))]),o 66 (.app 8 72 [(.str ⟨#[]⟩),(.int .i64 0),(.int .i64 0),(.int .i64 0),(.int .i64 0),(.int .i64 0),(.int .i64 0),(.bool false)] (.t 60) (.t 65)),o 12 (.mov (.t 66))]))) (.reg [o 44 (.mov (.t 14)),o 45 (.bin .add (.t 44) (.k (.int .i64 1))),o 14 (.mov (.t 45))])))))) (.seq (.seq (.reg [o 67 (.mov (.t 13)),o 68 (.un .not (.t 67))]) (.cnd (.t 68) (.reg [o 69 (.mov (.t 12)),o 70 (.ld true 8 (.t 11)),o 71 (.lit 8 1 [(.str ⟨#[]⟩),(.int .i64 0),(.int .i64 0),(.int .i64 0),(.int .i64 0),(.int .i64 0),(.int .i64 0),(.bool false)] [(0,8,(.t 70))]),o 72 (.app 8 72 [(.str ⟨#[]⟩),(.int .i64 0),(.int .i64 0),(.int .i64 0),(.int .i64 0),(.int .i64 0),(.int .i64 0),(.bool false)] (.t 69) (.t 71)),o 12 (.mov (.t 72))]) .skip)) (.reg [o 73 (.mov (.t 12)),o 9 (.mov (.t 73))])))))))) (.reg [o 22 (.mov (.t 10)),o 23 (.bin .add (.t 22) (.k (.int .i64 1))),o 10 (.mov (.t 23))])))))) (.seq (.seq (.reg [o 15 (.mov (.k (.int .i64 0)))]) (.blk 4 (.lop (.seq (.seq (.reg [o 74 (.mov (.t 15)),o 75 (.mov (.t 9)),o 76 (.len false (.t 75)),o 77 (.bin .lss (.t 74) (.t 76))]) (.cnd (.t 77) .skip (.ext 4))) (.seq (.blk 5 (.seq (.reg [o 80 (.mov (.t 3)),o 81 (.mov (.t 9)),o 82 (.mov (.t 15)),o 83 (.iad 8 (.t 81) (.t 82)),o 84 (.ld true 8 (.t 83)),o 85 (.lit 8 1 [(.str ⟨#[]⟩),(.int .i64 0),(.int .i64 0),(.int .i64 0),(.int .i64 0),(.int .i64 0),(.int .i64 0),(.bool false)] [(0,8,(.t 84))]),o 86 (.app 8 72 [(.str ⟨#[]⟩),(.int .i64 0),(.int .i64 0),(.int .i64 0),(.int .i64 0),(.int .i64 0),(.int .i64 0),(.bool false)] (.t 80) (.t 85)),o 3 (.mov (.t 86))]) (.drw [o 87 (.ld true 4 (.t 4)),o 88 (.mov (.t 1)),o 89 (.mov (.t 9)),o 90 (.mov (.t 15)),o 91 (.iad 8 (.t 89) (.t 90)),o 92 (.fad 1 (.t 91)),o 93 (.ld true 2 (.t 92))] [o 94 (.mov (.t 3)),o 95 (.call 59 [(.t 87),(.t 88),(.t 93),(.t 94)]),o 3 (.mov (.t 95))]))) (.reg [o 78 (.mov (.t 15)),o 79 (.bin .add (.t 78) (.k (.int .i64 1))),o 15 (.mov (.t 79))])))))) (.seq (.reg [o 96 (.mov (.t 3)),o 8 (.mov (.t 96))]) .ret)))))⟩
theorem ir_s_l08Below:compFn Try.prog n_s_l08Below=some F_s_l08Below:=by kernel_rfl
abbrev n_s_l08Row:Nat:=34
def F_s_l08Row:Fn1:=⟨10,[.t 4],(.seq (.reg [o 2 (.box (.t 0)),o 4 (.mov (.k .nilS))]) (.seq (.reg [o 5 (.ld true 4 (.t 2)),o 6 (.mov (.t 1)),o 7 (.build [(.int .i64 0),(.int .i64 0)] []),o 8 (.lit 8 0 [] []),o 9 (.call 59 [(.t 5),(.t 6),(.t 7),(.t 8)]),o 4 (.mov (.t 9))]) .ret))⟩
theorem ir_s_l08Row:compFn Try.prog n_s_l08Row=some F_s_l08Row:=by kernel_rfl
abbrev cellV (x:Cell):List GV:=[.str x.obj,.int .i64 x.dot.rep,.int .i64 x.dot.seq,.int .i64 x.time,.int .i64 x.ref.rep,.int .i64 x.ref.seq,.int .i64 x.val,.bool x.gone]
theorem s_l08Later_ret (σ:St) (a b:Cell):Ret Try.prog n_s_l08Later [.agg (cellV a),.agg (cellV b)] σ (.bool (later a b)) σ:=by
 refine ret_eq ir_s_l08Later (Nat.le_of_ble_eq_true rfl) trivial ?_
 by_cases h1:a.time=b.time
 ·have c1:(a.time != b.time)=false:=by simp[h1]
  by_cases h2:a.dot.rep=b.dot.rep
  ·have c2:(a.dot.rep != b.dot.rep)=false:=by simp[h2]
   simp +contextual (disch:=omega) only[go_sem,F_s_l08Later,c1,c2]
   simp[later,dotLt,h1,h2]
  ·have c2:(a.dot.rep != b.dot.rep)=true:=by simp[h2]
   have h3:¬ b.dot.rep=a.dot.rep:=fun e=>h2 e.symm
   simp +contextual (disch:=omega) only[go_sem,F_s_l08Later,c1,c2]
   simp[later,dotLt,h1,h2,h3]
 ·have c1:(a.time != b.time)=true:=by simp[h1]
  simp +contextual (disch:=omega) only[go_sem,F_s_l08Later,c1]
  simp[later,h1]
def BelowOk (s:State) (o:ByteArray) (d:Dot):Prop:=∀(σ0 σ:St) (cs:List GV) (rs:List Thg) (k:Nat) (w:GV) (out:List Cell),kState.R σ0 s cs→Hp σ0 σ rs→rs[k]? =some (ow pCell.kd w out)→out.length+(rowA (objC s.cells o) d).length≤1099511627776→
 ∃ w' τ,Ret Try.prog n_s_l08Below [.agg cs,.str o,.agg [gi d.rep,gi d.seq],w] σ w' τ∧Hp σ0 τ (rs.set k (ow pCell.kd w' (out++rowA (objC s.cells o) d)))
def isKid (o:ByteArray) (d:Dot) (c:Cell):Bool:=isObj o c&&isRef d c
theorem flat_bd {α β:Type} {f:α→List β} {l:List α} {i:Nat} (hi:i<l.length):((l.take i).flatMap f).length+(f l[i]).length≤(l.flatMap f).length:=by
 have h:l.flatMap f=(l.take i).flatMap f++(f l[i]++(l.drop (i+1)).flatMap f):=by
  rw[← List.flatMap_cons,←List.drop_eq_getElem_cons hi,←List.flatMap_append,List.take_append_drop]
 rw[h,List.length_append,List.length_append];omega
theorem flat_snoc {α β:Type} {f:α→List β} {l:List α} {i:Nat} (hi:i<l.length):(l.take (i+1)).flatMap f=(l.take i).flatMap f++f l[i]:=by
 rw[List.take_succ_eq_append_getElem hi,List.flatMap_append,List.flatMap_singleton]
set_option maxHeartbeats 4000000 in
theorem below_step (s:State) (o:ByteArray) (d:Dot) (hn:(s.cells.map (·.dot)).Nodup) (hl:msState s≤1099511627776) (hf:Adq (objC s.cells o) fuel d) (IH:∀ c∈(objC s.cells o).filter (isRef d),BelowOk s o c.dot):BelowOk s o d:=by
 intro σ0 σ cs rs k w out hR0 H hk hbd
 have key:∃ r τ,Ret Try.prog n_s_l08Below [.agg cs,.str o,.agg [gi d.rep,gi d.seq],w] σ r τ∧Hp σ0 τ (rs.set k (ow pCell.kd r (out++rowA (objC s.cells o) d))):=by
  have hR1:=hR0
  obtain⟨a,b,c,v,rfl,_,_,_,hc⟩:=hR1
  obtain⟨l1,l2,l3,l4,_⟩:=msState_all hl
  have hkl:=(List.getElem?_eq_some_iff.1 hk).1
  refine ret_dr ir_s_l08Below (Nat.le_of_ble_eq_true rfl) ?_
  have H:=((H.new 1 [a,b,c,v]).new 1 [gi d.rep,gi d.seq]).nil_Cell
  simp +contextual (disch:=omega) only[go_sem,F_s_l08Below]
  generalize hn1:σ.length=n1 at*
  generalize hn2:(σ++[some (Blk.row 1 [a,b,c,v])]).length=n2 at*
  refine vc_forX s.cells.length 10 0 (fun i env τ=>env 1= .str o∧env 3=w∧env 4= .ptr n1 0∧env 6= .ptr n2 0∧∃ u,env 9=u∧Hp σ0 τ (ow pCell.kd u (insAll later ((s.cells.take i).filter (isKid o d)))::pt 1 n2 [gi d.rep,gi d.seq]::pt 1 n1 [a,b,c,v]::rs)) (fun env τ=>env 1= .str o∧env 3=w∧env 4= .ptr n1 0∧env 6= .ptr n2 0∧∃ u,env 9=u∧Hp σ0 τ (ow pCell.kd u ((objC s.cells o).filter (isRef d))::pt 1 n2 [gi d.rep,gi d.seq]::pt 1 n1 [a,b,c,v]::rs)) rfl ⟨rfl,rfl,rfl,by simp +contextual (disch:=omega) only[go_sem,hn2],_,rfl,H⟩ ?_ ?_ ?_
  ·clear H
   rintro J Y hJ hY i env τ hi e10 c0 ⟨e1,e3,e4,e6,u,e9,H⟩
   have C1:=Cell_at (hc.pre H.sub) hi
   have hab:=insAll_bd (lt:=later) (l:=s.cells) (p:=isKid o d) (i:=i)
   have hsn:=insAll_take (lt:=later) (p:=isKid o d) hi
   have G:=H.new 1 (cellV s.cells[i])
   generalize hacc:insAll later ((s.cells.take i).filter (isKid o d))=acc at*
   cases ho:decide (s.cells[i].obj=o) with
   |false=>
    have hk0:isKid o d s.cells[i]=false:=by simp[isKid,isObj,ho]
    rw[hk0,if_neg (by simp)] at hsn
    simp +contextual (disch:=omega) only[go_sem,c0,e1,e3,e4,e6,e9,e10,C1,ld_ptr (H.pt 2 rfl),hc.len,ho,ld_ptr (H.pt 1 rfl)]
    refine hJ _ _ _ ⟨?_,?_,?_,?_,u,?_,by rw[hsn];exact G.drop1⟩
    all_goals simp +contextual (disch:=omega) only[go_sem,e1,e3,e4,e6,e9,e10]
   |true=>
    cases hr:decide (s.cells[i].ref=d) with
    |false=>
     have hk0:isKid o d s.cells[i]=false:=by simp[isKid,isRef,hr]
     rw[hk0,if_neg (by simp)] at hsn
     simp +contextual (disch:=omega) only[go_sem,c0,e1,e3,e4,e6,e9,e10,C1,ld_ptr (H.pt 2 rfl),hc.len,ho,ld_ptr (G.pt 2 rfl),hr]
     refine hJ _ _ _ ⟨?_,?_,?_,?_,u,?_,by rw[hsn];exact G.drop1⟩
     all_goals simp +contextual (disch:=omega) only[go_sem,e1,e3,e4,e6,e9,e10]
    |true=>
     have hk0:isKid o d s.cells[i]=true:=by simp[isKid,isObj,isRef,ho,hr]
     rw[hk0,if_pos rfl] at hsn
     have H1:=G.nil_Cell
     simp +contextual (disch:=omega) only[go_sem,c0,e1,e3,e4,e6,e9,e10,C1,ld_ptr (H.pt 2 rfl),hc.len,ho,ld_ptr (G.pt 2 rfl),hr]
     generalize hnx:τ.length=nx at*
     generalize hx:s.cells[i]=x at*
     refine vc_forX acc.length 14 2 (fun j env τ=>env 1= .str o∧env 3=w∧env 4= .ptr n1 0∧env 6= .ptr n2 0∧env 10=gi i∧env 9=u∧env 11= .ptr nx 0∧∃(z:GV) (put:Bool) (nxt:List Cell),env 12=z∧env 13= .bool put∧insG later x acc nxt j put∧Hp σ0 τ (ow pCell.kd z nxt::pt 1 nx (cellV x)::ow pCell.kd u acc::pt 1 n2 [gi d.rep,gi d.seq]::pt 1 n1 [a,b,c,v]::rs)) (fun env τ=>env 1= .str o∧env 3=w∧env 4= .ptr n1 0∧env 6= .ptr n2 0∧env 10=gi i∧env 9=u∧env 11= .ptr nx 0∧∃(z:GV) (put:Bool) (nxt:List Cell),env 12=z∧env 13= .bool put∧insG later x acc nxt acc.length put∧Hp σ0 τ (ow pCell.kd z nxt::pt 1 nx (cellV x)::ow pCell.kd u acc::pt 1 n2 [gi d.rep,gi d.seq]::pt 1 n1 [a,b,c,v]::rs)) rfl ⟨by simp +contextual (disch:=omega) only[go_sem,e1],by simp +contextual (disch:=omega) only[go_sem,e3],by simp +contextual (disch:=omega) only[go_sem,e4],by simp +contextual (disch:=omega) only[go_sem,e6],by simp +contextual (disch:=omega) only[go_sem,e10],by simp +contextual (disch:=omega) only[go_sem,e9],by simp +contextual (disch:=omega) only[go_sem,hnx],_,false,[],by simp +contextual (disch:=omega) only[go_sem],by simp +contextual (disch:=omega) only[go_sem],insG_nil,H1⟩ ?_ ?_ ?_
     ·clear e1 e3 e4 e6 e9 e10 H H1 G
      rintro J2 Y2 hJ2 hY2 j env τ hj e14 c1 ⟨e1,e3,e4,e6,e10,e9,e11,z,put,nxt,e12,e13,hok,H⟩
      have hnl:=insG_len hok
      have i1:=Cell_at (H.sl 2 rfl) hj
      have hlen:=(H.sl 2 rfl).len
      cases put with
      |true=>
       obtain⟨w',τ3,e5,H3⟩:=H.app_Cell 0 rfl acc[j] (by omega)
       simp +contextual (disch:=omega) only[go_sem,c1,e1,e3,e4,e6,e9,e10,e11,e12,e13,e14,i1,hlen,e5]
       refine hJ2 _ _ _ ⟨?_,?_,?_,?_,?_,?_,?_,w',true,_,?_,?_,insG_step hok hj (.inl rfl),H3⟩
       all_goals simp +contextual (disch:=omega) only[go_sem,e1,e3,e4,e6,e9,e10,e11,e13]
      |false=>
       have hl:=s_l08Later_ret τ x acc[j]
       simp +contextual (disch:=omega) only[go_sem,c1,e1,e3,e4,e6,e9,e10,e11,e12,e13,e14,i1,hlen,ld_ptr (H.pt 1 rfl)]
       refine by_ret hl ?_
       cases hlt:later x acc[j] with
       |false=>
        obtain⟨w',τ3,e5,H3⟩:=H.app_Cell 0 rfl acc[j] (by omega)
        simp +contextual (disch:=omega) only[go_sem,c1,e1,e3,e4,e6,e9,e10,e11,e12,e13,e14,i1,hlen,ld_ptr (H.pt 1 rfl),e5]
        refine hJ2 _ _ _ ⟨?_,?_,?_,?_,?_,?_,?_,w',false,_,?_,?_,insG_step hok hj (.inr hlt),H3⟩
        all_goals simp +contextual (disch:=omega) only[go_sem,e1,e3,e4,e6,e9,e10,e11,e13]
       |true=>
        obtain⟨w',τ3,e5,H3⟩:=H.app_Cell 0 rfl x (by omega)
        have H3:Hp σ0 τ3 (ow pCell.kd w' (nxt++[x])::pt 1 nx (cellV x)::ow pCell.kd u acc::pt 1 n2 [gi d.rep,gi d.seq]::pt 1 n1 [a,b,c,v]::rs):=H3
        have hp:=insG_put hok hj hlt
        have hnl2:=insG_len hp
        simp only[List.length_append,List.length_cons,List.length_nil] at hnl2
        have i2:=Cell_at (H3.sl 2 rfl) hj
        obtain⟨w2,τ4,e7,H4⟩:=H3.app_Cell 0 rfl acc[j] (by simp;omega)
        simp +contextual (disch:=omega) only[go_sem,c1,e1,e3,e4,e6,e9,e10,e11,e12,e13,e14,i1,hlen,ld_ptr (H.pt 1 rfl),e5,i2,e7]
        refine hJ2 _ _ _ ⟨?_,?_,?_,?_,?_,?_,?_,w2,true,_,?_,?_,hp,H4⟩
        all_goals simp +contextual (disch:=omega) only[go_sem,e1,e3,e4,e6,e9,e10,e11,e13]
     ·clear e1 e3 e4 e6 e9 e10 H H1 G
      rintro Y2 hY2 env τ e14 c1 ⟨e1,e3,e4,e6,e10,e9,e11,z,put,nxt,e12,e13,hok,H⟩
      have hlen:=(H.sl 2 rfl).len
      simp +contextual (disch:=omega) only[go_sem,c1,e1,e3,e4,e6,e9,e10,e11,e12,e13,e14,hlen]
      refine hY2 _ _ ⟨?_,?_,?_,?_,?_,?_,?_,z,put,nxt,?_,?_,hok,H⟩
      all_goals simp +contextual (disch:=omega) only[go_sem,e1,e3,e4,e6,e9,e10,e11,e12,e13]
     ·clear e1 e3 e4 e6 e9 e10 H H1 G
      rintro env τ ⟨e1,e3,e4,e6,e10,e9,e11,z,put,nxt,e12,e13,hok,H⟩
      have hnl:=insG_len hok
      have hend:=insG_end hok
      cases put with
      |true=>
       simp +contextual (disch:=omega) only[go_sem,e1,e3,e4,e6,e9,e10,e11,e12,e13]
       refine hJ _ _ _ ⟨?_,?_,?_,?_,z,?_,?_⟩
       all_goals first|(simp +contextual (disch:=omega) only[go_sem,e1,e3,e4,e6,e9,e10,e11,e12,e13];done)|skip
       rw[hsn,←hend]
       exact((H.pick 1 rfl).drop1.pick 1 rfl).drop1
      |false=>
       obtain⟨w',τ3,e5,H3⟩:=H.app_Cell 0 rfl x (by omega)
       simp +contextual (disch:=omega) only[go_sem,e1,e3,e4,e6,e9,e10,e11,e12,e13,ld_ptr (H.pt 1 rfl),e5]
       refine hJ _ _ _ ⟨?_,?_,?_,?_,w',?_,?_⟩
       all_goals first|(simp +contextual (disch:=omega) only[go_sem,e1,e3,e4,e6,e9,e10,e11,e12,e13];done)|skip
       rw[hsn,←hend]
       exact((H3.pick 1 rfl).drop1.pick 1 rfl).drop1
  ·clear H
   rintro Y hY env τ e10 c0 ⟨e1,e3,e4,e6,u,e9,H⟩
   rw[List.take_length] at H
   have hke:insAll later (s.cells.filter (isKid o d))=(objC s.cells o).filter (isRef d):=kids_eq hn o d
   rw[hke] at H
   simp +contextual (disch:=omega) only[go_sem,c0,e1,e3,e4,e6,e9,e10,ld_ptr (H.pt 2 rfl),hc.len]
   refine hY _ _ ⟨?_,?_,?_,?_,u,?_,H⟩
   all_goals simp +contextual (disch:=omega) only[go_sem,e1,e3,e4,e6,e9,e10]
  ·clear H
   rintro env τ ⟨e1,e3,e4,e6,u,e9,H⟩
   rw[rowA_eq hf] at hbd ⊢
   have hkb:((objC s.cells o).filter (isRef d)).length≤s.cells.length:=Nat.le_trans (List.length_filter_le _ _) (objC_len _ _)
   generalize hkid:(objC s.cells o).filter (isRef d)=kids at*
   generalize hg:(fun c:Cell=>c::rowA (objC s.cells o) c.dot)=g at*
   have hkl4:k+3<(ow pCell.kd u kids::pt 1 n2 [gi d.rep,gi d.seq]::pt 1 n1 [a,b,c,v]::rs).length:=by simp;omega
   have hkk:(ow pCell.kd u kids::pt 1 n2 [gi d.rep,gi d.seq]::pt 1 n1 [a,b,c,v]::rs)[k+3]? =some (ow pCell.kd w out):=hk
   simp +contextual (disch:=omega) only[go_sem,e1,e3,e4,e6,e9]
   refine vc_forJ kids.length 15 (fun i env τ=>env 1= .str o∧env 4= .ptr n1 0∧env 9=u∧∃ w',env 3=w'∧Hp σ0 τ (ow pCell.kd u kids::pt 1 n2 [gi d.rep,gi d.seq]::pt 1 n1 [a,b,c,v]::rs.set k (ow pCell.kd w' (out++(kids.take i).flatMap g)))) rfl ⟨by simp +contextual (disch:=omega) only[go_sem,e1],by simp +contextual (disch:=omega) only[go_sem,e4],by simp +contextual (disch:=omega) only[go_sem,e9],w,by simp +contextual (disch:=omega) only[go_sem,e3],?_⟩ ?_ ?_
   ·have:rs.set k (ow pCell.kd w (out++(kids.take 0).flatMap g))=rs:=by
     simp only[List.take_zero,List.flatMap_nil,List.append_nil]
     rw[← (List.getElem?_eq_some_iff.1 hk).2,List.set_getElem_self]
    rw[this];exact H
   ·clear H e1 e3 e4 e6 e9
    rintro J hJ i env τ hi e15 c0 ⟨e1,e4,e9,w1,e3,H⟩
    have hfb:=flat_bd (f:=g) hi
    have hgl:(g kids[i]).length=1+(rowA (objC s.cells o) kids[i].dot).length:=by rw[← hg];simp;omega
    have hmem:kids[i]∈kids:=List.getElem_mem hi
    have C1:=Cell_at (H.sl 0 rfl) hi
    have hlen:=(H.sl 0 rfl).len
    have hsk:(ow pCell.kd u kids::pt 1 n2 [gi d.rep,gi d.seq]::pt 1 n1 [a,b,c,v]::rs.set k (ow pCell.kd w1 (out++(kids.take i).flatMap g)))[k+3]? =some (ow pCell.kd w1 (out++(kids.take i).flatMap g)):=by
     show(rs.set k _)[k]? =_
     rw[List.getElem?_set_self hkl]
    obtain⟨w2,τ3,e5,H3⟩:=H.app_Cell (k+3) hsk kids[i] (by simp only[List.length_append];omega)
    have H3:Hp σ0 τ3 (ow pCell.kd u kids::pt 1 n2 [gi d.rep,gi d.seq]::pt 1 n1 [a,b,c,v]::(rs.set k (ow pCell.kd w1 (out++(kids.take i).flatMap g))).set k (ow pCell.kd w2 (out++(kids.take i).flatMap g++[kids[i]]))):=H3
    rw[List.set_set] at H3
    have C2:=Cell_at (H3.sl 0 rfl) hi
    have hsk2:(ow pCell.kd u kids::pt 1 n2 [gi d.rep,gi d.seq]::pt 1 n1 [a,b,c,v]::rs.set k (ow pCell.kd w2 (out++(kids.take i).flatMap g++[kids[i]])))[k+3]? =some (ow pCell.kd w2 (out++(kids.take i).flatMap g++[kids[i]])):=by
     show(rs.set k _)[k]? =_
     rw[List.getElem?_set_self hkl]
    obtain⟨w3,τ4,R4,H4⟩:=IH kids[i] hmem σ0 τ3 [a,b,c,v] _ (k+3) w2 _ hR0 H3 hsk2 (by simp only[List.length_append,List.length_cons,List.length_nil];omega)
    have H4:Hp σ0 τ4 (ow pCell.kd u kids::pt 1 n2 [gi d.rep,gi d.seq]::pt 1 n1 [a,b,c,v]::(rs.set k (ow pCell.kd w2 (out++(kids.take i).flatMap g++[kids[i]]))).set k (ow pCell.kd w3 (out++(kids.take i).flatMap g++[kids[i]]++rowA (objC s.cells o) kids[i].dot))):=H4
    rw[List.set_set] at H4
    simp +contextual (disch:=omega) only[go_sem,c0,e1,e3,e4,e9,e15,C1,hlen,e5,C2,ld_ptr (H3.pt 2 rfl),seg_full (cs:=[a,b,c,v]) rfl]
    refine by_mut R4 ?_
    simp +contextual (disch:=omega) only[go_sem,e1,e3,e4,e9,e15]
    refine hJ _ _ _ ⟨?_,?_,?_,w3,?_,?_⟩
    all_goals first|(simp +contextual (disch:=omega) only[go_sem,e1,e3,e4,e9,e15];done)|skip
    rw[flat_snoc hi]
    have:g kids[i]=[kids[i]]++rowA (objC s.cells o) kids[i].dot:=by rw[← hg];rfl
    rw[this,←List.append_assoc,←List.append_assoc]
    exact H4
   ·clear H e1 e3 e4 e6 e9
    rintro env τ e15 c0 ⟨e1,e4,e9,w1,e3,H⟩
    rw[List.take_length] at H
    have hlen:=(H.sl 0 rfl).len
    simp +contextual (disch:=omega) only[go_sem,c0,e1,e3,e4,e9,e15,hlen]
    exact⟨_,rfl,H.drop1.drop1.drop1⟩
 obtain⟨r,τ,R,h⟩:=key
 exact⟨r,τ,R,h⟩
theorem below_all (s:State) (o:ByteArray) (h:CelR s.cells) (hn:(s.cells.map (·.dot)).Nodup) (hl:msState s≤1099511627776):∀(f:Nat) (d:Dot),f≤fuel→Adq (objC s.cells o) f d→BelowOk s o d
 |0,d,hf,ha=>below_step s o d hn hl (ha.le hf) fun c hc=>by
  obtain⟨h1,h2⟩:=List.mem_filter.1 hc
  exact absurd (by simpa [isRef] using h2) (ha c h1)
 |f+1,d,hf,ha=>below_step s o d hn hl (ha.le hf) fun c hc=>by
  obtain⟨h1,h2⟩:=List.mem_filter.1 hc
  exact below_all s o h hn hl f c.dot (by omega) (ha c h1 (by simpa [isRef] using h2))
theorem s_l08Row_ret (σ:St) (cs:List GV) (s:State) (hR:kState.R σ s cs) (o:ByteArray) (hok:stateOk s=true) (hl:msState s≤1099511627776):∃ r τ,Ret Try.prog n_s_l08Row [.agg cs,.str o] σ r τ∧Hp σ τ [ow pCell.kd r (rowC s o)]:=by
 have hc:=celR_of hok
 have hn:=hc.nd
 have hb:=rowC_len hc o
 have hlen:=kState.len hR
 have hlen:cs.length=4:=hlen
 refine ret_dr ir_s_l08Row (Nat.le_of_ble_eq_true rfl) ?_
 have H:=((Hp.refl σ).new 1 cs).nil_Cell
 simp +contextual (disch:=omega) only[go_sem,F_s_l08Row,ld_new,ld_new2,seg_full hlen]
 obtain⟨w,τ,R,H1⟩:=below_all s o hc hn hl fuel ⟨0,0⟩ (Nat.le_refl _) (adq_zero hc o).1 σ _ cs _ 0 _ [] hR H rfl (by unfold rowC at hb;simp only[List.length_nil];omega)
 refine by_mut R ?_
 simp +contextual (disch:=omega) only[go_sem]
 exact⟨_,rfl,by rw[rowC];exact H1.one⟩
end Go.Proofs.Ytbeoiejnogdkpaa.Sy
namespace Go.Proofs.Ytbeoiejnogdkpaa.Sy
open Go Go.RowKit
set_option linter.unusedSimpArgs false
set_option linter.unusedVariables false
set_option maxRecDepth 4000
structure Eqs {α:Type} [Inhabited α] [DecidableEq α] (e:El α) where
 eq:∀ x y,binG .eql (e.val x) (e.val y)=some (.bool (decide (x=y)))
 ne:∀ x y,binG .neq (e.val x) (e.val y)=some (.bool (!decide (x=y)))
 ze:List GV
 hze:ze.length=e.p.z
section
variable {α:Type} [Inhabited α] {e:El α} {σ0 σ τ:St} {rs:List Thg} {v:GV} {l:List α}
end
end Go.Proofs.Ytbeoiejnogdkpaa.Sy
namespace Go.Proofs.Ytbeoiejnogdkpaa.Sy
open Go Go.RowKit
set_option linter.unusedSimpArgs false
set_option linter.unusedVariables false
set_option maxRecDepth 4000
end Go.Proofs.Ytbeoiejnogdkpaa.Sy
namespace Go.Proofs.Ytbeoiejnogdkpaa.Sy
open Go Go.RowKit
set_option linter.unusedSimpArgs false
set_option linter.unusedVariables false
abbrev n_s_GoneIn:Nat:=24
def F_s_GoneIn:Fn1:=⟨33,[.t 4],(.seq (.reg [o 2 (.box (.t 0)),o 4 (.mov (.k (.int .i64 0)))]) (.seq (.reg [o 5 (.mov (.k (.int .i64 0)))]) (.seq (.seq (.reg [o 6 (.mov (.k (.int .i64 0)))]) (.blk 0 (.lop (.seq (.seq (.reg [o 7 (.mov (.t 6)),o 8 (.fad 3 (.t 2)),o 9 (.ld false 1 (.t 8)),o 10 (.len false (.t 9)),o 11 (.bin .lss (.t 7) (.t 10))]) (.cnd (.t 11) .skip (.ext 0))) (.seq (.blk 1 (.seq (.reg [o 14 (.fad 3 (.t 2)),o 15 (.ld false 1 (.t 14)),o 16 (.mov (.t 6)),o 17 (.iad 8 (.t 15) (.t 16)),o 18 (.fad 0 (.t 17)),o 19 (.ld false 1 (.t 18)),o 20 (.mov (.t 1)),o 21 (.bin .eql (.t 19) (.t 20)),o 22 (.mov (.t 21)),og 23 22 true (.fad 3 (.t 2)),og 24 22 true (.ld false 1 (.t 23)),og 25 22 true (.mov (.t 6)),og 26 22 true (.iad 8 (.t 24) (.t 25)),og 27 22 true (.fad 7 (.t 26)),og 28 22 true (.ld false 1 (.t 27)),o 29 (.pick (.t 22) (.t 28) (.k (.bool false)))]) (.cnd (.t 29) (.reg [o 30 (.mov (.t 5)),o 31 (.bin .add (.t 30) (.k (.int .i64 1))),o 5 (.mov (.t 31))]) .skip))) (.reg [o 12 (.mov (.t 6)),o 13 (.bin .add (.t 12) (.k (.int .i64 1))),o 6 (.mov (.t 13))])))))) (.seq (.reg [o 32 (.mov (.t 5)),o 4 (.mov (.t 32))]) .ret))))⟩
abbrev n_i_GoneIn:Nat:=13
def F_i_GoneIn:Fn1:=⟨27,[.t 4],(.seq (.reg [o 2 (.box (.t 0)),o 4 (.mov (.k (.int .i64 0)))]) (.seq (.reg [o 5 (.mov (.k (.int .i64 0)))]) (.seq (.seq (.reg [o 8 (.fad 3 (.t 2)),o 9 (.ld false 1 (.t 8)),o 10 (.len false (.t 9)),o 11 (.mov (.k (.int .i64 0)))]) (.blk 0 (.lop (.seq (.reg [o 12 (.bin .lss (.t 11) (.t 10))]) (.seq (.cnd (.t 12) .skip (.ext 0)) (.seq (.blk 1 (.seq (.reg [o 13 (.iad 8 (.t 9) (.t 11)),o 14 (.ld true 8 (.t 13)),o 7 (.new [(.str ⟨#[]⟩),(.int .i64 0),(.int .i64 0),(.int .i64 0),(.int .i64 0),(.int .i64 0),(.int .i64 0),(.bool false)]),on (.st 8 (.t 7) (.t 14))]) (.seq (.reg [o 15 (.fad 0 (.t 7)),o 16 (.ld false 1 (.t 15)),o 17 (.mov (.t 1)),o 18 (.bin .eql (.t 16) (.t 17)),o 19 (.mov (.t 18)),og 20 19 true (.fad 7 (.t 7)),og 21 19 true (.ld false 1 (.t 20)),o 22 (.pick (.t 19) (.t 21) (.k (.bool false)))]) (.cnd (.t 22) (.reg [o 23 (.mov (.t 5)),o 24 (.bin .add (.t 23) (.k (.int .i64 1))),o 5 (.mov (.t 24))]) .skip)))) (.reg [o 25 (.bin .add (.t 11) (.k (.int .i64 1))),o 11 (.mov (.t 25))]))))))) (.seq (.reg [o 26 (.mov (.t 5)),o 4 (.mov (.t 26))]) .ret))))⟩
theorem ir_i_GoneIn:compFn Try.prog n_i_GoneIn=some F_i_GoneIn:=by kernel_rfl
abbrev n_s_RefsTo:Nat:=25
def F_s_RefsTo:Fn1:=⟨30,[.t 4],(.seq (.reg [o 2 (.box (.t 0)),o 3 (.box (.t 1)),o 4 (.mov (.k (.int .i64 0)))]) (.seq (.reg [o 5 (.mov (.k (.int .i64 0)))]) (.seq (.seq (.reg [o 6 (.mov (.k (.int .i64 0)))]) (.blk 0 (.lop (.seq (.seq (.reg [o 7 (.mov (.t 6)),o 8 (.fad 3 (.t 2)),o 9 (.ld false 1 (.t 8)),o 10 (.len false (.t 9)),o 11 (.bin .lss (.t 7) (.t 10))]) (.cnd (.t 11) .skip (.ext 0))) (.seq (.blk 1 (.seq (.drw [o 14 (.fad 3 (.t 2)),o 15 (.ld false 1 (.t 14)),o 16 (.mov (.t 6)),o 17 (.iad 8 (.t 15) (.t 16)),o 18 (.fad 4 (.t 17)),o 19 (.ld true 2 (.t 18)),o 20 (.ld true 2 (.t 3))] [o 21 (.eqs false [.i .i64,.i .i64] (.t 19) (.t 20)),o 22 (.mov (.t 21)),og 23 22 true (.ld true 2 (.t 3)),og 24 22 true (.build [(.int .i64 0),(.int .i64 0)] []),og 25 22 true (.eqs true [.i .i64,.i .i64] (.t 23) (.t 24)),o 26 (.pick (.t 22) (.t 25) (.k (.bool false)))]) (.cnd (.t 26) (.reg [o 27 (.mov (.t 5)),o 28 (.bin .add (.t 27) (.k (.int .i64 1))),o 5 (.mov (.t 28))]) .skip))) (.reg [o 12 (.mov (.t 6)),o 13 (.bin .add (.t 12) (.k (.int .i64 1))),o 6 (.mov (.t 13))])))))) (.seq (.reg [o 29 (.mov (.t 5)),o 4 (.mov (.t 29))]) .ret))))⟩
abbrev n_i_RefsTo:Nat:=16
def F_i_RefsTo:Fn1:=⟨28,[.t 4],(.seq (.reg [o 2 (.box (.t 0)),o 3 (.box (.t 1)),o 4 (.mov (.k (.int .i64 0)))]) (.seq (.reg [o 5 (.mov (.k (.int .i64 0)))]) (.seq (.seq (.reg [o 8 (.fad 3 (.t 2)),o 9 (.ld false 1 (.t 8)),o 10 (.len false (.t 9)),o 11 (.mov (.k (.int .i64 0)))]) (.blk 0 (.lop (.seq (.reg [o 12 (.bin .lss (.t 11) (.t 10))]) (.seq (.cnd (.t 12) .skip (.ext 0)) (.seq (.blk 1 (.seq (.reg [o 13 (.iad 8 (.t 9) (.t 11)),o 14 (.ld true 8 (.t 13)),o 7 (.new [(.str ⟨#[]⟩),(.int .i64 0),(.int .i64 0),(.int .i64 0),(.int .i64 0),(.int .i64 0),(.int .i64 0),(.bool false)]),on (.st 8 (.t 7) (.t 14))]) (.seq (.reg [o 15 (.fad 4 (.t 7)),o 16 (.ld true 2 (.t 15)),o 17 (.ld true 2 (.t 3)),o 18 (.eqs false [.i .i64,.i .i64] (.t 16) (.t 17)),o 19 (.mov (.t 18)),og 20 19 true (.ld true 2 (.t 3)),og 21 19 true (.build [(.int .i64 0),(.int .i64 0)] []),og 22 19 true (.eqs true [.i .i64,.i .i64] (.t 20) (.t 21)),o 23 (.pick (.t 19) (.t 22) (.k (.bool false)))]) (.cnd (.t 23) (.reg [o 24 (.mov (.t 5)),o 25 (.bin .add (.t 24) (.k (.int .i64 1))),o 5 (.mov (.t 25))]) .skip)))) (.reg [o 26 (.bin .add (.t 11) (.k (.int .i64 1))),o 11 (.mov (.t 26))]))))))) (.seq (.reg [o 27 (.mov (.t 5)),o 4 (.mov (.t 27))]) .ret))))⟩
theorem ir_i_RefsTo:compFn Try.prog n_i_RefsTo=some F_i_RefsTo:=by kernel_rfl
def goneIn (l:List Cell) (obj:ByteArray):Nat:=l.countP fun c=>decide (c.obj=obj)&&c.gone
theorem goneIn_snoc {l:List Cell} {obj:ByteArray} {i:Nat} (hi:i<l.length):goneIn (l.take (i+1)) obj=goneIn (l.take i) obj+(if decide (l[i].obj=obj)&&l[i].gone then 1 else 0):=by
 rw[take_snoc hi,goneIn,List.countP_append,List.countP_singleton];rfl
theorem goneIn_le (l:List Cell) (obj:ByteArray):goneIn l obj≤l.length:=List.countP_le_length
theorem i_GoneIn_r0 (σ:St) (a b c v:GV) (l:List Cell) (obj:ByteArray) (h:RS pCell.kd σ v l) (hl:l.length≤1099511627776):Ret Try.prog n_i_GoneIn [.agg [a,b,c,v],.str obj] σ (gi (goneIn l obj)) σ:=by
 refine ret_eq ir_i_GoneIn (Nat.le_of_ble_eq_true rfl) trivial ?_
 simp +contextual (disch:=omega) only[go_sem,F_i_GoneIn,ld_ptr rdB_new,h.len]
 refine vc_for l.length 11 (fun i env τ=>env 1= .str obj∧env 9=v∧env 10=gi l.length∧env 5=gi (goneIn (l.take i) obj)∧σ <+: τ) rfl ⟨rfl,rfl,rfl,rfl,pre1 _ _⟩ ?_ ?_
 ·rintro i env τ hi e11 c0 ⟨e1,e9,e10,e5,hp⟩
  have h1:=h.pre hp
  have hb:=goneIn_le (l.take i) obj
  rw[List.length_take] at hb
  simp +contextual (disch:=omega) only[go_sem,c0,e1,e9,e10,e5,e11,Cell_at h1 hi,goneIn_snoc hi,pre_app hp]
 ·rintro env τ e11 c0 ⟨e1,e9,e10,e5,hp⟩
  rw[List.take_length] at e5
  simp +contextual (disch:=omega) only[go_sem,c0,e1,e9,e10,e5,e11,hp]
def refsTo (l:List Cell) (d:Dot):Nat:=l.countP fun c=>decide (c.ref=d)&& !decide (d=⟨0,0⟩)
theorem refsTo_snoc {l:List Cell} {d:Dot} {i:Nat} (hi:i<l.length):refsTo (l.take (i+1)) d=refsTo (l.take i) d+(if decide (l[i].ref=d)&& !decide (d=⟨0,0⟩) then 1 else 0):=by
 rw[take_snoc hi,refsTo,List.countP_append,List.countP_singleton];rfl
theorem refsTo_le (l:List Cell) (d:Dot):refsTo l d≤l.length:=List.countP_le_length
theorem i_RefsTo_r0 (σ:St) (a b c v:GV) (l:List Cell) (d:Dot) (h:RS pCell.kd σ v l) (hl:l.length≤1099511627776):Ret Try.prog n_i_RefsTo [.agg [a,b,c,v],.agg [gi d.rep,gi d.seq]] σ (gi (refsTo l d)) σ:=by
 refine ret_eq ir_i_RefsTo (Nat.le_of_ble_eq_true rfl) trivial ?_
 simp +contextual (disch:=omega) only[go_sem,F_i_RefsTo,h.len]
 refine vc_for l.length 11 (fun i env τ=>env 3= .ptr (σ++[some (Blk.row 1 [a,b,c,v])]).length 0∧env 9=v∧env 10=gi l.length∧env 5=gi (refsTo (l.take i) d)∧σ++[some (.row 1 [a,b,c,v])]++[some (.row 1 [gi d.rep,gi d.seq])] <+: τ) rfl ⟨rfl,rfl,rfl,rfl,List.prefix_refl _⟩ ?_ ?_
 ·rintro i env τ hi e11 c0 ⟨e3,e9,e10,e5,hp⟩
  have h1:=h.pre (box_pre2 hp)
  have hb:=refsTo_le (l.take i) d
  rw[List.length_take] at hb
  simp +contextual (disch:=omega) only[go_sem,c0,e3,e9,e10,e5,e11,ld_ptr (rdB_app (box_rd hp) _),ld_ptr (box_rd hp),Cell_at h1 hi,refsTo_snoc hi,pre_app hp]
 ·rintro env τ e11 c0 ⟨e3,e9,e10,e5,hp⟩
  rw[List.take_length] at e5
  simp +contextual (disch:=omega) only[go_sem,c0,e3,e9,e10,e5,e11,box_pre2 hp]
theorem i_GoneIn_ret (σ:St) (cs:List GV) (s:State) (hR:kState.R σ s cs) (obj:ByteArray) (hl:msState s≤1099511627776) (ho:obj.size≤1099511627776):Ret Try.prog n_i_GoneIn [.agg cs,.str obj] σ (gi (goneIn s.cells obj)) σ:=by
 obtain⟨a,b,c,v,rfl,_,_,_,h⟩:=hR
 exact i_GoneIn_r0 σ a b c v s.cells obj h (by unfold msState at hl;omega)
end Go.Proofs.Ytbeoiejnogdkpaa.Sy
namespace Go.Proofs.Ytbeoiejnogdkpaa.Sy
open Go Go.RowKit
set_option linter.unusedSimpArgs false
set_option linter.unusedVariables false
set_option maxRecDepth 4000
abbrev n_s_l24May:Nat:=48
def F_s_l24May:Fn1:=⟨32,[.t 6],(.seq (.reg [o 3 (.box (.t 0)),o 4 (.box (.t 1)),o 6 (.mov (.k (.bool false)))]) (.seq (.reg [o 8 (.ld true 4 (.t 3)),o 9 (.ld true 2 (.t 4)),o 10 (.call 40 [(.t 8),(.t 9)]),o 7 (.mov (.t 10))]) (.seq (.reg [o 11 (.mov (.t 7)),o 12 (.bin .geq (.t 11) (.k (.int .i64 0))),o 13 (.mov (.t 12)),og 14 13 true (.fad 3 (.t 3)),og 15 13 true (.ld false 1 (.t 14)),og 16 13 true (.mov (.t 7)),og 17 13 true (.iad 8 (.t 15) (.t 16)),og 18 13 true (.fad 7 (.t 17)),og 19 13 true (.ld false 1 (.t 18)),o 20 (.pick (.t 13) (.t 19) (.k (.bool false))),o 21 (.mov (.t 20)),og 22 21 true (.mov (.t 2)),og 23 21 true (.ld true 2 (.t 4)),og 24 21 true (.call 39 [(.t 22),(.t 23)]),o 25 (.pick (.t 21) (.t 24) (.k (.bool false))),o 26 (.mov (.t 25)),og 27 26 true (.ld true 4 (.t 3)),og 28 26 true (.ld true 2 (.t 4)),og 29 26 true (.call 25 [(.t 27),(.t 28)]),og 30 26 true (.bin .eql (.t 29) (.k (.int .i64 0))),o 31 (.pick (.t 26) (.t 30) (.k (.bool false))),o 6 (.mov (.t 31))]) .ret)))⟩
abbrev n_i_mayClear:Nat:=33
def F_i_mayClear:Fn1:=⟨32,[.t 6],(.seq (.reg [o 3 (.box (.t 0)),o 4 (.box (.t 1)),o 6 (.mov (.k (.bool false)))]) (.seq (.reg [o 8 (.ld true 4 (.t 3)),o 9 (.ld true 2 (.t 4)),o 10 (.call 57 [(.t 8),(.t 9)]),o 7 (.mov (.t 10))]) (.seq (.reg [o 11 (.mov (.t 7)),o 12 (.bin .geq (.t 11) (.k (.int .i64 0))),o 13 (.mov (.t 12)),og 14 13 true (.fad 3 (.t 3)),og 15 13 true (.ld false 1 (.t 14)),og 16 13 true (.mov (.t 7)),og 17 13 true (.iad 8 (.t 15) (.t 16)),og 18 13 true (.fad 7 (.t 17)),og 19 13 true (.ld false 1 (.t 18)),o 20 (.pick (.t 13) (.t 19) (.k (.bool false))),o 21 (.mov (.t 20)),og 22 21 true (.mov (.t 2)),og 23 21 true (.ld true 2 (.t 4)),og 24 21 true (.call 58 [(.t 22),(.t 23)]),o 25 (.pick (.t 21) (.t 24) (.k (.bool false))),o 26 (.mov (.t 25)),og 27 26 true (.ld true 4 (.t 3)),og 28 26 true (.ld true 2 (.t 4)),og 29 26 true (.call 16 [(.t 27),(.t 28)]),og 30 26 true (.bin .eql (.t 29) (.k (.int .i64 0))),o 31 (.pick (.t 26) (.t 30) (.k (.bool false))),o 6 (.mov (.t 31))]) .ret)))⟩
theorem ir_i_mayClear:compFn Try.prog n_i_mayClear=some F_i_mayClear:=by kernel_rfl
abbrev n_s_MayClear:Nat:=26
def F_s_MayClear:Fn1:=⟨15,[.t 6],(.seq (.reg [o 3 (.box (.t 0)),o 4 (.box (.t 1)),o 6 (.mov (.k (.bool false)))]) (.seq (.reg [o 7 (.ld true 4 (.t 3)),o 8 (.call 14 [(.t 7)]),o 9 (.mov (.t 8)),og 10 9 true (.ld true 4 (.t 3)),og 11 9 true (.ld true 2 (.t 4)),og 12 9 true (.mov (.t 2)),og 13 9 true (.call 48 [(.t 10),(.t 11),(.t 12)]),o 14 (.pick (.t 9) (.t 13) (.k (.bool false))),o 6 (.mov (.t 14))]) .ret))⟩
abbrev n_i_MayClear:Nat:=17
def F_i_MayClear:Fn1:=⟨15,[.t 6],(.seq (.reg [o 3 (.box (.t 0)),o 4 (.box (.t 1)),o 6 (.mov (.k (.bool false)))]) (.seq (.reg [o 7 (.ld true 4 (.t 3)),o 8 (.call 32 [(.t 7)]),o 9 (.mov (.t 8)),og 10 9 true (.ld true 4 (.t 3)),og 11 9 true (.ld true 2 (.t 4)),og 12 9 true (.mov (.t 2)),og 13 9 true (.call 33 [(.t 10),(.t 11),(.t 12)]),o 14 (.pick (.t 9) (.t 13) (.k (.bool false))),o 6 (.mov (.t 14))]) .ret))⟩
theorem neg1_ge:decide ((0:Int)≤ -1)=false:=rfl
def mayClr (s:State) (d:Dot) (kn:List Int):Bool:=match cellIx s.cells d with
 |some k=>(onI s.cells k fun c=>c.gone)&&(knows kn d&&decide (refsTo s.cells d=0))
 |none=>false
theorem i_mayClear_ret (σ:St) (cs:List GV) (s:State) (hR:kState.R σ s cs) (d:Dot) (u:GV) (kn:List Int) (hk:RS pI.kd σ u kn) (hl:msState s≤1099511627776) (hlk:kn.length≤1099511627776):Ret Try.prog n_i_mayClear [.agg cs,.agg [gi d.rep,gi d.seq],u] σ (.bool (mayClr s d kn)) σ:=by
 obtain⟨a,b,c,v,rfl,_,_,_,h⟩:=hR
 have l4:=(msState_all hl).2.2.2.1
 refine ret_eq ir_i_mayClear (Nat.le_of_ble_eq_true rfl) trivial ?_
 simp +contextual (disch:=omega) only[go_sem,F_i_mayClear]
 refine by_ret (i_CellAt_r0 _ a b c v s.cells d (h.pre pre2) l4) ?_
 cases hx:cellIx s.cells d with
 |none=>
  have hn:cellNo s.cells d= -1:=by simp[cellNo,hx]
  simp +contextual (disch:=omega) only[go_sem,hn,neg1_ge]
  simp[mayClr,hx]
 |some k=>
  obtain⟨hkl,_⟩:=cellIx_some hx
  have hn:cellNo s.cells d=k:=by simp[cellNo,hx]
  have hd:decide (0≤(k:Int))=true:=by simp
  have hm:mayClr s d kn=(s.cells[k].gone&&(knows kn d&&decide (refsTo s.cells d=0))):=by simp[mayClr,hx,onI_at hkl]
  cases hg:s.cells[k].gone with
  |false=>
   simp +contextual (disch:=omega) only[go_sem,hn,hd,Cell_at (h.pre (pre2 (x:=some (Blk.row 1 [a,b,c,v])) (y:=some (Blk.row 1 [gi d.rep,gi d.seq])))) hkl,hg]
   rw[hm,hg];simp
  |true=>
   simp +contextual (disch:=omega) only[go_sem,hn,hd,Cell_at (h.pre (pre2 (x:=some (Blk.row 1 [a,b,c,v])) (y:=some (Blk.row 1 [gi d.rep,gi d.seq])))) hkl,hg]
   refine by_bool (i_Knows_ret _ u kn d (hk.pre pre2) hlk) (fun h1=> ?_) (fun h1=> ?_)
   ·simp +contextual (disch:=omega) only[go_sem]
    refine by_ret (i_RefsTo_r0 _ a b c v s.cells d (h.pre pre2) l4) ?_
    simp +contextual (disch:=omega) only[go_sem]
    rw[hm,hg,h1]
    simp only[Bool.true_and]
    rw[Bool.eq_iff_iff];simp
   ·simp +contextual (disch:=omega) only[go_sem]
    rw[hm,hg,h1];simp
end Go.Proofs.Ytbeoiejnogdkpaa.Sy
namespace Go.Proofs.Ytbeoiejnogdkpaa.Sy
open Go Go.RowKit
set_option linter.unusedSimpArgs false
set_option linter.unusedVariables false
theorem Hp.ownAct {σ τ:St} {rs:List Thg} {x:Act} {v2:GV} (H:Hp σ τ (ow pI.kd v2 x.knew::rs)):Hp σ τ (own kAct ((GV.int .i64 x.dot.rep)::(GV.int .i64 x.dot.seq)::(GV.int .i64 x.time)::v2::(GV.int .i64 x.kind)::(GV.str x.obj)::(GV.str x.key)::(GV.int .i64 x.val)::(GV.int .i64 x.ref.rep)::(GV.int .i64 x.ref.seq)::[]) x::rs):=by
 refine(H).conv ?_
 intro fp h0
 exact⟨v2,fp,rfl,h0,rfl⟩
theorem Hp.ownState {σ τ:St} {rs:List Thg} {x:State} {v0:GV} {v1:GV} {v2:GV} {v3:GV} (H:Hp σ τ (ow pI.kd v0 x.know::ow pTally.kd v1 x.tallies::ow pLive.kd v2 x.lives::ow pCell.kd v3 x.cells::rs)):Hp σ τ (own kState (v0::v1::v2::v3::[]) x::rs):=by
 refine(H.join.join.join).conv ?_
 rintro fp ⟨_,f3,⟨_,f2,⟨f0,f1,h0,h1,rfl⟩,h2,rfl⟩,h3,rfl⟩
 exact⟨v0,v1,v2,v3,f0,f1,f2,f3,rfl,h0,h1,h2,h3,by simp[List.append_assoc]⟩
theorem Hp.splitState {σ τ:St} {rs:List Thg} {x:State} {cs:List GV} (H:Hp σ τ (own kState cs x::rs)):∃ v0 v1 v2 v3,cs=v0::v1::v2::v3::[]∧Hp σ τ (ow pI.kd v0 x.know::ow pTally.kd v1 x.tallies::ow pLive.kd v2 x.lives::ow pCell.kd v3 x.cells::rs):=by
 obtain⟨h,fp,⟨a,b,⟨v0,v1,v2,v3,f0,f1,f2,f3,rfl,h0,h1,h2,h3,rfl⟩,hs,rfl⟩,hn,hb⟩:=H
 exact⟨v0,v1,v2,v3,rfl,h,_,⟨_,_,h0,⟨_,_,h1,⟨_,_,h2,⟨_,_,h3,hs,rfl⟩,rfl⟩,rfl⟩,rfl⟩,by simpa [List.append_assoc] using hn,by simpa [List.append_assoc] using hb⟩
end Go.Proofs.Ytbeoiejnogdkpaa.Sy
namespace Go.Proofs.Ytbeoiejnogdkpaa.Sy
open Go Go.RowKit
set_option linter.unusedSimpArgs false
set_option linter.unusedVariables false
theorem Hp.cp {α:Type} {p:Pl α} {by8:Nat} {σ τ:St} {rs:List Thg} {x:GV} {m:List α} (H:Hp σ τ rs) (hx:RS p.kd τ x m) (hz:0<p.z) (hb:m.length*by8≤140737488355328):
  ∃ v' τ',appV p.z by8 (τ++[some (.row p.z [])]) (.sl τ.length 0 0) x=some (v',τ')∧τ++[some (.row p.z [])] <+: τ'∧Hp σ τ' (ow p.kd v' m::rs):=by
 have hx':RdN p.en (τ++[some (.row p.z [])]) x m:=RdN.pre hx (pre1 _ _)
 have ha:appV p.z by8 (τ++[some (.row p.z [])]) (.sl τ.length 0 0) x=appG p.z by8 (τ++[some (.row p.z [])]) (.sl τ.length 0 0) m.length (p.cells m):=by
  have he:=hx'.elems
  unfold appV
  rcases hx' with⟨rfl,rfl|rfl⟩|⟨g,off,cs,rfl,_⟩<;>simp only[he,Option.bind_some]
 rw[ha]
 have H1:=H.newNil p.kd
 by_cases hm:m.length=0
 ·have:m=[]:=List.eq_nil_of_length_eq_zero hm
  subst this
  exact⟨_,_,by simp[appG,isSl],List.prefix_refl _,H1⟩
 ·refine⟨.sl (τ.length+1) 0 m.length,τ++[some (.row p.z [])]++[some (.row p.z (p.cells m))],?_,pre1 _ _,?_⟩
  ·have hB:(τ++[some (Blk.row p.z [])])[τ.length]? =some (some (.row p.z [])):=by simp
   simp only[appG,hB,if_neg hm]
   rw[if_pos ⟨trivial,trivial,trivial,trivial,hb⟩]
   simp
  ·have H2:=(((H.grow (pre1 τ (some (Blk.row p.z [])))).new p.z (p.cells m)).toRow 0 rfl m rfl rfl _ rfl)
   have e:(τ++[some (Blk.row p.z [])]).length=τ.length+1:=by simp
   rw[e] at H2
   exact H2
theorem Hp.cp_int {σ τ:St} {rs:List Thg} {x:GV} {m:List Int} (H:Hp σ τ rs) (hx:RS pI.kd τ x m) (hb:m.length≤1099511627776):∃ v' τ',appV 1 8 (τ++[some (.row 1 [])]) (.sl τ.length 0 0) x=some (v',τ')∧τ++[some (.row 1 [])] <+: τ'∧Hp σ τ' (ow pI.kd v' m::rs):=H.cp hx (by decide) (by omega)
theorem Hp.cp_Tally {σ τ:St} {rs:List Thg} {x:GV} {m:List Tally} (H:Hp σ τ rs) (hx:RS pTally.kd τ x m) (hb:m.length≤1099511627776):∃ v' τ',appV 3 32 (τ++[some (.row 3 [])]) (.sl τ.length 0 0) x=some (v',τ')∧τ++[some (.row 3 [])] <+: τ'∧Hp σ τ' (ow pTally.kd v' m::rs):=H.cp hx (by decide) (by omega)
theorem Hp.cp_Live {σ τ:St} {rs:List Thg} {x:GV} {m:List Live} (H:Hp σ τ rs) (hx:RS pLive.kd τ x m) (hb:m.length≤1099511627776):∃ v' τ',appV 6 64 (τ++[some (.row 6 [])]) (.sl τ.length 0 0) x=some (v',τ')∧τ++[some (.row 6 [])] <+: τ'∧Hp σ τ' (ow pLive.kd v' m::rs):=H.cp hx (by decide) (by omega)
theorem Hp.cp_Cell {σ τ:St} {rs:List Thg} {x:GV} {m:List Cell} (H:Hp σ τ rs) (hx:RS pCell.kd τ x m) (hb:m.length≤1099511627776):∃ v' τ',appV 8 72 (τ++[some (.row 8 [])]) (.sl τ.length 0 0) x=some (v',τ')∧τ++[some (.row 8 [])] <+: τ'∧Hp σ τ' (ow pCell.kd v' m::rs):=H.cp hx (by decide) (by omega)
end Go.Proofs.Ytbeoiejnogdkpaa.Sy
namespace Go.Proofs.Ytbeoiejnogdkpaa.Sy
open Go Go.RowKit
set_option linter.unusedSimpArgs false
set_option linter.unusedVariables false
set_option maxRecDepth 4000
theorem s_l06Copy_ret (σ:St) (cs:List GV) (s:State) (hR:kState.R σ s cs) (hl:msState s≤1099511627776):∃ ds τ,Ret Try.prog n_s_l06Copy [.agg cs] σ (.agg ds) τ∧Hp σ τ [own kState ds s]:=by
 obtain⟨a,b,c,v,rfl,hk,ht,hv,hc⟩:=hR
 obtain⟨l1,l2,l3,l4,_⟩:=msState_all hl
 have key:∃ r τ,Ret Try.prog n_s_l06Copy [.agg [a,b,c,v]] σ r τ∧∃ ds,r= .agg ds∧Hp σ τ [own kState ds s]:=by
  refine ret_dr ir_s_l06Copy (Nat.le_of_ble_eq_true rfl) ?_
  have H:=((Hp.refl σ).new 1 [a,b,c,v]).new 1 [GV.nilS,GV.nilS,GV.nilS,GV.nilS]
  simp +contextual (disch:=omega) only[go_sem,F_s_l06Copy]
  obtain⟨u1,τ1,e1,q1,H1⟩:=H.cp_int (hk.pre H.sub) l1
  have z1:=rdB_app (H1.pt 2 rfl) [some (Blk.row 3 [])]
  simp +contextual (disch:=omega) only[go_sem,e1,q1,ld_ptr z1]
  obtain⟨u2,τ2,e2,q2,H2⟩:=H1.cp_Tally (ht.pre H1.sub) l2
  have z2:=rdB_app (H2.pt 3 rfl) [some (Blk.row 6 [])]
  simp +contextual (disch:=omega) only[go_sem,e2,q2,ld_ptr z2]
  obtain⟨u3,τ3,e3,q3,H3⟩:=H2.cp_Live (hv.pre H2.sub) l3
  have z3:=rdB_app (H3.pt 4 rfl) [some (Blk.row 8 [])]
  simp +contextual (disch:=omega) only[go_sem,e3,q3,ld_ptr z3]
  obtain⟨u4,τ4,e4,q4,H4⟩:=H3.cp_Cell (hc.pre H3.sub) l4
  have c1:=(H4.sl 3 rfl).cell
  have c2:=(H4.sl 2 rfl).cell
  have c3:=(H4.sl 1 rfl).cell
  have c4:=(H4.sl 0 rfl).cell
  obtain⟨τ5,e5,H5,_⟩:=H4.st 4 rfl 4 0 (.agg [u1,u2,u3,u4]) rfl (by decide) (by simp)
  have z5:=H5.pt 4 rfl
  have z5:rdB τ5 (σ++[some (Blk.row 1 [a,b,c,v])]).length=some [u1,u2,u3,u4]:=z5
  simp +contextual (disch:=omega) only[go_sem,e4,q4,c1,c2,c3,c4,e5,ld_ptr z5]
  exact⟨_,rfl,_,rfl,(((((H5.pick 1 rfl).pick 2 rfl).pick 3 rfl).ownState).one)⟩
 obtain⟨r,τ,R,ds,rfl,H⟩:=key
 exact⟨ds,τ,R,H⟩
theorem i_copyState_ret (σ:St) (cs:List GV) (s:State) (hR:kState.R σ s cs) (hl:msState s≤1099511627776):∃ ds τ,Ret Try.prog n_i_copyState [.agg cs] σ (.agg ds) τ∧Hp σ τ [own kState ds s]:=by
 obtain⟨a,b,c,v,rfl,hk,ht,hv,hc⟩:=hR
 obtain⟨l1,l2,l3,l4,_⟩:=msState_all hl
 have key:∃ r τ,Ret Try.prog n_i_copyState [.agg [a,b,c,v]] σ r τ∧∃ ds,r= .agg ds∧Hp σ τ [own kState ds s]:=by
  refine ret_dr ir_i_copyState (Nat.le_of_ble_eq_true rfl) ?_
  have H:=((Hp.refl σ).new 1 [a,b,c,v]).new 1 [GV.nilS,GV.nilS,GV.nilS,GV.nilS]
  simp +contextual (disch:=omega) only[go_sem,F_i_copyState]
  obtain⟨u1,τ1,R1,K1⟩:=i_copyInts_ret _ a s.know (hk.pre H.sub) l1
  have H1:=H.add K1
  have z1:=rdB_app (H1.pt 2 rfl) [some (Blk.row 3 [])]
  refine by_hp R1 K1 ?_
  simp +contextual (disch:=omega) only[go_sem,ld_ptr z1]
  obtain⟨u2,τ2,e2,q2,H2⟩:=H1.cp_Tally (ht.pre H1.sub) l2
  have z2:=rdB_app (H2.pt 3 rfl) [some (Blk.row 6 [])]
  simp +contextual (disch:=omega) only[go_sem,e2,q2,ld_ptr z2]
  obtain⟨u3,τ3,e3,q3,H3⟩:=H2.cp_Live (hv.pre H2.sub) l3
  have z3:=rdB_app (H3.pt 4 rfl) [some (Blk.row 8 [])]
  simp +contextual (disch:=omega) only[go_sem,e3,q3,ld_ptr z3]
  obtain⟨u4,τ4,e4,q4,H4⟩:=H3.cp_Cell (hc.pre H3.sub) l4
  have c1:=(H4.sl 3 rfl).cell
  have c2:=(H4.sl 2 rfl).cell
  have c3:=(H4.sl 1 rfl).cell
  have c4:=(H4.sl 0 rfl).cell
  obtain⟨τ5,e5,H5,_⟩:=H4.st 4 rfl 4 0 (.agg [u1,u2,u3,u4]) rfl (by decide) (by simp)
  have z5:=H5.pt 4 rfl
  have z5:rdB τ5 (σ++[some (Blk.row 1 [a,b,c,v])]).length=some [u1,u2,u3,u4]:=z5
  simp +contextual (disch:=omega) only[go_sem,e4,q4,c1,c2,c3,c4,e5,ld_ptr z5]
  exact⟨_,rfl,_,rfl,(((((H5.pick 1 rfl).pick 2 rfl).pick 3 rfl).ownState).one)⟩
 obtain⟨r,τ,R,ds,rfl,H⟩:=key
 exact⟨ds,τ,R,H⟩
end Go.Proofs.Ytbeoiejnogdkpaa.Sy
namespace Go.Proofs.Ytbeoiejnogdkpaa.Sy
open Go Go.RowKit
set_option linter.unusedSimpArgs false
set_option linter.unusedVariables false
set_option maxRecDepth 4000
section
variable {α:Type} {d:En α} {σ τ:St} {v:GV} {l:List α}
end
abbrev liveV (x:Live):List GV:=[.bool x.map,.str x.obj,.str x.key,.int .i64 x.val,.int .i64 x.dot.rep,.int .i64 x.dot.seq]
theorem gt_cast {n:Nat}:decide ((120:Int)<(n:Int))=decide (120<n):=by rw[decide_eq_decide];omega
end Go.Proofs.Ytbeoiejnogdkpaa.Sy
namespace Go.Proofs.Ytbeoiejnogdkpaa.Sy
open Go Go.RowKit
set_option linter.unusedSimpArgs false
set_option linter.unusedVariables false
set_option maxRecDepth 4000
abbrev tallyV (x:Tally):List GV:=[.str x.obj,.int .i64 x.rep,.int .i64 x.sum]
end Go.Proofs.Ytbeoiejnogdkpaa.Sy
namespace Go.Proofs.Ytbeoiejnogdkpaa.Sy
open Go Go.RowKit
set_option linter.unusedSimpArgs false
set_option linter.unusedVariables false
set_option maxRecDepth 4000
abbrev n_s_l07Live:Nat:=97
def F_s_l07Live:Fn1:=⟨45,[.t 4],(.seq (.reg [o 3 (.box (.t 1)),o 4 (.mov (.k .nilS))]) (.seq (.reg [o 8 (.lit 6 0 [] []),o 5 (.mov (.t 8))]) (.seq (.reg [o 6 (.mov (.k (.bool false)))]) (.seq (.seq (.reg [o 7 (.mov (.k (.int .i64 0)))]) (.blk 0 (.lop (.seq (.seq (.reg [o 9 (.mov (.t 7)),o 10 (.mov (.t 0)),o 11 (.len false (.t 10)),o 12 (.bin .lss (.t 9) (.t 11))]) (.cnd (.t 12) .skip (.ext 0))) (.seq (.blk 1 (.seq (.seq (.drw [o 15 (.mov (.t 6)),o 16 (.un .not (.t 15)),o 17 (.mov (.t 16)),og 18 17 true (.fad 4 (.t 3)),og 19 17 true (.ld true 2 (.t 18)),og 20 17 true (.mov (.t 0)),og 21 17 true (.mov (.t 7)),og 22 17 true (.iad 6 (.t 20) (.t 21)),og 23 17 true (.fad 4 (.t 22)),og 24 17 true (.ld true 2 (.t 23))] [og 25 17 true (.call 63 [(.t 19),(.t 24)]),o 26 (.pick (.t 17) (.t 25) (.k (.bool false)))]) (.cnd (.t 26) (.seq (.reg [o 27 (.mov (.t 5)),o 28 (.ld true 6 (.t 3)),o 29 (.lit 6 1 [(.bool false),(.str ⟨#[]⟩),(.str ⟨#[]⟩),(.int .i64 0),(.int .i64 0),(.int .i64 0)] [(0,6,(.t 28))]),o 30 (.app 6 64 [(.bool false),(.str ⟨#[]⟩),(.str ⟨#[]⟩),(.int .i64 0),(.int .i64 0),(.int .i64 0)] (.t 27) (.t 29)),o 5 (.mov (.t 30))]) (.reg [o 6 (.mov (.k (.bool true)))])) .skip)) (.reg [o 31 (.mov (.t 5)),o 32 (.mov (.t 0)),o 33 (.mov (.t 7)),o 34 (.iad 6 (.t 32) (.t 33)),o 35 (.ld true 6 (.t 34)),o 36 (.lit 6 1 [(.bool false),(.str ⟨#[]⟩),(.str ⟨#[]⟩),(.int .i64 0),(.int .i64 0),(.int .i64 0)] [(0,6,(.t 35))]),o 37 (.app 6 64 [(.bool false),(.str ⟨#[]⟩),(.str ⟨#[]⟩),(.int .i64 0),(.int .i64 0),(.int .i64 0)] (.t 31) (.t 36)),o 5 (.mov (.t 37))]))) (.reg [o 13 (.mov (.t 7)),o 14 (.bin .add (.t 13) (.k (.int .i64 1))),o 7 (.mov (.t 14))])))))) (.seq (.seq (.reg [o 38 (.mov (.t 6)),o 39 (.un .not (.t 38))]) (.cnd (.t 39) (.reg [o 40 (.mov (.t 5)),o 41 (.ld true 6 (.t 3)),o 42 (.lit 6 1 [(.bool false),(.str ⟨#[]⟩),(.str ⟨#[]⟩),(.int .i64 0),(.int .i64 0),(.int .i64 0)] [(0,6,(.t 41))]),o 43 (.app 6 64 [(.bool false),(.str ⟨#[]⟩),(.str ⟨#[]⟩),(.int .i64 0),(.int .i64 0),(.int .i64 0)] (.t 40) (.t 42)),o 5 (.mov (.t 43))]) .skip)) (.seq (.reg [o 44 (.mov (.t 5)),o 4 (.mov (.t 44))]) .ret))))))⟩
theorem ir_s_l07Live:compFn Try.prog n_s_l07Live=some F_s_l07Live:=by kernel_rfl
abbrev n_s_l07Cell:Nat:=99
def F_s_l07Cell:Fn1:=⟨45,[.t 4],(.seq (.reg [o 3 (.box (.t 1)),o 4 (.mov (.k .nilS))]) (.seq (.reg [o 8 (.lit 8 0 [] []),o 5 (.mov (.t 8))]) (.seq (.reg [o 6 (.mov (.k (.bool false)))]) (.seq (.seq (.reg [o 7 (.mov (.k (.int .i64 0)))]) (.blk 0 (.lop (.seq (.seq (.reg [o 9 (.mov (.t 7)),o 10 (.mov (.t 0)),o 11 (.len false (.t 10)),o 12 (.bin .lss (.t 9) (.t 11))]) (.cnd (.t 12) .skip (.ext 0))) (.seq (.blk 1 (.seq (.seq (.drw [o 15 (.mov (.t 6)),o 16 (.un .not (.t 15)),o 17 (.mov (.t 16)),og 18 17 true (.fad 1 (.t 3)),og 19 17 true (.ld true 2 (.t 18)),og 20 17 true (.mov (.t 0)),og 21 17 true (.mov (.t 7)),og 22 17 true (.iad 8 (.t 20) (.t 21)),og 23 17 true (.fad 1 (.t 22)),og 24 17 true (.ld true 2 (.t 23))] [og 25 17 true (.call 63 [(.t 19),(.t 24)]),o 26 (.pick (.t 17) (.t 25) (.k (.bool false)))]) (.cnd (.t 26) (.seq (.reg [o 27 (.mov (.t 5)),o 28 (.ld true 8 (.t 3)),o 29 (.lit 8 1 [(.str ⟨#[]⟩),(.int .i64 0),(.int .i64 0),(.int .i64 0),(.int .i64 0),(.int .i64 0),(.int .i64 0),(.bool false)] [(0,8,(.t 28))]),o 30 (.app 8 72 [(.str ⟨#[]⟩),(.int .i64 0),(.int .i64 0),(.int .i64 0),(.int .i64 0),(.int .i64 0),(.int .i64 0),(.bool false)] (.t 27) (.t 29)),o 5 (.mov (.t 30))]) (.reg [o 6 (.mov (.k (.bool true)))])) .skip)) (.reg [o 31 (.mov (.t 5)),o 32 (.mov (.t 0)),o 33 (.mov (.t 7)),o 34 (.iad 8 (.t 32) (.t 33)),o 35 (.ld true 8 (.t 34)),o 36 (.lit 8 1 [(.str ⟨#[]⟩),(.int .i64 0),(.int .i64 0),(.int .i64 0),(.int .i64 0),(.int .i64 0),(.int .i64 0),(.bool false)] [(0,8,(.t 35))]),o 37 (.app 8 72 [(.str ⟨#[]⟩),(.int .i64 0),(.int .i64 0),(.int .i64 0),(.int .i64 0),(.int .i64 0),(.int .i64 0),(.bool false)] (.t 31) (.t 36)),o 5 (.mov (.t 37))]))) (.reg [o 13 (.mov (.t 7)),o 14 (.bin .add (.t 13) (.k (.int .i64 1))),o 7 (.mov (.t 14))])))))) (.seq (.seq (.reg [o 38 (.mov (.t 6)),o 39 (.un .not (.t 38))]) (.cnd (.t 39) (.reg [o 40 (.mov (.t 5)),o 41 (.ld true 8 (.t 3)),o 42 (.lit 8 1 [(.str ⟨#[]⟩),(.int .i64 0),(.int .i64 0),(.int .i64 0),(.int .i64 0),(.int .i64 0),(.int .i64 0),(.bool false)] [(0,8,(.t 41))]),o 43 (.app 8 72 [(.str ⟨#[]⟩),(.int .i64 0),(.int .i64 0),(.int .i64 0),(.int .i64 0),(.int .i64 0),(.int .i64 0),(.bool false)] (.t 40) (.t 42)),o 5 (.mov (.t 43))]) .skip)) (.seq (.reg [o 44 (.mov (.t 5)),o 4 (.mov (.t 44))]) .ret))))))⟩
theorem ir_s_l07Cell:compFn Try.prog n_s_l07Cell=some F_s_l07Cell:=by kernel_rfl
abbrev n_s_l07Ref:Nat:=90
def F_s_l07Ref:Fn1:=⟨53,[.t 4],(.seq (.reg [o 2 (.box (.t 0)),o 3 (.box (.t 1)),o 4 (.mov (.k (.bool false)))]) (.seq (.seq (.reg [o 6 (.fad 4 (.t 3)),o 7 (.ld false 1 (.t 6)),o 8 (.bin .neq (.t 7) (.k (.int .i64 7))),o 9 (.mov (.t 8)),og 10 9 true (.fad 4 (.t 3)),og 11 9 true (.ld false 1 (.t 10)),og 12 9 true (.bin .neq (.t 11) (.k (.int .i64 6))),og 13 9 true (.mov (.t 12)),og 14 13 false (.fad 8 (.t 3)),og 15 13 false (.ld true 2 (.t 14)),og 16 13 false (.build [(.int .i64 0),(.int .i64 0)] []),og 17 13 false (.eqs false [.i .i64,.i .i64] (.t 15) (.t 16)),og 18 9 true (.pick (.t 13) (.k (.bool true)) (.t 17)),o 19 (.pick (.t 9) (.t 18) (.k (.bool false)))]) (.cnd (.t 19) (.seq (.reg [o 4 (.mov (.k (.bool true)))]) .ret) .skip)) (.seq (.reg [o 20 (.ld true 4 (.t 2)),o 21 (.fad 8 (.t 3)),o 22 (.ld true 2 (.t 21)),o 23 (.call 40 [(.t 20),(.t 22)]),o 5 (.mov (.t 23))]) (.seq (.drw [o 24 (.mov (.t 5)),o 25 (.bin .geq (.t 24) (.k (.int .i64 0))),o 26 (.mov (.t 25)),og 27 26 true (.fad 3 (.t 2)),og 28 26 true (.ld false 1 (.t 27)),og 29 26 true (.mov (.t 5)),og 30 26 true (.iad 8 (.t 28) (.t 29)),og 31 26 true (.fad 0 (.t 30)),og 32 26 true (.ld false 1 (.t 31)),og 33 26 true (.fad 5 (.t 3)),og 34 26 true (.ld false 1 (.t 33)),og 35 26 true (.bin .eql (.t 32) (.t 34)),o 36 (.pick (.t 26) (.t 35) (.k (.bool false))),o 37 (.mov (.t 36)),og 38 37 true (.fad 4 (.t 3)),og 39 37 true (.ld false 1 (.t 38)),og 40 37 true (.bin .eql (.t 39) (.k (.int .i64 7))),og 41 37 true (.mov (.t 40)),og 42 41 false (.fad 3 (.t 2)),og 43 41 false (.ld false 1 (.t 42)),og 44 41 false (.mov (.t 5)),og 45 41 false (.iad 8 (.t 43) (.t 44)),og 46 41 false (.fad 3 (.t 45)),og 47 41 false (.ld false 1 (.t 46)),og 48 41 false (.fad 2 (.t 3)),og 49 41 false (.ld false 1 (.t 48))] [og 50 41 false (.bin .lss (.t 47) (.t 49)),og 51 37 true (.pick (.t 41) (.k (.bool true)) (.t 50)),o 52 (.pick (.t 37) (.t 51) (.k (.bool false))),o 4 (.mov (.t 52))]) .ret))))⟩
theorem ir_s_l07Ref:compFn Try.prog n_s_l07Ref=some F_s_l07Ref:=by kernel_rfl
set_option maxHeartbeats 2000000 in
theorem s_l07Live_ret (σ:St) (v:GV) (l:List Live) (h:RS pLive.kd σ v l) (x:Live) (hl:l.length≤1099511627776):∃ r τ,Ret Try.prog n_s_l07Live [v,.agg (liveV x)] σ r τ∧Hp σ τ [ow pLive.kd r (insLive x l)]:=by
 refine ret_dr ir_s_l07Live (Nat.le_of_ble_eq_true rfl) ?_
 have H:=((Hp.refl σ).new 1 (liveV x)).nil_Live
 simp +contextual (disch:=omega) only[go_sem,F_s_l07Live]
 generalize hn1:σ.length=n1 at*
 refine vc_forX l.length 7 0 (fun i env τ=>env 0=v∧env 3= .ptr n1 0∧∃(u:GV) (put:Bool) (nxt:List Live),env 5=u∧env 6= .bool put∧insG liveLt x l nxt i put∧Hp σ τ [ow pLive.kd u nxt,pt 1 n1 (liveV x)]) (fun env τ=>env 3= .ptr n1 0∧∃(u:GV) (put:Bool) (nxt:List Live),env 5=u∧env 6= .bool put∧insG liveLt x l nxt l.length put∧Hp σ τ [ow pLive.kd u nxt,pt 1 n1 (liveV x)]) rfl ⟨rfl,rfl,_,false,[],rfl,rfl,insG_nil,H⟩ ?_ ?_ ?_
 ·clear H
  rintro J Y hJ hY i env τ hi e7 c0 ⟨e0,e3,u,put,nxt,e5,e6,hok,H⟩
  have hnl:=insG_len hok
  have hln:=(h.pre H.sub).len
  have C1:=Live_at (h.pre H.sub) hi
  cases put with
  |true=>
   obtain⟨w',τ3,e8,H3⟩:=H.app_Live 0 rfl l[i] (by omega)
   simp +contextual (disch:=omega) only[go_sem,c0,e0,e3,e5,e6,e7,hln,C1,e8]
   refine hJ _ _ _ ⟨?_,?_,w',true,_,?_,?_,insG_step hok hi (.inl rfl),H3⟩
   all_goals simp +contextual (disch:=omega) only[go_sem,e0,e3,e6]
  |false=>
   simp +contextual (disch:=omega) only[go_sem,c0,e0,e3,e5,e6,e7,hln,C1,ld_ptr (H.pt 1 rfl)]
   refine by_ret (s_l06Before_ret _ _ _) ?_
   cases hq:dotLt x.dot l[i].dot with
   |false=>
    have hq2:liveLt x l[i]=false:=hq
    obtain⟨w',τ3,e8,H3⟩:=H.app_Live 0 rfl l[i] (by omega)
    simp +contextual (disch:=omega) only[go_sem,c0,e0,e3,e5,e6,e7,hln,C1,e8]
    refine hJ _ _ _ ⟨?_,?_,w',false,_,?_,?_,insG_step hok hi (.inr hq2),H3⟩
    all_goals simp +contextual (disch:=omega) only[go_sem,e0,e3,e6]
   |true=>
    have hq2:liveLt x l[i]=true:=hq
    obtain⟨w',τ3,e8,H3⟩:=H.app_Live 0 rfl x (by omega)
    have H3:Hp σ τ3 [ow pLive.kd w' (nxt++[x]),pt 1 n1 (liveV x)]:=H3
    have hp:=insG_put hok hi hq2
    have hnl2:=insG_len hp
    simp only[List.length_append,List.length_cons,List.length_nil] at hnl2
    have C2:=Live_at (h.pre H3.sub) hi
    obtain⟨w2,τ4,e9,H4⟩:=H3.app_Live 0 rfl l[i] (by simp;omega)
    simp +contextual (disch:=omega) only[go_sem,c0,e0,e3,e5,e6,e7,hln,C1,ld_ptr (H.pt 1 rfl),e8,C2,e9]
    refine hJ _ _ _ ⟨?_,?_,w2,true,_,?_,?_,hp,H4⟩
    all_goals simp +contextual (disch:=omega) only[go_sem,e0,e3,e6]
 ·clear H
  rintro Y hY env τ e7 c0 ⟨e0,e3,u,put,nxt,e5,e6,hok,H⟩
  have hln:=(h.pre H.sub).len
  simp +contextual (disch:=omega) only[go_sem,c0,e0,e3,e5,e6,e7,hln]
  refine hY _ _ ⟨?_,u,put,nxt,?_,?_,hok,H⟩
  all_goals simp +contextual (disch:=omega) only[go_sem,e3,e5,e6]
 ·clear H
  rintro env τ ⟨e3,u,put,nxt,e5,e6,hok,H⟩
  have hnl:=insG_len hok
  have hend:=insG_end hok
  cases put with
  |true=>
   simp +contextual (disch:=omega) only[go_sem,e3,e5,e6]
   refine⟨_,rfl,?_⟩
   rw[insLive,←hend]
   exact H.one
  |false=>
   obtain⟨w',τ3,e8,H3⟩:=H.app_Live 0 rfl x (by omega)
   simp +contextual (disch:=omega) only[go_sem,e3,e5,e6,ld_ptr (H.pt 1 rfl),e8]
   refine⟨_,rfl,?_⟩
   rw[insLive,←hend]
   exact H3.one
set_option maxHeartbeats 2000000 in
theorem s_l07Cell_ret (σ:St) (v:GV) (l:List Cell) (h:RS pCell.kd σ v l) (x:Cell) (hl:l.length≤1099511627776):∃ r τ,Ret Try.prog n_s_l07Cell [v,.agg (cellV x)] σ r τ∧Hp σ τ [ow pCell.kd r (insCell x l)]:=by
 refine ret_dr ir_s_l07Cell (Nat.le_of_ble_eq_true rfl) ?_
 have H:=((Hp.refl σ).new 1 (cellV x)).nil_Cell
 simp +contextual (disch:=omega) only[go_sem,F_s_l07Cell]
 generalize hn1:σ.length=n1 at*
 refine vc_forX l.length 7 0 (fun i env τ=>env 0=v∧env 3= .ptr n1 0∧∃(u:GV) (put:Bool) (nxt:List Cell),env 5=u∧env 6= .bool put∧insG cellLt x l nxt i put∧Hp σ τ [ow pCell.kd u nxt,pt 1 n1 (cellV x)]) (fun env τ=>env 3= .ptr n1 0∧∃(u:GV) (put:Bool) (nxt:List Cell),env 5=u∧env 6= .bool put∧insG cellLt x l nxt l.length put∧Hp σ τ [ow pCell.kd u nxt,pt 1 n1 (cellV x)]) rfl ⟨rfl,rfl,_,false,[],rfl,rfl,insG_nil,H⟩ ?_ ?_ ?_
 ·clear H
  rintro J Y hJ hY i env τ hi e7 c0 ⟨e0,e3,u,put,nxt,e5,e6,hok,H⟩
  have hnl:=insG_len hok
  have hln:=(h.pre H.sub).len
  have C1:=Cell_at (h.pre H.sub) hi
  cases put with
  |true=>
   obtain⟨w',τ3,e8,H3⟩:=H.app_Cell 0 rfl l[i] (by omega)
   simp +contextual (disch:=omega) only[go_sem,c0,e0,e3,e5,e6,e7,hln,C1,e8]
   refine hJ _ _ _ ⟨?_,?_,w',true,_,?_,?_,insG_step hok hi (.inl rfl),H3⟩
   all_goals simp +contextual (disch:=omega) only[go_sem,e0,e3,e6]
  |false=>
   simp +contextual (disch:=omega) only[go_sem,c0,e0,e3,e5,e6,e7,hln,C1,ld_ptr (H.pt 1 rfl)]
   refine by_ret (s_l06Before_ret _ _ _) ?_
   cases hq:dotLt x.dot l[i].dot with
   |false=>
    have hq2:cellLt x l[i]=false:=hq
    obtain⟨w',τ3,e8,H3⟩:=H.app_Cell 0 rfl l[i] (by omega)
    simp +contextual (disch:=omega) only[go_sem,c0,e0,e3,e5,e6,e7,hln,C1,e8]
    refine hJ _ _ _ ⟨?_,?_,w',false,_,?_,?_,insG_step hok hi (.inr hq2),H3⟩
    all_goals simp +contextual (disch:=omega) only[go_sem,e0,e3,e6]
   |true=>
    have hq2:cellLt x l[i]=true:=hq
    obtain⟨w',τ3,e8,H3⟩:=H.app_Cell 0 rfl x (by omega)
    have H3:Hp σ τ3 [ow pCell.kd w' (nxt++[x]),pt 1 n1 (cellV x)]:=H3
    have hp:=insG_put hok hi hq2
    have hnl2:=insG_len hp
    simp only[List.length_append,List.length_cons,List.length_nil] at hnl2
    have C2:=Cell_at (h.pre H3.sub) hi
    obtain⟨w2,τ4,e9,H4⟩:=H3.app_Cell 0 rfl l[i] (by simp;omega)
    simp +contextual (disch:=omega) only[go_sem,c0,e0,e3,e5,e6,e7,hln,C1,ld_ptr (H.pt 1 rfl),e8,C2,e9]
    refine hJ _ _ _ ⟨?_,?_,w2,true,_,?_,?_,hp,H4⟩
    all_goals simp +contextual (disch:=omega) only[go_sem,e0,e3,e6]
 ·clear H
  rintro Y hY env τ e7 c0 ⟨e0,e3,u,put,nxt,e5,e6,hok,H⟩
  have hln:=(h.pre H.sub).len
  simp +contextual (disch:=omega) only[go_sem,c0,e0,e3,e5,e6,e7,hln]
  refine hY _ _ ⟨?_,u,put,nxt,?_,?_,hok,H⟩
  all_goals simp +contextual (disch:=omega) only[go_sem,e3,e5,e6]
 ·clear H
  rintro env τ ⟨e3,u,put,nxt,e5,e6,hok,H⟩
  have hnl:=insG_len hok
  have hend:=insG_end hok
  cases put with
  |true=>
   simp +contextual (disch:=omega) only[go_sem,e3,e5,e6]
   refine⟨_,rfl,?_⟩
   rw[insCell,←hend]
   exact H.one
  |false=>
   obtain⟨w',τ3,e8,H3⟩:=H.app_Cell 0 rfl x (by omega)
   simp +contextual (disch:=omega) only[go_sem,e3,e5,e6,ld_ptr (H.pt 1 rfl),e8]
   refine⟨_,rfl,?_⟩
   rw[insCell,←hend]
   exact H3.one
theorem s_l07Ref_ret (σ:St) (cs:List GV) (s:State) (hR:kState.R σ s cs) (as':List GV) (a:Act) (hS:kAct.R σ a as') (hl:msState s≤1099511627776):Ret Try.prog n_s_l07Ref [.agg cs,.agg as'] σ (.bool (refIn s a)) σ:=by
 have hR0:=hR
 have hlc:cs.length=4:=kState.len hR
 obtain⟨a1,b1,c1,v1,rfl,_,_,_,hc⟩:=hR
 obtain⟨kv,rfl,hk⟩:=hS
 obtain⟨l1,l2,l3,l4,_⟩:=msState_all hl
 refine ret_eq ir_s_l07Ref (Nat.le_of_ble_eq_true rfl) trivial ?_
 have H:=((Hp.refl σ).new 1 [a1,b1,c1,v1]).new 1 [.int .i64 a.dot.rep,.int .i64 a.dot.seq,.int .i64 a.time,kv,.int .i64 a.kind,.str a.obj,.str a.key,.int .i64 a.val,.int .i64 a.ref.rep,.int .i64 a.ref.seq]
 have z1:=ld_ptr (a:=false) (n:=1) (off:=4) (H.pt 0 rfl)
 by_cases hin:a.kind=7∨(a.kind=6∧a.ref≠d0)
 ·have CA:=s_CellAt_ret _ _ s (kState.pre hR0 H.sub) a.ref hl
  cases hx:cellIx s.cells a.ref with
  |none=>
   have hE:refIn s a=false:=by simp[refIn,hin,hx]
   have hno:cellNo s.cells a.ref= -1:=by simp[cellNo,hx]
   rw[hno] at CA
   have cm:decide ((0:Int)≤ -1)=false:=rfl
   by_cases h7:a.kind=7
   ·have c7:(a.kind != 7)=false:=by simp[h7]
    simp +contextual (disch:=omega) only[go_sem,F_s_l07Ref,c7]
    refine by_ret CA ?_
    simp +contextual (disch:=omega) only[go_sem,cm,hE,H.sub]
   ·have h6:a.kind=6∧a.ref≠d0:=hin.resolve_left h7
    have c7:(a.kind != 7)=true:=by simp[h7]
    have c6:(a.kind != 6)=false:=by simp[h6.1]
    have cr:decide (a.ref=⟨0,0⟩)=false:=decide_eq_false h6.2
    simp +contextual (disch:=omega) only[go_sem,F_s_l07Ref,c7,c6,cr,Bool.false_xor,Bool.false_bne]
    refine by_ret CA ?_
    simp +contextual (disch:=omega) only[go_sem,cm,hE,H.sub]
  |some k=>
   obtain⟨hk,hk2⟩:=cellIx_some hx
   have hE:refIn s a=(decide (s.cells[k].obj=a.obj)&&(decide (a.kind=7)||decide (s.cells[k].time<a.time))):=by simp[refIn,hin,hx,onI_at hk]
   have hno:cellNo s.cells a.ref=k:=by simp[cellNo,hx]
   rw[hno] at CA
   have cm:decide ((0:Int)≤(k:Int))=true:=by simp
   have C2:=Cell_at (hc.pre H.sub) hk
   by_cases h7:a.kind=7
   ·have c7:(a.kind != 7)=false:=by simp[h7]
    have d7:(a.kind==7)=true:=by simp[h7]
    rw[decide_eq_true h7,Bool.true_or,Bool.and_true] at hE
    simp +contextual (disch:=omega) only[go_sem,F_s_l07Ref,c7]
    refine by_ret CA ?_
    cases ho:decide (s.cells[k].obj=a.obj) with
    |true=>simp +contextual (disch:=omega) only[go_sem,cm,natOf_nat,C2,ho,d7,hE,H.sub]
    |false=>simp +contextual (disch:=omega) only[go_sem,cm,natOf_nat,C2,ho,hE,H.sub]
   ·have h6:a.kind=6∧a.ref≠d0:=hin.resolve_left h7
    have c7:(a.kind != 7)=true:=by simp[h7]
    have d7:(a.kind==7)=false:=by simp[h7]
    have c6:(a.kind != 6)=false:=by simp[h6.1]
    have cr:decide (a.ref=⟨0,0⟩)=false:=decide_eq_false h6.2
    rw[decide_eq_false h7,Bool.false_or] at hE
    simp +contextual (disch:=omega) only[go_sem,F_s_l07Ref,c7,c6,cr,Bool.false_xor,Bool.false_bne]
    refine by_ret CA ?_
    cases ho:decide (s.cells[k].obj=a.obj) with
    |true=>simp +contextual (disch:=omega) only[go_sem,cm,natOf_nat,C2,ho,d7,hE,H.sub,Bool.true_and]
    |false=>simp +contextual (disch:=omega) only[go_sem,cm,natOf_nat,C2,ho,hE,H.sub,Bool.false_and]
 ·have hE:refIn s a=true:=by unfold refIn;rw[if_neg hin]
  have h7:¬ a.kind=7:=fun h=>hin (.inl h)
  have c7:(a.kind != 7)=true:=by simp[h7]
  by_cases h6:a.kind=6
  ·have hr:a.ref=d0:=by
    by_cases h:a.ref=d0
    ·exact h
    ·exact absurd (.inr ⟨h6,h⟩) hin
   have c6:(a.kind != 6)=false:=by simp[h6]
   have cr:decide (a.ref=⟨0,0⟩)=true:=decide_eq_true hr
   simp +contextual (disch:=omega) only[go_sem,F_s_l07Ref,c7,c6,cr,Bool.false_xor,Bool.false_bne,hE,H.sub]
  ·have c6:(a.kind != 6)=true:=by simp[h6]
   simp +contextual (disch:=omega) only[go_sem,F_s_l07Ref,c7,c6,hE,H.sub]
end Go.Proofs.Ytbeoiejnogdkpaa.Sy
namespace Go.Proofs.Ytbeoiejnogdkpaa.Sy
open Go Go.RowKit
set_option linter.unusedSimpArgs false
set_option linter.unusedVariables false
theorem Hp.moveTo {σ τ:St} {r r':Thg} {rs:List Thg} (H:Hp σ τ (r::rs)) (k:Nat) (hk:rs[k]? =some r'):Hp σ τ (rs.set k r):=by
 have hkl:=(List.getElem?_eq_some_iff.1 hk).1
 have h1:=(H.pick (k+1) hk).drop1
 exact Hp.unpick h1 hkl
theorem vc_forR {P:Program} {a:Cd} {Q:Ex→Env→St→Prop} {env:Env} {σ:St} (n ri j0:Nat) (I:Nat→Env→St→Prop) (X Z:Env→St→Prop) (hr:env ri=gi 0) (h0:I 0 env σ)
  (hs:∀(J:Nat→Env→St→Prop) (Y W:Env→St→Prop),(∀ i env σ,I i env σ→J i env σ)→(∀ env σ,X env σ→Y env σ)→(∀ env σ,Z env σ→W env σ)→∀ i env σ,i<n→env ri=gi i→decide ((i:Int)<n)=true→I i env σ→vc P a (fun e env' σ'=>match e with| .nxt=>env' ri=gi ((i:Int)+1)∧J (i+1) env' σ'| .ext j=>j=j0∧Y env' σ'| .ret=>W env' σ') env σ)
  (he:∀(Y:Env→St→Prop),(∀ env σ,X env σ→Y env σ)→∀ env σ,env ri=gi n→decide ((n:Int)<n)=false→I n env σ→vc P a (fun e env' σ'=>match e with| .nxt=>False| .ext j=>j=j0∧Y env' σ'| .ret=>False) env σ)
  (hx:∀ env σ,X env σ→Q (.ext j0) env σ) (hz:∀ env σ,Z env σ→Q .ret env σ):vc P (.lop a) Q env σ:=by
 refine vc_for n ri I hr h0 (fun i env σ h1 h2 h3 h4=>vc_mono (hs I X Z (fun _ _ _ h=>h) (fun _ _ h=>h) (fun _ _ h=>h) i env σ h1 h2 h3 h4) fun e env' σ' hq=> ?_) (fun env σ h1 h2 h3=>vc_mono (he X (fun _ _ h=>h) env σ h1 h2 h3) fun e env' σ' hq=> ?_)
 ·cases e with
  |nxt=>exact hq
  |ret=>exact hz _ _ hq
  |ext j=>obtain⟨rfl,hq⟩:=hq;exact hx _ _ hq
 ·cases e with
  |nxt=>exact hq
  |ret=>exact hq.elim
  |ext j=>obtain⟨rfl,hq⟩:=hq;exact hx _ _ hq
end Go.Proofs.Ytbeoiejnogdkpaa.Sy
namespace Go.Proofs.Ytbeoiejnogdkpaa.Sy
open Go Go.RowKit
set_option linter.unusedSimpArgs false
set_option linter.unusedVariables false
set_option maxRecDepth 4000
abbrev n_s_l07Clear:Nat:=98
def F_s_l07Clear:Fn1:=⟨61,[],(.seq (.reg [o 13 (.lit 6 0 [] []),o 10 (.mov (.t 13))]) (.seq (.seq (.reg [o 11 (.mov (.k (.int .i64 0)))]) (.blk 0 (.lop (.seq (.seq (.reg [o 14 (.mov (.t 11)),o 15 (.mov (.t 0)),o 16 (.nck (.t 15)),o 17 (.fad 2 (.t 16)),o 18 (.ld false 1 (.t 17)),o 19 (.len false (.t 18)),o 20 (.bin .lss (.t 14) (.t 19))]) (.cnd (.t 20) .skip (.ext 0))) (.seq (.blk 1 (.seq (.reg [o 23 (.mov (.t 0)),o 24 (.nck (.t 23)),o 25 (.fad 2 (.t 24)),o 26 (.ld false 1 (.t 25)),o 27 (.mov (.t 11)),o 28 (.iad 6 (.t 26) (.t 27)),o 29 (.ld true 6 (.t 28)),o 12 (.new [(.bool false),(.str ⟨#[]⟩),(.str ⟨#[]⟩),(.int .i64 0),(.int .i64 0),(.int .i64 0)]),on (.st 6 (.t 12) (.t 29))]) (.seq (.reg [o 30 (.fad 0 (.t 12)),o 31 (.ld false 1 (.t 30)),o 32 (.mov (.t 1)),o 33 (.eqb true (.t 31) (.t 32)),o 34 (.mov (.t 33)),og 35 34 false (.fad 1 (.t 12)),og 36 34 false (.ld false 1 (.t 35)),og 37 34 false (.mov (.t 2)),og 38 34 false (.bin .neq (.t 36) (.t 37)),o 39 (.pick (.t 34) (.k (.bool true)) (.t 38)),o 40 (.mov (.t 39)),og 41 40 false (.fad 2 (.t 12)),og 42 40 false (.ld false 1 (.t 41)),og 43 40 false (.mov (.t 3)),og 44 40 false (.bin .neq (.t 42) (.t 43)),o 45 (.pick (.t 40) (.k (.bool true)) (.t 44)),o 46 (.mov (.t 45)),og 47 46 false (.mov (.t 4)),og 48 46 false (.fad 4 (.t 12)),og 49 46 false (.ld true 2 (.t 48)),og 50 46 false (.call 39 [(.t 47),(.t 49)]),og 51 46 false (.un .not (.t 50)),o 52 (.pick (.t 46) (.k (.bool true)) (.t 51))]) (.cnd (.t 52) (.reg [o 53 (.mov (.t 10)),o 54 (.ld true 6 (.t 12)),o 55 (.lit 6 1 [(.bool false),(.str ⟨#[]⟩),(.str ⟨#[]⟩),(.int .i64 0),(.int .i64 0),(.int .i64 0)] [(0,6,(.t 54))]),o 56 (.app 6 64 [(.bool false),(.str ⟨#[]⟩),(.str ⟨#[]⟩),(.int .i64 0),(.int .i64 0),(.int .i64 0)] (.t 53) (.t 55)),o 10 (.mov (.t 56))]) .skip)))) (.reg [o 21 (.mov (.t 11)),o 22 (.bin .add (.t 21) (.k (.int .i64 1))),o 11 (.mov (.t 22))])))))) (.reg [o 57 (.mov (.t 0)),o 58 (.mov (.t 10)),o 59 (.nck (.t 57)),o 60 (.fad 2 (.t 59)),on (.st 1 (.t 60) (.t 58))])))⟩
theorem ir_s_l07Clear:compFn Try.prog n_s_l07Clear=some F_s_l07Clear:=by kernel_rfl
abbrev n_s_l07Tally:Nat:=96
def F_s_l07Tally:Fn1:=⟨113,[],(.seq (.seq (.reg [o 8 (.mov (.k (.int .i64 0)))]) (.blk 0 (.lop (.seq (.seq (.reg [o 14 (.mov (.t 8)),o 15 (.mov (.t 0)),o 16 (.nck (.t 15)),o 17 (.fad 1 (.t 16)),o 18 (.ld false 1 (.t 17)),o 19 (.len false (.t 18)),o 20 (.bin .lss (.t 14) (.t 19))]) (.cnd (.t 20) .skip (.ext 0))) (.seq (.blk 1 (.seq (.reg [o 23 (.mov (.t 0)),o 24 (.nck (.t 23)),o 25 (.fad 1 (.t 24)),o 26 (.ld false 1 (.t 25)),o 27 (.mov (.t 8)),o 28 (.iad 3 (.t 26) (.t 27)),o 29 (.ld true 3 (.t 28)),o 9 (.new [(.str ⟨#[]⟩),(.int .i64 0),(.int .i64 0)]),on (.st 3 (.t 9) (.t 29))]) (.seq (.reg [o 30 (.fad 0 (.t 9)),o 31 (.ld false 1 (.t 30)),o 32 (.mov (.t 1)),o 33 (.bin .eql (.t 31) (.t 32)),o 34 (.mov (.t 33)),og 35 34 true (.fad 1 (.t 9)),og 36 34 true (.ld false 1 (.t 35)),og 37 34 true (.mov (.t 2)),og 38 34 true (.bin .eql (.t 36) (.t 37)),o 39 (.pick (.t 34) (.t 38) (.k (.bool false)))]) (.cnd (.t 39) (.seq (.drw [o 40 (.mov (.t 0)),o 41 (.nck (.t 40)),o 42 (.fad 1 (.t 41)),o 43 (.ld false 1 (.t 42)),o 44 (.mov (.t 8)),o 45 (.fad 2 (.t 9)),o 46 (.ld false 1 (.t 45))] [o 47 (.mov (.t 3)),o 48 (.bin .add (.t 46) (.t 47)),o 49 (.bin .rem (.t 48) (.k (.int .i64 1000000))),o 50 (.iad 3 (.t 43) (.t 44)),o 51 (.fad 2 (.t 50)),on (.st 1 (.t 51) (.t 49))]) .ret) .skip)))) (.reg [o 21 (.mov (.t 8)),o 22 (.bin .add (.t 21) (.k (.int .i64 1))),o 8 (.mov (.t 22))])))))) (.seq (.reg [o 52 (.lit 3 0 [] []),o 10 (.mov (.t 52))]) (.seq (.reg [o 11 (.mov (.k (.bool false)))]) (.seq (.seq (.reg [o 12 (.mov (.k (.int .i64 0)))]) (.blk 2 (.lop (.seq (.seq (.reg [o 53 (.mov (.t 12)),o 54 (.mov (.t 0)),o 55 (.nck (.t 54)),o 56 (.fad 1 (.t 55)),o 57 (.ld false 1 (.t 56)),o 58 (.len false (.t 57)),o 59 (.bin .lss (.t 53) (.t 58))]) (.cnd (.t 59) .skip (.ext 2))) (.seq (.blk 3 (.seq (.reg [o 62 (.mov (.t 0)),o 63 (.nck (.t 62)),o 64 (.fad 1 (.t 63)),o 65 (.ld false 1 (.t 64)),o 66 (.mov (.t 12)),o 67 (.iad 3 (.t 65) (.t 66)),o 68 (.ld true 3 (.t 67)),o 13 (.new [(.str ⟨#[]⟩),(.int .i64 0),(.int .i64 0)]),on (.st 3 (.t 13) (.t 68))]) (.seq (.seq (.reg [o 69 (.mov (.t 11)),o 70 (.un .not (.t 69)),o 71 (.mov (.t 70)),og 72 71 true (.fad 0 (.t 13)),og 73 71 true (.ld false 1 (.t 72)),og 74 71 true (.mov (.t 1)),og 75 71 true (.bin .gtr (.t 73) (.t 74)),og 76 71 true (.mov (.t 75)),og 77 76 false (.fad 0 (.t 13)),og 78 76 false (.ld false 1 (.t 77)),og 79 76 false (.mov (.t 1)),og 80 76 false (.bin .eql (.t 78) (.t 79)),og 81 76 false (.mov (.t 80)),og 82 81 true (.fad 1 (.t 13)),og 83 81 true (.ld false 1 (.t 82)),og 84 81 true (.mov (.t 2)),og 85 81 true (.bin .gtr (.t 83) (.t 84)),og 86 76 false (.pick (.t 81) (.t 85) (.k (.bool false))),og 87 71 true (.pick (.t 76) (.k (.bool true)) (.t 86)),o 88 (.pick (.t 71) (.t 87) (.k (.bool false)))]) (.cnd (.t 88) (.seq (.reg [o 89 (.mov (.t 10)),o 90 (.mov (.t 1)),o 91 (.mov (.t 2)),o 92 (.mov (.t 3)),o 93 (.build [(.str ⟨#[]⟩),(.int .i64 0),(.int .i64 0)] [(0,1,(.t 90)),(1,1,(.t 91)),(2,1,(.t 92))]),o 94 (.lit 3 1 [(.str ⟨#[]⟩),(.int .i64 0),(.int .i64 0)] [(0,3,(.t 93))]),o 95 (.app 3 32 [(.str ⟨#[]⟩),(.int .i64 0),(.int .i64 0)] (.t 89) (.t 94)),o 10 (.mov (.t 95))]) (.reg [o 11 (.mov (.k (.bool true)))])) .skip)) (.reg [o 96 (.mov (.t 10)),o 97 (.ld true 3 (.t 13)),o 98 (.lit 3 1 [(.str ⟨#[]⟩),(.int .i64 0),(.int .i64 0)] [(0,3,(.t 97))]),o 99 (.app 3 32 [(.str ⟨#[]⟩),(.int .i64 0),(.int .i64 0)] (.t 96) (.t 98)),o 10 (.mov (.t 99))])))) (.reg [o 60 (.mov (.t 12)),o 61 (.bin .add (.t 60) (.k (.int .i64 1))),o 12 (.mov (.t 61))])))))) (.seq (.seq (.reg [o 100 (.mov (.t 11)),o 101 (.un .not (.t 100))]) (.cnd (.t 101) (.reg [o 102 (.mov (.t 10)),o 103 (.mov (.t 1)),o 104 (.mov (.t 2)),o 105 (.mov (.t 3)),o 106 (.build [(.str ⟨#[]⟩),(.int .i64 0),(.int .i64 0)] [(0,1,(.t 103)),(1,1,(.t 104)),(2,1,(.t 105))]),o 107 (.lit 3 1 [(.str ⟨#[]⟩),(.int .i64 0),(.int .i64 0)] [(0,3,(.t 106))]),o 108 (.app 3 32 [(.str ⟨#[]⟩),(.int .i64 0),(.int .i64 0)] (.t 102) (.t 107)),o 10 (.mov (.t 108))]) .skip)) (.reg [o 109 (.mov (.t 0)),o 110 (.mov (.t 10)),o 111 (.nck (.t 109)),o 112 (.fad 1 (.t 111)),on (.st 1 (.t 112) (.t 110))]))))))⟩
theorem ir_s_l07Tally:compFn Try.prog n_s_l07Tally=some F_s_l07Tally:=by kernel_rfl
def SPtr (σ0 τ:St) (g:Nat) (s:State) (rest:List Thg):Prop:=∃ v0 v1 v2 v3,Hp σ0 τ (ow pI.kd v0 s.know::ow pTally.kd v1 s.tallies::ow pLive.kd v2 s.lives::ow pCell.kd v3 s.cells::pt 1 g [v0,v1,v2,v3]::rest)
set_option maxHeartbeats 2000000 in
theorem s_l07Clear_ret {σ0 σ:St} {g:Nat} {s:State} {rest:List Thg} (H:SPtr σ0 σ g s rest) (m:Bool) (o k:ByteArray) (kv:GV) (knew:List Int) (hk:RS pI.kd σ0 kv knew) (hl:msState s≤1099511627776) (hkl:knew.length≤1099511627776):∃ τ,Ret Try.prog n_s_l07Clear [.ptr g 0,.bool m,.str o,.str k,kv] σ (.tup []) τ∧SPtr σ0 τ g {s with lives:=s.lives.filter (keepL m o k knew)} rest:=by
 obtain⟨v0,v1,v2,v3,H⟩:=H
 obtain⟨l1,l2,l3,l4,_⟩:=msState_all hl
 have key:∃ r τ,Ret Try.prog n_s_l07Clear [.ptr g 0,.bool m,.str o,.str k,kv] σ r τ∧r= .tup []∧SPtr σ0 τ g {s with lives:=s.lives.filter (keepL m o k knew)} rest:=by
  refine ret_dr ir_s_l07Clear (Nat.le_of_ble_eq_true rfl) ?_
  have H:=H.nil_Live
  simp +contextual (disch:=omega) only[go_sem,F_s_l07Clear]
  generalize hp:keepL m o k knew=p
  refine vc_forX s.lives.length 11 0 (fun i env τ=>env 0= .ptr g 0∧env 1= .bool m∧env 2= .str o∧env 3= .str k∧env 4=kv∧∃ w,env 10=w∧Hp σ0 τ (ow pLive.kd w ((s.lives.take i).filter p)::ow pI.kd v0 s.know::ow pTally.kd v1 s.tallies::ow pLive.kd v2 s.lives::ow pCell.kd v3 s.cells::pt 1 g [v0,v1,v2,v3]::rest)) (fun env τ=>env 0= .ptr g 0∧∃ w,env 10=w∧Hp σ0 τ (ow pLive.kd w (s.lives.filter p)::ow pI.kd v0 s.know::ow pTally.kd v1 s.tallies::ow pLive.kd v2 s.lives::ow pCell.kd v3 s.cells::pt 1 g [v0,v1,v2,v3]::rest)) rfl ⟨rfl,rfl,rfl,rfl,rfl,_,rfl,H⟩ ?_ ?_ ?_
  ·clear H
   rintro J Y hJ hY i env τ hi e11 c0 ⟨e0,e1,e2,e3,e4,w,e10,H⟩
   have hfl:=filter_take_len s.lives p i
   have hsn:=filter_snoc' (p:=p) hi
   have C1:=Live_at (H.sl 3 rfl) hi
   have hln:=(H.sl 3 rfl).len
   have zb:=H.pt 5 rfl
   have G:=H.grow (pre1 τ (some (Blk.row 1 (liveV s.lives[i]))))
   have hkeep:p s.lives[i]=(!(s.lives[i].map==m)||(!decide (s.lives[i].obj=o)||(!decide (s.lives[i].key=k)|| !knows knew s.lives[i].dot))):=by rw[← hp];rfl
   obtain⟨w',τ3,e8,H3⟩:=G.app_Live 0 rfl s.lives[i] (by omega)
   have kn:=s_Knows_ret _ kv knew s.lives[i].dot (hk.pre G.sub) hkl
   cases h1:(s.lives[i].map==m) with
   |false=>
    rw[h1] at hkeep
    have hk0:p s.lives[i]=true:=by rw[hkeep];rfl
    rw[hk0,if_pos rfl] at hsn
    simp +contextual (disch:=omega) only[go_sem,c0,e0,e1,e2,e3,e4,e10,e11,ld_ptr zb,hln,C1,h1,Bool.xor_false,Bool.true_bne,Bool.not_false,e8]
    refine hJ _ _ _ ⟨?_,?_,?_,?_,?_,w',?_,by rw[hsn];exact H3⟩
    all_goals simp +contextual (disch:=omega) only[go_sem,e0,e1,e2,e3,e4,e10]
   |true=>
    cases h2:decide (s.lives[i].obj=o) with
    |false=>
     rw[h1,h2] at hkeep
     have hk0:p s.lives[i]=true:=by rw[hkeep];rfl
     rw[hk0,if_pos rfl] at hsn
     simp +contextual (disch:=omega) only[go_sem,c0,e0,e1,e2,e3,e4,e10,e11,ld_ptr zb,hln,C1,h1,h2,Bool.true_bne,Bool.not_false,Bool.not_true,e8]
     refine hJ _ _ _ ⟨?_,?_,?_,?_,?_,w',?_,by rw[hsn];exact H3⟩
     all_goals simp +contextual (disch:=omega) only[go_sem,e0,e1,e2,e3,e4,e10]
    |true=>
     cases h3:decide (s.lives[i].key=k) with
     |false=>
      rw[h1,h2,h3] at hkeep
      have hk0:p s.lives[i]=true:=by rw[hkeep];rfl
      rw[hk0,if_pos rfl] at hsn
      simp +contextual (disch:=omega) only[go_sem,c0,e0,e1,e2,e3,e4,e10,e11,ld_ptr zb,hln,C1,h1,h2,h3,Bool.true_bne,Bool.not_false,Bool.not_true,e8]
      refine hJ _ _ _ ⟨?_,?_,?_,?_,?_,w',?_,by rw[hsn];exact H3⟩
      all_goals simp +contextual (disch:=omega) only[go_sem,e0,e1,e2,e3,e4,e10]
     |true=>
      simp +contextual (disch:=omega) only[go_sem,c0,e0,e1,e2,e3,e4,e10,e11,ld_ptr zb,hln,C1,h1,h2,h3,Bool.true_bne,Bool.not_false,Bool.not_true]
      refine by_ret kn ?_
      cases h4:knows knew s.lives[i].dot with
      |false=>
       rw[h1,h2,h3,h4] at hkeep
       have hk0:p s.lives[i]=true:=by rw[hkeep];rfl
       rw[hk0,if_pos rfl] at hsn
       simp +contextual (disch:=omega) only[go_sem,e0,e1,e2,e3,e4,e10,e11,C1,h4,e8]
       refine hJ _ _ _ ⟨?_,?_,?_,?_,?_,w',?_,by rw[hsn];exact H3⟩
       all_goals simp +contextual (disch:=omega) only[go_sem,e0,e1,e2,e3,e4,e10]
      |true=>
       rw[h1,h2,h3,h4] at hkeep
       have hk0:p s.lives[i]=false:=by rw[hkeep];rfl
       rw[hk0,if_neg (by simp),List.append_nil] at hsn
       simp +contextual (disch:=omega) only[go_sem,e0,e1,e2,e3,e4,e10,e11,h4]
       refine hJ _ _ _ ⟨?_,?_,?_,?_,?_,w,?_,by rw[hsn];exact G⟩
       all_goals simp +contextual (disch:=omega) only[go_sem,e0,e1,e2,e3,e4,e10]
  ·clear H
   rintro Y hY env τ e11 c0 ⟨e0,e1,e2,e3,e4,w,e10,H⟩
   rw[List.take_length] at H
   have hln:=(H.sl 3 rfl).len
   simp +contextual (disch:=omega) only[go_sem,c0,e0,e1,e2,e3,e4,e10,e11,ld_ptr (H.pt 5 rfl),hln]
   refine hY _ _ ⟨?_,w,?_,H⟩
   all_goals simp +contextual (disch:=omega) only[go_sem,e0,e10]
  ·clear H
   rintro env τ ⟨e0,w,e10,H⟩
   have c1:=(H.sl 0 rfl).cell
   obtain⟨τ1,s1,H1,_⟩:=H.st 5 rfl 1 2 w (by rw[c1];rfl) (by decide) (by simp)
   simp +contextual (disch:=omega) only[go_sem,e0,e10,s1]
   refine⟨_,rfl,rfl,v0,v1,w,v3,?_⟩
   simp only[c1,List.set_cons_zero,List.set_cons_succ,splice_succ,splice_cons,splice_nil] at H1
   exact Hp.moveTo H1 2 rfl
 obtain⟨r,τ,R,rfl,h⟩:=key
 exact⟨τ,R,h⟩
theorem modify_set {α:Type} (f:α→α):∀ {l:List α} {i:Nat} (hi:i<l.length),l.modify i f=l.set i (f l[i])
 |x::l,0,_=>by simp
 |x::l,i+1,hi=>by
  rw[List.modify_succ_cons,modify_set f (by simpa using hi)]
  simp
theorem isTal_find {l:List Tally} {o:ByteArray} {r:Int} {i:Nat} (hi:i<l.length) (ha:∀ j (hj:j<l.length),j<i→isTal o r l[j]=false) (h:isTal o r l[i]=true):l.findIdx? (isTal o r)=some i:=by
 rw[List.findIdx?_eq_some_iff_getElem]
 exact⟨hi,h,fun j hj=>by rw[ha j (by omega) hj];simp⟩
set_option maxHeartbeats 2000000 in
theorem s_l07Tally_ret {σ0 σ:St} {g:Nat} {s:State} {rest:List Thg} (H:SPtr σ0 σ g s rest) (o:ByteArray) (rep val:Int) (hl:msState s≤1099511627776) (hv: -1000000≤val∧val≤1000000) (hs:∀ t∈s.tallies,-1000000≤t.sum∧t.sum≤1000000):∃ τ,Ret Try.prog n_s_l07Tally [.ptr g 0,.str o,gi rep,gi val] σ (.tup []) τ∧SPtr σ0 τ g {s with tallies:=talPut s.tallies o rep val} rest:=by
 obtain⟨v0,v1,v2,v3,H⟩:=H
 obtain⟨l1,l2,l3,l4,_⟩:=msState_all hl
 have key:∃ r τ,Ret Try.prog n_s_l07Tally [.ptr g 0,.str o,gi rep,gi val] σ r τ∧r= .tup []∧SPtr σ0 τ g {s with tallies:=talPut s.tallies o rep val} rest:=by
  refine ret_dr ir_s_l07Tally (Nat.le_of_ble_eq_true rfl) ?_
  simp +contextual (disch:=omega) only[go_sem,F_s_l07Tally]
  refine vc_forR s.tallies.length 8 0 (fun i env τ=>env 0= .ptr g 0∧env 1= .str o∧env 2=gi rep∧env 3=gi val∧(∀ j (hj:j<s.tallies.length),j<i→isTal o rep s.tallies[j]=false)∧Hp σ0 τ (ow pI.kd v0 s.know::ow pTally.kd v1 s.tallies::ow pLive.kd v2 s.lives::ow pCell.kd v3 s.cells::pt 1 g [v0,v1,v2,v3]::rest)) (fun env τ=>env 0= .ptr g 0∧env 1= .str o∧env 2=gi rep∧env 3=gi val∧s.tallies.findIdx? (isTal o rep)=none∧Hp σ0 τ (ow pI.kd v0 s.know::ow pTally.kd v1 s.tallies::ow pLive.kd v2 s.lives::ow pCell.kd v3 s.cells::pt 1 g [v0,v1,v2,v3]::rest)) (fun env τ=>SPtr σ0 τ g {s with tallies:=talPut s.tallies o rep val} rest) rfl ⟨rfl,rfl,rfl,rfl,fun j _ hj=>by omega,H⟩ ?_ ?_ ?_ ?_
  ·clear H
   rintro J Y W hJ hY hW i env τ hi e8 c0 ⟨e0,e1,e2,e3,ha,H⟩
   have C1:=Tally_at (H.sl 1 rfl) hi
   have hln:=(H.sl 1 rfl).len
   have zb:=H.pt 4 rfl
   have G:=H.grow (pre1 τ (some (Blk.row 1 (tallyV s.tallies[i]))))
   have hno:isTal o rep s.tallies[i]=false→∀ j (hj:j<s.tallies.length),j<i+1→isTal o rep s.tallies[j]=false:=fun h j hj hji=>by
    rcases Nat.lt_or_ge j i with h2|h2
    ·exact ha j hj h2
    ·have:j=i:=by omega
     subst this;exact h
   cases h1:decide (s.tallies[i].obj=o) with
   |false=>
    simp +contextual (disch:=omega) only[go_sem,c0,e0,e1,e2,e3,e8,ld_ptr zb,hln,C1,h1]
    refine hJ _ _ _ ⟨?_,?_,?_,?_,hno (by simp[isTal,h1]),G⟩
    all_goals simp +contextual (disch:=omega) only[go_sem,e0,e1,e2,e3]
   |true=>
    have o1:s.tallies[i].obj=o:=by simpa using h1
    cases h2:decide (s.tallies[i].rep=rep) with
    |false=>
     have b2:(s.tallies[i].rep==rep)=false:=h2
     simp +contextual (disch:=omega) only[go_sem,c0,e0,e1,e2,e3,e8,ld_ptr zb,hln,C1,h1,b2]
     refine hJ _ _ _ ⟨?_,?_,?_,?_,hno (by simp[isTal,h2]),G⟩
     all_goals simp +contextual (disch:=omega) only[go_sem,e0,e1,e2,e3]
    |true=>
     have b2:(s.tallies[i].rep==rep)=true:=h2
     have hf:=isTal_find hi ha (by simp only[isTal,h1,h2];rfl)
     have hsb:=hs _ (List.getElem_mem hi)
     have w1:IntKind.i64.wrap (s.tallies[i].sum+val)=s.tallies[i].sum+val:=wrap_add (by omega) (by omega)
     have C2:=Tally_at (G.sl 1 rfl) hi
     obtain⟨τ1,s1,H1⟩:=G.ste 1 rfl hi 1 2 (gi (addM s.tallies[i].sum val)) {s.tallies[i] with sum:=addM s.tallies[i].sum val} rfl (by decide) (by decide) rfl
     have s1:stG 1 _ (fld 2 (atz 3 v1 i)) (.int .i64 ((s.tallies[i].sum+val).tmod 1000000))=some (.tup [],τ1):=s1
     have zc:=G.pt 4 rfl
     simp +contextual (disch:=omega) only[go_sem,c0,e0,e1,e2,e3,e8,ld_ptr zb,ld_ptr zc,hln,C1,C2,h1,b2,natOf_nat,w1,s1]
     refine hW _ _ ⟨v0,v1,v2,v3,?_⟩
     have hE:talPut s.tallies o rep val=s.tallies.set i {s.tallies[i] with sum:=addM s.tallies[i].sum val}:=by
      unfold talPut
      rw[hf]
      simp only[]
      rw[modify_set _ hi]
     show Hp σ0 τ1 (ow pI.kd v0 s.know::ow pTally.kd v1 (talPut s.tallies o rep val)::ow pLive.kd v2 s.lives::ow pCell.kd v3 s.cells::pt 1 g [v0,v1,v2,v3]::rest)
     rw[hE]
     exact H1
  ·clear H
   rintro Y hY env τ e8 c0 ⟨e0,e1,e2,e3,ha,H⟩
   have hln:=(H.sl 1 rfl).len
   have hnf:s.tallies.findIdx? (isTal o rep)=none:=by
    rw[List.findIdx?_eq_none_iff]
    intro t ht
    obtain⟨j,hj,rfl⟩:=List.getElem_of_mem ht
    exact ha j hj hj
   simp +contextual (disch:=omega) only[go_sem,c0,e0,e1,e2,e3,e8,ld_ptr (H.pt 4 rfl),hln]
   refine hY _ _ ⟨?_,?_,?_,?_,hnf,H⟩
   all_goals simp +contextual (disch:=omega) only[go_sem,e0,e1,e2,e3]
  ·clear H
   rintro env τ ⟨e0,e1,e2,e3,hnf,H⟩
   have hE:talPut s.tallies o rep val=insB tallyLt ⟨o,rep,val⟩ s.tallies:=by unfold talPut;rw[hnf]
   rw[hE]
   have H:=H.nil_Tally
   simp +contextual (disch:=omega) only[go_sem,e0,e1,e2,e3]
   refine vc_forX s.tallies.length 12 2 (fun i env τ=>env 0= .ptr g 0∧env 1= .str o∧env 2=gi rep∧env 3=gi val∧∃(u:GV) (put:Bool) (nxt:List Tally),env 10=u∧env 11= .bool put∧insG tallyLt ⟨o,rep,val⟩ s.tallies nxt i put∧Hp σ0 τ (ow pTally.kd u nxt::ow pI.kd v0 s.know::ow pTally.kd v1 s.tallies::ow pLive.kd v2 s.lives::ow pCell.kd v3 s.cells::pt 1 g [v0,v1,v2,v3]::rest)) (fun env τ=>env 0= .ptr g 0∧env 1= .str o∧env 2=gi rep∧env 3=gi val∧∃(u:GV) (put:Bool) (nxt:List Tally),env 10=u∧env 11= .bool put∧insG tallyLt ⟨o,rep,val⟩ s.tallies nxt s.tallies.length put∧Hp σ0 τ (ow pTally.kd u nxt::ow pI.kd v0 s.know::ow pTally.kd v1 s.tallies::ow pLive.kd v2 s.lives::ow pCell.kd v3 s.cells::pt 1 g [v0,v1,v2,v3]::rest)) rfl ⟨by simp +contextual (disch:=omega) only[go_sem,e0],by simp +contextual (disch:=omega) only[go_sem,e1],by simp +contextual (disch:=omega) only[go_sem,e2],by simp +contextual (disch:=omega) only[go_sem,e3],_,false,[],by simp +contextual (disch:=omega) only[go_sem],by simp +contextual (disch:=omega) only[go_sem],insG_nil,H⟩ ?_ ?_ ?_
   ·clear H e0 e1 e2 e3
    rintro J Y hJ hY i env τ hi e12 c0 ⟨e0,e1,e2,e3,u,put,nxt,e10,e11,hok,H⟩
    have hnl:=insG_len hok
    have C1:=Tally_at (H.sl 2 rfl) hi
    have hln:=(H.sl 2 rfl).len
    have zb:=H.pt 5 rfl
    have G:=H.grow (pre1 τ (some (Blk.row 1 (tallyV s.tallies[i]))))
    have hlt:tallyLt ⟨o,rep,val⟩ s.tallies[i]=(txLt o s.tallies[i].obj||(decide (s.tallies[i].obj=o)&&decide (rep<s.tallies[i].rep))):=by
     unfold tallyLt
     have:decide (o=s.tallies[i].obj)=decide (s.tallies[i].obj=o):=by rw[decide_eq_decide];exact eq_comm
     rw[this]
    have HN:=H.new 1 (tallyV s.tallies[i])
    cases put with
    |true=>
     obtain⟨w',τ3,e8,H3⟩:=G.app_Tally 0 rfl s.tallies[i] (by omega)
     simp +contextual (disch:=omega) only[go_sem,c0,e0,e1,e2,e3,e10,e11,e12,ld_ptr zb,hln,C1,Bool.not_true,e8]
     refine hJ _ _ _ ⟨?_,?_,?_,?_,w',true,_,?_,?_,insG_step hok hi (.inl rfl),H3⟩
     all_goals simp +contextual (disch:=omega) only[go_sem,e0,e1,e2,e3,e11]
    |false=>
     cases h1:txLt o s.tallies[i].obj with
     |true=>
      have hq:tallyLt ⟨o,rep,val⟩ s.tallies[i]=true:=by rw[hlt,h1];rfl
      have hp:=insG_put hok hi hq
      have hnl2:=insG_len hp
      simp only[List.length_append,List.length_cons,List.length_nil] at hnl2
      obtain⟨w4,τ4,e9,H4⟩:=HN.app_Tally 1 rfl ⟨o,rep,val⟩ (by omega)
      have H4:Hp σ0 τ4 (pt 1 τ.length (tallyV s.tallies[i])::ow pTally.kd w4 (nxt++[⟨o,rep,val⟩])::ow pI.kd v0 s.know::ow pTally.kd v1 s.tallies::ow pLive.kd v2 s.lives::ow pCell.kd v3 s.cells::pt 1 g [v0,v1,v2,v3]::rest):=H4
      have zx:=ld_ptr (a:=true) (n:=3) (off:=0) (H4.pt 0 rfl)
      obtain⟨w5,τ5,e13,H5⟩:=H4.app_Tally 1 rfl s.tallies[i] (by simp;omega)
      simp +contextual (disch:=omega) only[go_sem,c0,e0,e1,e2,e3,e10,e11,e12,ld_ptr zb,hln,C1,Bool.not_false,h1,e9,zx,e13]
      refine hJ _ _ _ ⟨?_,?_,?_,?_,w5,true,_,?_,?_,hp,H5.drop1⟩
      all_goals simp +contextual (disch:=omega) only[go_sem,e0,e1,e2,e3,e11]
     |false=>
      cases h2:decide (s.tallies[i].obj=o) with
      |false=>
       obtain⟨w',τ3,e8,H3⟩:=G.app_Tally 0 rfl s.tallies[i] (by omega)
       simp +contextual (disch:=omega) only[go_sem,c0,e0,e1,e2,e3,e10,e11,e12,ld_ptr zb,hln,C1,Bool.not_false,h1,h2,e8]
       refine hJ _ _ _ ⟨?_,?_,?_,?_,w',false,_,?_,?_,insG_step hok hi (.inr (by rw[hlt,h1,h2];rfl)),H3⟩
       all_goals simp +contextual (disch:=omega) only[go_sem,e0,e1,e2,e3,e11]
      |true=>
       cases h3:decide (rep<s.tallies[i].rep) with
       |true=>
        have hq:tallyLt ⟨o,rep,val⟩ s.tallies[i]=true:=by rw[hlt,h1,h2,h3];rfl
        have hp:=insG_put hok hi hq
        have hnl2:=insG_len hp
        simp only[List.length_append,List.length_cons,List.length_nil] at hnl2
        obtain⟨w4,τ4,e9,H4⟩:=HN.app_Tally 1 rfl ⟨o,rep,val⟩ (by omega)
        have H4:Hp σ0 τ4 (pt 1 τ.length (tallyV s.tallies[i])::ow pTally.kd w4 (nxt++[⟨o,rep,val⟩])::ow pI.kd v0 s.know::ow pTally.kd v1 s.tallies::ow pLive.kd v2 s.lives::ow pCell.kd v3 s.cells::pt 1 g [v0,v1,v2,v3]::rest):=H4
        have zx:=ld_ptr (a:=true) (n:=3) (off:=0) (H4.pt 0 rfl)
        obtain⟨w5,τ5,e13,H5⟩:=H4.app_Tally 1 rfl s.tallies[i] (by simp;omega)
        simp +contextual (disch:=omega) only[go_sem,c0,e0,e1,e2,e3,e10,e11,e12,ld_ptr zb,hln,C1,Bool.not_false,h1,h2,h3,e9,zx,e13]
        refine hJ _ _ _ ⟨?_,?_,?_,?_,w5,true,_,?_,?_,hp,H5.drop1⟩
        all_goals simp +contextual (disch:=omega) only[go_sem,e0,e1,e2,e3,e11]
       |false=>
        obtain⟨w',τ3,e8,H3⟩:=G.app_Tally 0 rfl s.tallies[i] (by omega)
        simp +contextual (disch:=omega) only[go_sem,c0,e0,e1,e2,e3,e10,e11,e12,ld_ptr zb,hln,C1,Bool.not_false,h1,h2,h3,e8]
        refine hJ _ _ _ ⟨?_,?_,?_,?_,w',false,_,?_,?_,insG_step hok hi (.inr (by rw[hlt,h1,h2,h3];rfl)),H3⟩
        all_goals simp +contextual (disch:=omega) only[go_sem,e0,e1,e2,e3,e11]
   ·clear H e0 e1 e2 e3
    rintro Y hY env τ e12 c0 ⟨e0,e1,e2,e3,u,put,nxt,e10,e11,hok,H⟩
    have hln:=(H.sl 2 rfl).len
    simp +contextual (disch:=omega) only[go_sem,c0,e0,e1,e2,e3,e10,e11,e12,ld_ptr (H.pt 5 rfl),hln]
    refine hY _ _ ⟨?_,?_,?_,?_,u,put,nxt,?_,?_,hok,H⟩
    all_goals simp +contextual (disch:=omega) only[go_sem,e0,e1,e2,e3,e10,e11]
   ·clear H e0 e1 e2 e3
    rintro env τ ⟨e0,e1,e2,e3,u,put,nxt,e10,e11,hok,H⟩
    have hnl:=insG_len hok
    have hend:=insG_end hok
    cases put with
    |true=>
     have c1:=(H.sl 0 rfl).cell
     obtain⟨τ1,s1,H1,_⟩:=H.st 5 rfl 1 1 u (by rw[c1];rfl) (by decide) (by simp)
     simp +contextual (disch:=omega) only[go_sem,e0,e1,e2,e3,e10,e11,Bool.not_true,s1]
     refine⟨_,rfl,rfl,v0,u,v2,v3,?_⟩
     simp only[c1,List.set_cons_zero,List.set_cons_succ,splice_succ,splice_cons,splice_nil] at H1
     rw[← hend]
     exact Hp.moveTo H1 1 rfl
    |false=>
     obtain⟨w',τ3,e8,H3⟩:=H.app_Tally 0 rfl ⟨o,rep,val⟩ (by omega)
     have H3:Hp σ0 τ3 (ow pTally.kd w' (nxt++[⟨o,rep,val⟩])::ow pI.kd v0 s.know::ow pTally.kd v1 s.tallies::ow pLive.kd v2 s.lives::ow pCell.kd v3 s.cells::pt 1 g [v0,v1,v2,v3]::rest):=H3
     have c1:=(H3.sl 0 rfl).cell
     obtain⟨τ1,s1,H1,_⟩:=H3.st 5 rfl 1 1 w' (by rw[c1];rfl) (by decide) (by simp)
     simp +contextual (disch:=omega) only[go_sem,e0,e1,e2,e3,e10,e11,Bool.not_false,e8,s1]
     refine⟨_,rfl,rfl,v0,w',v2,v3,?_⟩
     simp only[c1,List.set_cons_zero,List.set_cons_succ,splice_succ,splice_cons,splice_nil] at H1
     rw[← hend]
     exact Hp.moveTo H1 1 rfl
  ·clear H
   rintro env τ h
   simp +contextual (disch:=omega) only[go_sem]
   exact⟨_,rfl,rfl,h⟩
 obtain⟨r,τ,R,rfl,h⟩:=key
 exact⟨τ,R,h⟩
end Go.Proofs.Ytbeoiejnogdkpaa.Sy
namespace Go.Proofs.Ytbeoiejnogdkpaa.Sy
open Go Go.RowKit
set_option linter.unusedSimpArgs false
set_option linter.unusedVariables false
set_option maxRecDepth 4000
abbrev n_s_l07Do:Nat:=91
def F_s_l07Do:Fn1:=⟨127,[],(.seq (.reg [o 3 (.box (.t 1))]) (.seq (.drw [o 4 (.mov (.t 0)),o 5 (.nck (.t 4)),o 6 (.fad 0 (.t 5)),o 7 (.ld false 1 (.t 6)),o 8 (.fad 0 (.t 3)),o 9 (.fad 0 (.t 8)),o 10 (.ld false 1 (.t 9)),o 11 (.fad 0 (.t 3)),o 12 (.fad 1 (.t 11)),o 13 (.ld false 1 (.t 12))] [o 14 (.iad 1 (.t 7) (.t 10)),on (.st 1 (.t 14) (.t 13))]) (.seq (.reg [o 15 (.fad 4 (.t 3)),o 16 (.ld false 1 (.t 15))]) (.blk 0 (.seq (.reg [o 18 (.bin .eql (.t 16) (.k (.int .i64 1))),o 17 (.mov (.t 18))]) (.cnd (.t 17) (.reg [o 19 (.mov (.t 0)),o 20 (.fad 5 (.t 3)),o 21 (.ld false 1 (.t 20)),o 22 (.fad 0 (.t 3)),o 23 (.fad 0 (.t 22)),o 24 (.ld false 1 (.t 23)),o 25 (.fad 7 (.t 3)),o 26 (.ld false 1 (.t 25)),o 27 (.call 96 [(.t 19),(.t 21),(.t 24),(.t 26)])]) (.seq (.reg [o 29 (.bin .eql (.t 16) (.k (.int .i64 2))),o 28 (.mov (.t 29))]) (.cnd (.t 28) (.drw [o 30 (.mov (.t 0)),o 31 (.mov (.t 0)),o 32 (.nck (.t 31)),o 33 (.fad 2 (.t 32)),o 34 (.ld false 1 (.t 33)),o 35 (.fad 5 (.t 3)),o 36 (.ld false 1 (.t 35)),o 37 (.fad 6 (.t 3)),o 38 (.ld false 1 (.t 37)),o 39 (.fad 0 (.t 3)),o 40 (.ld true 2 (.t 39))] [o 41 (.build [(.bool false),(.str ⟨#[]⟩),(.str ⟨#[]⟩),(.int .i64 0),(.int .i64 0),(.int .i64 0)] [(1,1,(.t 36)),(2,1,(.t 38)),(4,2,(.t 40))]),o 42 (.call 97 [(.t 34),(.t 41)]),o 43 (.nck (.t 30)),o 44 (.fad 2 (.t 43)),on (.st 1 (.t 44) (.t 42))]) (.seq (.reg [o 46 (.bin .eql (.t 16) (.k (.int .i64 3))),o 45 (.mov (.t 46))]) (.cnd (.t 45) (.reg [o 47 (.mov (.t 0)),o 48 (.fad 5 (.t 3)),o 49 (.ld false 1 (.t 48)),o 50 (.fad 6 (.t 3)),o 51 (.ld false 1 (.t 50)),o 52 (.fad 3 (.t 3)),o 53 (.ld false 1 (.t 52)),o 54 (.call 98 [(.t 47),(.k (.bool false)),(.t 49),(.t 51),(.t 53)])]) (.seq (.reg [o 56 (.bin .eql (.t 16) (.k (.int .i64 4))),o 55 (.mov (.t 56))]) (.cnd (.t 55) (.seq (.reg [o 57 (.mov (.t 0)),o 58 (.fad 5 (.t 3)),o 59 (.ld false 1 (.t 58)),o 60 (.fad 6 (.t 3)),o 61 (.ld false 1 (.t 60)),o 62 (.fad 3 (.t 3)),o 63 (.ld false 1 (.t 62)),o 64 (.call 98 [(.t 57),(.k (.bool true)),(.t 59),(.t 61),(.t 63)])]) (.drw [o 65 (.mov (.t 0)),o 66 (.mov (.t 0)),o 67 (.nck (.t 66)),o 68 (.fad 2 (.t 67)),o 69 (.ld false 1 (.t 68)),o 70 (.fad 5 (.t 3)),o 71 (.ld false 1 (.t 70)),o 72 (.fad 6 (.t 3)),o 73 (.ld false 1 (.t 72)),o 74 (.fad 7 (.t 3)),o 75 (.ld false 1 (.t 74)),o 76 (.fad 0 (.t 3)),o 77 (.ld true 2 (.t 76))] [o 78 (.build [(.bool false),(.str ⟨#[]⟩),(.str ⟨#[]⟩),(.int .i64 0),(.int .i64 0),(.int .i64 0)] [(0,1,(.k (.bool true))),(1,1,(.t 71)),(2,1,(.t 73)),(3,1,(.t 75)),(4,2,(.t 77))]),o 79 (.call 97 [(.t 69),(.t 78)]),o 80 (.nck (.t 65)),o 81 (.fad 2 (.t 80)),on (.st 1 (.t 81) (.t 79))])) (.seq (.reg [o 83 (.bin .eql (.t 16) (.k (.int .i64 5))),o 82 (.mov (.t 83))]) (.cnd (.t 82) (.reg [o 84 (.mov (.t 0)),o 85 (.fad 5 (.t 3)),o 86 (.ld false 1 (.t 85)),o 87 (.fad 6 (.t 3)),o 88 (.ld false 1 (.t 87)),o 89 (.fad 3 (.t 3)),o 90 (.ld false 1 (.t 89)),o 91 (.call 98 [(.t 84),(.k (.bool true)),(.t 86),(.t 88),(.t 90)])]) (.seq (.reg [o 93 (.bin .eql (.t 16) (.k (.int .i64 6))),o 92 (.mov (.t 93))]) (.cnd (.t 92) (.drw [o 94 (.mov (.t 0)),o 95 (.mov (.t 0)),o 96 (.nck (.t 95)),o 97 (.fad 3 (.t 96)),o 98 (.ld false 1 (.t 97)),o 99 (.fad 5 (.t 3)),o 100 (.ld false 1 (.t 99)),o 101 (.fad 0 (.t 3)),o 102 (.ld true 2 (.t 101)),o 103 (.fad 2 (.t 3)),o 104 (.ld false 1 (.t 103)),o 105 (.fad 8 (.t 3)),o 106 (.ld true 2 (.t 105)),o 107 (.fad 7 (.t 3)),o 108 (.ld false 1 (.t 107))] [o 109 (.build [(.str ⟨#[]⟩),(.int .i64 0),(.int .i64 0),(.int .i64 0),(.int .i64 0),(.int .i64 0),(.int .i64 0),(.bool false)] [(0,1,(.t 100)),(1,2,(.t 102)),(3,1,(.t 104)),(4,2,(.t 106)),(6,1,(.t 108))]),o 110 (.call 99 [(.t 98),(.t 109)]),o 111 (.nck (.t 94)),o 112 (.fad 3 (.t 111)),on (.st 1 (.t 112) (.t 110))]) (.seq (.reg [o 114 (.bin .eql (.t 16) (.k (.int .i64 7))),o 113 (.mov (.t 114))]) (.cnd (.t 113) (.drw [o 115 (.mov (.t 0)),o 116 (.nck (.t 115)),o 117 (.fad 3 (.t 116)),o 118 (.ld false 1 (.t 117)),o 119 (.mov (.t 0)),o 120 (.nck (.t 119)),o 121 (.ld true 4 (.t 120)),o 122 (.fad 8 (.t 3)),o 123 (.ld true 2 (.t 122)),o 124 (.call 40 [(.t 121),(.t 123)])] [o 125 (.iad 8 (.t 118) (.t 124)),o 126 (.fad 7 (.t 125)),on (.st 1 (.t 126) (.k (.bool true)))]) .skip))))))))))))))))))⟩
theorem ir_s_l07Do:compFn Try.prog n_s_l07Do=some F_s_l07Do:=by kernel_rfl
abbrev n_s_DoAct:Nat:=72
def F_s_DoAct:Fn1:=⟨57,[.c 4 true 4,.t 5],(.seq (.reg [o 2 (.box (.t 0)),o 3 (.box (.t 1)),o 4 (.new [.nilS,.nilS,.nilS,.nilS]),o 5 (.mov (.k (.int .i64 0)))]) (.seq (.reg [o 7 (.ld true 4 (.t 2)),o 8 (.call 47 [(.t 7)]),o 6 (.new [.nilS,.nilS,.nilS,.nilS]),on (.st 4 (.t 6) (.t 8))]) (.seq (.seq (.reg [o 9 (.ld true 4 (.t 2)),o 10 (.call 14 [(.t 9)]),o 11 (.un .not (.t 10)),o 12 (.mov (.t 11)),og 13 12 false (.ld true 10 (.t 3)),og 14 12 false (.call 88 [(.t 13)]),og 15 12 false (.un .not (.t 14)),o 16 (.pick (.t 12) (.k (.bool true)) (.t 15))]) (.cnd (.t 16) (.seq (.reg [o 17 (.ld true 4 (.t 6)),on (.st 4 (.t 4) (.t 17)),o 5 (.mov (.k (.int .i64 3)))]) .ret) .skip)) (.seq (.seq (.reg [o 18 (.fad 0 (.t 2)),o 19 (.ld false 1 (.t 18)),o 20 (.fad 0 (.t 3)),o 21 (.ld true 2 (.t 20)),o 22 (.call 39 [(.t 19),(.t 21)])]) (.cnd (.t 22) (.seq (.reg [o 23 (.ld true 4 (.t 6)),on (.st 4 (.t 4) (.t 23)),o 5 (.mov (.k (.int .i64 1)))]) .ret) .skip)) (.seq (.seq (.reg [o 24 (.fad 3 (.t 3)),o 25 (.ld false 1 (.t 24)),o 26 (.fad 0 (.t 2)),o 27 (.ld false 1 (.t 26)),o 28 (.call 89 [(.t 25),(.t 27)]),o 29 (.un .not (.t 28))]) (.cnd (.t 29) (.seq (.reg [o 30 (.ld true 4 (.t 6)),on (.st 4 (.t 4) (.t 30)),o 5 (.mov (.k (.int .i64 2)))]) .ret) .skip)) (.seq (.seq (.reg [o 31 (.ld true 4 (.t 2)),o 32 (.ld true 10 (.t 3)),o 33 (.call 90 [(.t 31),(.t 32)]),o 34 (.un .not (.t 33))]) (.cnd (.t 34) (.seq (.reg [o 35 (.ld true 4 (.t 6)),on (.st 4 (.t 4) (.t 35)),o 5 (.mov (.k (.int .i64 3)))]) .ret) .skip)) (.seq (.reg [o 36 (.ld true 10 (.t 3)),o 37 (.call 91 [(.t 6),(.t 36)])]) (.seq (.seq (.reg [o 38 (.fad 1 (.t 6)),o 39 (.ld false 1 (.t 38)),o 40 (.len false (.t 39)),o 41 (.bin .gtr (.t 40) (.k (.int .i64 120))),o 42 (.mov (.t 41)),og 43 42 false (.fad 2 (.t 6)),og 44 42 false (.ld false 1 (.t 43)),og 45 42 false (.len false (.t 44)),og 46 42 false (.bin .gtr (.t 45) (.k (.int .i64 120))),o 47 (.pick (.t 42) (.k (.bool true)) (.t 46)),o 48 (.mov (.t 47)),og 49 48 false (.fad 3 (.t 6)),og 50 48 false (.ld false 1 (.t 49)),og 51 48 false (.len false (.t 50)),og 52 48 false (.bin .gtr (.t 51) (.k (.int .i64 120))),o 53 (.pick (.t 48) (.k (.bool true)) (.t 52))]) (.cnd (.t 53) (.seq (.reg [o 54 (.ld true 4 (.t 2)),o 55 (.call 47 [(.t 54)]),on (.st 4 (.t 4) (.t 55)),o 5 (.mov (.k (.int .i64 4)))]) .ret) .skip)) (.seq (.reg [o 56 (.ld true 4 (.t 6)),on (.st 4 (.t 4) (.t 56)),o 5 (.mov (.k (.int .i64 0)))]) .ret)))))))))⟩
theorem ir_s_DoAct:compFn Try.prog n_s_DoAct=some F_s_DoAct:=by kernel_rfl
theorem act_facts {a:Act} (h:actOk a=true):(0≤a.dot.rep∧a.dot.rep≤2)∧(1≤a.kind∧a.kind≤7)∧(0≤a.val∧a.val≤999999)∧a.knew.length=3:=by
 simp only[actOk,actHead,plainOk,Bool.and_eq_true] at h
 obtain⟨⟨h1,h2,_⟩,⟨h3,_,_,h4⟩,_⟩:=h
 refine⟨(dotOk_iff.1 h1).1,inB_iff.1 h3,?_,okK_len h2⟩
 simp only[valOk,Bool.or_eq_true,beq_iff_eq,Bool.and_eq_true,inB_iff] at h4
 rcases h4 with h4|⟨_,h4⟩
 ·omega
 ·exact h4
theorem tal_facts {s:State} (h:stateOk s=true):s.know.length=3∧∀ t∈s.tallies,-1000000≤t.sum∧t.sum≤1000000:=by
 simp only[stateOk,Bool.and_eq_true] at h
 obtain⟨h1,h2,_⟩:=h
 refine⟨okK_len h1,fun t ht=> ?_⟩
 simp only[talsOk,Bool.and_eq_true,allR_iff,talP] at h2
 obtain⟨i,hi,rfl⟩:=List.getElem_of_mem ht
 have:=(h2.1 i hi).1
 rw[onI_at hi] at this
 simp only[tal1,Bool.and_eq_true,inB_iff] at this
 omega
theorem SPtr.drop {σ0 τ:St} {g:Nat} {s:State} {x:Thg} {rest:List Thg} (H:SPtr σ0 τ g s (x::rest)):SPtr σ0 τ g s rest:=by
 obtain⟨v0,v1,v2,v3,H⟩:=H
 exact⟨v0,v1,v2,v3,(H.pick 5 rfl).drop1⟩
theorem SPtr.push {σ0 τ:St} {g:Nat} {s:State} {rest:List Thg} (H:SPtr σ0 τ g s rest) (z:Nat) (cs:List GV):SPtr σ0 (τ++[some (.row z cs)]) g s (pt z τ.length cs::rest):=by
 obtain⟨v0,v1,v2,v3,H⟩:=H
 refine⟨v0,v1,v2,v3,?_⟩
 exact(H.new z cs).perm (List.perm_middle (l₁:=[_,_,_,_,_])).symm
abbrev actV (a:Act) (kv:GV):List GV:=[.int .i64 a.dot.rep,.int .i64 a.dot.seq,.int .i64 a.time,kv,.int .i64 a.kind,.str a.obj,.str a.key,.int .i64 a.val,.int .i64 a.ref.rep,.int .i64 a.ref.seq]
theorem msState_set {s:State} {i:Nat} {x:Int}:msState {s with know:=s.know.set i x}=msState s:=by simp[msState]
set_option maxHeartbeats 4000000 in
theorem s_l07Do_ret {σ0 σ:St} {g:Nat} {s:State} {rest:List Thg} (H:SPtr σ0 σ g s rest) (a:Act) (kv:GV) (hk:RS pI.kd σ0 kv a.knew) (hok:stateOk s=true) (hao:actOk a=true) (hri:refIn s a=true) (hl:msState s≤1099511627776):∃ τ,Ret Try.prog n_s_l07Do [.ptr g 0,.agg (actV a kv)] σ (.tup []) τ∧SPtr σ0 τ g (doOne s a) rest:=by
 obtain⟨⟨f1,f2⟩,⟨f3,f4⟩,⟨f5,f6⟩,f7⟩:=act_facts hao
 obtain⟨t1,t2⟩:=tal_facts hok
 obtain⟨r,hr⟩:∃ r:Nat,a.dot.rep=(r:Int):=⟨a.dot.rep.toNat,by omega⟩
 have hrl:r<s.know.length:=by omega
 have key:∃ q τ,Ret Try.prog n_s_l07Do [.ptr g 0,.agg (actV a kv)] σ q τ∧q= .tup []∧SPtr σ0 τ g (doOne s a) rest:=by
  refine ret_dr ir_s_l07Do (Nat.le_of_ble_eq_true rfl) ?_
  have H:=H.push 1 (actV a kv)
  obtain⟨v0,v1,v2,v3,H⟩:=H
  have i0:=RdN.iad (H.sl 0 rfl) hrl
  have i0:iadG 1 v0 (some r)=some (atz 1 v0 r):=i0
  have n0:natOf (some (.int .i64 a.dot.rep))=some r:=by rw[hr];exact natOf_nat
  obtain⟨τ1,st0,H1⟩:=H.stw 0 rfl (j:=r) hrl 1 (gi a.dot.seq) a.dot.seq rfl rfl (by decide)
  have st0:stG 1 _ (atz 1 v0 r) (.int .i64 a.dot.seq)=some (.tup [],τ1):=st0
  have H1:Hp σ0 τ1 (ow pI.kd v0 (s.know.set r a.dot.seq)::ow pTally.kd v1 s.tallies::ow pLive.kd v2 s.lives::ow pCell.kd v3 s.cells::pt 1 g [v0,v1,v2,v3]::pt 1 σ.length (actV a kv)::rest):=H1
  obtain⟨s1,hs1⟩:∃ s1:State,s1={s with know:=s.know.set r a.dot.seq}:=⟨_,rfl⟩
  have hm1:msState s1≤1099511627776:=by rw[hs1,msState_set];exact hl
  have hdo:doOne s a=doKind s1 a:=by
   unfold doOne
   rw[hs1,hr];simp
  have S1:SPtr σ0 τ1 g s1 (pt 1 σ.length (actV a kv)::rest):=by rw[hs1];exact⟨v0,v1,v2,v3,H1⟩
  obtain⟨l1,l2,l3,l4,_⟩:=msState_all hl
  rw[hdo]
  have e1:s1.tallies=s.tallies:=by rw[hs1]
  have e2:s1.lives=s.lives:=by rw[hs1]
  have e3:s1.cells=s.cells:=by rw[hs1]
  simp +contextual (disch:=omega) only[go_sem,F_s_l07Do,ld_ptr (H.pt 4 rfl),n0,i0,st0,ld_ptr (H1.pt 5 rfl)]
  by_cases k1:a.kind=1
  ·have b1:(a.kind==1)=true:=by simp[k1]
   have hd:doKind s1 a={s1 with tallies:=talPut s1.tallies a.obj a.dot.rep a.val}:=by unfold doKind;rw[if_pos k1]
   rw[hd]
   obtain⟨τ2,R2,S2⟩:=s_l07Tally_ret S1 a.obj a.dot.rep a.val hm1 (by omega) (by rw[e1];exact t2)
   simp +contextual (disch:=omega) only[go_sem,b1,ld_ptr (H1.pt 5 rfl)]
   refine by_mut R2 ?_
   simp +contextual (disch:=omega) only[go_sem]
   exact⟨_,rfl,rfl,S2.drop⟩
  have b1:(a.kind==1)=false:=by simp[k1]
  by_cases k2:a.kind=2
  ·have b2:(a.kind==2)=true:=by simp[k2]
   have hd:doKind s1 a={s1 with lives:=insLive ⟨false,a.obj,a.key,0,a.dot⟩ s1.lives}:=by unfold doKind;rw[if_neg k1,if_pos k2]
   rw[hd,e2]
   obtain⟨w,τ2,R2,K2⟩:=s_l07Live_ret τ1 v2 s.lives (H1.sl 2 rfl) ⟨false,a.obj,a.key,0,a.dot⟩ l3
   have H2:=H1.add K2
   simp only[List.cons_append,List.nil_append] at H2
   have c1:=(H2.sl 0 rfl).cell
   obtain⟨τ3,st3,H3,_⟩:=H2.st 5 rfl 1 2 w (by rw[c1];rfl) (by decide) (by simp)
   simp +contextual (disch:=omega) only[go_sem,b1,b2,ld_ptr (H1.pt 4 rfl),ld_ptr (H1.pt 5 rfl)]
   refine by_hp R2 K2 ?_
   simp +contextual (disch:=omega) only[go_sem,st3]
   refine⟨_,rfl,rfl,v0,v1,w,v3,?_⟩
   simp only[c1,List.set_cons_zero,List.set_cons_succ,splice_succ,splice_cons,splice_nil] at H3
   rw[hs1]
   exact((Hp.moveTo H3 2 rfl).pick 5 rfl).drop1
  have b2:(a.kind==2)=false:=by simp[k2]
  by_cases k3:a.kind=3
  ·have b3:(a.kind==3)=true:=by simp[k3]
   have hd:doKind s1 a={s1 with lives:=s1.lives.filter (keepL false a.obj a.key a.knew)}:=by unfold doKind;rw[if_neg k1,if_neg k2,if_pos k3]
   rw[hd]
   obtain⟨τ2,R2,S2⟩:=s_l07Clear_ret S1 false a.obj a.key kv a.knew hk hm1 (by omega)
   simp +contextual (disch:=omega) only[go_sem,b1,b2,b3,ld_ptr (H1.pt 5 rfl)]
   refine by_mut R2 ?_
   simp +contextual (disch:=omega) only[go_sem]
   exact⟨_,rfl,rfl,S2.drop⟩
  have b3:(a.kind==3)=false:=by simp[k3]
  by_cases k4:a.kind=4
  ·have b4:(a.kind==4)=true:=by simp[k4]
   have hd:doKind s1 a={s1 with lives:=insLive ⟨true,a.obj,a.key,a.val,a.dot⟩ (s1.lives.filter (keepL true a.obj a.key a.knew))}:=by unfold doKind;rw[if_neg k1,if_neg k2,if_neg k3,if_pos k4]
   rw[hd,e2]
   obtain⟨τ2,R2,u0,u1,u2,u3,H2⟩:=s_l07Clear_ret S1 true a.obj a.key kv a.knew hk hm1 (by omega)
   have hfl:=List.length_filter_le (keepL true a.obj a.key a.knew) s.lives
   have H2l:=H2.sl 2 rfl
   have H2l:RS pLive.kd τ2 u2 (s.lives.filter (keepL true a.obj a.key a.knew)):=by rw[← e2];exact H2l
   obtain⟨w,τ3,R3,K3⟩:=s_l07Live_ret τ2 u2 _ H2l ⟨true,a.obj,a.key,a.val,a.dot⟩ (by omega)
   have H3:=H2.add K3
   simp only[List.cons_append,List.nil_append] at H3
   have c1:=(H3.sl 0 rfl).cell
   obtain⟨τ4,st4,H4,_⟩:=H3.st 5 rfl 1 2 w (by rw[c1];rfl) (by decide) (by simp)
   simp +contextual (disch:=omega) only[go_sem,b1,b2,b3,b4,ld_ptr (H1.pt 5 rfl)]
   refine by_mut R2 ?_
   simp +contextual (disch:=omega) only[go_sem,ld_ptr (H2.pt 4 rfl),ld_ptr (H2.pt 5 rfl)]
   refine by_hp R3 K3 ?_
   simp +contextual (disch:=omega) only[go_sem,st4]
   refine⟨_,rfl,rfl,u0,u1,w,u3,?_⟩
   simp only[c1,List.set_cons_zero,List.set_cons_succ,splice_succ,splice_cons,splice_nil] at H4
   exact((Hp.moveTo H4 2 rfl).pick 5 rfl).drop1
  have b4:(a.kind==4)=false:=by simp[k4]
  by_cases k5:a.kind=5
  ·have b5:(a.kind==5)=true:=by simp[k5]
   have hd:doKind s1 a={s1 with lives:=s1.lives.filter (keepL true a.obj a.key a.knew)}:=by unfold doKind;rw[if_neg k1,if_neg k2,if_neg k3,if_neg k4,if_pos k5]
   rw[hd]
   obtain⟨τ2,R2,S2⟩:=s_l07Clear_ret S1 true a.obj a.key kv a.knew hk hm1 (by omega)
   simp +contextual (disch:=omega) only[go_sem,b1,b2,b3,b4,b5,ld_ptr (H1.pt 5 rfl)]
   refine by_mut R2 ?_
   simp +contextual (disch:=omega) only[go_sem]
   exact⟨_,rfl,rfl,S2.drop⟩
  have b5:(a.kind==5)=false:=by simp[k5]
  by_cases k6:a.kind=6
  ·have b6:(a.kind==6)=true:=by simp[k6]
   have hd:doKind s1 a={s1 with cells:=insCell ⟨a.obj,a.dot,a.time,a.ref,a.val,false⟩ s1.cells}:=by unfold doKind;rw[if_neg k1,if_neg k2,if_neg k3,if_neg k4,if_neg k5,if_pos k6]
   rw[hd,e3]
   obtain⟨w,τ2,R2,K2⟩:=s_l07Cell_ret τ1 v3 s.cells (H1.sl 3 rfl) ⟨a.obj,a.dot,a.time,a.ref,a.val,false⟩ l4
   have H2:=H1.add K2
   simp only[List.cons_append,List.nil_append] at H2
   have c1:=(H2.sl 0 rfl).cell
   obtain⟨τ3,st3,H3,_⟩:=H2.st 5 rfl 1 3 w (by rw[c1];rfl) (by decide) (by simp)
   simp +contextual (disch:=omega) only[go_sem,b1,b2,b3,b4,b5,b6,ld_ptr (H1.pt 4 rfl),ld_ptr (H1.pt 5 rfl)]
   refine by_hp R2 K2 ?_
   simp +contextual (disch:=omega) only[go_sem,st3]
   refine⟨_,rfl,rfl,v0,v1,v2,w,?_⟩
   simp only[c1,List.set_cons_zero,List.set_cons_succ,splice_succ,splice_cons,splice_nil] at H3
   rw[hs1]
   exact((Hp.moveTo H3 3 rfl).pick 5 rfl).drop1
  have b6:(a.kind==6)=false:=by simp[k6]
  have k7:a.kind=7:=by omega
  have b7:(a.kind==7)=true:=by simp[k7]
  have hd:doKind s1 a={s1 with cells:=goneAt s1.cells a.ref}:=by unfold doKind;rw[if_neg k1,if_neg k2,if_neg k3,if_neg k4,if_neg k5,if_neg k6]
  rw[hd,e3]
  cases hx:cellIx s.cells a.ref with
  |none=>simp[refIn,k7,hx] at hri
  |some k=>
   obtain⟨hkl,hke⟩:=cellIx_some hx
   have hno:cellNo s1.cells a.ref=k:=by simp[cellNo,e3,hx]
   have CA:=s_CellAt_ret τ1 [v0,v1,v2,v3] s1 ⟨v0,v1,v2,v3,rfl,by rw[hs1];exact H1.sl 0 rfl,by rw[e1];exact H1.sl 1 rfl,by rw[e2];exact H1.sl 2 rfl,by rw[e3];exact H1.sl 3 rfl⟩ a.ref hm1
   rw[hno] at CA
   have C2:=Cell_at (H1.sl 3 rfl) hkl
   obtain⟨τ2,st2,H2⟩:=H1.ste 3 rfl hkl 1 7 (.bool true) {s.cells[k] with gone:=true} rfl (by decide) (by decide) rfl
   have st2:stG 1 τ1 (fld 7 (atz 8 v3 k)) (.bool true)=some (.tup [],τ2):=st2
   simp +contextual (disch:=omega) only[go_sem,b1,b2,b3,b4,b5,b6,b7,ld_ptr (H1.pt 4 rfl),ld_ptr (H1.pt 5 rfl),seg_full (cs:=[v0,v1,v2,v3]) rfl]
   refine by_ret CA ?_
   simp +contextual (disch:=omega) only[go_sem,natOf_nat,C2,st2]
   refine⟨_,rfl,rfl,v0,v1,v2,v3,?_⟩
   have hE:goneAt s.cells a.ref=s.cells.set k {s.cells[k] with gone:=true}:=by
    unfold goneAt
    rw[hx]
    exact modify_set _ hkl
   rw[hE,hs1]
   exact(H2.pick 5 rfl).drop1
 obtain⟨q,τ,R,rfl,h⟩:=key
 exact⟨τ,R,h⟩
theorem ownSplit {σ τ:St} {rs:List Thg} {x:State} {cs:List GV} {g:Nat} (H:Hp σ τ (pt 1 g cs::own kState cs x::rs)):SPtr σ τ g x rs:=by
 obtain⟨v0,v1,v2,v3,rfl,H⟩:=(H.pick 1 rfl).splitState
 exact⟨v0,v1,v2,v3,H⟩
theorem SPtr.own {σ τ:St} {rs:List Thg} {x:State} {g:Nat} (H:SPtr σ τ g x rs):∃ v0 v1 v2 v3,rdB τ g=some [v0,v1,v2,v3]∧lenG false v1=some (x.tallies.length:Int)∧lenG false v2=some (x.lives.length:Int)∧lenG false v3=some (x.cells.length:Int)∧Hp σ τ (own kState [v0,v1,v2,v3] x::rs):=by
 obtain⟨v0,v1,v2,v3,H⟩:=H
 refine⟨v0,v1,v2,v3,H.pt 4 rfl,(H.sl 1 rfl).len,(H.sl 2 rfl).len,(H.sl 3 rfl).len,?_⟩
 exact Hp.ownState ((H.pick 4 rfl).drop1)
set_option maxHeartbeats 4000000 in
theorem s_DoAct_ret (σ:St) (cs:List GV) (s:State) (hR:kState.R σ s cs) (as':List GV) (a:Act) (hS:kAct.R σ a as') (hl:msState s≤1099511627776) (hm:msAct a≤1099511627776):∃ ds τ,Ret Try.prog n_s_DoAct [.agg cs,.agg as'] σ (.tup [.agg ds,gi (doAct s a).2]) τ∧Hp σ τ [own kState ds (doAct s a).1]:=by
 have hR0:=hR
 have hS0:=hS
 have hS1:∀ {τ:St},σ <+: τ→kAct.R τ a as':=fun h=>kAct.pre hS0 h
 obtain⟨a1,b1,c1,v1,rfl,hkn,_,_,_⟩:=hR
 obtain⟨kv,rfl,hkv⟩:=hS
 obtain⟨l1,l2,l3,l4,_⟩:=msState_all hl
 have hkl:a.knew.length≤1099511627776:=by unfold msAct at hm;omega
 have key:∃ q τ,Ret Try.prog n_s_DoAct [.agg [a1,b1,c1,v1],.agg (actV a kv)] σ q τ∧∃ ds,q= .tup [.agg ds,gi (doAct s a).2]∧Hp σ τ [own kState ds (doAct s a).1]:=by
  refine ret_dr ir_s_DoAct (Nat.le_of_ble_eq_true rfl) ?_
  have H:=(((Hp.refl σ).new 1 [a1,b1,c1,v1]).new 1 (actV a kv)).new 1 [GV.nilS,GV.nilS,GV.nilS,GV.nilS]
  have z0:=H.pt 2 rfl
  simp +contextual (disch:=omega) only[go_sem,F_s_DoAct,ld_ptr z0,seg_full (cs:=[a1,b1,c1,v1]) rfl]
  obtain⟨es,τ1,R1,K1⟩:=s_l06Copy_ret _ _ s (kState.pre hR0 H.sub) hl
  refine by_hp R1 K1 ?_
  have H:=H.add K1
  simp only[List.cons_append,List.nil_append] at H
  have gl:es.length=4:=kState.len (K1.rd 0 rfl)
  have H:=H.new 1 es
  generalize hn6:τ1.length=n6 at*
  generalize hn4:(σ++[some (Blk.row 1 [a1,b1,c1,v1])]++[some (Blk.row 1 (actV a kv))]).length=n4 at*
  generalize hn2:(σ++[some (Blk.row 1 [a1,b1,c1,v1])]).length=n2 at*
  generalize hn1:σ.length=n1 at*
  simp +contextual (disch:=omega) only[go_sem,splice_full (cs:=[GV.nilS,GV.nilS,GV.nilS,GV.nilS]) gl rfl,gl,ld_ptr (H.pt 4 rfl),seg_full (cs:=[a1,b1,c1,v1]) rfl]
  obtain⟨τr,sr,Hr,_⟩:=H.st 2 rfl 4 0 (.agg es) gl (by decide) (by simp)
  have zr:rdB τr n4=some (splice [GV.nilS,GV.nilS,GV.nilS,GV.nilS] 0 es):=Hr.pt 2 rfl
  rw[splice_full gl rfl] at zr
  refine by_bool (s_StateOk_ret _ _ s (kState.pre hR0 H.sub) hl) (fun hok=> ?_) (fun hok=> ?_)
  rotate_left
  ·have hd:doAct s a=(s,3):=by simp[doAct,hok]
   simp +contextual (disch:=omega) only[go_sem,ld_ptr (H.pt 0 rfl),seg_full gl,sr,ld_ptr zr]
   exact⟨_,rfl,es,by rw[hd],by rw[hd];exact(Hr.pick 1 rfl).one⟩
  simp +contextual (disch:=omega) only[go_sem,ld_ptr (H.pt 3 rfl),seg_full (cs:=actV a kv) rfl]
  refine by_bool (s_ActOk_ret _ _ a (hS1 H.sub) hm) (fun hao=> ?_) (fun hao=> ?_)
  rotate_left
  ·have hd:doAct s a=(s,3):=by simp[doAct,hok,hao]
   simp +contextual (disch:=omega) only[go_sem,ld_ptr (H.pt 0 rfl),seg_full gl,sr,ld_ptr zr]
   exact⟨_,rfl,es,by rw[hd],by rw[hd];exact(Hr.pick 1 rfl).one⟩
  simp +contextual (disch:=omega) only[go_sem,ld_ptr (H.pt 3 rfl),ld_ptr (H.pt 4 rfl)]
  refine by_bool (s_Knows_ret _ a1 s.know a.dot (hkn.pre H.sub) l1) (fun hkn1=> ?_) (fun hkn1=> ?_)
  ·have hd:doAct s a=(s,1):=by simp[doAct,hok,hao,hkn1]
   simp +contextual (disch:=omega) only[go_sem,ld_ptr (H.pt 0 rfl),seg_full gl,sr,ld_ptr zr]
   exact⟨_,rfl,es,by rw[hd],by rw[hd];exact(Hr.pick 1 rfl).one⟩
  simp +contextual (disch:=omega) only[go_sem,ld_ptr (H.pt 3 rfl),ld_ptr (H.pt 4 rfl)]
  refine by_bool (s_KnowIn_ret _ kv a1 a.knew s.know (hkv.pre H.sub) (hkn.pre H.sub) hkl l1) (fun hkn2=> ?_) (fun hkn2=> ?_)
  rotate_left
  ·have hd:doAct s a=(s,2):=by simp[doAct,hok,hao,hkn1,hkn2]
   simp +contextual (disch:=omega) only[go_sem,ld_ptr (H.pt 0 rfl),seg_full gl,sr,ld_ptr zr]
   exact⟨_,rfl,es,by rw[hd],by rw[hd];exact(Hr.pick 1 rfl).one⟩
  simp +contextual (disch:=omega) only[go_sem,ld_ptr (H.pt 3 rfl),ld_ptr (H.pt 4 rfl),seg_full (cs:=actV a kv) rfl,seg_full (cs:=[a1,b1,c1,v1]) rfl]
  refine by_bool (s_l07Ref_ret _ _ s (kState.pre hR0 H.sub) _ a (hS1 H.sub) hl) (fun hri=> ?_) (fun hri=> ?_)
  rotate_left
  ·have hd:doAct s a=(s,3):=by simp[doAct,hok,hao,hkn1,hkn2,hri]
   simp +contextual (disch:=omega) only[go_sem,ld_ptr (H.pt 0 rfl),seg_full gl,sr,ld_ptr zr]
   exact⟨_,rfl,es,by rw[hd],by rw[hd];exact(Hr.pick 1 rfl).one⟩
  obtain⟨τ2,R2,S2⟩:=s_l07Do_ret (ownSplit H) a kv hkv hok hao hri hl
  simp +contextual (disch:=omega) only[go_sem,ld_ptr (H.pt 3 rfl),seg_full (cs:=actV a kv) rfl]
  rw[hn6]
  refine by_mut R2 ?_
  obtain⟨w0,w1,w2,w3,z6,q1,q2,q3,H3⟩:=S2.own
  cases h1:decide (120<(doOne s a).tallies.length) with
  |true=>
   have ht:tooMany (doOne s a)=true:=by simp[tooMany,h1]
   have hd:doAct s a=(s,4):=by simp[doAct,hok,hao,hkn1,hkn2,hri,ht]
   simp +contextual (disch:=omega) only[go_sem,ld_ptr z6,q1,q2,q3,gt_cast,h1,ld_ptr (H3.pt 3 rfl),seg_full (cs:=[a1,b1,c1,v1]) rfl]
   obtain⟨fs,τ4,R4,K4⟩:=s_l06Copy_ret _ _ s (kState.pre hR0 H3.sub) hl
   refine by_hp R4 K4 ?_
   have H4:=H3.add K4
   simp only[List.cons_append,List.nil_append] at H4
   have gl4:fs.length=4:=kState.len (K4.rd 0 rfl)
   obtain⟨τ5,s5,H5,_⟩:=H4.st 2 rfl 4 0 (.agg fs) gl4 (by decide) (by simp)
   have z5:rdB τ5 n4=some (splice [GV.nilS,GV.nilS,GV.nilS,GV.nilS] 0 fs):=H5.pt 2 rfl
   rw[splice_full gl4 rfl] at z5
   simp +contextual (disch:=omega) only[go_sem,s5,ld_ptr z5,seg_full gl4]
   exact⟨_,rfl,fs,by rw[hd],by rw[hd];exact H5.one⟩
  |false=>
   cases h2:decide (120<(doOne s a).lives.length) with
   |true=>
    have ht:tooMany (doOne s a)=true:=by simp[tooMany,h1,h2]
    have hd:doAct s a=(s,4):=by simp[doAct,hok,hao,hkn1,hkn2,hri,ht]
    simp +contextual (disch:=omega) only[go_sem,ld_ptr z6,q1,q2,q3,gt_cast,h1,h2,ld_ptr (H3.pt 3 rfl),seg_full (cs:=[a1,b1,c1,v1]) rfl]
    obtain⟨fs,τ4,R4,K4⟩:=s_l06Copy_ret _ _ s (kState.pre hR0 H3.sub) hl
    refine by_hp R4 K4 ?_
    have H4:=H3.add K4
    simp only[List.cons_append,List.nil_append] at H4
    have gl4:fs.length=4:=kState.len (K4.rd 0 rfl)
    obtain⟨τ5,s5,H5,_⟩:=H4.st 2 rfl 4 0 (.agg fs) gl4 (by decide) (by simp)
    have z5:rdB τ5 n4=some (splice [GV.nilS,GV.nilS,GV.nilS,GV.nilS] 0 fs):=H5.pt 2 rfl
    rw[splice_full gl4 rfl] at z5
    simp +contextual (disch:=omega) only[go_sem,s5,ld_ptr z5,seg_full gl4]
    exact⟨_,rfl,fs,by rw[hd],by rw[hd];exact H5.one⟩
   |false=>
    cases h3:decide (120<(doOne s a).cells.length) with
    |true=>
     have ht:tooMany (doOne s a)=true:=by simp[tooMany,h1,h2,h3]
     have hd:doAct s a=(s,4):=by simp[doAct,hok,hao,hkn1,hkn2,hri,ht]
     simp +contextual (disch:=omega) only[go_sem,ld_ptr z6,q1,q2,q3,gt_cast,h1,h2,h3,ld_ptr (H3.pt 3 rfl),seg_full (cs:=[a1,b1,c1,v1]) rfl]
     obtain⟨fs,τ4,R4,K4⟩:=s_l06Copy_ret _ _ s (kState.pre hR0 H3.sub) hl
     refine by_hp R4 K4 ?_
     have H4:=H3.add K4
     simp only[List.cons_append,List.nil_append] at H4
     have gl4:fs.length=4:=kState.len (K4.rd 0 rfl)
     obtain⟨τ5,s5,H5,_⟩:=H4.st 2 rfl 4 0 (.agg fs) gl4 (by decide) (by simp)
     have z5:rdB τ5 n4=some (splice [GV.nilS,GV.nilS,GV.nilS,GV.nilS] 0 fs):=H5.pt 2 rfl
     rw[splice_full gl4 rfl] at z5
     simp +contextual (disch:=omega) only[go_sem,s5,ld_ptr z5,seg_full gl4]
     exact⟨_,rfl,fs,by rw[hd],by rw[hd];exact H5.one⟩
    |false=>
     have ht:tooMany (doOne s a)=false:=by simp only[tooMany,h1,h2,h3];rfl
     have hd:doAct s a=(doOne s a,0):=by simp[doAct,hok,hao,hkn1,hkn2,hri,ht]
     obtain⟨τ5,s5,H5,_⟩:=H3.st 1 rfl 4 0 (.agg [w0,w1,w2,w3]) rfl (by decide) (by simp)
     have z5:rdB τ5 n4=some [w0,w1,w2,w3]:=H5.pt 1 rfl
     simp +contextual (disch:=omega) only[go_sem,ld_ptr z6,q1,q2,q3,gt_cast,h1,h2,h3,seg_full (cs:=[w0,w1,w2,w3]) rfl,s5,ld_ptr z5]
     exact⟨_,rfl,_,by rw[hd],by rw[hd];exact H5.one⟩
 obtain⟨q,τ,R,ds,rfl,h⟩:=key
 exact⟨ds,τ,R,h⟩
end Go.Proofs.Ytbeoiejnogdkpaa.Sy
namespace Go.Proofs.Ytbeoiejnogdkpaa.Sy
open Go Go.RowKit
set_option linter.unusedSimpArgs false
set_option linter.unusedVariables false
set_option maxRecDepth 4000
def zSt (σ:St) (cs:List GV):Prop:=∃ a b c v,cs=[a,b,c,v]∧zOk σ 3 b=true∧zOk σ 6 c=true∧zOk σ 8 v=true
end Go.Proofs.Ytbeoiejnogdkpaa.Sy
namespace Go.Proofs.Ytbeoiejnogdkpaa.Sy
open Go Go.RowKit
set_option linter.unusedSimpArgs false
set_option linter.unusedVariables false
set_option maxRecDepth 4000
def goneNot (c:Cell):Bool:= !c.gone
theorem gone_snoc {l:List Cell} {i:Nat} (hi:i<l.length):(l.take (i+1)).filter goneNot=if goneNot l[i] then(l.take i).filter goneNot++[l[i]] else(l.take i).filter goneNot:=by
 rw[filter_snoc' hi]
 split<;>simp
end Go.Proofs.Ytbeoiejnogdkpaa.Sy
namespace Go.Proofs.Ytbeoiejnogdkpaa.Sy
open Go Go.RowKit
set_option linter.unusedSimpArgs false
set_option linter.unusedVariables false
set_option maxRecDepth 4000
abbrev n_s_EditOk:Nat:=86
def F_s_EditOk:Fn1:=⟨34,[.t 2],(.seq (.reg [o 1 (.box (.t 0)),o 2 (.mov (.k (.bool false)))]) (.seq (.reg [o 4 (.fad 0 (.t 1)),o 5 (.ld false 1 (.t 4)),o 6 (.bin .eql (.t 5) (.k (.int .i64 6))),o 7 (.mov (.t 6)),og 8 7 false (.fad 0 (.t 1)),og 9 7 false (.ld false 1 (.t 8)),og 10 7 false (.bin .eql (.t 9) (.k (.int .i64 7))),o 11 (.pick (.t 7) (.k (.bool true)) (.t 10)),o 3 (.mov (.t 11))]) (.seq (.reg [o 12 (.fad 0 (.t 1)),o 13 (.ld false 1 (.t 12)),o 14 (.fad 1 (.t 1)),o 15 (.ld false 1 (.t 14)),o 16 (.fad 2 (.t 1)),o 17 (.ld false 1 (.t 16)),o 18 (.fad 3 (.t 1)),o 19 (.ld false 1 (.t 18)),o 20 (.call 95 [(.t 13),(.t 15),(.t 17),(.t 19)]),o 21 (.mov (.t 20)),og 22 21 true (.fad 4 (.t 1)),og 23 21 true (.ld false 1 (.t 22)),og 24 21 true (.bin .geq (.t 23) (.k (.int .i64 0))),o 25 (.pick (.t 21) (.t 24) (.k (.bool false))),o 26 (.mov (.t 25)),og 27 26 true (.mov (.t 3)),og 28 26 true (.mov (.t 27)),og 29 28 false (.fad 4 (.t 1)),og 30 28 false (.ld false 1 (.t 29)),og 31 28 false (.bin .eql (.t 30) (.k (.int .i64 0))),og 32 26 true (.pick (.t 28) (.k (.bool true)) (.t 31)),o 33 (.pick (.t 26) (.t 32) (.k (.bool false))),o 2 (.mov (.t 33))]) .ret)))⟩
theorem ir_s_EditOk:compFn Try.prog n_s_EditOk=some F_s_EditOk:=by kernel_rfl
abbrev n_s_PlaceIn:Nat:=87
def F_s_PlaceIn:Fn1:=⟨42,[.c 6 true 2,.t 7],(.seq (.reg [o 3 (.box (.t 0)),o 6 (.new [(.int .i64 0),(.int .i64 0)]),o 7 (.mov (.k (.bool false)))]) (.seq (.seq (.reg [o 10 (.ld true 4 (.t 3)),o 11 (.call 14 [(.t 10)]),o 12 (.un .not (.t 11)),o 13 (.mov (.t 12)),og 14 13 false (.mov (.t 2)),og 15 13 false (.bin .lss (.t 14) (.k (.int .i64 0))),o 16 (.pick (.t 13) (.k (.bool true)) (.t 15))]) (.cnd (.t 16) (.seq (.reg [o 17 (.build [(.int .i64 0),(.int .i64 0)] []),on (.st 2 (.t 6) (.t 17)),o 7 (.mov (.k (.bool false)))]) .ret) .skip)) (.seq (.reg [o 18 (.ld true 4 (.t 3)),o 19 (.mov (.t 1)),o 20 (.call 34 [(.t 18),(.t 19)]),o 8 (.mov (.t 20))]) (.seq (.seq (.reg [o 9 (.mov (.k (.int .i64 0)))]) (.blk 0 (.lop (.seq (.seq (.reg [o 21 (.mov (.t 9)),o 22 (.mov (.t 8)),o 23 (.len false (.t 22)),o 24 (.bin .lss (.t 21) (.t 23))]) (.cnd (.t 24) .skip (.ext 0))) (.seq (.blk 1 (.seq (.seq (.reg [o 27 (.mov (.t 8)),o 28 (.mov (.t 9)),o 29 (.iad 8 (.t 27) (.t 28)),o 30 (.fad 7 (.t 29)),o 31 (.ld false 1 (.t 30))]) (.cnd (.t 31) (.ext 1) .skip)) (.seq (.seq (.reg [o 32 (.mov (.t 2)),o 33 (.bin .eql (.t 32) (.k (.int .i64 0)))]) (.cnd (.t 33) (.seq (.reg [o 34 (.mov (.t 8)),o 35 (.mov (.t 9)),o 36 (.iad 8 (.t 34) (.t 35)),o 37 (.fad 1 (.t 36)),o 38 (.ld true 2 (.t 37)),on (.st 2 (.t 6) (.t 38)),o 7 (.mov (.k (.bool true)))]) .ret) .skip)) (.reg [o 39 (.mov (.t 2)),o 40 (.bin .sub (.t 39) (.k (.int .i64 1))),o 2 (.mov (.t 40))])))) (.reg [o 25 (.mov (.t 9)),o 26 (.bin .add (.t 25) (.k (.int .i64 1))),o 9 (.mov (.t 26))])))))) (.seq (.reg [o 41 (.build [(.int .i64 0),(.int .i64 0)] []),on (.st 2 (.t 6) (.t 41)),o 7 (.mov (.k (.bool false)))]) .ret)))))⟩
theorem ir_s_PlaceIn:compFn Try.prog n_s_PlaceIn=some F_s_PlaceIn:=by kernel_rfl
def editOk (e:Edit):Bool:=plainOk e.kind e.obj e.key e.val&&(decide (0≤e.place)&&((e.kind==6||e.kind==7)||e.place==0))
theorem s_EditOk_ret (σ:St) (e:Edit) (ho:e.obj.size≤1099511627776) (hk:e.key.size≤1099511627776):Ret Try.prog n_s_EditOk [.agg [gi e.kind,.str e.obj,.str e.key,gi e.val,gi e.place]] σ (.bool (editOk e)) σ:=by
 refine ret_eq ir_s_EditOk (Nat.le_of_ble_eq_true rfl) trivial ?_
 cases h6:(e.kind==6) with
 |true=>
  simp +contextual (disch:=omega) only[go_sem,F_s_EditOk,h6]
  refine by_bool (s_Plain_ret _ _ _ _ _ ho hk) (fun h1=> ?_) (fun h1=> ?_)
  ·cases h2:decide (0≤e.place) with
   |true=>simp +contextual (disch:=omega) only[go_sem,h2,editOk,h1,h6,Bool.true_or,Bool.and_true]
   |false=>simp +contextual (disch:=omega) only[go_sem,h2,editOk,h1,h6,Bool.false_and,Bool.and_false]
  ·simp +contextual (disch:=omega) only[go_sem,editOk,h1,Bool.false_and]
 |false=>
  cases h7:(e.kind==7) with
  |true=>
   simp +contextual (disch:=omega) only[go_sem,F_s_EditOk,h6,h7]
   refine by_bool (s_Plain_ret _ _ _ _ _ ho hk) (fun h1=> ?_) (fun h1=> ?_)
   ·cases h2:decide (0≤e.place) with
    |true=>simp +contextual (disch:=omega) only[go_sem,h2,editOk,h1,h6,h7,Bool.true_or,Bool.false_or,Bool.and_true]
    |false=>simp +contextual (disch:=omega) only[go_sem,h2,editOk,h1,h6,Bool.false_and,Bool.and_false]
   ·simp +contextual (disch:=omega) only[go_sem,editOk,h1,Bool.false_and]
  |false=>
   simp +contextual (disch:=omega) only[go_sem,F_s_EditOk,h6,h7]
   refine by_bool (s_Plain_ret _ _ _ _ _ ho hk) (fun h1=> ?_) (fun h1=> ?_)
   ·cases h2:decide (0≤e.place) with
    |true=>simp +contextual (disch:=omega) only[go_sem,h2,editOk,h1,h6,h7,Bool.true_or,Bool.false_or,Bool.true_and,Bool.and_true]
    |false=>simp +contextual (disch:=omega) only[go_sem,h2,editOk,h1,h6,Bool.false_and,Bool.and_false]
   ·simp +contextual (disch:=omega) only[go_sem,editOk,h1,Bool.false_and]
def placeIn (s:State) (o:ByteArray) (i:Int):Dot×Bool:=if h:0≤i∧i.toNat<(rowL s o).length then((rowL s o)[i.toNat].dot,true) else(⟨0,0⟩,false)
theorem flt_at {α:Type} {l:List α} {p:α→Bool} {k:Nat} (hk:k<l.length) (hp:p l[k]=true):∃ h:((l.take k).filter p).length<(l.filter p).length,(l.filter p)[((l.take k).filter p).length]=l[k]:=by
 have e:l.filter p=(l.take k).filter p++l[k]::(l.drop (k+1)).filter p:=by
  have h1:l=l.take k++l[k]::l.drop (k+1):=by rw[← List.drop_eq_getElem_cons hk,List.take_append_drop]
  have h2:l.filter p=(l.take k++l[k]::l.drop (k+1)).filter p:=congrArg _ h1
  rw[h2,List.filter_append,List.filter_cons_of_pos hp]
 refine⟨by rw[e];simp,?_⟩
 simp[e]
set_option maxHeartbeats 2000000 in
theorem s_PlaceIn_ret (σ:St) (cs:List GV) (s:State) (hR:kState.R σ s cs) (o:ByteArray) (i:Int) (hl:msState s≤1099511627776) (hi6:i≤9223372036854775807):Ret Try.prog n_s_PlaceIn [.agg cs,.str o,gi i] σ (.tup [.agg [gi (placeIn s o i).1.rep,gi (placeIn s o i).1.seq],.bool (placeIn s o i).2]) σ:=by
 have hlen:cs.length=4:=kState.len hR
 refine ret_eq ir_s_PlaceIn (Nat.le_of_ble_eq_true rfl) (by simp[vLt,cLt,sLt]) ?_
 have H:=((Hp.refl σ).new 1 cs).new 1 [gi 0,gi 0]
 simp +contextual (disch:=omega) only[go_sem,F_s_PlaceIn,ld_new2,seg_full hlen]
 generalize hn2:(σ++[some (Blk.row 1 cs)]).length=n2 at*
 have hno:¬ (0≤i∧i.toNat<(rowL s o).length)→placeIn s o i=(⟨0,0⟩,false):=fun h=>by unfold placeIn;rw[dif_neg h]
 refine by_bool (s_StateOk_ret _ _ s (kState.pre hR H.sub) hl) (fun hok=> ?_) (fun hok=> ?_)
 rotate_left
 ·have hpl:=hno (by simp[rowL,hok])
  obtain⟨τ2,s2,H2,_⟩:=H.st 0 rfl 2 0 (.agg [gi 0,gi 0]) rfl (by decide) (by simp)
  have z2:rdB τ2 n2=some [gi 0,gi 0]:=H2.pt 0 rfl
  simp +contextual (disch:=omega) only[go_sem,s2,ld_ptr z2,seg_full (cs:=[gi 0,gi 0]) rfl,hpl,H2.sub]
 by_cases hi:i<0
 ·have hpl:=hno (by omega)
  have ci:decide (i<0)=true:=decide_eq_true hi
  obtain⟨τ2,s2,H2,_⟩:=H.st 0 rfl 2 0 (.agg [gi 0,gi 0]) rfl (by decide) (by simp)
  have z2:rdB τ2 n2=some [gi 0,gi 0]:=H2.pt 0 rfl
  simp +contextual (disch:=omega) only[go_sem,ci,s2,ld_ptr z2,seg_full (cs:=[gi 0,gi 0]) rfl,hpl,H2.sub]
 have ci:decide (i<0)=false:=decide_eq_false hi
 obtain⟨m,rfl⟩:∃ m:Nat,i=(m:Int):=⟨i.toNat,by omega⟩
 have hrl:rowL s o=(rowC s o).filter goneNot:=by simp only[rowL,hok,if_true];rfl
 have hrb:=rowC_len (celR_of hok) o
 simp +contextual (disch:=omega) only[go_sem,ci,ld_ptr (H.pt 1 rfl),seg_full hlen]
 obtain⟨r1,τ1,R1,K1⟩:=s_l08Row_ret _ cs s (kState.pre hR H.sub) o hok hl
 refine by_hp R1 K1 ?_
 have H:=H.add K1
 simp only[List.cons_append,List.nil_append] at H
 rw[hrl] at hno
 have hyes:∀ h:m<((rowC s o).filter goneNot).length,placeIn s o m=(((rowC s o).filter goneNot)[m].dot,true):=fun h=>by
  unfold placeIn
  rw[dif_pos ⟨by omega,by rw[hrl];simpa using h⟩]
  simp only[hrl,Int.toNat_natCast]
 generalize hT:rowC s o=T at*
 simp +contextual (disch:=omega) only[go_sem]
 have H:Hp σ τ1 [ow pCell.kd r1 T,pt 1 n2 [gi 0,gi 0]]:=(((H.pick 2 rfl).drop1))
 refine vc_forR T.length 9 0 (fun k env τ=>env 2=gi ((m:Int) - (((T.take k).filter goneNot).length:Nat))∧((T.take k).filter goneNot).length≤m∧env 6= .ptr n2 0∧env 8=r1∧Hp σ τ [ow pCell.kd r1 T,pt 1 n2 [gi 0,gi 0]]) (fun env τ=>env 6= .ptr n2 0∧placeIn s o m=(⟨0,0⟩,false)∧Hp σ τ [pt 1 n2 [gi 0,gi 0]]) (fun env τ=>env 6= .ptr n2 0∧env 7= .bool true∧(placeIn s o m).2=true∧Hp σ τ [pt 1 n2 [gi (placeIn s o m).1.rep,gi (placeIn s o m).1.seq]]) rfl ⟨by simp +contextual (disch:=omega) only[go_sem,List.take_zero,List.filter_nil,List.length_nil,Int.natCast_zero,Int.sub_zero],Nat.zero_le _,rfl,rfl,H⟩ ?_ ?_ ?_ ?_
 ·clear H
  rintro J Y W hJ hY hW k env τ hk e9 c0 ⟨e2,hc,e6,e8,H⟩
  have C1:=Cell_at (H.sl 0 rfl) hk
  have hln:=(H.sl 0 rfl).len
  have hsn:=gone_snoc hk
  generalize hcc:((T.take k).filter goneNot).length=c at*
  cases hg:T[k].gone with
  |true=>
   have hk0:goneNot T[k]=false:=by simp[goneNot,hg]
   rw[hk0,if_neg (by simp)] at hsn
   simp +contextual (disch:=omega) only[go_sem,c0,e2,e6,e8,e9,hln,C1,hg]
   refine hJ _ _ _ ⟨?_,by rw[hsn,hcc];exact hc,?_,?_,H⟩
   all_goals simp +contextual (disch:=omega) only[go_sem,e2,e6,e8,hsn,hcc]
  |false=>
   have hk0:goneNot T[k]=true:=by simp[goneNot,hg]
   obtain⟨hf1,hf2⟩:=flt_at hk hk0
   rw[hk0,if_pos rfl] at hsn
   by_cases hm:c=m
   ·have z:((m:Int) - c==0)=true:=by simp;omega
    have hlt:m<(T.filter goneNot).length:=by omega
    have hpl:=hyes hlt
    have hix:(T.filter goneNot)[m]=T[k]:=by
     have:((T.take k).filter goneNot).length=m:=by omega
     rw[← hf2];congr 1;exact this.symm
    rw[hix] at hpl
    obtain⟨τ2,s2,H2,_⟩:=H.st 1 rfl 2 0 (.agg [gi T[k].dot.rep,gi T[k].dot.seq]) rfl (by decide) (by simp)
    have H2:Hp σ τ2 [ow pCell.kd r1 T,pt 1 n2 [gi T[k].dot.rep,gi T[k].dot.seq]]:=H2
    simp +contextual (disch:=omega) only[go_sem,c0,e2,e6,e8,e9,hln,C1,hg,z,s2]
    refine hW _ _ ⟨?_,?_,by rw[hpl],by rw[hpl];exact H2.drop1⟩
    all_goals simp +contextual (disch:=omega) only[go_sem,e6]
   ·have z:((m:Int) - c==0)=false:=by simp;omega
    have hl1:((T.take (k+1)).filter goneNot).length=c+1:=by rw[hsn];simp[hcc]
    have hI:(m:Int) - c - 1=(m:Int) - ((c:Int)+1):=by omega
    simp +contextual (disch:=omega) only[go_sem,c0,e2,e6,e8,e9,hln,C1,hg,z]
    refine hJ _ _ _ ⟨?_,by rw[hl1];omega,?_,?_,H⟩
    all_goals simp +contextual (disch:=omega) only[go_sem,e2,e6,e8,hl1,hI]
 ·clear H
  rintro Y hY env τ e9 c0 ⟨e2,hc,e6,e8,H⟩
  rw[List.take_length] at hc
  have hln:=(H.sl 0 rfl).len
  simp +contextual (disch:=omega) only[go_sem,c0,e2,e6,e8,e9,hln]
  refine hY _ _ ⟨?_,hno (by simp;omega),H.drop1⟩
  simp +contextual (disch:=omega) only[go_sem,e6]
 ·clear H
  rintro env τ ⟨e6,hpl,H⟩
  obtain⟨τ2,s2,H2,_⟩:=H.st 0 rfl 2 0 (.agg [gi 0,gi 0]) rfl (by decide) (by simp)
  have z2:rdB τ2 n2=some [gi 0,gi 0]:=H2.pt 0 rfl
  simp +contextual (disch:=omega) only[go_sem,e6,s2,ld_ptr z2,seg_full (cs:=[gi 0,gi 0]) rfl,hpl,H2.sub]
 ·clear H
  rintro env τ ⟨e6,e7,h2,H⟩
  simp +contextual (disch:=omega) only[go_sem,e6,e7,ld_ptr (H.pt 0 rfl),seg_full (cs:=[gi (placeIn s o m).1.rep,gi (placeIn s o m).1.seq]) rfl,h2,H.sub]
end Go.Proofs.Ytbeoiejnogdkpaa.Sy
namespace Go.Proofs.Ytbeoiejnogdkpaa.Sy
open Go Go.RowKit
set_option linter.unusedSimpArgs false
set_option linter.unusedVariables false
set_option maxRecDepth 4000
abbrev n_s_ActOf:Nat:=70
def F_s_ActOf:Fn1:=⟨98,[.c 8 true 10,.t 9],(.seq (.reg [o 4 (.box (.t 0)),o 7 (.box (.t 3)),o 8 (.new [(.int .i64 0),(.int .i64 0),(.int .i64 0),.nilS,(.int .i64 0),(.str ⟨#[]⟩),(.str ⟨#[]⟩),(.int .i64 0),(.int .i64 0),(.int .i64 0)]),o 9 (.mov (.k (.int .i64 0)))]) (.seq (.seq (.reg [o 12 (.ld true 4 (.t 4)),o 13 (.call 14 [(.t 12)]),o 14 (.un .not (.t 13)),o 15 (.mov (.t 14)),og 16 15 false (.ld true 5 (.t 7)),og 17 15 false (.call 86 [(.t 16)]),og 18 15 false (.un .not (.t 17)),o 19 (.pick (.t 15) (.k (.bool true)) (.t 18)),o 20 (.mov (.t 19)),og 21 20 false (.mov (.t 1)),og 22 20 false (.call 60 [(.t 21),(.k (.int .i64 0)),(.k (.int .i64 2))]),og 23 20 false (.un .not (.t 22)),o 24 (.pick (.t 20) (.k (.bool true)) (.t 23)),o 25 (.mov (.t 24)),og 26 25 false (.mov (.t 2)),og 27 25 false (.call 60 [(.t 26),(.k (.int .i64 1)),(.k (.int .i64 10000))]),og 28 25 false (.un .not (.t 27)),o 29 (.pick (.t 25) (.k (.bool true)) (.t 28))]) (.cnd (.t 29) (.seq (.reg [o 30 (.build [(.int .i64 0),(.int .i64 0),(.int .i64 0),.nilS,(.int .i64 0),(.str ⟨#[]⟩),(.str ⟨#[]⟩),(.int .i64 0),(.int .i64 0),(.int .i64 0)] []),on (.st 10 (.t 8) (.t 30)),o 9 (.mov (.k (.int .i64 3)))]) .ret) .skip)) (.seq (.drw [o 31 (.mov (.t 1)),o 32 (.fad 0 (.t 4)),o 33 (.ld false 1 (.t 32)),o 34 (.mov (.t 1)),o 35 (.iad 1 (.t 33) (.t 34)),o 36 (.ld false 1 (.t 35)),o 37 (.bin .add (.t 36) (.k (.int .i64 1))),o 38 (.build [(.int .i64 0),(.int .i64 0)] [(0,1,(.t 31)),(1,1,(.t 37))]),o 39 (.mov (.t 2)),o 40 (.lit 1 0 [] []),o 41 (.fad 0 (.t 4)),o 42 (.ld false 1 (.t 41)),o 43 (.app 1 8 [(.int .i64 0)] (.t 40) (.t 42)),o 44 (.fad 0 (.t 7)),o 45 (.ld false 1 (.t 44)),o 46 (.fad 1 (.t 7)),o 47 (.ld false 1 (.t 46)),o 48 (.fad 2 (.t 7)),o 49 (.ld false 1 (.t 48)),o 50 (.fad 3 (.t 7)),o 51 (.ld false 1 (.t 50)),o 52 (.build [(.int .i64 0),(.int .i64 0),(.int .i64 0),.nilS,(.int .i64 0),(.str ⟨#[]⟩),(.str ⟨#[]⟩),(.int .i64 0),(.int .i64 0),(.int .i64 0)] [(0,2,(.t 38)),(2,1,(.t 39)),(3,1,(.t 43)),(4,1,(.t 45)),(5,1,(.t 47)),(6,1,(.t 49)),(7,1,(.t 51))]),o 10 (.new [(.int .i64 0),(.int .i64 0),(.int .i64 0),.nilS,(.int .i64 0),(.str ⟨#[]⟩),(.str ⟨#[]⟩),(.int .i64 0),(.int .i64 0),(.int .i64 0)])] [on (.st 10 (.t 10) (.t 52))]) (.seq (.reg [o 11 (.mov (.k (.bool true)))]) (.seq (.seq (.reg [o 53 (.fad 0 (.t 7)),o 54 (.ld false 1 (.t 53)),o 55 (.bin .eql (.t 54) (.k (.int .i64 7)))]) (.cnd (.t 55) (.reg [o 57 (.ld true 4 (.t 4)),o 58 (.fad 1 (.t 7)),o 59 (.ld false 1 (.t 58)),o 60 (.fad 4 (.t 7)),o 61 (.ld false 1 (.t 60)),o 62 (.call 87 [(.t 57),(.t 59),(.t 61)]),o 56 (.mov (.t 62)),o 63 (.ext 0 (.t 56)),o 64 (.ext 1 (.t 56)),o 65 (.fad 8 (.t 10)),on (.st 2 (.t 65) (.t 63)),o 11 (.mov (.t 64))]) .skip)) (.seq (.seq (.reg [o 66 (.fad 0 (.t 7)),o 67 (.ld false 1 (.t 66)),o 68 (.bin .eql (.t 67) (.k (.int .i64 6))),o 69 (.mov (.t 68)),og 70 69 true (.fad 4 (.t 7)),og 71 69 true (.ld false 1 (.t 70)),og 72 69 true (.bin .gtr (.t 71) (.k (.int .i64 0))),o 73 (.pick (.t 69) (.t 72) (.k (.bool false)))]) (.cnd (.t 73) (.reg [o 75 (.ld true 4 (.t 4)),o 76 (.fad 1 (.t 7)),o 77 (.ld false 1 (.t 76)),o 78 (.fad 4 (.t 7)),o 79 (.ld false 1 (.t 78)),o 80 (.bin .sub (.t 79) (.k (.int .i64 1))),o 81 (.call 87 [(.t 75),(.t 77),(.t 80)]),o 74 (.mov (.t 81)),o 82 (.ext 0 (.t 74)),o 83 (.ext 1 (.t 74)),o 84 (.fad 8 (.t 10)),on (.st 2 (.t 84) (.t 82)),o 11 (.mov (.t 83))]) .skip)) (.seq (.seq (.reg [o 85 (.fad 0 (.t 10)),o 86 (.ld true 2 (.t 85)),o 87 (.call 62 [(.t 86)]),o 88 (.un .not (.t 87))]) (.cnd (.t 88) (.seq (.reg [o 89 (.build [(.int .i64 0),(.int .i64 0),(.int .i64 0),.nilS,(.int .i64 0),(.str ⟨#[]⟩),(.str ⟨#[]⟩),(.int .i64 0),(.int .i64 0),(.int .i64 0)] []),on (.st 10 (.t 8) (.t 89)),o 9 (.mov (.k (.int .i64 3)))]) .ret) .skip)) (.seq (.seq (.reg [o 90 (.mov (.t 11)),o 91 (.un .not (.t 90))]) (.cnd (.t 91) (.seq (.reg [o 92 (.build [(.int .i64 0),(.int .i64 0),(.int .i64 0),.nilS,(.int .i64 0),(.str ⟨#[]⟩),(.str ⟨#[]⟩),(.int .i64 0),(.int .i64 0),(.int .i64 0)] []),on (.st 10 (.t 8) (.t 92)),o 9 (.mov (.k (.int .i64 5)))]) .ret) .skip)) (.seq (.seq (.reg [o 93 (.ld true 10 (.t 10)),o 94 (.call 88 [(.t 93)]),o 95 (.un .not (.t 94))]) (.cnd (.t 95) (.seq (.reg [o 96 (.build [(.int .i64 0),(.int .i64 0),(.int .i64 0),.nilS,(.int .i64 0),(.str ⟨#[]⟩),(.str ⟨#[]⟩),(.int .i64 0),(.int .i64 0),(.int .i64 0)] []),on (.st 10 (.t 8) (.t 96)),o 9 (.mov (.k (.int .i64 3)))]) .ret) .skip)) (.seq (.reg [o 97 (.ld true 10 (.t 10)),on (.st 10 (.t 8) (.t 97)),o 9 (.mov (.k (.int .i64 0)))]) .ret))))))))))⟩
theorem ir_s_ActOf:compFn Try.prog n_s_ActOf=some F_s_ActOf:=by kernel_rfl
def placeOf (s:State) (e:Edit):Dot×Bool:=if e.kind=7 then placeIn s e.obj e.place else if e.kind=6∧0<e.place then placeIn s e.obj (e.place - 1) else(d0,true)
def act0:Act:=⟨d0,0,[],0,⟨#[]⟩,⟨#[]⟩,0,d0⟩
def actWith (s:State) (rep time:Int) (e:Edit) (d:Dot):Act:=⟨⟨rep,at0 s.know rep+1⟩,time,s.know,e.kind,e.obj,e.key,e.val,d⟩
def actRaw (s:State) (rep time:Int) (e:Edit):Act:=actWith s rep time e (placeOf s e).1
abbrev awV (s:State) (rep time:Int) (e:Edit) (kv:GV) (d:Dot):List GV:=[gi rep,gi (at0 s.know rep+1),gi time,kv,gi e.kind,.str e.obj,.str e.key,gi e.val,gi d.rep,gi d.seq]
def actOf (s:State) (rep time:Int) (e:Edit):Act×Int:=
 if stateOk s&&(editOk e&&(inB rep 0 2&&inB time 1 10000)) then
  if dotOk ⟨rep,at0 s.know rep+1⟩ then
   if(placeOf s e).2 then
    if actOk (actRaw s rep time e) then(actRaw s rep time e,0) else(act0,3)
   else(act0,5)
  else(act0,3)
 else(act0,3)
abbrev edV (e:Edit):List GV:=[gi e.kind,.str e.obj,.str e.key,gi e.val,gi e.place]
abbrev zeV:List GV:=[gi 0,gi 0,gi 0,GV.nilS,gi 0,.str ⟨#[]⟩,.str ⟨#[]⟩,gi 0,gi 0,gi 0]
theorem own0 {σ τ:St} {rs:List Thg} (H:Hp σ τ rs):Hp σ τ [own kAct zeV act0]:=Hp.one (Hp.ownAct (x:=act0) (Hp.nilS H))
theorem know_at {s:State} (hok:stateOk s=true) {rep:Int} (h:inB rep 0 2=true):∃ r:Nat,rep=(r:Int)∧∃ h:r<s.know.length,at0 s.know rep=s.know[r]∧0≤s.know[r]∧s.know[r]≤1000:=by
 have h2:=inB_iff.1 h
 have hk:okK s.know=true:=by simp only[stateOk,Bool.and_eq_true] at hok;exact hok.1
 have hl:=okK_len hk
 obtain⟨r,rfl⟩:∃ r:Nat,rep=(r:Int):=⟨rep.toNat,by omega⟩
 have hr:r<s.know.length:=by omega
 refine⟨r,rfl,hr,?_,?_⟩
 ·simp[at0,hr]
 ·have:=(List.all_eq_true.1 (by simp only[okK,Bool.and_eq_true] at hk;exact hk.1)) _ (List.getElem_mem hr)
  simpa [seqB,inB] using this
set_option maxHeartbeats 4000000 in
theorem s_ActOf_ret (σ:St) (cs:List GV) (s:State) (hR:kState.R σ s cs) (rep time:Int) (e:Edit) (hl:msState s≤1099511627776) (ho:e.obj.size≤1099511627776) (hk:e.key.size≤1099511627776) (hp:e.place≤9223372036854775807) (hm:s.know.length+e.obj.size+e.key.size≤1099511627776):∃ ds τ,Ret Try.prog n_s_ActOf [.agg cs,gi rep,gi time,.agg (edV e)] σ (.tup [.agg ds,gi (actOf s rep time e).2]) τ∧Hp σ τ [own kAct ds (actOf s rep time e).1]:=by
 have hR0:=hR
 obtain⟨a1,b1,c1,v1,rfl,hkn,hb,hc,hv⟩:=hR
 obtain⟨l1,l2,l3,l4,_⟩:=msState_all hl
 have key:∃ q τ,Ret Try.prog n_s_ActOf [.agg [a1,b1,c1,v1],gi rep,gi time,.agg (edV e)] σ q τ∧∃ ds,q= .tup [.agg ds,gi (actOf s rep time e).2]∧Hp σ τ [own kAct ds (actOf s rep time e).1]:=by
  refine ret_dr ir_s_ActOf (Nat.le_of_ble_eq_true rfl) ?_
  have H:=(((Hp.refl σ).new 1 [a1,b1,c1,v1]).new 1 (edV e)).new 1 zeV
  simp only[F_s_ActOf]
  obtain⟨n3,hn3⟩:∃ n,n=(σ++[some (Blk.row 1 [a1,b1,c1,v1])]++[some (Blk.row 1 (edV e))]).length:=⟨_,rfl⟩
  obtain⟨n2,hn2⟩:∃ n,n=(σ++[some (Blk.row 1 [a1,b1,c1,v1])]).length:=⟨_,rfl⟩
  obtain⟨n1,hn1⟩:∃ n,n=σ.length:=⟨_,rfl⟩
  rw[← hn3,←hn2,←hn1] at H
  refine vc_seqX (fun env τ=>env 1=gi rep∧env 2=gi time∧env 4= .ptr n1 0∧env 7= .ptr n2 0∧env 8= .ptr n3 0∧Hp σ τ [pt 1 n3 zeV,pt 1 n2 (edV e),pt 1 n1 [a1,b1,c1,v1]]) (fun Y hY=>by
   simp +contextual (disch:=omega) only[go_sem]
   refine hY _ _ ⟨?_,?_,?_,?_,?_,H⟩
   all_goals simp +contextual (disch:=omega) only[go_sem,hn1,hn2,hn3]) ?_
  clear H
  rintro env τ ⟨e1,e2,e4,e7,e8,H⟩
  have bad:∀ c,actOf s rep time e=(act0,c)→∃ τr,stG 10 τ (.ptr n3 0) (.agg zeV)=some (.tup [],τr)∧ldG true 10 τr (.ptr n3 0)=some (.agg zeV)∧∃ ds,(GV.tup [.agg zeV,gi c])= .tup [.agg ds,gi (actOf s rep time e).2]∧Hp σ τr [own kAct ds (actOf s rep time e).1]:=fun c hc=>by
   obtain⟨τr,sr,Hr,_⟩:=H.st 0 rfl 10 0 (.agg zeV) rfl (by decide) (by simp)
   have zr:rdB τr n3=some zeV:=Hr.pt 0 rfl
   refine⟨τr,sr,?_,zeV,by rw[hc],by rw[hc];exact own0 Hr⟩
   simp +contextual (disch:=omega) only[go_sem,ld_ptr zr,seg_full (cs:=zeV) rfl]
  refine vc_seqX (fun env τ'=>env 1=gi rep∧env 2=gi time∧env 4= .ptr n1 0∧env 7= .ptr n2 0∧env 8= .ptr n3 0∧τ=τ'∧(stateOk s&&(editOk e&&(inB rep 0 2&&inB time 1 10000)))=true) (fun Y hY=>by
   simp +contextual (disch:=omega) only[go_sem,e1,e2,e4,e7,e8,ld_ptr (H.pt 2 rfl),seg_full (cs:=[a1,b1,c1,v1]) rfl]
   refine by_bool (s_StateOk_ret _ _ s (kState.pre hR0 H.sub) hl) (fun h1=> ?_) (fun h1=> ?_)
   rotate_left
   ·obtain⟨τr,q1,q2,q3⟩:=bad 3 (by simp[actOf,h1])
    simp +contextual (disch:=omega) only[go_sem,e1,e2,e4,e7,e8,q1,q2]
    exact⟨_,rfl,q3⟩
   simp +contextual (disch:=omega) only[go_sem,e1,e2,e4,e7,e8,ld_ptr (H.pt 1 rfl),seg_full (cs:=edV e) rfl]
   refine by_bool (s_EditOk_ret _ e ho hk) (fun h2=> ?_) (fun h2=> ?_)
   rotate_left
   ·obtain⟨τr,q1,q2,q3⟩:=bad 3 (by simp[actOf,h1,h2])
    simp +contextual (disch:=omega) only[go_sem,e1,e2,e4,e7,e8,q1,q2]
    exact⟨_,rfl,q3⟩
   simp +contextual (disch:=omega) only[go_sem,e1,e2,e4,e7,e8]
   refine by_bool (s_l01In_ret _ rep 0 2) (fun h3=> ?_) (fun h3=> ?_)
   rotate_left
   ·obtain⟨τr,q1,q2,q3⟩:=bad 3 (by simp[actOf,h1,h2,h3])
    simp +contextual (disch:=omega) only[go_sem,e1,e2,e4,e7,e8,q1,q2]
    exact⟨_,rfl,q3⟩
   simp +contextual (disch:=omega) only[go_sem,e1,e2,e4,e7,e8]
   refine by_bool (s_l01In_ret _ time 1 10000) (fun h4=> ?_) (fun h4=> ?_)
   rotate_left
   ·obtain⟨τr,q1,q2,q3⟩:=bad 3 (by simp[actOf,h1,h2,h3,h4])
    simp +contextual (disch:=omega) only[go_sem,e1,e2,e4,e7,e8,q1,q2]
    exact⟨_,rfl,q3⟩
   simp +contextual (disch:=omega) only[go_sem,e1,e2,e4,e7,e8]
   refine hY _ _ ⟨?_,?_,?_,?_,?_,rfl,by simp[h1,h2,h3,h4]⟩
   all_goals simp +contextual (disch:=omega) only[go_sem,e1,e2,e4,e7,e8]) ?_
  clear e1 e2 e4 e7 e8
  rintro env τ' ⟨e1,e2,e4,e7,e8,rfl,hh⟩
  have hh0:=hh
  simp only[Bool.and_eq_true] at hh
  obtain⟨r,hr,hrl,hat,hr0,hr1⟩:=know_at hh.1 hh.2.2.1
  have A1:=int_at (hkn.pre H.sub) hrl
  have n0:natOf (some (.int .i64 rep))=some r:=by rw[hr];exact natOf_nat
  refine vc_seqX (fun env τ=>∃ n10 kv,env 1=gi rep∧env 2=gi time∧env 4= .ptr n1 0∧env 7= .ptr n2 0∧env 8= .ptr n3 0∧env 10= .ptr n10 0∧Hp σ τ [pt 1 n10 (awV s rep time e kv d0),ow pI.kd kv s.know,pt 1 n3 zeV,pt 1 n2 (edV e),pt 1 n1 [a1,b1,c1,v1]]) (fun Y hY=>by
   have z1:=rdB_app (H.pt 2 rfl) [some (Blk.row 1 [])]
   obtain⟨kv,τk,ek,qk,Hk⟩:=H.cp_int (hkn.pre H.sub) l1
   have ck:=(Hk.sl 0 rfl).cell
   have Hn:=(Hk.new 1 (awV s rep time e kv d0))
   simp +contextual (disch:=omega) only[go_sem,e1,e2,e4,e7,e8,ld_ptr (H.pt 2 rfl),ld_ptr (H.pt 1 rfl),ld_ptr z1,ld_ptr (Hk.pt 2 rfl),n0,A1,ek,qk,ck,←hat]
   refine hY _ _ ⟨τk.length,kv,?_,?_,?_,?_,?_,?_,Hn⟩
   all_goals simp +contextual (disch:=omega) only[go_sem,e1,e2,e4,e7,e8]) ?_
  clear H e1 e2 e4 e7 e8 bad A1
  rintro env τ ⟨n10,kv,e1,e2,e4,e7,e8,e10,H⟩
  refine vc_seqX (fun env τ'=>τ=τ'∧env 1=gi rep∧env 2=gi time∧env 4= .ptr n1 0∧env 7= .ptr n2 0∧env 8= .ptr n3 0∧env 10= .ptr n10 0∧env 11= .bool true) (fun Y hY=>by
   simp +contextual (disch:=omega) only[go_sem,e1,e2,e4,e7,e8,e10]
   refine hY _ _ ⟨rfl,?_,?_,?_,?_,?_,?_,?_⟩
   all_goals simp +contextual (disch:=omega) only[go_sem,e1,e2,e4,e7,e8,e10]) ?_
  clear e1 e2 e4 e7 e8 e10
  rintro env τ' ⟨rfl,e1,e2,e4,e7,e8,e10,e11⟩
  refine vc_seqX (fun env τ=>env 4= .ptr n1 0∧env 7= .ptr n2 0∧env 8= .ptr n3 0∧env 10= .ptr n10 0∧env 11= .bool (if e.kind=7 then placeIn s e.obj e.place else(d0,true)).2∧Hp σ τ [pt 1 n10 (awV s rep time e kv (if e.kind=7 then placeIn s e.obj e.place else(d0,true)).1),ow pI.kd kv s.know,pt 1 n3 zeV,pt 1 n2 (edV e),pt 1 n1 [a1,b1,c1,v1]]) (fun Y hY=>by
   by_cases k7:e.kind=7
   ·have b7:(e.kind==7)=true:=by simp[k7]
    simp only[if_pos k7] at hY
    have PR:=s_PlaceIn_ret τ _ s (kState.pre hR0 H.sub) e.obj e.place hl hp
    obtain⟨τ2,st2,H2,_⟩:=H.st 0 rfl 2 8 (.agg [gi (placeIn s e.obj e.place).1.rep,gi (placeIn s e.obj e.place).1.seq]) rfl (by decide) (by simp)
    simp +contextual (disch:=omega) only[go_sem,e4,e7,e8,e10,b7,ld_ptr (H.pt 3 rfl),ld_ptr (H.pt 4 rfl),seg_full (cs:=[a1,b1,c1,v1]) rfl]
    refine by_ret PR ?_
    simp +contextual (disch:=omega) only[go_sem,e4,e7,e8,e10,st2]
    refine hY _ _ ⟨?_,?_,?_,?_,?_,H2⟩
    all_goals simp +contextual (disch:=omega) only[go_sem,e4,e7,e8,e10]
   ·have b7:(e.kind==7)=false:=by simp[k7]
    simp only[if_neg k7] at hY
    simp +contextual (disch:=omega) only[go_sem,e4,e7,e8,e10,e11,b7,ld_ptr (H.pt 3 rfl)]
    refine hY _ _ ⟨?_,?_,?_,?_,?_,H⟩
    all_goals simp +contextual (disch:=omega) only[go_sem,e4,e7,e8,e10,e11]) ?_
  clear H e1 e2 e4 e7 e8 e10 e11
  rintro env τ ⟨e4,e7,e8,e10,e11,H⟩
  refine vc_seqX (fun env τ=>env 4= .ptr n1 0∧env 7= .ptr n2 0∧env 8= .ptr n3 0∧env 10= .ptr n10 0∧env 11= .bool (placeOf s e).2∧Hp σ τ [pt 1 n10 (awV s rep time e kv (placeOf s e).1),ow pI.kd kv s.know,pt 1 n3 zeV,pt 1 n2 (edV e),pt 1 n1 [a1,b1,c1,v1]]) (fun Y hY=>by
   by_cases k7:e.kind=7
   ·have b6:(e.kind==6)=false:=by simp[k7]
    have hq:placeOf s e=placeIn s e.obj e.place:=if_pos k7
    rw[if_pos k7] at H e11
    simp +contextual (disch:=omega) only[go_sem,e4,e7,e8,e10,e11,b6,ld_ptr (H.pt 3 rfl)]
    refine hY _ _ ⟨?_,?_,?_,?_,?_,by rw[hq];exact H⟩
    all_goals simp +contextual (disch:=omega) only[go_sem,e4,e7,e8,e10,e11,hq]
   rw[if_neg k7] at H e11
   by_cases k6:e.kind=6
   ·have b6:(e.kind==6)=true:=by simp[k6]
    by_cases kp:0<e.place
    ·have bp:decide (0<e.place)=true:=decide_eq_true kp
     have hq:placeOf s e=placeIn s e.obj (e.place - 1):=by unfold placeOf;rw[if_neg k7,if_pos ⟨k6,kp⟩]
     have PR:=s_PlaceIn_ret τ _ s (kState.pre hR0 H.sub) e.obj (e.place - 1) hl (by omega)
     obtain⟨τ2,st2,H2,_⟩:=H.st 0 rfl 2 8 (.agg [gi (placeIn s e.obj (e.place - 1)).1.rep,gi (placeIn s e.obj (e.place - 1)).1.seq]) rfl (by decide) (by simp)
     simp +contextual (disch:=omega) only[go_sem,e4,e7,e8,e10,b6,bp,ld_ptr (H.pt 3 rfl),ld_ptr (H.pt 4 rfl),seg_full (cs:=[a1,b1,c1,v1]) rfl]
     refine by_ret PR ?_
     simp +contextual (disch:=omega) only[go_sem,e4,e7,e8,e10,st2]
     refine hY _ _ ⟨?_,?_,?_,?_,?_,by rw[hq];exact H2⟩
     all_goals simp +contextual (disch:=omega) only[go_sem,e4,e7,e8,e10,hq]
    ·have bp:decide (0<e.place)=false:=decide_eq_false kp
     have hq:placeOf s e=(d0,true):=by unfold placeOf;rw[if_neg k7,if_neg (fun h=>kp h.2)]
     simp +contextual (disch:=omega) only[go_sem,e4,e7,e8,e10,e11,b6,bp,ld_ptr (H.pt 3 rfl)]
     refine hY _ _ ⟨?_,?_,?_,?_,?_,by rw[hq];exact H⟩
     all_goals simp +contextual (disch:=omega) only[go_sem,e4,e7,e8,e10,e11,hq]
   ·have b6:(e.kind==6)=false:=by simp[k6]
    have hq:placeOf s e=(d0,true):=by unfold placeOf;rw[if_neg k7,if_neg (fun h=>k6 h.1)]
    simp +contextual (disch:=omega) only[go_sem,e4,e7,e8,e10,e11,b6,ld_ptr (H.pt 3 rfl)]
    refine hY _ _ ⟨?_,?_,?_,?_,?_,by rw[hq];exact H⟩
    all_goals simp +contextual (disch:=omega) only[go_sem,e4,e7,e8,e10,e11,hq]) ?_
  clear H e4 e7 e8 e10 e11
  rintro env τ ⟨e4,e7,e8,e10,e11,H⟩
  have bad:∀ c,actOf s rep time e=(act0,c)→∃ τr,stG 10 τ (.ptr n3 0) (.agg zeV)=some (.tup [],τr)∧ldG true 10 τr (.ptr n3 0)=some (.agg zeV)∧∃ ds,(GV.tup [.agg zeV,gi c])= .tup [.agg ds,gi (actOf s rep time e).2]∧Hp σ τr [own kAct ds (actOf s rep time e).1]:=fun c hc=>by
   obtain⟨τr,sr,Hr,_⟩:=H.st 2 rfl 10 0 (.agg zeV) rfl (by decide) (by simp)
   have zr:rdB τr n3=some zeV:=Hr.pt 2 rfl
   refine⟨τr,sr,?_,zeV,by rw[hc],by rw[hc];exact own0 Hr⟩
   simp +contextual (disch:=omega) only[go_sem,ld_ptr zr,seg_full (cs:=zeV) rfl]
  simp +contextual (disch:=omega) only[go_sem,e4,e7,e8,e10,e11,ld_ptr (H.pt 0 rfl)]
  refine by_bool (s_DotOk_ret τ ⟨rep,at0 s.know rep+1⟩) (fun h5=> ?_) (fun h5=> ?_)
  rotate_left
  ·obtain⟨τr,q1,q2,q3⟩:=bad 3 (by unfold actOf;rw[if_pos hh0,if_neg (by simp[h5])])
   simp +contextual (disch:=omega) only[go_sem,e4,e7,e8,e10,e11,q1,q2]
   exact⟨_,rfl,q3⟩
  cases h6:(placeOf s e).2 with
  |false=>
   rw[h6] at e11
   obtain⟨τr,q1,q2,q3⟩:=bad 5 (by unfold actOf;rw[if_pos hh0,if_pos h5,if_neg (by simp[h6])])
   simp +contextual (disch:=omega) only[go_sem,e4,e7,e8,e10,e11,q1,q2]
   exact⟨_,rfl,q3⟩
  |true=>
   rw[h6] at e11
   simp +contextual (disch:=omega) only[go_sem,e4,e7,e8,e10,e11,ld_ptr (H.pt 0 rfl),seg_full (cs:=awV s rep time e kv (placeOf s e).1) rfl]
   refine by_bool (s_ActOk_ret τ (awV s rep time e kv (placeOf s e).1) (actRaw s rep time e) ⟨kv,rfl,H.sl 1 rfl⟩ (by unfold msAct;exact hm)) (fun h7=> ?_) (fun h7=> ?_)
   rotate_left
   ·obtain⟨τr,q1,q2,q3⟩:=bad 3 (by unfold actOf;rw[if_pos hh0,if_pos h5,if_pos h6,if_neg (by simp[h7])])
    simp +contextual (disch:=omega) only[go_sem,e4,e7,e8,e10,e11,q1,q2]
    exact⟨_,rfl,q3⟩
   have hd:actOf s rep time e=(actRaw s rep time e,0):=by unfold actOf;rw[if_pos hh0,if_pos h5,if_pos h6,if_pos h7]
   obtain⟨τr,sr,Hr,_⟩:=H.st 2 rfl 10 0 (.agg (awV s rep time e kv (placeOf s e).1)) rfl (by decide) (by simp)
   have zr:rdB τr n3=some (awV s rep time e kv (placeOf s e).1):=Hr.pt 2 rfl
   simp +contextual (disch:=omega) only[go_sem,e4,e7,e8,e10,e11,ld_ptr (H.pt 0 rfl),sr,ld_ptr zr,seg_full (cs:=awV s rep time e kv (placeOf s e).1) rfl]
   exact⟨_,rfl,_,by rw[hd],by rw[hd];exact((Hr.pick 1 rfl).ownAct (x:=actRaw s rep time e)).one⟩
 obtain⟨q,τ,R,ds,rfl,h⟩:=key
 exact⟨ds,τ,R,h⟩
end Go.Proofs.Ytbeoiejnogdkpaa.Sy
namespace Go.Proofs.Ytbeoiejnogdkpaa.Sy
open Go Go.RowKit
set_option linter.unusedSimpArgs false
set_option linter.unusedVariables false
set_option maxRecDepth 4000
end Go.Proofs.Ytbeoiejnogdkpaa.Sy
namespace Go.Proofs.Ytbeoiejnogdkpaa.Sy
open Go Go.RowKit
set_option linter.unusedSimpArgs false
set_option linter.unusedVariables false
inductive Item where
 |box (z n:Nat) (cs:List GV)
 |th (r:Thg)
def Item.t:Item→Thg
 | .box z n cs=>pt z n cs
 | .th r=>r
def Hx (σ τ:St) (h:List Item):Prop:=Hp σ τ (h.map Item.t)
def look:List Item→Nat→Option (List GV)
 |[],_=>none
 | .box _ m cs::h,n=>if m=n then some cs else look h n
 | .th _::h,n=>look h n
def upd:List Item→Nat→List GV→List Item
 |[],_,_=>[]
 | .box z m cs::h,n,ds=>if m=n then .box z m ds::h else .box z m cs::upd h n ds
 | .th r::h,n,ds=>.th r::upd h n ds
def frX (σ:St):List Item→Nat→Prop
 |[],n=>σ.length≤n
 | .box _ m _::h,n=>m<n∧frX σ h n
 | .th _::h,n=>frX σ h n
abbrev Kx:=GV→List Item→St→Prop
def bindX (v:Option GV) (k:Kx) (h:List Item) (τ:St):Prop:=match v with
 |some v=>k v h τ
 |none=>False
def orX (a b:Option GV):Option GV:=match a with
 |some x=>some x
 |none=>b
def lookZ:List Item→Nat→Option (Nat×List GV)
 |[],_=>none
 | .box z m cs::h,n=>if m=n then some (z,cs) else lookZ h n
 | .th _::h,n=>lookZ h n
def blcX (h:List Item) (cs:List GV):GV→Prop
 | .ptr b 0=>lookZ h b=some (1,cs)
 |_=>False
def ldB (c:Option (List GV)) (g:Bool) (n off:Nat) (e:Option GV):Option GV:=match c with
 |some cs=>(seg cs off n).bind (mkv g)
 |none=>e
def ldY (h:List Item) (τ:St) (g:Bool) (n:Nat):GV→Option GV
 | .ptr b off=>ldB (look h b) g n off (ldG g n τ (.ptr b off))
 |a=>ldG g n τ a
def ldX (σ:St) (h:List Item) (τ:St) (g:Bool) (n:Nat) (a:GV):Option GV:=orX (ldG g n σ a) (ldY h τ g n a)
def allocX (σ:St) (h:List Item) (z:Nat) (cs:List GV) (v:Nat→GV) (k:Kx):Prop:=∀ n,frX σ h n→∀ τ',Hx σ τ' (.box z n cs::h)→k (v n) (.box z n cs::h) τ'
def genX (σ:St) (D:Bool) (τ:St) (e:Option (GV×St)) (k:Kx):Prop:=∃ v τ' h',e=some (v,τ')∧(D=true→τ <+: τ')∧Hx σ τ' h'∧k v h' τ'
def stB (σ:St) (D:Bool) (h:List Item) (τ:St) (n:Nat) (k:Kx) (b off:Nat) (x:GV) (c:Option (List GV)):Prop:=match c with
 |some cs=>(D=false∧off+n≤cs.length∧0<n∧x.cells.length=n)∧∀ τ',Hx σ τ' (upd h b (splice cs off x.cells))→k (.tup []) (upd h b (splice cs off x.cells)) τ'
 |none=>genX σ D τ (stG n τ (.ptr b off) x) k
def stX (σ:St) (D:Bool) (h:List Item) (τ:St) (n:Nat) (k:Kx) (a x:GV):Prop:=match a with
 | .ptr b off=>stB σ D h τ n k b off x (look h b)
 |a=>genX σ D τ (stG n τ a x) k
def fnX (P:Program) (σ:St) (D:Bool) (τ:St) (args:List GV) (k:Kx):GV→Prop
 | .fn f caps=>∃ v τ' h',Ret P f (args++caps.map fun c=>.ptr c.1 c.2) τ v τ'∧(D=true→τ <+: τ')∧Hx σ τ' h'∧k v h' τ'
 |_=>False
def litX (σ:St) (h:List Item) (z len:Nat) (k:Kx):Option (List GV)→Prop
 |some cs=>allocX σ h z cs (fun n=>.sl n 0 len) k
 |none=>False
def callX (P:Program) (σ:St) (D:Bool) (τ:St) (f:Nat) (args:List GV) (k:Kx):Prop:=∃ v τ' h',Ret P f args τ v τ'∧(D=true→τ <+: τ')∧Hx σ τ' h'∧k v h' τ'
def mksX (σ:St) (h:List Item) (z b:Nat) (ze:List GV) (k:Kx):Option Nat→Option Nat→Prop
 |some n,some c=>n=c∧n*b≤140737488355328∧allocX σ h z (reps n ze) (fun g=>.sl g 0 n) k
 |_,_=>False
def sxI (P:Program) (D:Bool) (σ:St) (env:Env) (h:List Item) (τ:St) (k:Kx):Ins→Prop
 | .new cs=>allocX σ h 1 cs (fun n=>.ptr n 0) k
 | .box x=>notTup (x.ev env)=true∧allocX σ h 1 (x.ev env).cells (fun n=>.ptr n 0) k
 | .lit z len zero parts=>litX σ h z len k (fillG zero (parts.map fun p=>(p.1,p.2.1,p.2.2.ev env)))
 | .mks z b ze n c=>mksX σ h z b ze k (natOf (some (n.ev env))) (natOf (some (c.ev env)))
 | .ld g n a=>bindX (ldX σ h τ g n (a.ev env)) k h τ
 | .st n a x=>stX σ D h τ n k (a.ev env) (x.ev env)
 | .call f xs=>callX P σ D τ f (xs.map (·.ev env)) k
 | .callv x xs=>fnX P σ D τ (xs.map (·.ev env)) k (x.ev env)
 | .chk d (.ld g n (.t t))=>ldX σ h τ g n (env t)=some (env d)∧k (.tup []) h τ
 | .chk _ _=>False
 | .blc t cs=>blcX h cs (env t)∧k (.tup []) h τ
 | .mlk ks z ok m k'=>bindX (mlkG τ ks z ok (m.ev env) (k'.ev env)) k h τ
 | .bts x=>bindX ((elems τ 1 (x.ev env)).bind fun r=>(bytesOf r.2).map fun bs=>.str ⟨bs.toArray⟩) k h τ
 | .cut z x lo hi=>bindX (if zOk τ z (x.ev env) then cutG z (x.ev env) (lo.map (·.ev env)) (hi.map (·.ev env)) else none) k h τ
 | .app z b ze s x=>genX σ D τ (appV z b τ (s.ev env) (x.ev env)) k
 | .clr z ze x=>genX σ D τ (clrG z ze τ (x.ev env)) k
 | .mkm=>genX σ D τ (some (.mp τ.length,τ++[some (.map [])])) k
 | .mup ks m k' v=>genX σ D τ (mupG τ ks (m.ev env) (k'.ev env) (v.ev env)) k
 |i=>bindX ((exec env [] i).map (·.1)) k h τ
def gdX (c:Option (Option Bool×Bool)) (A B:Prop):Prop:=match c with
 |none=>A
 |some (some c,b)=>(c=b→A)∧(c= !b→B)
 |some (none,_)=>B
def sx (P:Program) (D:Bool) (σ:St):List Op1→(Env→List Item→St→Prop)→Env→List Item→St→Prop
 |[],K,env,h,τ=>K env h τ
 |o::r,K,env,h,τ=>gdX (o.g.map fun g=>((env g.1).bit,g.2)) (sxI P D σ env h τ (fun v h' τ'=>sx P D σ r K (upo env o.d v) h' τ') o.i) (sx P D σ r K (upo env o.d (.tup [])) h τ)
def ifX (c:Option Bool) (A B:Prop):Prop:=match c with
 |some c=>(c=true→A)∧(c=false→B)
 |none=>False
abbrev Qx:=Ex→Env→List Item→St→Prop
def sxc (P:Program) (σ:St):Cd→Qx→Env→List Item→St→Prop
 | .skip,Q=>Q .nxt
 | .reg ops,Q=>sx P false σ ops (Q .nxt)
 | .drw a1 bs,Q=>sx P true σ a1 (sx P false σ bs (Q .nxt))
 | .seq a b,Q=>sxc P σ a fun e=>match e with
  | .nxt=>sxc P σ b Q
  |e=>Q e
 | .cnd c a b,Q=>fun env h τ=>ifX (c.ev env).bit (sxc P σ a Q env h τ) (sxc P σ b Q env h τ)
 | .blk id a,Q=>sxc P σ a fun e=>match e with
  | .ext j=>if j=id then Q .nxt else Q (.ext j)
  |e=>Q e
 | .lop a,Q=>fun env h τ=>∃(I:Nat→Env→List Item→St→Prop) (n:Nat) (h0:List Item),Hx σ τ h0∧I n env h0 τ∧∀ k env h τ,Hx σ τ h→I k env h τ→sxc P σ a (fun e env' h' τ'=>match e with
  | .nxt=>∃ k' h1,k'<k∧Hx σ τ' h1∧I k' env' h1 τ'
  |e=>∃ h1,Hx σ τ' h1∧Q e env' h1 τ') env h τ
 | .ext id,Q=>Q (.ext id)
 | .ret,Q=>Q .ret
section sound
variable {P:Program} {σ:St} {D:Bool}
theorem Hx.hp {τ:St} {h:List Item} (H:Hx σ τ h):Hp σ τ (h.map Item.t):=H
theorem Hx.sub {τ:St} {h:List Item} (H:Hx σ τ h):σ <+: τ:=H.hp.sub
theorem Hx.refl (σ:St):Hx σ σ []:=Hp.refl σ
theorem look_at:∀ {h:List Item} {n:Nat} {cs:List GV},look h n=some cs→∃ z,∃ i:Nat,(h.map Item.t)[i]? =some (pt z n cs)∧∀ ds,(upd h n ds).map Item.t=(h.map Item.t).set i (pt z n ds)
 |[],_,_,e=>by cases e
 | .box z m cs'::h,n,cs,e=>by
  simp only[look] at e
  by_cases hm:m=n
  ·rw[if_pos hm] at e
   injection e with e;subst e hm
   exact⟨z,0,rfl,fun ds=>by simp[upd,Item.t]⟩
  ·rw[if_neg hm] at e
   obtain⟨z',i,h1,h2⟩:=look_at e
   exact⟨z',i+1,by simpa using h1,fun ds=>by simp[upd,hm,h2 ds]⟩
 | .th r::h,n,cs,e=>by
  obtain⟨z',i,h1,h2⟩:=look_at (h:=h) (by simpa [look] using e)
  exact⟨z',i+1,by simpa using h1,fun ds=>by simp[upd,h2 ds]⟩
theorem lookZ_at:∀ {h:List Item} {n z:Nat} {cs:List GV},lookZ h n=some (z,cs)→∃ i:Nat,(h.map Item.t)[i]? =some (pt z n cs)
 |[],_,_,_,e=>by cases e
 | .box z' m cs'::h,n,z,cs,e=>by
  simp only[lookZ] at e
  by_cases hm:m=n
  ·rw[if_pos hm] at e
   simp only[Option.some.injEq,Prod.mk.injEq] at e
   obtain⟨rfl,rfl⟩:=e
   subst hm
   exact⟨0,rfl⟩
  ·rw[if_neg hm] at e
   obtain⟨i,h1⟩:=lookZ_at e
   exact⟨i+1,by simpa using h1⟩
 | .th r::h,n,z,cs,e=>by
  obtain⟨i,h1⟩:=lookZ_at (h:=h) (by simpa [lookZ] using e)
  exact⟨i+1,by simpa using h1⟩
theorem ldG_pre {τ:St} {g:Bool} {n:Nat} {a x:GV} (h:ldG g n σ a=some x) (hp:σ <+: τ):ldG g n τ a=some x:=by
 cases a with
 |ptr b off=>
  simp only[ldG] at h ⊢
  obtain⟨cs,h1,h2⟩:=Option.bind_eq_some_iff.1 h
  rw[rdB_pre hp h1];exact h2
 |_=>cases h
theorem ldX_sound {h:List Item} {τ:St} (H:Hx σ τ h) {g:Bool} {n:Nat} {a x:GV} (e:ldX σ h τ g n a=some x):ldG g n τ a=some x:=by
 unfold ldX orX ldY at e
 split at e
 ·rename_i y hy
  injection e with e;subst e
  exact ldG_pre hy H.sub
 ·cases a with
  |ptr b off=>
   simp only at e
   cases hl:look h b with
   |none=>rw[hl] at e;exact e
   |some cs=>
    rw[hl] at e
    obtain⟨z,i,h1,_⟩:=look_at hl
    have:=H.hp.pt i h1
    simp only[ldG,this,Option.bind_some]
    exact e
  |_=>exact e
theorem fr_use {n:Nat}:∀ {h:List Item},σ.length≤n→(∀ z m cs,Item.box z m cs∈h→m<n)→frX σ h n
 |[],hl,_=>hl
 | .box z m cs::h,hl,hb=>⟨hb z m cs List.mem_cons_self,fr_use (h:=h) hl fun z m cs hm=>hb z m cs (List.mem_cons_of_mem _ hm)⟩
 | .th r::h',hl,hb=>fr_use (h:=h') hl fun z m cs hm=>hb z m cs (List.mem_cons_of_mem _ hm)
theorem box_lt {h:List Item} {τ:St} (H:Hx σ τ h) {z m:Nat} {cs:List GV} (hm:Item.box z m cs∈h):m<τ.length:=by
 obtain⟨i,hi,e⟩:=List.getElem_of_mem hm
 have h1:(h.map Item.t)[i]? =some (pt z m cs):=by
  rw[List.getElem?_map,List.getElem?_eq_getElem hi,e];rfl
 obtain⟨a,ha,_,hb⟩:=H.hp.see h1
 exact(hb m (by rw[ha.1];exact List.mem_cons_self)).2
theorem alloc_sound {h:List Item} {τ:St} {z:Nat} {cs:List GV} {v:Nat→GV} {k:Kx} (H:Hx σ τ h) (e:allocX σ h z cs v k):∃ h',Hx σ (τ++[some (.row z cs)]) h'∧k (v τ.length) h' (τ++[some (.row z cs)]):=
 ⟨.box z τ.length cs::h,H.hp.new z cs,e τ.length (fr_use (h:=h) H.sub.length_le (fun _ _ _ hm=>box_lt H hm)) _ (H.hp.new z cs)⟩
theorem gen_sound {τ:St} {e:Option (GV×St)} {k:Kx} (h:genX σ D τ e k):∃ v τ',e=some (v,τ')∧(D=true→τ <+: τ')∧∃ h',Hx σ τ' h'∧k v h' τ':=by
 obtain⟨v,τ',h',h1,h2,h3,h4⟩:=h
 exact⟨v,τ',h1,h2,h',h3,h4⟩
theorem sxI_sound {env:Env} {h:List Item} {τ:St} {k:Kx} (H:Hx σ τ h):∀ {i:Ins},sxI P D σ env h τ k i→∃ v τ',Step P env τ i v τ'∧(D=true→τ <+: τ')∧∃ h',Hx σ τ' h'∧k v h' τ':=by
 intro i e
 have same:∀ {v:Option GV},bindX v k h τ→(∀ v',v=some v'→Step P env τ i v' τ)→∃ v τ',Step P env τ i v τ'∧(D=true→τ <+: τ')∧∃ h',Hx σ τ' h'∧k v h' τ':=by
  intro v hb hs
  cases v with
  |none=>exact hb.elim
  |some v=>exact⟨v,τ,hs v rfl,fun _=>List.prefix_refl _,h,H,hb⟩
 have pure:pureI i=true→bindX ((exec env [] i).map (·.1)) k h τ→i.isCall=false→(∀ v',exec env τ i=some (v',τ)→Step P env τ i v' τ)→∃ v τ',Step P env τ i v τ'∧(D=true→τ <+: τ')∧∃ h',Hx σ τ' h'∧k v h' τ':=by
  intro hp hb _ hs
  refine same hb fun v' hv=>hs v' ?_
  obtain⟨⟨w,s⟩,hw,rfl⟩:=Option.map_eq_some_iff.1 hv
  exact(exec_pure hp hw).2 τ
 cases i with
 |new cs=>
  obtain⟨h',h1,h2⟩:=alloc_sound H e
  exact⟨_,_,rfl,fun _=>List.prefix_append _ _,h',h1,h2⟩
 |box x=>
  obtain⟨h0,e⟩:=e
  obtain⟨h',h1,h2⟩:=alloc_sound H e
  exact⟨_,_,by show boxG τ _=_;unfold boxG;rw[if_pos h0],fun _=>List.prefix_append _ _,h',h1,h2⟩
 |lit z len zero parts=>
  simp only[sxI] at e
  unfold litX at e
  split at e
  ·rename_i cs hc
   obtain⟨h',h1,h2⟩:=alloc_sound H e
   exact⟨_,_,by show exec env τ _=_;simp only[exec,hc];rfl,fun _=>List.prefix_append _ _,h',h1,h2⟩
  ·exact e.elim
 |mks z b ze n c=>
  simp only[sxI] at e
  unfold mksX at e
  split at e
  ·rename_i n' c' hn hc
   obtain⟨h0,h3,e⟩:=e
   obtain⟨h',h1,h2⟩:=alloc_sound H e
   exact⟨_,_,by show exec env τ _=_;simp only[exec,hn,hc,Option.bind_some,if_pos (And.intro h0 h3)],fun _=>List.prefix_append _ _,h',h1,h2⟩
  ·exact e.elim
 |ld g n a=>
  refine same e fun v' hv=> ?_
  have:=ldX_sound H hv
  show exec env τ _=_
  simp only[exec]
  revert this
  cases a.ev env with
  |ptr b off=>
   intro h1
   simp only[ldG] at h1
   simp only[ptrG,Option.bind_some]
   obtain⟨cs,h2,h3⟩:=Option.bind_eq_some_iff.1 h1
   obtain⟨r,h4,h5⟩:=Option.bind_eq_some_iff.1 h3
   simp only[h2,Option.bind_some,h4,h5,Option.map_some]
  |_=>intro h1;cases h1
 |st n a x=>
  simp only[sxI] at e
  have hst:∀ {y:GV} {τ'},stG n τ (a.ev env) (x.ev env)=some (y,τ')→Step P env τ (.st n a x) y τ':=by
   intro y τ' he
   show exec env τ _=_
   simp only[exec]
   revert he
   cases a.ev env<;>intro he<;>first|cases he;done|exact he
  have gen:genX σ D τ (stG n τ (a.ev env) (x.ev env)) k→∃ v τ',Step P env τ (.st n a x) v τ'∧(D=true→τ <+: τ')∧∃ h',Hx σ τ' h'∧k v h' τ':=fun hg=>by
   obtain⟨v,τ',h1,h2⟩:=gen_sound hg
   exact⟨v,τ',hst h1,h2⟩
  unfold stX at e
  split at e
  ·rename_i b off hb
   unfold stB at e
   split at e
   ·rename_i cs hl
    obtain⟨⟨h0,h1,h2,h3⟩,h4⟩:=e
    obtain⟨z,i,h5,h6⟩:=look_at hl
    obtain⟨τ',s1,s2,_⟩:=H.hp.st i h5 n off (x.ev env) h3 h2 h1
    have s3:Hx σ τ' (upd h b (splice cs off (x.ev env).cells)):=by unfold Hx;rw[h6];exact s2
    exact⟨_,τ',hst (by rw[hb];exact s1),(fun hd=>by rw[hd] at h0;cases h0),_,s3,h4 _ s3⟩
   ·rw[← hb] at e;exact gen e
  ·exact gen e
 |call f xs=>
  obtain⟨v,τ',h',h1,h2,h3,h4⟩:=e
  exact⟨v,τ',h1,h2,h',h3,h4⟩
 |callv x xs=>
  simp only[sxI] at e
  unfold fnX at e
  split at e
  ·rename_i f caps hf
   obtain⟨v,τ',h',h1,h2,h3,h4⟩:=e
   exact⟨v,τ',⟨f,caps,hf,h1⟩,h2,h',h3,h4⟩
  ·exact e.elim
 |chk d x=>
  cases x with
  |ld g n a=>cases a with
   |t t=>
    obtain⟨h1,h2⟩:=e
    refine⟨_,τ,⟨rfl,rfl,?_⟩,fun _=>List.prefix_refl _,h,H,h2⟩
    have h3:=ldX_sound H h1
    simp only[exec,Opd.ev]
    revert h3
    cases env t with
    |ptr b off=>
     intro h1
     simp only[ldG] at h1
     simp only[ptrG,Option.bind_some]
     obtain⟨cs,h2,h3⟩:=Option.bind_eq_some_iff.1 h1
     obtain⟨r,h4,h5⟩:=Option.bind_eq_some_iff.1 h3
     simp only[h2,Option.bind_some,h4,h5,Option.map_some]
    |_=>intro h1;cases h1
   |k v=>exact e.elim
  |_=>exact e.elim
 |blc t cs=>
  obtain⟨h1,h2⟩:=e
  revert h1
  unfold blcX
  split
  ·rename_i b hb
   intro h1
   obtain⟨i,h3⟩:=lookZ_at h1
   obtain⟨a,ha,_⟩:=H.hp.see h3
   exact⟨_,τ,⟨rfl,rfl,b,hb,bk_some.1 ha.2⟩,fun _=>List.prefix_refl _,h,H,h2⟩
  ·exact fun h1=>h1.elim
 |mlk ks z ok m k'=>exact same e fun v' hv=>by show exec env τ _=_;simp only[exec,hv,Option.map_some]
 |bts x=>
  refine same e fun v' hv=> ?_
  show exec env τ _=_
  simp only[exec]
  obtain⟨r,h1,h2⟩:=Option.bind_eq_some_iff.1 hv
  obtain⟨bs,h3,rfl⟩:=Option.map_eq_some_iff.1 h2
  rw[h1,Option.bind_some,h3];rfl
 |cut z x lo hi=>
  refine same e fun v' hv=> ?_
  show exec env τ _=_
  simp only[exec]
  split at hv
  ·rename_i hz
   rw[if_pos hz,hv];rfl
  ·cases hv
 |app z b ze s x=>exact gen_sound e
 |clr z ze x=>exact gen_sound e
 |mkm=>exact gen_sound e
 |mup ks m k' v=>exact gen_sound e
 |mkf f caps=>
  refine same e fun v' hv=> ?_
  show exec env τ _=_
  simp only[exec] at hv ⊢
  obtain⟨⟨w,s⟩,hw,rfl⟩:=Option.map_eq_some_iff.1 hv
  obtain⟨cs,h1,h2⟩:=Option.map_eq_some_iff.1 hw
  injection h2 with h2 h3;subst h2
  rw[h1];rfl
 |pan=>exact e.elim
 |_=>exact pure rfl e rfl fun _ h=>h
theorem sx_sound:∀ {os:List Op1} {K:Env→List Item→St→Prop} {env:Env} {h:List Item} {τ:St},Hx σ τ h→sx P D σ os K env h τ→vcOps D P os (fun env' τ'=>τ.length≤τ'.length∧∃ h',Hx σ τ' h'∧K env' h' τ') env τ
 |[],K,env,h,τ,H,e=>⟨Nat.le_refl _,h,H,e⟩
 |o::r,K,env,h,τ,H,e=>by
  have yes:sxI P D σ env h τ (fun v h' τ'=>sx P D σ r K (upo env o.d v) h' τ') o.i→∃ v σ',Step P env τ o.i v σ'∧(D=true→τ <+: σ')∧vcOps D P r (fun env' τ'=>τ.length≤τ'.length∧∃ h',Hx σ τ' h'∧K env' h' τ') (upo env o.d v) σ':=fun e=>by
   obtain⟨v,τ',h1,h2,h',h3,h4⟩:=sxI_sound H e
   have hl:=step_len h1
   exact⟨v,τ',h1,h2,vcOps_mono (sx_sound h3 h4) fun _ _ hk=>⟨Nat.le_trans hl hk.1,hk.2⟩⟩
  have no:sx P D σ r K (upo env o.d (.tup [])) h τ→vcOps D P r (fun env' τ'=>τ.length≤τ'.length∧∃ h',Hx σ τ' h'∧K env' h' τ') (upo env o.d (.tup [])) τ:=fun e=>sx_sound H e
  simp only[vcOps]
  simp only[sx] at e
  cases hg:o.g with
  |none=>
   rw[hg] at e
   rw[if_pos (by simp[wantedG])]
   exact yes e
  |some q=>
   obtain⟨g,b⟩:=q
   rw[hg] at e
   simp only[Option.map_some] at e
   cases hc:(env g).bit with
   |none=>
    rw[hc] at e
    rw[if_neg (by simp[wantedG,hc])]
    exact no e
   |some c=>
    rw[hc] at e
    by_cases hcb:c=b
    ·rw[if_pos (by simp[wantedG,hc,hcb])]
     exact yes (e.1 hcb)
    ·rw[if_neg (by simp[wantedG,hc,hcb])]
     exact no (e.2 (by cases c<;>cases b<;>simp_all))
theorem sxc_sound {d:Cd}:∀ {Q:Qx} {env:Env} {h:List Item} {τ:St},Hx σ τ h→sxc P σ d Q env h τ→vc P d (fun e env' τ'=>τ.length≤τ'.length∧∃ h',Hx σ τ' h'∧Q e env' h' τ') env τ:=by
 induction d with
 |skip=>intro Q env h τ H e;exact⟨Nat.le_refl _,h,H,e⟩
 |reg ops=>intro Q env h τ H e;exact sx_sound H e
 |drw a1 bs=>
  intro Q env h τ H e
  show vcOps true P a1 _ env τ
  refine vcOps_mono (sx_sound H e) fun env' τ' hk=> ?_
  obtain⟨hl,h',H',hk⟩:=hk
  exact vcOps_mono (sx_sound H' hk) fun _ _ hq=>⟨Nat.le_trans hl hq.1,hq.2⟩
 |seq a b iha ihb=>
  intro Q env h τ H e
  show vc P a _ env τ
  refine vc_mono (iha H e) fun e env' τ' hk=> ?_
  obtain⟨hl,h',H',hk⟩:=hk
  cases e with
  |nxt=>exact vc_mono (ihb H' hk) fun _ _ _ hq=>⟨Nat.le_trans hl hq.1,hq.2⟩
  |ext j=>exact⟨hl,h',H',hk⟩
  |ret=>exact⟨hl,h',H',hk⟩
 |cnd c a b iha ihb=>
  intro Q env h τ H e
  simp only[sxc] at e
  unfold ifX at e
  split at e
  ·rename_i t ht
   exact⟨t,ht,fun k=>iha H (e.1 k),fun k=>ihb H (e.2 k)⟩
  ·exact e.elim
 |blk id a ih=>
  intro Q env h τ H e
  show vc P a _ env τ
  refine vc_mono (ih H e) fun e env' τ' hk=> ?_
  obtain⟨hl,h',H',hk⟩:=hk
  cases e with
  |nxt=>exact⟨hl,h',H',hk⟩
  |ext j=>
   simp only at hk ⊢
   split at hk
   ·rename_i hj;rw[if_pos hj];exact⟨hl,h',H',hk⟩
   ·rename_i hj;rw[if_neg hj];exact⟨hl,h',H',hk⟩
  |ret=>exact⟨hl,h',H',hk⟩
 |lop a ih=>
  intro Q env h τ H e
  obtain⟨I,n,h0,H0,hI,hs⟩:=e
  refine vc_lop (fun k env' τ'=>τ.length≤τ'.length∧∃ h,Hx σ τ' h∧I k env' h τ') n ⟨Nat.le_refl _,h0,H0,hI⟩ ?_
  rintro k env1 τ1 ⟨hl,h1,H1,hI1⟩
  refine vc_mono (ih H1 (hs k env1 h1 τ1 H1 hI1)) fun e env' τ' hk=> ?_
  obtain⟨hl2,h',H',hk⟩:=hk
  cases e with
  |nxt=>
   obtain⟨k',h3,h4,h5,h6⟩:=hk
   exact⟨k',h4,Nat.le_trans hl hl2,h3,h5,h6⟩
  |ext j=>exact⟨Nat.le_trans hl hl2,hk⟩
  |ret=>exact⟨Nat.le_trans hl hl2,hk⟩
 |ext id=>intro Q env h τ H e;exact⟨Nat.le_refl _,h,H,e⟩
 |ret=>intro Q env h τ H e;exact⟨Nat.le_refl _,h,H,e⟩
def rsX (σ:St) (h:List Item) (τ:St) (env:Env):Rs→Option GV
 | .t n=>some (env n)
 | .c a g n=>ldX σ h τ g n (env a)
def resX (σ:St) (h:List Item) (τ:St) (env:Env):List Rs→Option GV
 |[r]=>rsX σ h τ env r
 |rs=>(optAll (rsX σ h τ env) rs).bind fun vs=>if vs.all notTup then some (.tup vs) else none
theorem rsX_sound {h:List Item} {τ:St} (H:Hx σ τ h) {env:Env} {r:Rs} {v:GV} (e:rsX σ h τ env r=some v):r.ev env τ=some v:=by
 cases r with
 |t n=>exact e
 |c a g n=>rw[rs_c];exact ldX_sound H e
theorem optAll_imp {α β:Type} {f g:α→Option β} (h:∀ x y,f x=some y→g x=some y):∀ {l:List α} {r:List β},optAll f l=some r→optAll g l=some r
 |[],r,e=>e
 |x::l,r,e=>by
  simp only[optAll,Option.bind_eq_some_iff,Option.map_eq_some_iff] at e ⊢
  obtain⟨y,h1,ys,h2,rfl⟩:=e
  exact⟨y,h _ _ h1,ys,optAll_imp h h2,rfl⟩
theorem resX_sound {h:List Item} {τ:St} (H:Hx σ τ h) {env:Env} {rs:List Rs} {v:GV} (e:resX σ h τ env rs=some v):resG env τ rs=some v:=by
 unfold resX at e
 unfold resG
 split at e
 ·exact rsX_sound H e
 ·rename_i hne
  split
  ·exact absurd rfl (hne _)
  ·obtain⟨vs,h1,h2⟩:=Option.bind_eq_some_iff.1 e
   rw[optAll_imp (fun x y=>rsX_sound H) h1];exact h2
theorem ret_x {md:Bool} {f:Nat} {F:Fn1} {args:List GV} {σ1:St} {h0:List Item} {Post:GV→St→Prop} (hF:compFnM md P f=some F) (hl:args.length≤F.n) (H:Hx σ σ1 h0)
  (hc:sxc P σ F.c (fun e env h τ=>Hx σ τ h→isOut e=true∧∃ r,resX σ h τ env F.rs=some r∧Post r τ) (env0 args) h0 σ1):∃ r τ,Ret P f args σ1 r τ∧Post r τ:=
 ret_mut hF hl (vc_mono (sxc_sound H hc) fun e env τ he=>by
  obtain⟨hl,h,H,hq⟩:=he
  obtain⟨ho,r,hr,hp⟩:=hq H
  exact⟨ho,r,resX_sound H hr,hl,hp⟩)
end sound
end Go.Proofs.Ytbeoiejnogdkpaa.Sy
namespace Go.Proofs.Ytbeoiejnogdkpaa.Sy
open Go Go.RowKit
set_option linter.unusedSimpArgs false
set_option linter.unusedVariables false
def nextX (P:Program) (D:Bool) (σ:St) (r:List Op1) (K:Env→List Item→St→Prop) (env:Env) (d:Option Nat):Kx:=fun v h' τ'=>sx P D σ r K (upo env d v) h' τ'
def gdS (P:Program) (D:Bool) (σ:St) (env:Env) (h:List Item) (τ:St) (k:Kx) (i:Ins) (b:Bool) (c:Option Bool):Prop:=match c with
 |some c=>(c=b→sxI P D σ env h τ k i)∧(c= !b→k (.tup []) h τ)
 |none=>k (.tup []) h τ
def ifS (P:Program) (σ:St) (a b:Cd) (Q:Qx) (env:Env) (h:List Item) (τ:St) (c:Option Bool):Prop:=match c with
 |some c=>(c=true→sxc P σ a Q env h τ)∧(c=false→sxc P σ b Q env h τ)
 |none=>False
section words
variable {P:Program} {D:Bool} {σ τ:St} {env:Env} {h:List Item} {r:List Op1} {K:Env→List Item→St→Prop} {k:Kx} {d:Option Nat} {Q:Qx}
@[go_sem] theorem nextX_ap {v:GV}:nextX P D σ r K env d v h τ=sx P D σ r K (upo env d v) h τ:=(rfl)
@[go_sem] theorem sx_nil:sx P D σ [] K env h τ=K env h τ:=(rfl)
@[go_sem] theorem sx_one {i:Ins}:sx P D σ (⟨d,none,i⟩::r) K env h τ=sxI P D σ env h τ (nextX P D σ r K env d) i:=(rfl)
@[go_sem] theorem sx_grd {g:Nat} {b:Bool} {i:Ins}:sx P D σ (⟨d,some (g,b),i⟩::r) K env h τ=gdS P D σ env h τ (nextX P D σ r K env d) i b (env g).bit:=by
 show gdX (some ((env g).bit,b)) _ _=_
 cases(env g).bit<;>rfl
@[go_sem] theorem gdS_tt {b:Bool} {i:Ins}:gdS P D σ env h τ k i b (some b)=sxI P D σ env h τ k i:=by cases b<;>simp[gdS]
@[go_sem] theorem gdS_tf {i:Ins}:gdS P D σ env h τ k i false (some true)=k (.tup []) h τ:=by simp[gdS]
@[go_sem] theorem gdS_ft {i:Ins}:gdS P D σ env h τ k i true (some false)=k (.tup []) h τ:=by simp[gdS]
@[go_sem] theorem gdS_n {b:Bool} {i:Ins}:gdS P D σ env h τ k i b none=k (.tup []) h τ:=(rfl)
@[go_sem] theorem bindX_some {v:GV}:bindX (some v) k h τ=k v h τ:=(rfl)
@[go_sem] theorem ifS_t {a b:Cd}:ifS P σ a b Q env h τ (some true)=sxc P σ a Q env h τ:=by simp[ifS]
@[go_sem] theorem ifS_f {a b:Cd}:ifS P σ a b Q env h τ (some false)=sxc P σ b Q env h τ:=by simp[ifS]
theorem mapfst {v:Option GV}:(Option.map (·.1) (v.map fun v=>(v,([]:St))))=v:=by cases v<;>rfl
@[go_sem] theorem xi_mov {x:Opd}:sxI P D σ env h τ k (.mov x)=k (x.ev env) h τ:=(rfl)
@[go_sem] theorem xi_pick {c a b:Opd}:sxI P D σ env h τ k (.pick c a b)=bindX ((c.ev env).bit.map fun t=>if t then a.ev env else b.ev env) k h τ:=by
 simp only[sxI,exec]
 cases(c.ev env).bit<;>rfl
@[go_sem] theorem xi_new {cs:List GV}:sxI P D σ env h τ k (.new cs)=allocX σ h 1 cs (fun n=>.ptr n 0) k:=(rfl)
@[go_sem] theorem xi_box {x:Opd}:sxI P D σ env h τ k (.box x)=(notTup (x.ev env)=true∧allocX σ h 1 (x.ev env).cells (fun n=>.ptr n 0) k):=(rfl)
@[go_sem] theorem xi_build {z:List GV} {ps:List (Nat×Nat×Opd)}:sxI P D σ env h τ k (.build z ps)=bindX ((fillG z (ps.map fun p=>(p.1,p.2.1,p.2.2.ev env))).map .agg) k h τ:=by
 simp only[sxI,exec]
 cases fillG z (ps.map fun p=>(p.1,p.2.1,p.2.2.ev env))<;>rfl
@[go_sem] theorem xi_lit {z l:Nat} {ze:List GV} {ps:List (Nat×Nat×Opd)}:sxI P D σ env h τ k (.lit z l ze ps)=litX σ h z l k (fillG ze (ps.map fun p=>(p.1,p.2.1,p.2.2.ev env))):=(rfl)
@[go_sem] theorem litX_some {z l:Nat} {cs:List GV}:litX σ h z l k (some cs)=allocX σ h z cs (fun n=>.sl n 0 l) k:=(rfl)
@[go_sem] theorem xi_mks {z b:Nat} {ze:List GV} {n c:Opd}:sxI P D σ env h τ k (.mks z b ze n c)=mksX σ h z b ze k (natOf (some (n.ev env))) (natOf (some (c.ev env))):=(rfl)
@[go_sem] theorem mksX_some {z b:Nat} {ze:List GV} {n c:Nat}:mksX σ h z b ze k (some n) (some c)=(n=c∧n*b≤140737488355328∧allocX σ h z (reps n ze) (fun g=>.sl g 0 n) k):=(rfl)
@[go_sem] theorem xi_ld {g:Bool} {n:Nat} {a:Opd}:sxI P D σ env h τ k (.ld g n a)=bindX (ldX σ h τ g n (a.ev env)) k h τ:=(rfl)
@[go_sem] theorem xi_st {n:Nat} {a x:Opd}:sxI P D σ env h τ k (.st n a x)=stX σ D h τ n k (a.ev env) (x.ev env):=(rfl)
@[go_sem] theorem stX_ptr {n b off:Nat} {x:GV}:stX σ D h τ n k (.ptr b off) x=stB σ D h τ n k b off x (look h b):=(rfl)
@[go_sem] theorem stB_some {n b off:Nat} {x:GV} {cs:List GV}:stB σ D h τ n k b off x (some cs)=((D=false∧off+n≤cs.length∧0<n∧x.cells.length=n)∧∀ τ',Hx σ τ' (upd h b (splice cs off x.cells))→k (.tup []) (upd h b (splice cs off x.cells)) τ'):=(rfl)
@[go_sem] theorem xi_nck {x:Opd}:sxI P D σ env h τ k (.nck x)=bindX (nckG (x.ev env)) k h τ:=by simp only[sxI,exec,mapfst]
@[go_sem] theorem xi_bin {op:BinOp} {x y:Opd}:sxI P D σ env h τ k (.bin op x y)=bindX (binG op (x.ev env) (y.ev env)) k h τ:=by simp only[sxI,exec,mapfst]
@[go_sem] theorem xi_eqb {n:Bool} {x y:Opd}:sxI P D σ env h τ k (.eqb n x y)=bindX (eqbG n (x.ev env) (y.ev env)) k h τ:=by
 simp only[sxI,exec,eqbG]
 cases(x.ev env).bit with
 |none=>rfl
 |some a=>cases(y.ev env).bit<;>rfl
@[go_sem] theorem xi_eqn {p n:Bool} {x y:Opd}:sxI P D σ env h τ k (.eqn p n x y)=bindX ((nilG p (x.ev env) (y.ev env)).map fun b=>.bool (n ^^ b)) k h τ:=by
 simp only[sxI,exec]
 cases nilG p (x.ev env) (y.ev env)<;>rfl
@[go_sem] theorem xi_eqs {n:Bool} {ks:List Sc} {x y:Opd}:sxI P D σ env h τ k (.eqs n ks x y)=bindX (eqsG n ks (x.ev env) (y.ev env)) k h τ:=by
 simp only[sxI,exec]
 cases x.ev env<;>first|rfl|skip
 cases y.ev env<;>first|rfl|skip
 simp only[eqsG]
 cases scsEq ks _ _<;>rfl
@[go_sem] theorem xi_un {op:UnOp} {x:Opd}:sxI P D σ env h τ k (.un op x)=bindX (unG op (x.ev env)) k h τ:=by simp only[sxI,exec,mapfst]
@[go_sem] theorem xi_cvi {kd:IntKind} {x:Opd}:sxI P D σ env h τ k (.cvi kd x)=bindX (cviG kd (x.ev env)) k h τ:=by
 simp only[sxI,exec]
 cases x.ev env<;>rfl
@[go_sem] theorem xi_bts {x:Opd}:sxI P D σ env h τ k (.bts x)=bindX ((elems τ 1 (x.ev env)).bind fun r=>(bytesOf r.2).map fun bs=>.str ⟨bs.toArray⟩) k h τ:=(rfl)
@[go_sem] theorem xi_mkf {f:Nat} {cs:List Opd}:sxI P D σ env h τ k (.mkf f cs)=bindX ((cs.mapM fun c=>capOf (c.ev env)).map fun cs=>.fn f cs) k h τ:=by
 simp only[sxI,exec]
 cases cs.mapM fun c=>capOf (c.ev env)<;>rfl
@[go_sem] theorem xi_cutS {x:Opd} {lo hi:Option Opd}:sxI P D σ env h τ k (.cutS x lo hi)=bindX (cutSG (x.ev env) (lo.map (·.ev env)) (hi.map (·.ev env))) k h τ:=by simp only[sxI,exec,mapfst]
@[go_sem] theorem xi_cut {z:Nat} {x:Opd} {lo hi:Option Opd}:sxI P D σ env h τ k (.cut z x lo hi)=bindX (if zOk τ z (x.ev env) then cutG z (x.ev env) (lo.map (·.ev env)) (hi.map (·.ev env)) else none) k h τ:=(rfl)
@[go_sem] theorem xi_fad {n:Nat} {a:Opd}:sxI P D σ env h τ k (.fad n a)=bindX (fadG n (a.ev env)) k h τ:=by
 simp only[sxI,exec]
 cases a.ev env<;>rfl
@[go_sem] theorem xi_part {g:Bool} {off n:Nat} {x:Opd}:sxI P D σ env h τ k (.part g off n x)=bindX (partV g off n (x.ev env)) k h τ:=by
 simp only[sxI,exec]
 cases x.ev env with
 |agg cs=>
  simp only[partV]
  cases seg cs off n with
  |none=>rfl
  |some q=>simp only[Option.bind_some,mapfst]
 |_=>rfl
@[go_sem] theorem xi_iad {z:Nat} {x i:Opd}:sxI P D σ env h τ k (.iad z x i)=bindX (iadG z (x.ev env) (natOf (some (i.ev env)))) k h τ:=by
 simp only[sxI,exec]
 cases x.ev env with
 |sl g off len=>
  simp only
  cases natOf (some (i.ev env)) with
  |none=>rfl
  |some n=>
   simp only[Option.bind_some,iadG]
   split<;>rfl
 |_=>rfl
@[go_sem] theorem xi_idx {x i:Opd}:sxI P D σ env h τ k (.idx x i)=bindX (idxG (x.ev env) (natOf (some (i.ev env)))) k h τ:=by
 simp only[sxI,exec]
 cases x.ev env with
 |str s=>
  simp only
  cases natOf (some (i.ev env)) with
  |none=>rfl
  |some n=>
   simp only[Option.bind_some,idxG]
   cases s[n]? <;>rfl
 |_=>rfl
@[go_sem] theorem xi_ext {i:Nat} {x:Opd}:sxI P D σ env h τ k (.ext i x)=bindX (extG i (x.ev env)) k h τ:=by
 simp only[sxI,exec]
 cases x.ev env with
 |tup vs=>
  simp only[extG]
  cases vs[i]? with
  |none=>rfl
  |some v=>cases v<;>rfl
 |_=>rfl
@[go_sem] theorem xi_len {s:Bool} {x:Opd}:sxI P D σ env h τ k (.len s x)=bindX ((lenG s (x.ev env)).map fun n=>.int .i64 n) k h τ:=by
 simp only[sxI,exec]
 cases lenG s (x.ev env)<;>rfl
@[go_sem] theorem xi_app {z b:Nat} {ze:List GV} {s x:Opd}:sxI P D σ env h τ k (.app z b ze s x)=genX σ D τ (appV z b τ (s.ev env) (x.ev env)) k:=(rfl)
@[go_sem] theorem xi_mm {m:Bool} {x y:Opd}:sxI P D σ env h τ k (.mm m x y)=bindX (mmG m (x.ev env) (y.ev env)) k h τ:=by
 simp only[sxI,exec]
 cases x.ev env<;>first|rfl|skip
 cases y.ev env<;>rfl
@[go_sem] theorem xi_clr {z:Nat} {ze:List GV} {x:Opd}:sxI P D σ env h τ k (.clr z ze x)=genX σ D τ (clrG z ze τ (x.ev env)) k:=(rfl)
@[go_sem] theorem xi_pan:sxI P D σ env h τ k .pan=False:=(rfl)
@[go_sem] theorem xi_mkm:sxI P D σ env h τ k .mkm=genX σ D τ (some (.mp τ.length,τ++[some (.map [])])) k:=(rfl)
@[go_sem] theorem xi_mlk {ks:List Sc} {z:GV} {ok:Bool} {m k':Opd}:sxI P D σ env h τ k (.mlk ks z ok m k')=bindX (mlkG τ ks z ok (m.ev env) (k'.ev env)) k h τ:=(rfl)
@[go_sem] theorem xi_mup {ks:List Sc} {m k' v:Opd}:sxI P D σ env h τ k (.mup ks m k' v)=genX σ D τ (mupG τ ks (m.ev env) (k'.ev env) (v.ev env)) k:=(rfl)
@[go_sem] theorem xi_call {f:Nat} {xs:List Opd}:sxI P D σ env h τ k (.call f xs)=callX P σ D τ f (xs.map (·.ev env)) k:=(rfl)
@[go_sem] theorem xi_callv {x:Opd} {xs:List Opd}:sxI P D σ env h τ k (.callv x xs)=fnX P σ D τ (xs.map (·.ev env)) k (x.ev env):=(rfl)
@[go_sem] theorem fnX_fn {f:Nat} {caps:List (Nat×Nat)} {args:List GV}:fnX P σ D τ args k (.fn f caps)=callX P σ D τ f (args++caps.map fun c=>.ptr c.1 c.2) k:=(rfl)
@[go_sem] theorem xi_chk {d' n t:Nat} {g:Bool}:sxI P D σ env h τ k (.chk d' (.ld g n (.t t)))=(ldX σ h τ g n (env t)=some (env d')∧k (.tup []) h τ):=(rfl)
@[go_sem] theorem xi_blc {t:Nat} {cs:List GV}:sxI P D σ env h τ k (.blc t cs)=(blcX h cs (env t)∧k (.tup []) h τ):=(rfl)
@[go_sem] theorem blcX_ptr {b:Nat} {cs:List GV}:blcX h cs (.ptr b 0)=(lookZ h b=some (1,cs)):=(rfl)
@[go_sem] theorem lookZ_eq {z n:Nat} {cs:List GV}:lookZ (.box z n cs::h) n=some (z,cs):=by simp[lookZ]
@[go_sem low] theorem lookZ_ne {z m n:Nat} {cs:List GV} (hn:m≠n):lookZ (.box z m cs::h) n=lookZ h n:=by simp[lookZ,hn]
@[go_sem] theorem lookZ_th {n:Nat} {q:Thg}:lookZ (.th q::h) n=lookZ h n:=(rfl)
@[go_sem] theorem allocX_def {z:Nat} {cs:List GV} {v:Nat→GV}:allocX σ h z cs v k=∀ n,frX σ h n→∀ τ',Hx σ τ' (.box z n cs::h)→k (v n) (.box z n cs::h) τ':=(rfl)
@[go_sem] theorem frX_nil {n:Nat}:frX σ [] n=(σ.length≤n):=(rfl)
@[go_sem] theorem frX_box {z m n:Nat} {cs:List GV}:frX σ (.box z m cs::h) n=(m<n∧frX σ h n):=(rfl)
@[go_sem] theorem frX_th {n:Nat} {q:Thg}:frX σ (.th q::h) n=frX σ h n:=(rfl)
@[go_sem] theorem look_eq {z n:Nat} {cs:List GV}:look (.box z n cs::h) n=some cs:=by simp[look]
@[go_sem low] theorem look_ne {z m n:Nat} {cs:List GV} (hn:m≠n):look (.box z m cs::h) n=look h n:=by simp[look,hn]
@[go_sem] theorem look_th {n:Nat} {q:Thg}:look (.th q::h) n=look h n:=(rfl)
@[go_sem] theorem upd_eq {z n:Nat} {cs ds:List GV}:upd (.box z n cs::h) n ds= .box z n ds::h:=by simp[upd]
@[go_sem low] theorem upd_ne {z m n:Nat} {cs ds:List GV} (hn:m≠n):upd (.box z m cs::h) n ds= .box z m cs::upd h n ds:=by simp[upd,hn]
@[go_sem] theorem upd_th {n:Nat} {q:Thg} {ds:List GV}:upd (.th q::h) n ds= .th q::upd h n ds:=(rfl)
@[go_sem] theorem ldX_ptr {g:Bool} {n b off:Nat} (hb:σ.length≤b):ldX σ h τ g n (.ptr b off)=ldB (look h b) g n off (ldG g n τ (.ptr b off)):=by
 have:ldG g n σ (.ptr b off)=none:=by
  simp only[ldG,rdB]
  rw[List.getElem?_eq_none hb];rfl
 simp only[ldX,this,orX,ldY]
@[go_sem] theorem ldX_at {g:Bool} {n z i:Nat} {v:GV}:ldX σ h τ g n (atz z v i)=orX (ldG g n σ (atz z v i)) (ldY h τ g n (atz z v i)):=(rfl)
@[go_sem] theorem ldX_fld {g:Bool} {n z i m:Nat} {v:GV}:ldX σ h τ g n (fld m (atz z v i))=orX (ldG g n σ (fld m (atz z v i))) (ldY h τ g n (fld m (atz z v i))):=(rfl)
@[go_sem] theorem orX_some {x:GV} {b:Option GV}:orX (some x) b=some x:=(rfl)
@[go_sem] theorem orX_none {b:Option GV}:orX none b=b:=(rfl)
@[go_sem] theorem ldB_some {cs:List GV} {g:Bool} {n off:Nat} {e:Option GV}:ldB (some cs) g n off e=(seg cs off n).bind (mkv g):=(rfl)
@[go_sem] theorem cells_i {kd:IntKind} {n:Int}:(GV.int kd n).cells=[.int kd n]:=(rfl)
@[go_sem] theorem cells_s {s:ByteArray}:(GV.str s).cells=[.str s]:=(rfl)
@[go_sem] theorem cells_b {b:Bool}:(GV.bool b).cells=[.bool b]:=(rfl)
@[go_sem] theorem cells_p {n o:Nat}:(GV.ptr n o).cells=[.ptr n o]:=(rfl)
@[go_sem] theorem cells_l {n o l:Nat}:(GV.sl n o l).cells=[.sl n o l]:=(rfl)
@[go_sem] theorem cells_a {cs:List GV}:(GV.agg cs).cells=cs:=(rfl)
@[go_sem] theorem cells_n:(GV.nilS).cells=[.nilS]:=(rfl)
@[go_sem] theorem cells_m {n:Nat}:(GV.mp n).cells=[.mp n]:=(rfl)
@[go_sem] theorem cells_f {f:Nat} {c:List (Nat×Nat)}:(GV.fn f c).cells=[.fn f c]:=(rfl)
@[go_sem] theorem notTup_p {n o:Nat}:notTup (.ptr n o)=true:=(rfl)
@[go_sem] theorem notTup_m {n:Nat}:notTup (.mp n)=true:=(rfl)
@[go_sem] theorem notTup_f {f:Nat} {c:List (Nat×Nat)}:notTup (.fn f c)=true:=(rfl)
@[go_sem] theorem xc_skip:sxc P σ .skip Q env h τ=Q .nxt env h τ:=(rfl)
@[go_sem] theorem xc_reg {os:List Op1}:sxc P σ (.reg os) Q env h τ=sx P false σ os (Q .nxt) env h τ:=(rfl)
@[go_sem] theorem xc_drw {a1 bs:List Op1}:sxc P σ (.drw a1 bs) Q env h τ=sx P true σ a1 (sx P false σ bs (Q .nxt)) env h τ:=(rfl)
@[go_sem] theorem xc_seq {a b:Cd}:sxc P σ (.seq a b) Q env h τ=sxc P σ a (fun e=>match e with
  | .nxt=>sxc P σ b Q
  |e=>Q e) env h τ:=(rfl)
@[go_sem] theorem xc_cnd {c:Opd} {a b:Cd}:sxc P σ (.cnd c a b) Q env h τ=ifS P σ a b Q env h τ (c.ev env).bit:=by
 show ifX _ _ _=_
 cases(c.ev env).bit<;>rfl
@[go_sem] theorem xc_blk {id:Nat} {a:Cd}:sxc P σ (.blk id a) Q env h τ=sxc P σ a (fun e=>match e with
  | .ext j=>if j=id then Q .nxt else Q (.ext j)
  |e=>Q e) env h τ:=(rfl)
@[go_sem] theorem xc_ext {id:Nat}:sxc P σ (.ext id) Q env h τ=Q (.ext id) env h τ:=(rfl)
@[go_sem] theorem xc_ret:sxc P σ .ret Q env h τ=Q .ret env h τ:=(rfl)
@[go_sem] theorem rsX_t {n:Nat}:rsX σ h τ env (.t n)=some (env n):=(rfl)
@[go_sem] theorem rsX_c {a n:Nat} {g:Bool}:rsX σ h τ env (.c a g n)=ldX σ h τ g n (env a):=(rfl)
@[go_sem] theorem resX_1 {x:Rs}:resX σ h τ env [x]=rsX σ h τ env x:=(rfl)
@[go_sem] theorem resX_0:resX σ h τ env []=some (.tup []):=(rfl)
@[go_sem] theorem resX_2 {x y:Rs}:resX σ h τ env [x,y]=tup2 (rsX σ h τ env x) (rsX σ h τ env y):=by
 simp only[resX,optAll,tup2]
 cases rsX σ h τ env x with
 |none=>rfl
 |some u=>cases rsX σ h τ env y<;>simp
@[go_sem] theorem resX_3 {x y z:Rs}:resX σ h τ env [x,y,z]=tup3 (rsX σ h τ env x) (rsX σ h τ env y) (rsX σ h τ env z):=by
 simp only[resX,optAll,tup3]
 cases rsX σ h τ env x with
 |none=>rfl
 |some u=>cases rsX σ h τ env y with
  |none=>rfl
  |some v=>cases rsX σ h τ env z<;>simp
end words
end Go.Proofs.Ytbeoiejnogdkpaa.Sy
